import Derived.Test.YtejloknaphfbeaaGreatImpl
import Derived.Test.YtejloknaphfbeaaGreatLibA
import Derived.JoinedCond
/-
  For every input the law DeriveHoles returns true: the type at a hole can be any one, and no variable of a hole that stands in a let is generalized.
  Conditions: none beyond the row's own.
-/
namespace Go.Proofs.YtejloknaphfbeaaGreat.deriveHoles
open Go.Ab Go.Ab.Lw Go.ChangeShapes Go.WideShapes Go.ChangeAt Go.RowKit

theorem law : ∀ pvs, ShpL Tryz.prog Tryz.f6.params.toList pvs → (orcL AP).p 446 pvs = some [.bool true] := by
  intro pvs h
  rw [Tryz.params6] at h
  change ShpL Tryz.prog [3, 22, 3, 4] pvs at h
  match pvs, h with
  | [q0, q1, q2, q3], ⟨⟨n0, h0⟩, ⟨n1, h1⟩, ⟨n2, h2⟩, ⟨n3, h3⟩, _⟩ =>
    obtain ⟨b, rfl⟩ := shp_int Tryz.underlying3 h0
    obtain ⟨L, rfl⟩ := shp_ints Tryz.underlying22 Tryz.underlying3 h1
    obtain ⟨n, rfl⟩ := shp_int Tryz.underlying3 h2
    obtain ⟨w, rfl⟩ := shp_bool Tryz.underlying4 h3
    exact law446 b L n w

theorem own : ownKnob Tryz.prog.godebug = none := by kernel_rfl
theorem laid : laidOutB Tryz.prog = true := by kernel_rfl
def pureT : List TypeId := [3, 4, 22]

set_option maxRecDepth 100000 in
theorem lifted (os : Os) (started : os.Started) (H : Type) (enc : TypeId × Value → H) :
    ReturnsInHanded {} Tryz.checked os 6 .any (Rows.deriveHolesSpec.pre6 enc Tryz.prog Tryz.f6 Rows.deriveHolesRow.domain false) (Rows.deriveHolesSpec.post enc Tryz.prog Tryz.f6 false true false false) := by
  refine returnsInHanded_of_change (C := Tryz.checked) own started (by kernel_rfl) Tryz.func6
    (ChangeSpec.witness6 (enc := enc) (C := Tryz.checked) false ⟨#[], #[.int .i64 0, .slice none 0 0, .int .i64 0, .bool false], []⟩ 8 (by kernel_rfl) (by kernel_rfl) (by kernel_rfl) (by kernel_rfl)) ?_
  intro W base args ds gs before hval hW _ _
  exact law_contract impl (g := 446) (T := pureT) (tb := 4) (by kernel_rfl) rfl (by kernel_rfl) Tryz.underlying4 laid (by rw [Tryz.params6]; decide +kernel) (by kernel_rfl) (by rw [Tryz.params6]; decide +kernel)
    (fun ds h => by rw [Tryz.params6] at h; match ds, h with | [_, _, _, _], _ => rfl) law W base args ds gs before hval hW

theorem proved : Rows.DeriveHolesSaid :=
  OpenClaim.holds_of_wide 6 Tryz.f6 rfl rfl rfl rfl rfl rfl rfl ⟨rfl, rfl, rfl, rfl, rfl⟩ rfl rfl rfl rfl rfl (by kernel_rfl) Tryz.func6 (by kernel_rfl)
    (of_decide_eq_true (by kernel_rfl)) (by unfold Func.isWrapper; first | (rw [if_pos (by decide +kernel)]; kernel_rfl) | (rw [if_neg (by decide +kernel)]; exact ⟨rfl, rfl⟩))
    (fun os started H enc _ => lifted os started H enc)
end Go.Proofs.YtejloknaphfbeaaGreat.deriveHoles
