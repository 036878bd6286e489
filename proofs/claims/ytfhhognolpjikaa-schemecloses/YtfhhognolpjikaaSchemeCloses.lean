import Derived.Test.YtfhhognolpjikaaImpl
import Derived.Test.YtfhhognolpjikaaLibA
import Derived.JoinedCond
/-
  For every input the law SchemeCloses returns true: the scheme that quantifies type variables is what the reference says, and does not depend on their numbers.
  Conditions: none beyond the row's own.
-/
namespace Go.Proofs.Ytfhhognolpjikaa.schemeCloses
open Go.Ab Go.Ab.Lw Go.ChangeShapes Go.WideShapes Go.ChangeAt Go.RowKit

theorem law : ∀ pvs, ShpL Try.prog Try.f7.params.toList pvs → (orcL AP).p 427 pvs = some [.bool true] := by
  intro pvs h
  rw [Try.params7] at h
  change ShpL Try.prog [3, 22, 3] pvs at h
  match pvs, h with
  | [q0, q1, q2], ⟨⟨n0, h0⟩, ⟨n1, h1⟩, ⟨n2, h2⟩, _⟩ =>
    obtain ⟨b, rfl⟩ := shp_int Try.underlying3 h0
    obtain ⟨L, rfl⟩ := shp_ints Try.underlying22 Try.underlying3 h1
    obtain ⟨n, rfl⟩ := shp_int Try.underlying3 h2
    exact law427 b n L

theorem own : ownKnob Try.prog.godebug = none := by kernel_rfl
theorem laid : laidOutB Try.prog = true := by kernel_rfl
def pureT : List TypeId := [3, 22]

set_option maxRecDepth 100000 in
theorem lifted (os : Os) (started : os.Started) (H : Type) (enc : TypeId × Value → H) :
    ReturnsInHanded {} Try.checked os 7 .any (Rows.schemeClosesSpec.pre6 enc Try.prog Try.f7 Rows.schemeClosesRow.domain false) (Rows.schemeClosesSpec.post enc Try.prog Try.f7 false true false false) := by
  refine returnsInHanded_of_change (C := Try.checked) own started (by kernel_rfl) Try.func7
    (ChangeSpec.witness6 (enc := enc) (C := Try.checked) false ⟨#[], #[.int .i64 0, .slice none 0 0, .int .i64 0], []⟩ 8 (by kernel_rfl) (by kernel_rfl) (by kernel_rfl) (by kernel_rfl)) ?_
  intro W base args ds gs before hval hW _ _
  exact law_contract impl (g := 427) (T := pureT) (tb := 4) (by kernel_rfl) rfl (by kernel_rfl) Try.underlying4 laid (by rw [Try.params7]; decide +kernel) (by kernel_rfl) (by rw [Try.params7]; decide +kernel)
    (fun ds h => by rw [Try.params7] at h; match ds, h with | [_, _, _], _ => rfl) law W base args ds gs before hval hW

theorem proved : Rows.SchemeClosesSaid :=
  OpenClaim.holds_of_wide 7 Try.f7 rfl rfl rfl rfl rfl rfl rfl ⟨rfl, rfl, rfl, rfl, rfl⟩ rfl rfl rfl rfl rfl (by kernel_rfl) Try.func7 (by kernel_rfl)
    (of_decide_eq_true (by kernel_rfl)) (by unfold Func.isWrapper; first | (rw [if_pos (by decide +kernel)]; kernel_rfl) | (rw [if_neg (by decide +kernel)]; exact ⟨rfl, rfl⟩))
    (fun os started H enc _ => lifted os started H enc)
end Go.Proofs.Ytfhhognolpjikaa.schemeCloses
