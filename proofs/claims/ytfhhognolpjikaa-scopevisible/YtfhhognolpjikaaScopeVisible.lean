import Derived.Test.YtfhhognolpjikaaImpl
import Derived.Test.YtfhhognolpjikaaLibA
import Derived.JoinedCond
/-
  For every input the law ScopeVisible returns true: the names that are visible at any path of a made expression are what the reference says.
  Conditions: none beyond the row's own.
-/
namespace Go.Proofs.Ytfhhognolpjikaa.scopeVisible
open Go.Ab Go.Ab.Lw Go.ChangeShapes Go.WideShapes Go.ChangeAt Go.RowKit

theorem law : ∀ pvs, ShpL Try.prog Try.f4.params.toList pvs → (orcL AP).p 424 pvs = some [.bool true] := by
  intro pvs h
  rw [Try.params4] at h
  change ShpL Try.prog [3, 22, 22, 22] pvs at h
  match pvs, h with
  | [q0, q1, q2, q3], ⟨⟨n0, h0⟩, ⟨n1, h1⟩, ⟨n2, h2⟩, ⟨n3, h3⟩, _⟩ =>
    obtain ⟨b, rfl⟩ := shp_int Try.underlying3 h0
    obtain ⟨L, rfl⟩ := shp_ints Try.underlying22 Try.underlying3 h1
    obtain ⟨a, rfl⟩ := shp_ints Try.underlying22 Try.underlying3 h2
    obtain ⟨r, rfl⟩ := shp_ints Try.underlying22 Try.underlying3 h3
    exact law424 b L a r

theorem own : ownKnob Try.prog.godebug = none := by kernel_rfl
theorem laid : laidOutB Try.prog = true := by kernel_rfl
def pureT : List TypeId := [3, 22]

set_option maxRecDepth 100000 in
theorem lifted (os : Os) (started : os.Started) (H : Type) (enc : TypeId × Value → H) :
    ReturnsInHanded {} Try.checked os 4 .any (Rows.scopeVisibleSpec.pre6 enc Try.prog Try.f4 Rows.scopeVisibleRow.domain false) (Rows.scopeVisibleSpec.post enc Try.prog Try.f4 false true false false) := by
  refine returnsInHanded_of_change (C := Try.checked) own started (by kernel_rfl) Try.func4
    (ChangeSpec.witness6 (enc := enc) (C := Try.checked) false ⟨#[], #[.int .i64 0, .slice none 0 0, .slice none 0 0, .slice none 0 0], []⟩ 8 (by kernel_rfl) (by kernel_rfl) (by kernel_rfl) (by kernel_rfl)) ?_
  intro W base args ds gs before hval hW _ _
  exact law_contract impl (g := 424) (T := pureT) (tb := 4) (by kernel_rfl) rfl (by kernel_rfl) Try.underlying4 laid (by rw [Try.params4]; decide +kernel) (by kernel_rfl) (by rw [Try.params4]; decide +kernel)
    (fun ds h => by rw [Try.params4] at h; match ds, h with | [_, _, _, _], _ => rfl) law W base args ds gs before hval hW

theorem proved : Rows.ScopeVisibleSaid :=
  OpenClaim.holds_of_wide 4 Try.f4 rfl rfl rfl rfl rfl rfl rfl ⟨rfl, rfl, rfl, rfl, rfl⟩ rfl rfl rfl rfl rfl (by kernel_rfl) Try.func4 (by kernel_rfl)
    (of_decide_eq_true (by kernel_rfl)) (by unfold Func.isWrapper; first | (rw [if_pos (by decide +kernel)]; kernel_rfl) | (rw [if_neg (by decide +kernel)]; exact ⟨rfl, rfl⟩))
    (fun os started H enc _ => lifted os started H enc)
end Go.Proofs.Ytfhhognolpjikaa.scopeVisible
