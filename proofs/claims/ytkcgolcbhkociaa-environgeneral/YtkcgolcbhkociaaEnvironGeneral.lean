import Derived.Test.YtkcgolcbhkociaaImpl
import Derived.Test.YtkcgolcbhkociaaLibA
import Derived.JoinedCond
/-
  For every input the law EnvironGeneral returns true: when a context is at least as general as another one, and when two are equal, is what the reference says; it is an order; a context is as general as one in which schemes became types.
  Conditions: none beyond the row's own.
-/
namespace Go.Proofs.Ytkcgolcbhkociaa.environGeneral
open Go.Ab Go.Ab.Lw Go.ChangeShapes Go.WideShapes Go.ChangeAt Go.RowKit

theorem law : ∀ pvs, ShpL Try.prog Try.f10.params.toList pvs → (orcL AP).p 171 pvs = some [.bool true] := by
  intro pvs h
  rw [Try.params10] at h
  change ShpL Try.prog [3, 22] pvs at h
  match pvs, h with
  | [q0, q1], ⟨⟨n0, h0⟩, ⟨n1, h1⟩, _⟩ =>
    obtain ⟨b, rfl⟩ := shp_int Try.underlying3 h0
    obtain ⟨L, rfl⟩ := shp_ints Try.underlying22 Try.underlying3 h1
    exact law171 b L

theorem own : ownKnob Try.prog.godebug = none := by kernel_rfl
theorem laid : laidOutB Try.prog = true := by kernel_rfl
def pureT : List TypeId := [3, 22]

set_option maxRecDepth 100000 in
theorem lifted (os : Os) (started : os.Started) (H : Type) (enc : TypeId × Value → H) :
    ReturnsInHanded {} Try.checked os 10 .any (Rows.environGeneralSpec.pre6 enc Try.prog Try.f10 Rows.environGeneralRow.domain false) (Rows.environGeneralSpec.post enc Try.prog Try.f10 false true false false) := by
  refine returnsInHanded_of_change (C := Try.checked) own started (by kernel_rfl) Try.func10
    (ChangeSpec.witness6 (enc := enc) (C := Try.checked) false ⟨#[], #[.int .i64 0, .slice none 0 0], []⟩ 8 (by kernel_rfl) (by kernel_rfl) (by kernel_rfl) (by kernel_rfl)) ?_
  intro W base args ds gs before hval hW _ _
  exact law_contract impl (g := 171) (T := pureT) (tb := 4) (by kernel_rfl) rfl (by kernel_rfl) Try.underlying4 laid (by rw [Try.params10]; decide +kernel) (by kernel_rfl) (by rw [Try.params10]; decide +kernel)
    (fun ds h => by rw [Try.params10] at h; match ds, h with | [_, _], _ => rfl) law W base args ds gs before hval hW

theorem proved : Rows.EnvironGeneralSaid :=
  OpenClaim.holds_of_wide 10 Try.f10 rfl rfl rfl rfl rfl rfl rfl ⟨rfl, rfl, rfl, rfl, rfl⟩ rfl rfl rfl rfl rfl (by kernel_rfl) Try.func10 (by kernel_rfl)
    (of_decide_eq_true (by kernel_rfl)) (by unfold Func.isWrapper; first | (rw [if_pos (by decide +kernel)]; kernel_rfl) | (rw [if_neg (by decide +kernel)]; exact ⟨rfl, rfl⟩))
    (fun os started H enc _ => lifted os started H enc)
end Go.Proofs.Ytkcgolcbhkociaa.environGeneral
