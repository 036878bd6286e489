import Derived.Test.YtdigkcfoiilpfaaImpl
import Derived.Test.YtdigkcfoiilpfaaLibA
import Derived.JoinedCond
/-
  For every input the law TypesMeasured returns true: the nodes, the depth, the variables and the rigid constants of types are what the reference says.
  Conditions: none beyond the row's own.
-/
namespace Go.Proofs.Ytdigkcfoiilpfaa.typesMeasured
open Go.Ab Go.Ab.Lw Go.ChangeShapes Go.WideShapes Go.ChangeAt Go.RowKit

theorem law : ∀ cM, BX Try.prog Try.f3.params.toList cM → (aC AP).p 12 cM = some [.bool true] := by
  intro cM h
  rw [Try.params3] at h
  change BX Try.prog [24, 3, 25, 3] cM at h
  match cM, h with
  | [q0, q1, q2, q3], ⟨⟨n0, h0⟩, ⟨n1, h1⟩, ⟨n2, h2⟩, ⟨n3, h3⟩, _⟩ =>
    obtain ⟨r, rfl, rn⟩ := yR Try.underlying3 Try.underlying9 Try.underlying22 Try.underlying24 rfl rfl rfl rfl rfl n0 q0 h0
    obtain ⟨i, rfl⟩ := jY Try.underlying3 h1
    obtain ⟨L, rfl⟩ := Em Try.underlying25 Try.underlying3 h2
    obtain ⟨d, rfl⟩ := jY Try.underlying3 h3
    exact Iv r rn i L d

theorem own : ownKnob Try.prog.godebug = none := by kernel_rfl
theorem laid : laidOutB Try.prog = true := by kernel_rfl
def pureT : List TypeId := [3, 9, 22, 24, 25]

set_option maxRecDepth 100000 in
theorem lifted (os : Os) (started : os.Started) (H : Type) (enc : TypeId × Value → H) :
    ReturnsInHanded {} Try.checked os 3 .any (Rows.typesMeasuredSpec.pre6 enc Try.prog Try.f3 Rows.typesMeasuredRow.domain false) (Rows.typesMeasuredSpec.post enc Try.prog Try.f3 false true false false) := by
  refine returnsInHanded_of_change (C := Try.checked) own started (by kernel_rfl) Try.func3
    (ChangeSpec.witness6 (enc := enc) (C := Try.checked) false ⟨#[], #[.agg #[.int .i64 0, .string ⟨#[]⟩, .int .i64 0, .int .i64 0, .slice none 0 0], .int .i64 0, .slice none 0 0, .int .i64 0], []⟩ 8 (by kernel_rfl) (by kernel_rfl) (by kernel_rfl) (by kernel_rfl)) ?_
  intro W base args ds gs before hval hW _ _
  exact rQ impl (g := 12) (T := pureT) (tb := 4) (by kernel_rfl) rfl (by kernel_rfl) Try.underlying4 laid (by rw [Try.params3]; decide +kernel) (by kernel_rfl) (by rw [Try.params3]; decide +kernel)
    (fun ds h => by rw [Try.params3] at h; match ds, h with | [_, _, _, _], _ => rfl) law W base args ds gs before hval hW (fun _ c h => (fun q : (Option.none : Option (Array Value)) = Option.some c => nomatch q) h)

theorem proved : Rows.TypesMeasuredSaid :=
  OpenClaim.holds_of_wide 3 Try.f3 rfl rfl rfl rfl rfl rfl rfl ⟨rfl, rfl, rfl, rfl, rfl⟩ rfl rfl rfl rfl rfl (by kernel_rfl) Try.func3 (by kernel_rfl)
    (of_decide_eq_true (by kernel_rfl)) (by unfold Func.isWrapper; first | (rw [if_pos (by decide +kernel)]; kernel_rfl) | (rw [if_neg (by decide +kernel)]; exact ⟨rfl, rfl⟩))
    (fun os started H enc _ => lifted os started H enc)
end Go.Proofs.Ytdigkcfoiilpfaa.typesMeasured
