import Derived.Test.YtnpbcnjoljebfaaGreatImpl
import Derived.Test.YtnpbcnjoljebfaaGreatLibA
import Derived.Test.YtnpbcnjoljebfaaGreatLibB
import Derived.Test.YtnpbcnjoljebfaaGreatLibC
import Derived.Test.YtnpbcnjoljebfaaGreatLibD
import Derived.JoinedCond
/-
  For every input the law DeriveExpr returns true: whether a derivation fits a made expression, with which error, and its records, is what the reference says.
  Conditions: none beyond the row's own.
-/
namespace Go.Proofs.YtnpbcnjoljebfaaGreat.deriveExpr
open Go.Ab Go.Ab.Lw Go.ChangeShapes Go.WideShapes Go.ChangeAt Go.RowKit

theorem law : ∀ dV, Kt Tryz.prog Tryz.f3.params.toList dV → (aC AP).p 443 dV = some [.bool true] := by
  intro dV h
  rw [Tryz.params3] at h
  change Kt Tryz.prog [3, 22, 22, 28] dV at h
  match dV, h with
  | [q0, q1, q2, q3], ⟨⟨n0, h0⟩, ⟨n1, h1⟩, ⟨n2, h2⟩, ⟨n3, h3⟩, _⟩ =>
    obtain ⟨b, rfl⟩ := pV Tryz.underlying3 h0
    obtain ⟨L, rfl⟩ := vf Tryz.underlying22 Tryz.underlying3 h1
    obtain ⟨x, rfl⟩ := vf Tryz.underlying22 Tryz.underlying3 h2
    obtain ⟨r, rfl, rn⟩ := HX Tryz.underlying3 Tryz.underlying9 Tryz.underlying23 Tryz.underlying25 Tryz.underlying22 Tryz.underlying26 Tryz.underlying28 rfl rfl rfl rfl rfl rfl rfl rfl rfl n3 q3 h3
    exact U_ b L x r rn

theorem own : ownKnob Tryz.prog.godebug = none := by kernel_rfl
theorem laid : laidOutB Tryz.prog = true := by kernel_rfl
def pureT : List TypeId := [3, 9, 22, 23, 25, 26, 28]

set_option maxRecDepth 100000 in
theorem lifted (os : Os) (started : os.Started) (H : Type) (enc : TypeId × Value → H) :
    ReturnsInHanded {} Tryz.checked os 3 .any (Rows.deriveExprSpec.pre6 enc Tryz.prog Tryz.f3 Rows.deriveExprRow.domain false) (Rows.deriveExprSpec.post enc Tryz.prog Tryz.f3 false true false false) := by
  refine returnsInHanded_of_change (C := Tryz.checked) own started (by kernel_rfl) Tryz.func3
    (ChangeSpec.witness6 (enc := enc) (C := Tryz.checked) false ⟨#[], #[.int .i64 0, .slice none 0 0, .slice none 0 0, .agg #[.int .i64 0, .string ⟨#[]⟩, .int .i64 0, .int .i64 0, .slice none 0 0, .slice none 0 0, .slice none 0 0, .slice none 0 0]], []⟩ 8 (by kernel_rfl) (by kernel_rfl) (by kernel_rfl) (by kernel_rfl)) ?_
  intro W base args ds gs before hval hW _ _
  exact yR impl (g := 443) (T := pureT) (tb := 4) (by kernel_rfl) rfl (by kernel_rfl) Tryz.underlying4 laid (by rw [Tryz.params3]; decide +kernel) (by kernel_rfl) (by rw [Tryz.params3]; decide +kernel)
    (fun ds h => by rw [Tryz.params3] at h; match ds, h with | [_, _, _, _], _ => rfl) law W base args ds gs before hval hW

theorem proved : Rows.DeriveExprSaid :=
  OpenClaim.holds_of_wide 3 Tryz.f3 rfl rfl rfl rfl rfl rfl rfl ⟨rfl, rfl, rfl, rfl, rfl⟩ rfl rfl rfl rfl rfl (by kernel_rfl) Tryz.func3 (by kernel_rfl)
    (of_decide_eq_true (by kernel_rfl)) (by unfold Func.isWrapper; first | (rw [if_pos (by decide +kernel)]; kernel_rfl) | (rw [if_neg (by decide +kernel)]; exact ⟨rfl, rfl⟩))
    (fun os started H enc _ => lifted os started H enc)
end Go.Proofs.YtnpbcnjoljebfaaGreat.deriveExpr
