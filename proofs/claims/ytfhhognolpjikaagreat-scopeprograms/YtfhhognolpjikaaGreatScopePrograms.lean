import Derived.Test.YtfhhognolpjikaaGreatImpl
import Derived.Test.YtfhhognolpjikaaGreatLibA
import Derived.Test.YtfhhognolpjikaaGreatLibB
import Derived.Test.YtfhhognolpjikaaGreatLibC
import Derived.JoinedCond
/-
  For every input the law ScopePrograms returns true: the first error of a made program, changed in some places or not, with its position, is what the reference says.
  Conditions: none beyond the row's own.
-/
namespace Go.Proofs.YtfhhognolpjikaaGreat.scopePrograms
open Go.Ab Go.Ab.Lw Go.ChangeShapes Go.WideShapes Go.ChangeAt Go.RowKit

theorem law : ∀ dE, Fz Tryz.prog Tryz.f3.params.toList dE → (aN AP).p 399 dE = some [.bool true] := by
  intro dE h
  rw [Tryz.params3] at h
  change Fz Tryz.prog [3, 22, 3, 3] dE at h
  match dE, h with
  | [q0, q1, q2, q3], ⟨⟨n0, h0⟩, ⟨n1, h1⟩, ⟨n2, h2⟩, ⟨n3, h3⟩, _⟩ =>
    obtain ⟨b, rfl⟩ := pX Tryz.underlying3 h0
    obtain ⟨L, rfl⟩ := IC Tryz.underlying22 Tryz.underlying3 h1
    obtain ⟨w, rfl⟩ := pX Tryz.underlying3 h2
    obtain ⟨s, rfl⟩ := pX Tryz.underlying3 h3
    exact NV b L w s

theorem own : ownKnob Tryz.prog.godebug = none := by kernel_rfl
theorem laid : laidOutB Tryz.prog = true := by kernel_rfl
def pureT : List TypeId := [3, 22]

set_option maxRecDepth 100000 in
theorem lifted (os : Os) (started : os.Started) (H : Type) (enc : TypeId × Value → H) :
    ReturnsInHanded {} Tryz.checked os 3 .any (Rows.scopeProgramsSpec.pre6 enc Tryz.prog Tryz.f3 Rows.scopeProgramsRow.domain false) (Rows.scopeProgramsSpec.post enc Tryz.prog Tryz.f3 false true false false) := by
  refine returnsInHanded_of_change (C := Tryz.checked) own started (by kernel_rfl) Tryz.func3
    (ChangeSpec.witness6 (enc := enc) (C := Tryz.checked) false ⟨#[], #[.int .i64 0, .slice none 0 0, .int .i64 0, .int .i64 0], []⟩ 8 (by kernel_rfl) (by kernel_rfl) (by kernel_rfl) (by kernel_rfl)) ?_
  intro W base args ds gs before hval hW _ _
  exact uN impl (g := 399) (T := pureT) (tb := 4) (by kernel_rfl) rfl (by kernel_rfl) Tryz.underlying4 laid (by rw [Tryz.params3]; decide +kernel) (by kernel_rfl) (by rw [Tryz.params3]; decide +kernel)
    (fun ds h => by rw [Tryz.params3] at h; match ds, h with | [_, _, _, _], _ => rfl) law W base args ds gs before hval hW

theorem proved : Rows.ScopeProgramsSaid :=
  OpenClaim.holds_of_wide 3 Tryz.f3 rfl rfl rfl rfl rfl rfl rfl ⟨rfl, rfl, rfl, rfl, rfl⟩ rfl rfl rfl rfl rfl (by kernel_rfl) Tryz.func3 (by kernel_rfl)
    (of_decide_eq_true (by kernel_rfl)) (by unfold Func.isWrapper; first | (rw [if_pos (by decide +kernel)]; kernel_rfl) | (rw [if_neg (by decide +kernel)]; exact ⟨rfl, rfl⟩))
    (fun os started H enc _ => lifted os started H enc)
end Go.Proofs.YtfhhognolpjikaaGreat.scopePrograms
