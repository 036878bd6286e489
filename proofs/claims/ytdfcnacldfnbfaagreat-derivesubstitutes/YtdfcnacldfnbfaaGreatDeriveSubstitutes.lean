import Derived.Test.YtdfcnacldfnbfaaGreatImpl
import Derived.Test.YtdfcnacldfnbfaaGreatLibA
import Derived.Test.YtdfcnacldfnbfaaGreatLibB
import Derived.Test.YtdfcnacldfnbfaaGreatLibC
import Derived.Test.YtdfcnacldfnbfaaGreatLibD
import Derived.JoinedCond
/-
  For every input the law DeriveSubstitutes returns true: a derivation that inference makes still fits after a substitution of type variables that are not generalized, in the substituted context.
  Conditions: none beyond the row's own.
-/
namespace Go.Proofs.YtdfcnacldfnbfaaGreat.deriveSubstitutes
open Go.Ab Go.Ab.Lw Go.ChangeShapes Go.WideShapes Go.ChangeAt Go.RowKit

theorem law : ∀ eE, MN Tryz.prog Tryz.f3.params.toList eE → (aE AP).p 445 eE = some [.bool true] := by
  intro eE h
  rw [Tryz.params3] at h
  change MN Tryz.prog [3, 22, 22] eE at h
  match eE, h with
  | [q0, q1, q2], ⟨⟨n0, h0⟩, ⟨n1, h1⟩, ⟨n2, h2⟩, _⟩ =>
    obtain ⟨b, rfl⟩ := Jg Tryz.underlying3 h0
    obtain ⟨L, rfl⟩ := DO Tryz.underlying22 Tryz.underlying3 h1
    obtain ⟨x, rfl⟩ := DO Tryz.underlying22 Tryz.underlying3 h2
    exact ZB b L x

theorem own : ownKnob Tryz.prog.godebug = none := by kernel_rfl
theorem laid : laidOutB Tryz.prog = true := by kernel_rfl
def pureT : List TypeId := [3, 22]

set_option maxRecDepth 100000 in
theorem lifted (os : Os) (started : os.Started) (H : Type) (enc : TypeId × Value → H) :
    ReturnsInHanded {} Tryz.checked os 3 .any (Rows.deriveSubstitutesSpec.pre6 enc Tryz.prog Tryz.f3 Rows.deriveSubstitutesRow.domain false) (Rows.deriveSubstitutesSpec.post enc Tryz.prog Tryz.f3 false true false false) := by
  refine returnsInHanded_of_change (C := Tryz.checked) own started (by kernel_rfl) Tryz.func3
    (ChangeSpec.witness6 (enc := enc) (C := Tryz.checked) false ⟨#[], #[.int .i64 0, .slice none 0 0, .slice none 0 0], []⟩ 8 (by kernel_rfl) (by kernel_rfl) (by kernel_rfl) (by kernel_rfl)) ?_
  intro W base args ds gs before hval hW _ _
  exact AX impl (g := 445) (T := pureT) (tb := 4) (by kernel_rfl) rfl (by kernel_rfl) Tryz.underlying4 laid (by rw [Tryz.params3]; decide +kernel) (by kernel_rfl) (by rw [Tryz.params3]; decide +kernel)
    (fun ds h => by rw [Tryz.params3] at h; match ds, h with | [_, _, _], _ => rfl) law W base args ds gs before hval hW

theorem proved : Rows.DeriveSubstitutesSaid :=
  OpenClaim.holds_of_wide 3 Tryz.f3 rfl rfl rfl rfl rfl rfl rfl ⟨rfl, rfl, rfl, rfl, rfl⟩ rfl rfl rfl rfl rfl (by kernel_rfl) Tryz.func3 (by kernel_rfl)
    (of_decide_eq_true (by kernel_rfl)) (by unfold Func.isWrapper; first | (rw [if_pos (by decide +kernel)]; kernel_rfl) | (rw [if_neg (by decide +kernel)]; exact ⟨rfl, rfl⟩))
    (fun os started H enc _ => lifted os started H enc)
end Go.Proofs.YtdfcnacldfnbfaaGreat.deriveSubstitutes
