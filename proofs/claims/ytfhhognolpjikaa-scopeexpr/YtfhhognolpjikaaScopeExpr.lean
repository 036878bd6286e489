import Derived.Test.YtfhhognolpjikaaImpl
import Derived.Test.YtfhhognolpjikaaLibA
import Derived.JoinedCond
/-
  For every input the law ScopeExpr returns true: the first error of a made expression, spoiled or not, with its position, is what the reference says, for any names and data types.
  Conditions: none beyond the row's own.
-/
namespace Go.Proofs.Ytfhhognolpjikaa.scopeExpr
open Go.Ab Go.Ab.Lw Go.ChangeShapes Go.WideShapes Go.ChangeAt Go.RowKit

theorem law : ∀ cU, Az Try.prog Try.f3.params.toList cU → (aW AP).p 423 cU = some [.bool true] := by
  intro cU h
  rw [Try.params3] at h
  change Az Try.prog [3, 3, 22, 22, 3] cU at h
  match cU, h with
  | [q0, q1, q2, q3, q4], ⟨⟨n0, h0⟩, ⟨n1, h1⟩, ⟨n2, h2⟩, ⟨n3, h3⟩, ⟨n4, h4⟩, _⟩ =>
    obtain ⟨b, rfl⟩ := mE Try.underlying3 h0
    obtain ⟨o, rfl⟩ := mE Try.underlying3 h1
    obtain ⟨L, rfl⟩ := s9 Try.underlying22 Try.underlying3 h2
    obtain ⟨m, rfl⟩ := s9 Try.underlying22 Try.underlying3 h3
    obtain ⟨s, rfl⟩ := mE Try.underlying3 h4
    exact Gp b o L m s

theorem own : ownKnob Try.prog.godebug = none := by kernel_rfl
theorem laid : laidOutB Try.prog = true := by kernel_rfl
def pureT : List TypeId := [3, 22]

set_option maxRecDepth 100000 in
theorem lifted (os : Os) (started : os.Started) (H : Type) (enc : TypeId × Value → H) :
    ReturnsInHanded {} Try.checked os 3 .any (Rows.scopeExprSpec.pre6 enc Try.prog Try.f3 Rows.scopeExprRow.domain false) (Rows.scopeExprSpec.post enc Try.prog Try.f3 false true false false) := by
  refine returnsInHanded_of_change (C := Try.checked) own started (by kernel_rfl) Try.func3
    (ChangeSpec.witness6 (enc := enc) (C := Try.checked) false ⟨#[], #[.int .i64 0, .int .i64 0, .slice none 0 0, .slice none 0 0, .int .i64 0], []⟩ 8 (by kernel_rfl) (by kernel_rfl) (by kernel_rfl) (by kernel_rfl)) ?_
  intro W base args ds gs before hval hW _ _
  exact qh impl (g := 423) (T := pureT) (tb := 4) (by kernel_rfl) rfl (by kernel_rfl) Try.underlying4 laid (by rw [Try.params3]; decide +kernel) (by kernel_rfl) (by rw [Try.params3]; decide +kernel)
    (fun ds h => by rw [Try.params3] at h; match ds, h with | [_, _, _, _, _], _ => rfl) law W base args ds gs before hval hW

theorem proved : Rows.ScopeExprSaid :=
  OpenClaim.holds_of_wide 3 Try.f3 rfl rfl rfl rfl rfl rfl rfl ⟨rfl, rfl, rfl, rfl, rfl⟩ rfl rfl rfl rfl rfl (by kernel_rfl) Try.func3 (by kernel_rfl)
    (of_decide_eq_true (by kernel_rfl)) (by unfold Func.isWrapper; first | (rw [if_pos (by decide +kernel)]; kernel_rfl) | (rw [if_neg (by decide +kernel)]; exact ⟨rfl, rfl⟩))
    (fun os started H enc _ => lifted os started H enc)
end Go.Proofs.Ytfhhognolpjikaa.scopeExpr
