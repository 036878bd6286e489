import Derived.Test.YtnncaaakhfaacaaImpl
import Derived.Test.YtnncaaakhfaacaaLD
import Derived.Test.YtnncaaakhfaacaaLLM
import Derived.Test.YtnncaaakhfaacaaLLM2
import Derived.Test.YtnncaaakhfaacaaLLA
import Derived.Test.YtnncaaakhfaacaaLLM3
import Derived.Test.YtnncaaakhfaacaaLLM4
import Derived.Test.YtnncaaakhfaacaaLLM5
import Derived.Test.YtnncaaakhfaacaaLLS1
import Derived.Test.YtnncaaakhfaacaaLLS2
import Derived.Test.YtnncaaakhfaacaaLLS3
import Derived.Test.YtnncaaakhfaacaaLLS4
import Derived.Test.YtnncaaakhfaacaaLLS5
import Derived.Test.YtnncaaakhfaacaaLLSh
import Derived.JoinedCond
/-
  For every input the law SubstComposes returns true: composing two made substitutions gives what the reference gives, and applying it is applying both.
  Conditions: none beyond the row's own.
-/
namespace Go.Proofs.Ytnncaaakhfaacaa.substComposes
open Go.Ab Go.Ab.Lw Go.ChangeShapes Go.WideShapes Go.ChangeAt Go.RowKit

theorem law : ∀ pvs, ShpL Try.prog Try.f3.params.toList pvs → (orcL AP).p 4 pvs = some [.bool true] := by
  intro pvs h
  rw [Try.params3] at h
  change ShpL Try.prog [3, 22] pvs at h
  match pvs, h with
  | [q0, q1], ⟨⟨n0, h0⟩, ⟨n1, h1⟩, _⟩ =>
    obtain ⟨i, rfl⟩ := shp_int Try.underlying3 h0
    obtain ⟨L, rfl⟩ := shp_ints Try.underlying22 Try.underlying3 h1
    exact law4 i L

theorem own : ownKnob Try.prog.godebug = none := by kernel_rfl
theorem laid : laidOutB Try.prog = true := by kernel_rfl
def pureT : List TypeId := [3, 22]

set_option maxRecDepth 100000 in
theorem lifted (os : Os) (started : os.Started) (H : Type) (enc : TypeId × Value → H) :
    ReturnsInHanded {} Try.checked os 3 .any (Rows.substComposesSpec.pre6 enc Try.prog Try.f3 Rows.substComposesRow.domain false) (Rows.substComposesSpec.post enc Try.prog Try.f3 false true false false) := by
  refine returnsInHanded_of_change (C := Try.checked) own started (by kernel_rfl) Try.func3
    (ChangeSpec.witness6 (enc := enc) (C := Try.checked) false ⟨#[], #[.int .i64 0, .slice none 0 0], []⟩ 8 (by kernel_rfl) (by kernel_rfl) (by kernel_rfl) (by kernel_rfl)) ?_
  intro W base args ds gs before hval hW _ _
  exact law_contract impl (g := 4) (T := pureT) (tb := 4) (by kernel_rfl) rfl (by kernel_rfl) Try.underlying4 laid (by rw [Try.params3]; decide +kernel) (by kernel_rfl) (by rw [Try.params3]; decide +kernel)
    (fun ds h => by rw [Try.params3] at h; match ds, h with | [_, _], _ => rfl) law W base args ds gs before hval hW

theorem proved : Rows.SubstComposesSaid :=
  OpenClaim.holds_of_wide 3 Try.f3 rfl rfl rfl rfl rfl rfl rfl ⟨rfl, rfl, rfl, rfl, rfl⟩ rfl rfl rfl rfl rfl (by kernel_rfl) Try.func3 (by kernel_rfl)
    (of_decide_eq_true (by kernel_rfl)) (by unfold Func.isWrapper; first | (rw [if_pos (by decide +kernel)]; kernel_rfl) | (rw [if_neg (by decide +kernel)]; exact ⟨rfl, rfl⟩))
    (fun os started H enc _ => lifted os started H enc)
end Go.Proofs.Ytnncaaakhfaacaa.substComposes
