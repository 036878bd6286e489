import Derived.Test.YtnncaaakhfaacaaLLM
/-
  The makers: what their functions give.
-/
set_option linter.unusedVariables false
set_option linter.unusedSimpArgs false
namespace Go.Ab.Lw
open Ev
set_option maxRecDepth 10000
set_option linter.unusedSimpArgs false

/-- Shared memory without tokens. -/
def Calm (sh : Sh) : Prop := ∀ old ts, normS old ts sh = (sh, old, ts)
theorem calm_nil : Calm [] := fun _ _ => rfl
theorem calm_tp {L : List Int} {i : Int} : Calm (tp L i) := fun _ _ => rfl

def tyVar (n : Int) : Ty := ⟨1, [], n, 0, []⟩
def tyRigid (h n : Int) : Ty := ⟨3, [], n, h, []⟩
def tyBound (n : Int) : Ty := ⟨2, [], n, 0, []⟩
def tyInt : Ty := ⟨4, [73, 110, 116], 0, 0, []⟩

theorem c70_4 {sh : Sh} (h : Calm sh) : (orcL AP).i 70 [.pv (vI 4)] sh [] = some ([.own ([tyVar 0, tyVar 1, tyVar 2, tyVar 3].map Ty.pv) 0], sh, [4]) := by
  have hh := h
  unfold Calm at h
  rw [callI_body (af := g70) rfl (by decide)]
  have c0 := c63 (n := 0); have c1 := c63 (n := 1); have c2 := c63 (n := 2); have c3 := c63 (n := 3)
  simp at c0 c1 c2 c3
  simp (disch := omega) [-getElem?_pos, g70, g70L0_eq, g70B0, wrap_id, c0, c1, c2, c3, h, tyVar]
theorem c70_5 {sh : Sh} (h : Calm sh) : (orcL AP).i 70 [.pv (vI 5)] sh [] = some ([.own ([tyVar 0, tyVar 1, tyVar 2, tyVar 3, tyVar 4].map Ty.pv) 0], sh, [5]) := by
  unfold Calm at h
  rw [callI_body (af := g70) rfl (by decide)]
  have c0 := c63 (n := 0); have c1 := c63 (n := 1); have c2 := c63 (n := 2); have c3 := c63 (n := 3); have c4 := c63 (n := 4)
  simp at c0 c1 c2 c3 c4
  simp (disch := omega) [-getElem?_pos, g70, g70L0_eq, g70B0, wrap_id, c0, c1, c2, c3, c4, h, tyVar]

def leavesL : List Ty := [tyVar 0, tyVar 1, tyVar 2, tyVar 3, tyRigid 0 0, tyRigid 1 0, tyRigid (-1) 2, tyBound 0]
theorem c28 : (orcL AP).p 28 [] = some [.lst (leavesL.map Ty.pv)] := by
  rw [callP_body (af := g28) rfl rfl (by decide)]
  have h := c70_4 calm_nil
  have c1 := c71 (n := 0) (m := 0); have c2 := c71 (n := 1) (m := 0); have c3 := c71 (n := -1) (m := 2); have c4 := c72 (n := 0)
  simp [tyVar] at h c1 c2 c3 c4
  simp [g28, h, c1, c2, c3, c4, leavesL, tyVar, tyRigid, tyBound]

end Go.Ab.Lw
