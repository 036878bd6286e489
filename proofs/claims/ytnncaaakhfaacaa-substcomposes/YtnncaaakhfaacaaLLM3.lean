import Derived.Test.YtnncaaakhfaacaaLLM2
import Derived.Test.YtnncaaakhfaacaaLLA
/-
  The makers: data declarations, chosen by bits.
-/
set_option linter.unusedVariables false
set_option linter.unusedSimpArgs false
namespace Go.Ab.Lw
open Ev
set_option maxRecDepth 10000
set_option linter.unusedSimpArgs false

@[simp] theorem headSz_Dt {l : List Dt} : headSz 4 (l.map Dt.pv) = true := by cases l <;> simp
@[simp] theorem headSz_Ty {l : List Ty} : headSz 5 (l.map Ty.pv) = true := by cases l <;> simp
@[simp] theorem headSz_As {l : List As} : headSz 6 (l.map As.pv) = true := by cases l <;> simp

theorem wrapU_id {n : Int} (h1 : 0 ≤ n) (h2 : n < 18446744073709551616) : IntKind.u64.wrap n = n := by
  simp [IntKind.wrap, IntKind.bits, IntKind.signed]
  omega

def R32 (bits : Int) (ds : List Dt) : Option (AExit × St) :=
  some (.exit 0, ⟨[(0, .pv (vI bits)), (3, .pv (.lst (allDatas.map Dt.pv))), (4, .own (ds.map Dt.pv) 0), (5, .pv (vI 7)), (24, .pv (.bool false))], [], [], [ds.length]⟩)
theorem L32 (bits : Int) : ∀ (n i : Nat), 7 - i = n → i ≤ 7 → ∀ acc : List Dt, (∀ d ∈ acc, d ∈ allDatas) → acc.length ≤ 1 + i →
    ∃ ds : List Dt, cl AP g32L0 ⟨[(0, .pv (vI bits)), (3, .pv (.lst (allDatas.map Dt.pv))), (4, .own (acc.map Dt.pv) 0), (5, .pv (vI i))], [], [], [acc.length]⟩ = R32 bits ds ∧
      (∀ d ∈ ds, d ∈ allDatas) ∧ ds.length ≤ 8
  | 0, i, hn, hi, acc, ha, hl => by
    have : i = 7 := by omega
    subst this
    refine ⟨acc, ?_, ha, by omega⟩
    rw [g32L0_eq]
    have h7 : allDatas.length = 7 := rfl
    simp [g32B0, h7, R32]
  | n + 1, i, hn, hi, acc, ha, hl => by
    have h7 : allDatas.length = 7 := rfl
    have hi : i < 7 := by omega
    obtain ⟨x, hx⟩ := getO (l := allDatas) (i := i) (by omega)
    have hb : (acc.length + 1) * 72 ≤ 140737488355328 := by omega
    obtain ⟨d1, e1, m1, l1⟩ := L32 bits n (i + 1) (by omega) (by omega) (acc ++ [x]) (by
      intro d hd; simp at hd; rcases hd with hd | rfl
      · exact ha d hd
      · exact memO hx) (by simp; omega)
    obtain ⟨d2, e2, m2, l2⟩ := L32 bits n (i + 1) (by omega) (by omega) acc ha (by omega)
    simp at e1 e2
    have hi' : (i : Int) < 7 := by omega
    have key : ∀ S, S = cl AP g32L0 ⟨[(0, .pv (vI bits)), (3, .pv (.lst (allDatas.map Dt.pv))), (4, .own (acc.map Dt.pv) 0), (5, .pv (vI i))], [], [], [acc.length]⟩ → S = R32 bits d1 ∨ S = R32 bits d2 := by
      intro S hS
      rw [g32L0_eq] at hS
      simp (disch := omega) [-getElem?_pos, g32B0, h7, hi', hx, wrap_id, wrapU_id, hb, e1, e2] at hS
      subst hS
      (repeat' split) <;> simp
    rcases key _ rfl with h | h
    · exact ⟨d1, h, m1, l1⟩
    · exact ⟨d2, h, m2, l2⟩

theorem c32 (bits : Int) : ∃ ds : List Dt, (orcL AP).p 32 [vI bits] = some [.lst (ds.map Dt.pv)] ∧ (∀ d ∈ ds, d ∈ allDatas) ∧ ds.length ≤ 8 := by
  have hp := c79
  have h7 : allDatas.length = 7 := rfl
  obtain ⟨x, hx⟩ := getO (l := allDatas) (i := 1) (by decide)
  obtain ⟨d1, e1, m1, l1⟩ := L32 bits 7 0 rfl (by omega) [x] (by intro d hd; simp at hd; subst hd; exact memO hx) (by simp)
  obtain ⟨d2, e2, m2, l2⟩ := L32 bits 7 0 rfl (by omega) [] (by simp) (by simp)
  rw [g32L0_eq] at e1 e2
  simp at e1 e2
  have key : ∀ S, S = (orcL AP).p 32 [vI bits] → S = some [.lst (d1.map Dt.pv)] ∨ S = some [.lst (d2.map Dt.pv)] := by
    intro S hS
    rw [callP_body (af := g32) rfl rfl (by decide)] at hS
    simp [-getElem?_pos, g32, hp, g32L0_eq, hx, e1, e2, R32] at hS
    subst hS
    (repeat' split) <;> simp
  rcases key _ rfl with h | h
  · exact ⟨d1, h, m1, l1⟩
  · exact ⟨d2, h, m2, l2⟩
end Go.Ab.Lw
