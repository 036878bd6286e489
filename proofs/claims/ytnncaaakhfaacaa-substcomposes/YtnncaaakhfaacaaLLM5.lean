import Derived.Test.YtnncaaakhfaacaaLLM4
/-
  The makers: substitutions off the tape; what law 13 makes.
-/
set_option linter.unusedVariables false
set_option linter.unusedSimpArgs false
namespace Go.Ab.Lw
open Ev
set_option maxRecDepth 10000
set_option linter.unusedSimpArgs false

theorem c27 {L : List Int} (hL : Sm L) {ds : List Dt} (hds : ds.length ≤ 8) (hda : ∀ d ∈ ds, d ∈ allDatas) {lv : List Ty} (hlv : Sm lv) : ∀ dep : Nat, dep < 1000 → Gives L ds lv dep
  | 0, _ => c27_0 hL hlv
  | dep + 1, h => c27_s hL hds hda hlv (by omega) (c27 hL hds hda hlv dep (by omega))

def leavesS : List Ty := [tyVar 0, tyVar 1, tyVar 2, tyVar 3, tyVar 4, tyRigid (-1) 0]

/-- A made substitution of variables from i on. -/
def MadeS (i : Nat) (s : List As) : Prop := ∀ a ∈ s, Made (· ∈ leavesS) a.ty ∧ (0 ≤ a.id ∧ a.id < i)

def R37 (L : List Int) (ds : List Dt) (s : List As) (j : Nat) : Option (AExit × St) :=
  some (.exit 0, ⟨[(0, .sptr 0 0), (1, .pv (.lst (ds.map Dt.pv))), (2, .pv (vI 4)), (7, .own (s.map As.pv) 0), (8, .pv (vI 4)), (11, .pv (.bool false))], [], tp L j, [s.length]⟩)
theorem L37 {L : List Int} (hL : Sm L) {ds : List Dt} (hds : ds.length ≤ 8) (hda : ∀ d ∈ ds, d ∈ allDatas) : ∀ (n k : Nat), 4 - k = n → k ≤ 4 → ∀ (acc : List As) (i : Nat), acc.length ≤ k → MadeS k acc → (acc.map As.id).Nodup → i ≤ L.length →
    ∃ (s : List As) (j : Nat), cl AP g37L0 ⟨[(0, .sptr 0 0), (1, .pv (.lst (ds.map Dt.pv))), (2, .pv (vI 4)), (7, .own (acc.map As.pv) 0), (8, .pv (vI k))], [], tp L i, [acc.length]⟩ = R37 L ds s j ∧
      s.length ≤ 4 ∧ MadeS 4 s ∧ (s.map As.id).Nodup ∧ j ≤ L.length
  | 0, k, hn, hk, acc, i, ha, hm, hd, hi => by
    have : k = 4 := by omega
    subst this
    refine ⟨acc, i, ?_, ha, hm, hd, hi⟩
    rw [g37L0_eq]
    simp [g37B0, R37]
  | n + 1, k, hn, hk, acc, i, ha, hm, hd, hi => by
    have hk : k < 4 := by omega
    obtain ⟨r, j1, e1, r0, r3, hj1⟩ := c68 hL hi (n := 3) (by omega) (by omega)
    simp at e1
    have hk' : (k : Int) < 4 := by omega
    have hb : (acc.length + 1) * 72 ≤ 140737488355328 := by omega
    by_cases hr : 0 < r
    · obtain ⟨t, j2, e2, mt, hj2⟩ := c27 hL hds hda (lv := leavesS) (by simp [Sm, leavesS]) 1 (by omega) j1 hj1
      have v5 := c70_5 (sh := tp L j1) calm_tp
      have cr := c71 (n := -1) (m := 0)
      simp [leavesS, tyVar, tyRigid] at e2 v5 cr
      obtain ⟨s, j, e, hs, hms, hds', hj⟩ := L37 hL hds hda n (k + 1) (by omega) (by omega) (acc ++ [⟨k, t⟩]) j2 (by simp; omega) (by
        intro a h
        simp at h
        rcases h with h | rfl
        · have := hm a h; exact ⟨this.1, this.2.1, by omega⟩
        · exact ⟨mt, by simp, by simp; omega⟩) (by
        rw [List.map_append, List.nodup_append]
        refine ⟨hd, by simp, ?_⟩
        intro x hx y hy
        simp at hx hy
        obtain ⟨a, ha, rfl⟩ := hx
        subst hy
        have := (hm a ha).2.2
        omega) hj2
      rw [g37L0_eq] at e
      simp at e
      refine ⟨s, j, ?_, hs, hms, hds', hj⟩
      rw [g37L0_eq]
      simp (disch := omega) [-getElem?_pos, g37B0, hk', e1, hr, v5, cr, e2, hb, wrap_id]
      rw [g37L0_eq]
      simp [e]
    · obtain ⟨s, j, e, hs, hms, hds', hj⟩ := L37 hL hds hda n (k + 1) (by omega) (by omega) acc j1 (by omega) (fun a h => ⟨(hm a h).1, (hm a h).2.1, by have := (hm a h).2.2; omega⟩) hd hj1
      simp at e
      refine ⟨s, j, ?_, hs, hms, hds', hj⟩
      rw [g37L0_eq]
      simp (disch := omega) [-getElem?_pos, g37B0, hk', e1, hr, wrap_id, e]

theorem c37 {L : List Int} (hL : Sm L) {ds : List Dt} (hds : ds.length ≤ 8) (hda : ∀ d ∈ ds, d ∈ allDatas) {i : Nat} (hi : i ≤ L.length) :
    ∃ (s : List As) (j : Nat), (orcL AP).i 37 [.sptr 0 0, .pv (.lst (ds.map Dt.pv)), .pv (vI 4)] (tp L i) [] = some ([.own (s.map As.pv) 0], tp L j, [s.length]) ∧
      s.length ≤ 4 ∧ MadeS 4 s ∧ (s.map As.id).Nodup ∧ j ≤ L.length := by
  obtain ⟨s, j, e, hs⟩ := L37 hL hds hda 4 0 rfl (by omega) [] i (by simp) (by intro a h; simp at h) (by simp) hi
  rw [g37L0_eq] at e
  simp [R37] at e
  refine ⟨s, j, ?_, hs⟩
  rw [callI_body (af := g37) rfl (by simp [g37])]
  simp [g37, g37L0_eq, e]

/-- What law 13 makes. -/
theorem c16 {L : List Int} (hL : Sm L) (bits : Int) : ∃ (a b : List As) (t : Ty) (j : Nat),
    (orcL AP).i 16 [.pv (vI bits), .pv (.lst (L.map vI))] [] [] = some ([.own (a.map As.pv) 0, .own (b.map As.pv) 1, t.av, .sptr 0 0], tp L j, [a.length, b.length]) ∧
      (a.length ≤ 4 ∧ MadeS 4 a ∧ (a.map As.id).Nodup) ∧ (b.length ≤ 4 ∧ MadeS 4 b ∧ (b.map As.id).Nodup) ∧ Made (· ∈ leavesL) t ∧ j ≤ L.length := by
  obtain ⟨ds, ed, hda, hds⟩ := c32 bits
  obtain ⟨a, j1, e1, ha1, ha2, ha3, hj1⟩ := c37 hL hds hda (i := 0) (by omega)
  obtain ⟨b, j2, e2, hb1, hb2, hb3, hj2⟩ := c37 hL hds hda (i := j1) hj1
  obtain ⟨t, j3, e3, mt, hj3⟩ := c27 hL hds hda (lv := leavesL) (by simp [Sm, leavesL]) 3 (by omega) j2 hj2
  have c := c28
  refine ⟨a, b, t, j3, ?_, ⟨ha1, ha2, ha3⟩, ⟨hb1, hb2, hb3⟩, mt, hj3⟩
  simp at e1 e2 e3 ed
  rw [callI_body (af := g16) rfl (by simp [g16])]
  simp [-getElem?_pos, g16, ed, e1, e2, c, e3]
end Go.Ab.Lw
