import Derived.Test.YtnncaaakhfaacaaLT
/-
  Chapter 3: opening.
-/
set_option linter.unusedVariables false
set_option linter.unusedSimpArgs false
namespace Go.Ab.Lw
open Ev
set_option maxRecDepth 10000
set_option linter.unusedSimpArgs false

/-- Whether a type is a place that an argument fills, and with what. -/
def plc (l : List Ty) (t : Ty) : Option Ty := if t.kind = 2 ∧ 0 ≤ t.id ∧ t.id < l.length then l[t.id.toNat]? else none
theorem plc_some {l : List Ty} {t u : Ty} (h : plc l t = some u) : t.kind = 2 ∧ 0 ≤ t.id ∧ t.id < l.length ∧ l[t.id.toNat]? = some u := by
  unfold plc at h
  split at h
  · rename_i c; exact ⟨c.1, c.2.1, c.2.2, h⟩
  · cases h
theorem plc_none {l : List Ty} {t : Ty} (h : plc l t = none) : ¬ (t.kind = 2 ∧ 0 ≤ t.id ∧ t.id < l.length) := by
  intro c
  unfold plc at h
  rw [if_pos c] at h
  rw [List.getElem?_eq_none_iff] at h
  omega
mutual
def Ty.opn (l : List Ty) : Ty → Ty
  | ⟨k, n, i, h, as⟩ => (plc l ⟨k, n, i, h, as⟩).getD ⟨k, n, i, h, Ty.opns l as⟩
def Ty.opns (l : List Ty) : List Ty → List Ty
  | [] => []
  | a :: r => a.opn l :: Ty.opns l r
end
theorem Ty.opns_map (l : List Ty) : ∀ as : List Ty, Ty.opns l as = as.map (Ty.opn l)
  | [] => by simp [Ty.opns]
  | a :: r => by simp [Ty.opns, Ty.opns_map l r]
theorem Ty.opn_eq (l : List Ty) (t : Ty) : t.opn l = (plc l t).getD ⟨t.kind, t.name, t.id, t.home, t.args.map (Ty.opn l)⟩ := by
  cases t; simp only [Ty.opn, Ty.opns_map]

theorem L48 {s : List Ty} {t : Ty} (hS : Sm t.args) (h : ∀ x ∈ t.args, (orcL AP).p 48 [x.pv, .lst (s.map Ty.pv)] = some [(x.opn s).pv]) : ∀ (n i : Nat), t.args.length - i = n → i ≤ t.args.length → ∀ acc : List Ty, acc = (t.args.take i).map (Ty.opn s) →
    cl AP g48L0 ⟨[(1, .pv (.lst (s.map Ty.pv))), (2, .lptr 2 0), (4, .lptr 4 0), (5, .lptr 5 0), (6, .pv (vI i))],
      [(2, [.pv (vI t.kind), .pv (.str t.name), .pv (vI t.id), .pv (vI t.home), .pv (.lst (t.args.map Ty.pv))]), (4, [.pv (vI 0), .pv (.str []), .pv (vI 0), .pv (vI 0), .own [] 0]),
        (5, [.pv (vI t.kind), .pv (.str t.name), .pv (vI t.id), .pv (vI t.home), .own (acc.map Ty.pv) 1])], [], [0, acc.length]⟩ =
      some (.exit 0, ⟨[(1, .pv (.lst (s.map Ty.pv))), (2, .lptr 2 0), (4, .lptr 4 0), (5, .lptr 5 0), (6, .pv (vI t.args.length)), (33, .pv (.bool false))],
      [(2, [.pv (vI t.kind), .pv (.str t.name), .pv (vI t.id), .pv (vI t.home), .pv (.lst (t.args.map Ty.pv))]), (4, [.pv (vI 0), .pv (.str []), .pv (vI 0), .pv (vI 0), .own [] 0]),
        (5, [.pv (vI t.kind), .pv (.str t.name), .pv (vI t.id), .pv (vI t.home), .own ((t.args.map (Ty.opn s)).map Ty.pv) 1])], [], [0, t.args.length]⟩)
  | 0, i, hn, hi, acc, ha => by
    have : i = t.args.length := by omega
    subst this
    subst ha
    rw [g48L0_eq]
    simp [g48B0]
  | n + 1, i, hn, hi, acc, ha => by
    have hi : i < t.args.length := by omega
    obtain ⟨x, hx⟩ := getO hi
    unfold Sm at hS
    have hb : (acc.length + 1) * 64 ≤ 140737488355328 := by subst ha; simp; omega
    have hc := h x (memO hx)
    have ih := L48 hS h n (i + 1) (by omega) (by omega) (acc ++ [x.opn s]) (by rw [List.take_add_one, hx, ha]; simp)
    rw [g48L0_eq] at ih ⊢
    simp at ih hc
    simp (disch := omega) [-getElem?_pos, g48B0, hx, hi, hc, hb, wrap_id]
    rw [g48L0_eq]
    simp [ih]

theorem c48 {s : List Ty} (hs : Sm s) {t : Ty} (hO : t.Ok) : (orcL AP).p 48 [t.pv, .lst (s.map Ty.pv)] = some [(t.opn s).pv] := by
  revert hO
  refine Ty.rec1 (p := fun t => t.Ok → (orcL AP).p 48 [t.pv, .lst (s.map Ty.pv)] = some [(t.opn s).pv]) ?_ t
  intro t ih hO
  rw [callP_body (af := g48) rfl rfl (by decide)]
  unfold Sm at hs
  have h := L48 (s := s) hO.sm (fun x hx => ih x hx (hO.kid x hx)) _ 0 rfl (by omega) [] (by simp)
  rw [g48L0_eq] at h
  simp at h
  cases hp : plc s t with
  | some u =>
    obtain ⟨a, b, c, d⟩ := plc_some hp
    have b1 : ¬ t.id < 0 := by omega
    simp (disch := omega) [-getElem?_pos, g48, a, b, b1, c, d, Ty.opn_eq s t, hp]
  | none =>
    have q := plc_none hp
    by_cases a : t.kind = 2
    · by_cases b : 0 ≤ t.id
      · have c : ¬ t.id < s.length := fun c => q ⟨a, b, c⟩
        simp [a] at h
        simp (disch := omega) [-getElem?_pos, g48, a, b, c, g48L0_eq, h, Ty.opn_eq s t, hp]
      · simp [a] at h
        simp (disch := omega) [-getElem?_pos, g48, a, b, g48L0_eq, h, Ty.opn_eq s t, hp]
    · simp (disch := omega) [-getElem?_pos, g48, a, g48L0_eq, h, Ty.opn_eq s t, hp]

def opnLeaf (s : List Ty) (x : Ty) : Ty := (plc s x).getD x

/-- Types where places have no parts. -/
inductive Ty.Wb : Ty → Prop
  | mk {t : Ty} : (t.kind = 2 → t.args = []) → (∀ x ∈ t.args, Ty.Wb x) → Ty.Wb t
theorem Ty.Wb.var {t : Ty} (h : t.Wb) : t.kind = 2 → t.args = [] := by cases h; assumption
theorem Ty.Wb.kid {t : Ty} (h : t.Wb) : ∀ x ∈ t.args, x.Wb := by cases h; assumption
theorem Made.wb {lv : Ty → Prop} (h : ∀ t, lv t → t.args = []) {t : Ty} (m : Made lv t) : t.Wb := by
  induction m with
  | leaf hl => exact ⟨fun _ => h _ hl, by rw [h _ hl]; simp⟩
  | int => exact ⟨by simp [tyInt], by simp [tyInt]⟩
  | con hd hl _ ih => exact ⟨by simp, ih⟩
  | arrow _ _ ha hb => exact ⟨by simp, by intro x hx; simp at hx; rcases hx with rfl | rfl <;> assumption⟩

theorem rbl_opn {s : List Ty} {t : Ty} (h : t.Wb) : t.rbl (opnLeaf s) = t.opn s := by
  revert h
  refine Ty.rec1 (p := fun t => t.Wb → t.rbl (opnLeaf s) = t.opn s) ?_ t
  intro t ih h
  by_cases hn : t.args = []
  · rw [Ty.rbl_nil hn, Ty.opn_eq]
    unfold opnLeaf
    cases t; simp at hn; simp [hn]
  · have hk : ¬ t.kind = 2 := fun e => hn (h.var e)
    have hp : plc s t = none := by unfold plc; rw [if_neg]; exact fun c => hk c.1
    rw [Ty.rbl_cons hn, Ty.opn_eq, hp]
    simp only [Option.getD_none]
    congr 1
    exact List.map_congr_left fun x hx => ih x hx (h.kid x hx)

theorem c93 {s : List Ty} (hs : Sm s) : LeafF 93 [.sptr 0 0] [.pv (.lst (s.map Ty.pv))] (opnLeaf s) := by
  intro sh x hq h0 hx
  rw [callI_body (af := g93) rfl (by simp [g93])]
  unfold Sm at hs
  cases hp : plc s x with
  | some u =>
    obtain ⟨a, b, c, d⟩ := plc_some hp
    have b1 : ¬ x.id < 0 := by omega
    simp (disch := omega) [-getElem?_pos, g93, a, b, b1, c, d, h0, hq.norm, hq.shift, opnLeaf, hp]
  | none =>
    have q := plc_none hp
    by_cases a : x.kind = 2
    · by_cases b : 0 ≤ x.id
      · have c : ¬ x.id < s.length := fun c => q ⟨a, b, c⟩
        simp (disch := omega) [-getElem?_pos, g93, a, b, c, h0, hq.norm, hq.shift, opnLeaf, hp, hx]
      · simp (disch := omega) [-getElem?_pos, g93, a, b, h0, hq.norm, hq.shift, opnLeaf, hp, hx]
    · simp (disch := omega) [-getElem?_pos, g93, a, h0, hq.norm, hq.shift, opnLeaf, hp, hx]

theorem c47 {s : List Ty} (hS : Sm s) {t : Ty} (hO : t.Ok) (hW : t.Wb) : (orcL AP).p 47 [t.pv, .lst (s.map Ty.pv)] = some [(t.opn s).pv] := by
  have h := c91 (c93 hS) rfl rfl rfl (fun _ _ => rfl) rfl hO [some [.pv (.lst (s.map Ty.pv))]] (by intro cs hc v hv; simp at hc; subst hc; simp at hv; exact ⟨_, hv⟩) rfl
  rw [rbl_opn hW] at h
  simp at h
  rw [callP_body (af := g47) rfl rfl (by decide)]
  simp [g47, h]

theorem opn_ok {s : List Ty} (hs : ∀ a ∈ s, a.Ok) {t : Ty} (h : t.Ok) : (t.opn s).Ok := by
  revert h
  refine Ty.rec1 (p := fun t => t.Ok → (t.opn s).Ok) ?_ t
  intro t ih h
  rw [Ty.opn_eq]
  cases hp : plc s t with
  | some u => exact hs u (memO (plc_some hp).2.2.2)
  | none =>
    refine ⟨?_, ?_⟩
    · have := h.sm; unfold Sm at this ⊢; simpa using this
    · intro x hx; simp at hx
      obtain ⟨y, hy, rfl⟩ := hx
      exact ih y hy (h.kid y hy)

/-! ### What the law makes -/
theorem L11 {L : List Int} (hL : Sm L) (bits : Int) (t : Ty) {ids : List Int} (hI : ids.length ≤ 6) : ∀ (n i : Nat), ids.length - i = n → i ≤ ids.length → ∀ (s : List As) (args : List Ty) (j : Nat), s.length = i → args.length = i → (∀ a ∈ s, Made (· ∈ leavesL) a.ty) → (∀ a ∈ args, Made (· ∈ leavesL) a) → j ≤ L.length →
    ∃ (s' : List As) (args' : List Ty) (j' : Nat), cl AP g11L0 ⟨[(0, .pv (vI bits)), (2, .pv (.lst (ids.map vI))), (7, .lptr 7 0), (8, .sptr 0 0), (9, .own (s.map As.pv) 0), (10, .own (args.map Ty.pv) 1), (11, .pv (vI i))],
      [(7, [.pv (vI t.kind), .pv (.str t.name), .pv (vI t.id), .pv (vI t.home), .pv (.lst (t.args.map Ty.pv))])], tp L j, [s.length, args.length]⟩ =
      some (.exit 0, ⟨[(0, .pv (vI bits)), (2, .pv (.lst (ids.map vI))), (7, .lptr 7 0), (8, .sptr 0 0), (9, .own (s'.map As.pv) 0), (10, .own (args'.map Ty.pv) 1), (11, .pv (vI ids.length)), (32, .pv (.bool false))],
        [(7, [.pv (vI t.kind), .pv (.str t.name), .pv (vI t.id), .pv (vI t.home), .pv (.lst (t.args.map Ty.pv))])], tp L j', [s'.length, args'.length]⟩) ∧
      s'.length = ids.length ∧ args'.length = ids.length ∧ (∀ a ∈ s', Made (· ∈ leavesL) a.ty) ∧ (∀ a ∈ args', Made (· ∈ leavesL) a)
  | 0, i, hn, hi, s, args, j, hs, ha, ms, ma, hj => by
    have : i = ids.length := by omega
    subst this
    refine ⟨s, args, j, ?_, hs, ha, ms, ma⟩
    rw [g11L0_eq]
    simp [g11B0]
  | n + 1, i, hn, hi, s, args, j, hs, ha, ms, ma, hj => by
    have hi : i < ids.length := by omega
    obtain ⟨x, hx⟩ := getO hi
    obtain ⟨ds, ed, hda, hds⟩ := c32 bits
    obtain ⟨u, j2, e2, mu, hj2⟩ := c27 hL hds hda (lv := leavesL) (by simp [Sm, leavesL]) 2 (by omega) j hj
    obtain ⟨m, em, m0, m5⟩ := c26 (n := x) (m := 5) (by omega) (by omega)
    have k2 := c28
    obtain ⟨s', args', j', e, h1, h2, h3, h4⟩ := L11 hL bits t hI n (i + 1) (by omega) (by omega) (s ++ [⟨m, u⟩]) (args ++ [u]) j2 (by simp [hs]) (by simp [ha])
      (by intro a h; simp at h; rcases h with h | rfl; exact ms a h; exact mu) (by intro a h; simp at h; rcases h with h | rfl; exact ma a h; exact mu) hj2
    refine ⟨s', args', j', ?_, h1, h2, h3, h4⟩
    have b1 : (s.length + 1) * 72 ≤ 140737488355328 := by omega
    have b2 : (args.length + 1) * 64 ≤ 140737488355328 := by omega
    rw [g11L0_eq] at e ⊢
    simp at e ed e2
    simp (disch := omega) [-getElem?_pos, g11B0, hx, hi, ed, e2, em, k2, b1, b2, wrap_id]
    rw [g11L0_eq]
    simp [e]

/-- **The law TypesReplaced.** -/
theorem law11 (bits : Int) (L ids : List Int) : (orcL AP).p 11 [vI bits, .lst (L.map vI), .lst (ids.map vI)] = some [.bool true] := by
  have c0 := c23
  have c1 := c15 (l := L)
  rw [callP_body (af := g11) rfl rfl (by decide)]
  by_cases hL : L.length ≤ 60
  · simp [hL] at c1
    by_cases hI : ids.length ≤ 6
    · have hI' : ¬ ((6 : Int) < ids.length) := by omega
      have hLs : Sm L := by unfold Sm; omega
      obtain ⟨t, j, e, mt, hj⟩ := c25 hLs bits
      obtain ⟨s, args, j2, e2, h1, h2, h3, h4⟩ := L11 hLs bits t hI _ 0 rfl (by omega) [] [] j rfl rfl (by simp) (by simp) hj
      have to := mt.ok leavesT_bare
      have tw := mt.wf leavesT_bare
      have tb := mt.wb leavesT_bare
      have so : ∀ a ∈ s, a.ty.Ok := fun a h => (h3 a h).ok leavesL_bare
      have ao : ∀ a ∈ args, a.Ok := fun a h => (h4 a h).ok leavesL_bare
      have sS : Sm s := by unfold Sm; omega
      have aS : Sm args := by unfold Sm; omega
      have d1 := c45 sS to tw
      have d2 := c46 sS to
      have d3 := c20 (a := t.sub s) (b := t.sub s) (sub_ok so to)
      have d4 := c47 aS to tb
      have d5 := c48 aS to
      have d6 := c20 (a := t.opn args) (b := t.opn args) (opn_ok ao to)
      have d7 := c45 (s := []) (by simp [Sm]) to tw
      have d8 := c20 (a := t) (b := t) to
      have m1 : s.length * 72 ≤ 140737488355328 := by omega
      have m2 : args.length * 64 ≤ 140737488355328 := by omega
      rw [sub_nil] at d7
      rw [g11L0_eq] at e2
      simp at e e2 d1 d2 d3 d4 d5 d6 d7 d8
      simp [g11, c0, c1, hI', e, g11L0_eq, e2, d1, d2, d3, d4, d5, d6, d7, d8, m1, m2]
    · have hI' : (6 : Int) < ids.length := by omega
      simp [g11, c0, c1, hI']
  · simp [hL] at c1
    simp [g11, c0, c1]
end Go.Ab.Lw

