import Derived.Test.YtnncaaakhfaacaaLO
import Derived.Test.YtnncaaakhfaacaaLH
/-
  Chapter 3: what its laws make; the laws TypesValid and TypesEqual.
  Chapter 3: the laws TypesValid, TypesEqual.
  Chapter 3: the law TypesOrdered.
-/
set_option linter.unusedVariables false
set_option linter.unusedSimpArgs false
namespace Go.Ab.Lw
open Ev
set_option maxRecDepth 10000
set_option linter.unusedSimpArgs false

theorem c23 : (orcL AP).p 23 [] = some [.bool true] := Fc.p_of (k := 40) (n := 20) (by kernel_rfl)
theorem c24 {t : Ty} : (orcL AP).p 24 [t.pv] = some [.bool (decide (0 < smT t 61))] := by
  have h := c40 (t := t) (n := 60) (by omega) (by omega)
  simp at h
  rw [callP_body (af := g24) rfl rfl (by decide)]
  simp [g24, h]
def tyNamed (s : List UInt8) : Ty := ⟨5, s, 0, 0, []⟩
theorem c106 {s : List UInt8} : (orcL AP).p 106 [.str s] = some [(tyNamed s).pv] := by
  rw [callP_body (af := g106) rfl rfl (by decide)]
  simp [g106, tyNamed]
def namedL : List Ty := [tyNamed [97], tyNamed [98], tyNamed [99]]
theorem c67 : (orcL AP).p 67 [] = some [.lst (namedL.map Ty.pv)] := by
  have h1 := c106 (s := [97]); have h2 := c106 (s := [98]); have h3 := c106 (s := [99])
  simp at h1 h2 h3
  rw [callP_body (af := g67) rfl rfl (by decide)]
  simp [g67, h1, h2, h3, namedL]
theorem c28i {sh : Sh} (hc : Calm sh) (hs : ∀ n, shiftS n sh = sh) : (orcL AP).i 28 [] sh [] = some ([.own (leavesL.map Ty.pv) 0], sh, [8]) := by
  have hh := hc
  unfold Calm at hc
  rw [callI_body (af := g28) rfl (by simp [g28])]
  have h := c70_4 hh
  have c1 := c71 (n := 0) (m := 0); have c2 := c71 (n := 1) (m := 0); have c3 := c71 (n := -1) (m := 2); have c4 := c72 (n := 0)
  simp [tyVar] at h c1 c2 c3 c4
  simp [g28, h, hc, hs, c1, c2, c3, c4, leavesL, tyVar, tyRigid, tyBound]

def leavesT : List Ty := leavesL ++ namedL
theorem leavesT_bare : ∀ t, t ∈ leavesT → t.args = [] := by
  intro t ht
  simp [leavesT, leavesL, namedL] at ht
  rcases ht with rfl | rfl | rfl | rfl | rfl | rfl | rfl | rfl | rfl | rfl | rfl <;> rfl

/-- What the laws of chapter 3 make. -/
theorem c25 {L : List Int} (hL : Sm L) (bits : Int) : ∃ (t : Ty) (j : Nat), (orcL AP).i 25 [.pv (vI bits), .pv (.lst (L.map vI))] [] [] = some ([t.av, .sptr 0 0], tp L j, []) ∧ Made (· ∈ leavesT) t ∧ j ≤ L.length := by
  obtain ⟨ds, ed, hda, hds⟩ := c32 bits
  obtain ⟨t, j, e, mt, hj⟩ := c27 hL hds hda (lv := leavesT) (by simp [Sm, leavesT, leavesL, namedL]) 4 (by omega) 0 (by omega)
  have k1 := c28i (sh := tp L 0) calm_tp (fun _ => rfl)
  have k2 := c67
  refine ⟨t, j, ?_, mt, hj⟩
  have e0 : leavesT.map Ty.pv = leavesL.map Ty.pv ++ namedL.map Ty.pv := by simp [leavesT]
  have hz : headSz 5 (leavesL.map Ty.pv) = true := headSz_Ty
  have hz' : headSz 5 (namedL.map Ty.pv) = true := headSz_Ty
  have l1 : leavesL.length = 8 := rfl
  have l2 : namedL.length = 3 := rfl
  rw [e0] at e
  simp at e k1 ed
  rw [callI_body (af := g25) rfl (by simp [g25])]
  simp [-getElem?_pos, g25, ed, k1, k2, e, hz, hz', l1, l2]

theorem leaf_valid : ∀ t ∈ leavesT, validT t = true := by
  intro t ht
  simp [leavesT, leavesL, namedL] at ht
  rcases ht with rfl | rfl | rfl | rfl | rfl | rfl | rfl | rfl | rfl | rfl | rfl <;> (rw [validT_eq]; decide +kernel)
theorem data_valid : ∀ d ∈ allDatas, conB d.name d.params.length = true := by decide +kernel
theorem Made.valid {lv : Ty → Prop} (h : ∀ t, lv t → validT t = true) {t : Ty} (m : Made lv t) : validT t = true := by
  induction m with
  | leaf hl => exact h _ hl
  | int => rw [validT_eq]; decide +kernel
  | con hd hl _ ih =>
    rw [validT_eq]
    have := data_valid _ hd
    simp [hl, this]
    exact ih
  | arrow _ _ ha hb => rw [validT_eq]; simp [conB, ha, hb]
theorem names_few : ∀ d ∈ allDatas, d.name.length ≤ 20 := by decide +kernel
theorem Made.nm {lv : Ty → Prop} (h : ∀ t, lv t → SmS t.name ∧ t.args = []) {t : Ty} (m : Made lv t) : t.Nm := by
  induction m with
  | leaf hl => exact ⟨(h _ hl).1, by rw [(h _ hl).2]; simp⟩
  | int => exact ⟨by simp [tyInt, SmS], by simp [tyInt]⟩
  | con hd hl _ ih => exact ⟨by have := names_few _ hd; simp only [SmS]; omega, ih⟩
  | arrow _ _ ha hb => exact ⟨by simp [SmS], by intro x hx; simp at hx; rcases hx with rfl | rfl <;> assumption⟩
theorem leavesT_nm : ∀ t, t ∈ leavesT → SmS t.name ∧ t.args = [] := by
  intro t ht
  refine ⟨?_, leavesT_bare t ht⟩
  simp [leavesT, leavesL, namedL] at ht
  rcases ht with rfl | rfl | rfl | rfl | rfl | rfl | rfl | rfl | rfl | rfl | rfl <;> simp [tyVar, tyRigid, tyBound, tyNamed, SmS]
theorem leavesL_T : ∀ t, t ∈ leavesL → t ∈ leavesT := fun t h => List.mem_append_left _ h

/-- A raw type. -/
theorem shp_tyN {P : Program} {ti ts tl tt : TypeId} {f0 f1 f2 f3 f4 : Field} (hi : P.underlying ti = some (.int .i64)) (hs : P.underlying ts = some .string) (hl : P.underlying tl = some (.slice tt))
    (ht : P.underlying tt = some (.struct #[f0, f1, f2, f3, f4])) (e0 : f0.type = ti) (e1 : f1.type = ts) (e2 : f2.type = ti) (e3 : f3.type = ti) (e4 : f4.type = tl) :
    ∀ (n : Nat) (p : PV), Shp P n tt p → ∃ x : Ty, p = x.pv ∧ x.Nm
  | 0, p, h => by simp [Shp] at h
  | n + 1, p, h => by
    simp only [Shp, ht] at h
    obtain ⟨ps, rfl, h⟩ := h
    match ps, h with
    | [p0, p1, p2, p3, p4], ⟨h0, h1, h2, h3, h4, _⟩ =>
      rw [e0] at h0; rw [e1] at h1; rw [e2] at h2; rw [e3] at h3; rw [e4] at h4
      obtain ⟨k, rfl⟩ := shp_int hi h0
      obtain ⟨i, rfl⟩ := shp_int hi h2
      obtain ⟨m, rfl⟩ := shp_int hi h3
      cases n with
      | zero => simp [Shp] at h4
      | succ n =>
        simp only [Shp, hs] at h1
        obtain ⟨s, rfl, hsl⟩ := h1
        simp only [Shp, hl] at h4
        obtain ⟨els, rfl, _, h4⟩ := h4
        have key : ∀ els : List PV, (∀ q ∈ els, Shp P n tt q) → ∃ l : List Ty, els = l.map Ty.pv ∧ ∀ x ∈ l, x.Nm := by
          intro els
          induction els with
          | nil => intro _; exact ⟨[], rfl, by simp⟩
          | cons q r ih =>
            intro h
            obtain ⟨x, rfl, hx⟩ := shp_tyN hi hs hl ht e0 e1 e2 e3 e4 n q (h q (by simp))
            obtain ⟨l, rfl, hl⟩ := ih (fun q hq => h q (by simp [hq]))
            refine ⟨x :: l, rfl, ?_⟩
            intro y hy; simp at hy
            rcases hy with rfl | hy
            · exact hx
            · exact hl y hy
        obtain ⟨l, rfl, hl⟩ := key els h4
        refine ⟨⟨k, s, i, m, l⟩, by simp [cellsP], ⟨?_, hl⟩⟩
        unfold maxLen at hsl
        simp only [SmS]; omega
  termination_by n => n
end Go.Ab.Lw

namespace Go.Ab.Lw
open Ev
set_option maxRecDepth 10000
set_option linter.unusedSimpArgs false

/-- **The law TypesEqual.** -/
theorem law6 (raw other : Ty) (rn : raw.Nm) (on : other.Nm) (bits : Int) (L : List Int) : (orcL AP).p 6 [raw.pv, other.pv, vI bits, .lst (L.map vI)] = some [.bool true] := by
  have c0 := c23
  have s1 := c24 (t := raw)
  have s2 := c24 (t := other)
  have c1 := c15 (l := L)
  simp at s1 s2
  rw [callP_body (af := g6) rfl rfl (by decide)]
  by_cases h1 : 0 < smT raw 61
  · by_cases h2 : 0 < smT other 61
    · by_cases hL : L.length ≤ 60
      · have hLs : Sm L := by unfold Sm; omega
        have ro := smT_ok raw 61 (by omega) (by omega) h1
        have oo := smT_ok other 61 (by omega) (by omega) h2
        have v1 := c31 ro rn
        have v2 := c31 oo on
        have intOk : tyInt.Ok := ⟨by simp [tyInt, Sm], by simp [tyInt]⟩
        obtain ⟨r, er⟩ : ∃ r, r = if validT raw = true then raw else tyInt := ⟨_, rfl⟩
        obtain ⟨o, eo⟩ : ∃ o, o = if validT other = true then other else tyInt := ⟨_, rfl⟩
        have ro' : r.Ok := by rw [er]; split <;> assumption
        rw [← er] at v1
        rw [← eo] at v2
        obtain ⟨t, j, e, mt, hj⟩ := c25 hLs bits
        obtain ⟨ds, ed, hda, hds⟩ := c32 bits
        obtain ⟨u, j2, e2, mu, hj2⟩ := c27 hLs hds hda (lv := leavesL) (by simp [Sm, leavesL]) 3 (by omega) j hj
        have k2 := c28
        have to := mt.ok leavesT_bare
        have d1 := c33e (a := r) (b := o) ro'
        have d2 := c20 (a := r) (b := o) ro'
        have d3 := c33e (a := r) (b := r) ro'
        have d4 := c33e (a := t) (b := u) to
        have d5 := c20 (a := t) (b := u) to
        have d6 := c33e (a := t) (b := t) to
        simp at v1 v2 e ed e2 d1 d2 d3 d4 d5 d6
        simp [h1] at s1
        simp [h2] at s2
        simp [hL] at c1
        simp [g6, c0, s1, s2, c1, v1, v2, e, ed, k2, e2, d1, d2, d3, d4, d5, d6]
      · simp [h1] at s1
        simp [h2] at s2
        simp [hL] at c1
        simp [g6, c0, s1, s2, c1]
    · simp [h1] at s1
      simp [h2] at s2
      simp [g6, c0, s1, s2]
  · simp [h1] at s1
    simp [g6, c0, s1]

theorem app_made {t x : Ty} : ({ t with args := t.args ++ [x] } : Ty).args = t.args ++ [x] := rfl

/-- **The law TypesValid.** -/
theorem law5 (raw : Ty) (rn : raw.Nm) (bits : Int) (L : List Int) (field n : Int) (name : List UInt8) : (orcL AP).p 5 [raw.pv, vI bits, .lst (L.map vI), vI field, vI n, .str name] = some [.bool true] := by
  have c0 := c23
  have s1 := c24 (t := raw)
  have c1 := c15 (l := L)
  simp at s1
  rw [callP_body (af := g5) rfl rfl (by decide)]
  by_cases h1 : 0 < smT raw 61
  · by_cases hL : L.length ≤ 60
    · by_cases hN : name.length ≤ 20
      · have hLs : Sm L := by unfold Sm; omega
        have hNs : SmS name := by unfold SmS; omega
        have ro := smT_ok raw 61 (by omega) (by omega) h1
        have v1 := c29 ro rn
        have v2 := c30 ro rn
        obtain ⟨t, j, e, mt, hj⟩ := c25 hLs bits
        obtain ⟨x, j2, e2, mx, hj2⟩ := c27 hLs (ds := []) (by simp) (by simp) (lv := leavesL) (by simp [Sm, leavesL]) 1 (by omega) j hj
        have k2 := c28
        have to := mt.ok leavesT_bare
        have tn := mt.nm leavesT_nm
        have tv := mt.valid leaf_valid
        have xo := mx.ok leavesL_bare
        have xn := (mx.mono leavesL_T).nm leavesT_nm
        have v3 := c29 to tn
        rw [tv] at v3
        obtain ⟨f, ef, f0, f6⟩ := c26 (n := field) (m := 6) (by omega) (by omega)
        obtain ⟨m, em, m0, m7⟩ := c26 (n := n) (m := 7) (by omega) (by omega)
        have hN' : ¬ ((20 : Int) < name.length) := by omega
        have ts := to.sm
        have tl : t.args.length ≤ 1000 := by
          cases mt with
          | leaf h => rw [leavesT_bare _ h]; simp
          | int => simp [tyInt]
          | con hd hl _ => have := params_few _ hd; simp only; omega
          | arrow => simp
        have tb1 : (t.args.length + 1) * 64 ≤ 140737488355328 := by omega
        have tb2 : t.args.length * 64 ≤ 140737488355328 := by omega
        have each : ∀ u : Ty, u.Ok → u.Nm → (orcL AP).p 29 [u.pv] = some [.bool (validT u)] ∧ (orcL AP).p 30 [u.pv] = some [.bool (validT u)] := fun u o n => ⟨c29 o n, c30 o n⟩
        have w0 := each t to tn
        have w1 := each { t with kind := m } ⟨ts, to.kid⟩ ⟨tn.sm, tn.kid⟩
        have w2 := each { t with name := name } ⟨ts, to.kid⟩ ⟨hNs, tn.kid⟩
        have w3 := each { t with id := n } ⟨ts, to.kid⟩ ⟨tn.sm, tn.kid⟩
        have w4 := each { t with home := n } ⟨ts, to.kid⟩ ⟨tn.sm, tn.kid⟩
        have w5 := each { t with args := t.args ++ [x] } ⟨by simp [Sm]; omega, by
          intro y hy; simp at hy; rcases hy with hy | rfl
          · exact to.kid y hy
          · exact xo⟩ ⟨tn.sm, by
          intro y hy; simp at hy; rcases hy with hy | rfl
          · exact tn.kid y hy
          · exact xn⟩
        simp at v1 v2 v3 e e2 w0 w1 w2 w3 w4 w5
        simp [h1] at s1
        simp [hL] at c1
        by_cases q1 : f = 1
        · subst q1
          simp [g5, c0, s1, c1, hN', e, ef, em, v1, v2, v3, w1.1, w1.2]
        · by_cases q2 : f = 2
          · subst q2
            simp [g5, c0, s1, c1, hN', e, ef, em, v1, v2, v3, w2.1, w2.2]
          · by_cases q3 : f = 3
            · subst q3
              simp [g5, c0, s1, c1, hN', e, ef, em, v1, v2, v3, w3.1, w3.2]
            · by_cases q4 : f = 4
              · subst q4
                simp [g5, c0, s1, c1, hN', e, ef, em, v1, v2, v3, w4.1, w4.2]
              · by_cases q5 : f = 5
                · subst q5
                  cases ht : t.args with
                  | nil =>
                    rw [ht] at w5 e v3
                    simp at w5 e v3
                    simp [g5, c0, s1, c1, hN', e, ef, em, k2, e2, v1, v2, v3, w5.1, w5.2]
                  | cons y r =>
                    rw [ht] at w5 e v3 tb1 tb2
                    simp at w5 e v3 tb1 tb2
                    simp [g5, c0, s1, c1, hN', e, ef, em, k2, e2, v1, v2, v3, w5.1, w5.2, tb1, tb2]
                · rw [tv] at w0
                  simp [g5, c0, s1, c1, hN', e, ef, em, v1, v2, w0.1, w0.2, q1, q2, q3, q4, q5]
      · have hN' : (20 : Int) < name.length := by omega
        simp [h1] at s1
        simp [hL] at c1
        simp [g5, c0, s1, c1, hN']
    · simp [h1] at s1
      simp [hL] at c1
      simp [g5, c0, s1, c1]
  · simp [h1] at s1
    simp [g5, c0, s1]
end Go.Ab.Lw

namespace Go.Ab.Lw
open Ev
set_option maxRecDepth 10000
set_option linter.unusedSimpArgs false

theorem ordI_range (a b : Int) : -1 ≤ ordI a b ∧ ordI a b ≤ 1 := by unfold ordI; (repeat' split) <;> omega
theorem ordS_range (a b : List UInt8) : -1 ≤ ordS a b ∧ ordS a b ≤ 1 := by unfold ordS; (repeat' split) <;> omega
theorem orI_range : ∀ {l : List Int}, (∀ x ∈ l, -1 ≤ x ∧ x ≤ 1) → -1 ≤ orI l ∧ orI l ≤ 1
  | [], _ => by simp [orI]
  | x :: r, h => by
    simp only [orI]
    split
    · exact orI_range fun y hy => h y (by simp [hy])
    · exact h x (by simp)
theorem cmpH_range (a b : Ty) : -1 ≤ cmpH a b ∧ cmpH a b ≤ 1 := by
  unfold cmpH
  refine orI_range fun x hx => ?_
  simp at hx
  rcases hx with rfl | rfl | rfl | rfl | rfl
  · exact ordI_range _ _
  · exact ordS_range _ _
  · exact ordI_range _ _
  · exact ordI_range _ _
  · exact ordI_range _ _
theorem cmpL_range : ∀ {as : List Ty}, (∀ x ∈ as, ∀ b, -1 ≤ cmpT x b ∧ cmpT x b ≤ 1) → ∀ bs, -1 ≤ cmpL as bs ∧ cmpL as bs ≤ 1
  | [], _, [] => by simp [cmpL]
  | [], _, _ :: _ => by simp [cmpL]
  | _ :: _, _, [] => by simp [cmpL]
  | a :: as, h, b :: bs => by
    simp only [cmpL]
    split
    · exact cmpL_range (fun x hx => h x (by simp [hx])) bs
    · exact h a (by simp) b
theorem cmpT_range (a : Ty) : ∀ b, -1 ≤ cmpT a b ∧ cmpT a b ≤ 1 := by
  refine Ty.rec1 (p := fun a => ∀ b, -1 ≤ cmpT a b ∧ cmpT a b ≤ 1) ?_ a
  intro a ih b
  rw [cmpT_eq]
  split
  · exact cmpL_range ih _
  · exact cmpH_range a b

theorem L7c {l : List Ty} (hS : Sm l) (hO : ∀ x ∈ l, x.Ok) {i k : Nat} {x y : Ty} (hx : l[i]? = some x) (hy : l[k]? = some y) {sh : Sh} (hq : Calm sh) : ∀ (n j : Nat), l.length - j = n → j ≤ l.length →
    cl AP g7L2 ⟨[(9, .own (l.map Ty.pv) 0), (10, .pv (vI i)), (11, .pv (vI k)), (12, .pv (vI (cmpT x y))), (13, .pv (vI j))], [], sh, [l.length]⟩ =
      some (.exit 4, ⟨[(9, .own (l.map Ty.pv) 0), (10, .pv (vI i)), (11, .pv (vI k)), (12, .pv (vI (cmpT x y))), (13, .pv (vI l.length)), (109, .pv (.bool false))], [], sh, [l.length]⟩)
  | 0, j, hn, hj => by
    have : j = l.length := by omega
    subst this
    unfold Calm at hq
    rw [g7L2_eq]
    simp [g7B2, hq]
  | n + 1, j, hn, hj => by
    have hj : j < l.length := by omega
    obtain ⟨z, hz⟩ := getO hj
    have hq' := hq
    unfold Calm at hq
    unfold Sm at hS
    have ih := L7c hS hO hx hy hq' n (j + 1) (by omega) (by omega)
    have k1 := c35 (b := z) (hO y (memO hy))
    have k2 := c35 (b := z) (hO x (memO hx))
    rw [g7L2_eq] at ih ⊢
    simp [hq] at ih k1 k2
    by_cases a1 : cmpT x y < 0
    · by_cases a2 : cmpT y z < 0
      · have a3 : ¬ (0 ≤ cmpT x z) := by have := cmpT_trans a1 a2; omega
        simp (disch := omega) [-getElem?_pos, g7B2, hx, hy, hz, hj, hq, k1, k2, a1, a2, a3, wrap_id]
        rw [g7L2_eq]
        simp [ih, hq]
      · simp (disch := omega) [-getElem?_pos, g7B2, hx, hy, hz, hj, hq, k1, k2, a1, a2, wrap_id]
        rw [g7L2_eq]
        simp [ih, hq]
    · simp (disch := omega) [-getElem?_pos, g7B2, hx, hy, hz, hj, hq, k1, k2, a1, wrap_id]
      rw [g7L2_eq]
      simp [ih, hq]

theorem L7b {l : List Ty} (hS : Sm l) (hO : ∀ x ∈ l, x.Ok) {i : Nat} {x : Ty} (hx : l[i]? = some x) {sh : Sh} (hq : Calm sh) (hs : ∀ n, shiftS n sh = sh) : ∀ (n k : Nat), l.length - k = n → k ≤ l.length →
    cl AP g7L1 ⟨[(9, .own (l.map Ty.pv) 0), (10, .pv (vI i)), (11, .pv (vI k))], [], sh, [l.length]⟩ =
      some (.exit 2, ⟨[(9, .own (l.map Ty.pv) 0), (10, .pv (vI i)), (11, .pv (vI l.length)), (55, .pv (.bool false))], [], sh, [l.length]⟩)
  | 0, k, hn, hk => by
    have : k = l.length := by omega
    subst this
    unfold Calm at hq
    rw [g7L1_eq]
    simp [g7B1, hq]
  | n + 1, k, hn, hk => by
    have hk : k < l.length := by omega
    obtain ⟨y, hy⟩ := getO hk
    have h0 := L7c hS hO hx hy hq _ 0 rfl (by omega)
    have ih := L7b hS hO hx hq hs n (k + 1) (by omega) (by omega)
    unfold Calm at hq
    unfold Sm at hS
    have r := cmpT_range x y
    have k1 := c35 (b := y) (hO x (memO hx))
    have k2 := c36 (b := y) (hO x (memO hx))
    have k3 := c35 (b := x) (hO y (memO hy))
    have k4 := c20 (b := y) (hO x (memO hx))
    rw [cmpT_anti x y] at k3
    rw [← cmpT_beq] at k4
    have w : IntKind.i64.wrap (0 - -cmpT x y) = cmpT x y := by rw [show 0 - -cmpT x y = cmpT x y from by omega]; exact wrap_id (by omega) (by omega)
    rw [g7L1_eq] at ih ⊢
    rw [g7L2_eq] at h0
    simp [hq] at ih k1 k2 k3 k4 h0
    simp at w
    simp (disch := omega) [-getElem?_pos, g7B1, hx, hy, hk, hq, k1, k2, k3, k4, wrap_id, w, g7L2_eq, h0]
    rw [g7L1_eq]
    simp [ih, hq]

theorem L7a {l : List Ty} (hS : Sm l) (hO : ∀ x ∈ l, x.Ok) {sh : Sh} (hq : Calm sh) (hs : ∀ n, shiftS n sh = sh) : ∀ (n i : Nat), l.length - i = n → i ≤ l.length →
    cl AP g7L0 ⟨[(9, .own (l.map Ty.pv) 0), (10, .pv (vI i))], [], sh, [l.length]⟩ =
      some (.exit 0, ⟨[(9, .own (l.map Ty.pv) 0), (10, .pv (vI l.length)), (49, .pv (.bool false))], [], sh, [l.length]⟩)
  | 0, i, hn, hi => by
    have : i = l.length := by omega
    subst this
    unfold Calm at hq
    rw [g7L0_eq]
    simp [g7B0, hq]
  | n + 1, i, hn, hi => by
    have hi : i < l.length := by omega
    obtain ⟨x, hx⟩ := getO hi
    have h0 := L7b hS hO hx hq hs _ 0 rfl (by omega)
    have ih := L7a hS hO hq hs n (i + 1) (by omega) (by omega)
    unfold Calm at hq
    unfold Sm at hS
    rw [g7L0_eq] at ih ⊢
    rw [g7L1_eq] at h0
    simp [hq] at ih h0
    simp (disch := omega) [-getElem?_pos, g7B0, hx, hi, hq, wrap_id, g7L1_eq, h0]
    rw [g7L0_eq]
    simp [ih, hq]

/-- **The law TypesOrdered.** -/
theorem law7 (raw : Ty) (rn : raw.Nm) (bits : Int) (L : List Int) : (orcL AP).p 7 [raw.pv, vI bits, .lst (L.map vI)] = some [.bool true] := by
  have c0 := c23
  have s1 := c24 (t := raw)
  have c1 := c15 (l := L)
  simp at s1
  rw [callP_body (af := g7) rfl rfl (by decide)]
  by_cases h1 : 0 < smT raw 61
  · by_cases hL : L.length ≤ 60
    · have hLs : Sm L := by unfold Sm; omega
      have ro := smT_ok raw 61 (by omega) (by omega) h1
      have v1 := c31 ro rn
      have intOk : tyInt.Ok := ⟨by simp [tyInt, Sm], by simp [tyInt]⟩
      obtain ⟨r, er⟩ : ∃ r, r = if validT raw = true then raw else tyInt := ⟨_, rfl⟩
      have ro' : r.Ok := by rw [er]; split <;> assumption
      rw [← er] at v1
      obtain ⟨t, j, e, mt, hj⟩ := c25 hLs bits
      obtain ⟨ds, ed, hda, hds⟩ := c32 bits
      obtain ⟨u, j2, e2, mu, hj2⟩ := c27 hLs hds hda (lv := leavesL) (by simp [Sm, leavesL]) 2 (by omega) j hj
      obtain ⟨v, j3, e3, mv, hj3⟩ := c27 hLs hds hda (lv := leavesL) (by simp [Sm, leavesL]) 1 (by omega) j2 hj2
      have k2 := c28
      have k3 := c34
      have h := L7a (l := [r, t, u, v, tyInt]) (by simp [Sm]) (by
        intro x hx; simp at hx
        rcases hx with rfl | rfl | rfl | rfl | rfl
        · exact ro'
        · exact mt.ok leavesT_bare
        · exact mu.ok leavesL_bare
        · exact mv.ok leavesL_bare
        · exact intOk) (sh := tp L j3) calm_tp (fun _ => rfl) 5 0 rfl (by simp)
      rw [g7L0_eq] at h
      simp at v1 e ed e2 e3 k3
      simp [tyInt] at h
      simp [h1] at s1
      simp [hL] at c1
      simp [g7, c0, s1, c1, v1, e, ed, k2, e2, e3, k3, g7L0_eq, h]
    · simp [h1] at s1
      simp [hL] at c1
      simp [g7, c0, s1, c1]
  · simp [h1] at s1
    simp [g7, c0, s1]
end Go.Ab.Lw

