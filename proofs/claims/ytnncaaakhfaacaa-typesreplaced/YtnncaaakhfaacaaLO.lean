import Derived.Test.YtnncaaakhfaacaaLV
/-
  The order of types by the reference; it is a total order.
  The order of types is total.
-/
set_option linter.unusedVariables false
set_option linter.unusedSimpArgs false
namespace Go.Ab.Lw
open Ev
set_option maxRecDepth 10000
set_option linter.unusedSimpArgs false

def R36 (a b : Ty) (c : Int) (eq : Bool) : Option (AExit × St) :=
  if eq = true then some (.exit 2, ⟨[(2, .lptr 2 0), (3, .lptr 3 0), (8, .pv (vI a.args.length)), (57, .pv (.bool false))], [(2, a.cl), (3, b.cl)], [], []⟩)
  else some (.ret, ⟨[(4, .pv (vI c))], [], [], []⟩)
theorem L36 {a b : Ty} (hS : Sm a.args) (hl : a.args.length = b.args.length) (h : ∀ x ∈ a.args, ∀ y, (orcL AP).p 36 [x.pv, y.pv] = some [vI (cmpT x y)]) : ∀ (n i : Nat), a.args.length - i = n → i ≤ a.args.length →
    cl AP g36L1 ⟨[(2, .lptr 2 0), (3, .lptr 3 0), (8, .pv (vI i))], [(2, a.cl), (3, b.cl)], [], []⟩ =
      R36 a b (cmpL (a.args.drop i) (b.args.drop i)) (decide (cmpL (a.args.drop i) (b.args.drop i) = 0))
  | 0, i, hn, hi => by
    have : i = a.args.length := by omega
    subst this
    rw [g36L1_eq, dropN (l := b.args) (by omega)]
    simp [g36B1, R36, cmpL, Ty.cl]
  | n + 1, i, hn, hi => by
    have hi : i < a.args.length := by omega
    obtain ⟨x, hx⟩ := getO hi
    obtain ⟨y, hy⟩ := getO (hl ▸ hi)
    have hc := h x (memO hx) y
    have ih := L36 hS hl h n (i + 1) (by omega) (by omega)
    unfold Sm at hS
    rw [g36L1_eq] at ih ⊢
    rw [dropC hx, dropC hy]
    simp [Ty.cl] at ih hc
    by_cases e : cmpT x y = 0
    · rw [e] at hc
      simp (disch := omega) [-getElem?_pos, g36B1, Ty.cl, hx, hy, hi, hc, wrap_id]
      rw [g36L1_eq]
      simp [ih, cmpL, e]
    · simp (disch := omega) [-getElem?_pos, g36B1, Ty.cl, hx, hy, hi, hc, wrap_id, e, R36, cmpL]

theorem c36 {a b : Ty} (hO : a.Ok) : (orcL AP).p 36 [a.pv, b.pv] = some [vI (cmpT a b)] := by
  revert b hO
  refine Ty.rec1 (p := fun a => ∀ {b : Ty}, a.Ok → (orcL AP).p 36 [a.pv, b.pv] = some [vI (cmpT a b)]) ?_ a
  intro a ih b hO
  have k1 := c84 (a := a.kind) (b := b.kind)
  have k3 := c84 (a := a.id) (b := b.id)
  have k4 := c84 (a := a.home) (b := b.home)
  have k5 := c84 (a := a.args.length) (b := b.args.length)
  rw [cmpT_eq]
  by_cases e : cmpH a b = 0
  · have hl := cmpH_len e
    have h := L36 hO.sm hl (fun x hx y => ih x hx (hO.kid x hx)) _ 0 rfl (by omega)
    rw [g36L1_eq] at h
    obtain ⟨z1, z2, z3, z4, z5⟩ := cmpH_zero.1 e
    have w1 := ordI_zero.2 z1
    have w3 := ordI_zero.2 z3
    have w4 := ordI_zero.2 z4
    have w5 : ordI a.args.length b.args.length = 0 := ordI_zero.2 (by omega)
    rw [w1] at k1; rw [w3] at k3; rw [w4] at k4; rw [w5] at k5
    rw [if_pos e]
    have n1 : evBin.bytesLt a.name b.name = false := by rw [z2]; exact bytesLt_irr _
    have n2 : (a.name == b.name) = true := by rw [z2]; simp
    rw [callP_body (af := g36) rfl rfl (by decide)]
    by_cases e2 : cmpL a.args b.args = 0
    · simp [R36, e2, Ty.cl] at h
      simp (disch := omega) [-getElem?_pos, g36, k1, k3, k4, k5, n1, n2, g36L0_eq, g36B0, wrap_id, g36L1_eq, h, e2]
    · simp [R36, e2, Ty.cl] at h
      simp (disch := omega) [-getElem?_pos, g36, k1, k3, k4, k5, n1, n2, g36L0_eq, g36B0, wrap_id, g36L1_eq, h]
  · rw [if_neg e]
    unfold cmpH at e ⊢
    have nm : ∃ (b1 b2 : Bool), evBin.bytesLt a.name b.name = b1 ∧ (a.name == b.name) = b2 ∧ ordS a.name b.name = if b1 = true then -1 else if b2 = true then 0 else 1 := by
      refine ⟨_, _, rfl, rfl, ?_⟩
      unfold ordS
      split
      · rfl
      · by_cases e : a.name = b.name <;> simp [e]
    obtain ⟨b1, b2, n1, n2, n3⟩ := nm
    rw [n3] at e ⊢
    rw [callP_body (af := g36) rfl rfl (by decide)]
    generalize ordI a.kind b.kind = o1 at *
    generalize ordI a.id b.id = o3 at *
    generalize ordI a.home b.home = o4 at *
    generalize ordI a.args.length b.args.length = o5 at *
    by_cases z1 : o1 = 0
    · subst z1
      cases b1 with
      | true => simp (disch := omega) [-getElem?_pos, g36, k1, k3, k4, k5, n1, n2, g36L0_eq, g36B0, wrap_id, orI]
      | false =>
        cases b2 with
        | false => simp (disch := omega) [-getElem?_pos, g36, k1, k3, k4, k5, n1, n2, g36L0_eq, g36B0, wrap_id, orI]
        | true =>
          by_cases z3 : o3 = 0
          · subst z3
            by_cases z4 : o4 = 0
            · subst z4
              by_cases z5 : o5 = 0
              · subst z5; simp [orI] at e
              · simp (disch := omega) [-getElem?_pos, g36, k1, k3, k4, k5, n1, n2, g36L0_eq, g36B0, wrap_id, orI, z5]
            · simp (disch := omega) [-getElem?_pos, g36, k1, k3, k4, k5, n1, n2, g36L0_eq, g36B0, wrap_id, orI, z4]
          · simp (disch := omega) [-getElem?_pos, g36, k1, k3, k4, k5, n1, n2, g36L0_eq, g36B0, wrap_id, orI, z3]
    · cases b1 with
      | true => simp (disch := omega) [-getElem?_pos, g36, k1, k3, k4, k5, n1, n2, g36L0_eq, g36B0, wrap_id, orI, z1]
      | false =>
        cases b2 with
        | false => simp (disch := omega) [-getElem?_pos, g36, k1, k3, k4, k5, n1, n2, g36L0_eq, g36B0, wrap_id, orI, z1]
        | true => simp (disch := omega) [-getElem?_pos, g36, k1, k3, k4, k5, n1, n2, g36L0_eq, g36B0, wrap_id, orI, z1]
end Go.Ab.Lw

namespace Go.Ab.Lw
open Ev

/-- What orders, up to what it cannot tell apart. -/
structure Pre {α : Type} (f : α → α → Int) : Prop where
  anti : ∀ a b, f b a = - f a b
  tr : ∀ a b c, f a b ≤ 0 → f b c ≤ 0 → f a c ≤ 0 ∧ (f a c = 0 → f a b = 0 ∧ f b c = 0)

theorem Pre.lex {α : Type} {f g : α → α → Int} (hf : Pre f) (hg : Pre g) : Pre (fun a b => if f a b = 0 then g a b else f a b) where
  anti a b := by
    have h1 := hf.anti a b
    have h2 := hg.anti a b
    split <;> split <;> omega
  tr a b c := by
    have h1 := hf.tr a b c
    have h2 := hg.tr a b c
    have h3 := hf.tr a b c
    intro k1 k2
    have a1 : f a b ≤ 0 := by split at k1 <;> omega
    have a2 : f b c ≤ 0 := by split at k2 <;> omega
    obtain ⟨b1, b2⟩ := h1 a1 a2
    by_cases e : f a c = 0
    · obtain ⟨e1, e2⟩ := b2 e
      rw [if_pos e1] at k1
      rw [if_pos e2] at k2
      rw [if_pos e, if_pos e1, if_pos e2]
      exact h2 k1 k2
    · rw [if_neg e]
      exact ⟨b1, fun h => absurd h e⟩
theorem Pre.on {α β : Type} {f : α → α → Int} (hf : Pre f) (p : β → α) : Pre (fun a b => f (p a) (p b)) :=
  ⟨fun a b => hf.anti (p a) (p b), fun a b c => hf.tr (p a) (p b) (p c)⟩
theorem pre_zero {α : Type} : Pre (fun _ _ : α => (0 : Int)) := ⟨fun _ _ => rfl, fun _ _ _ _ _ => ⟨by omega, fun _ => ⟨rfl, rfl⟩⟩⟩
theorem pre_ordI : Pre ordI where
  anti a b := by unfold ordI; (repeat' split) <;> omega
  tr a b c := by unfold ordI; intro h1 h2; (repeat' split at h1) <;> (repeat' split at h2) <;> (repeat' split) <;> omega

theorem lt_asymm : ∀ {a b : List UInt8}, evBin.bytesLt a b = true → evBin.bytesLt b a = false
  | _, [], h => by simp [evBin.bytesLt] at h
  | [], _ :: _, _ => by simp [evBin.bytesLt]
  | x :: a, y :: b, h => by
    simp only [evBin.bytesLt, Bool.or_eq_true, decide_eq_true_eq, Bool.and_eq_true, beq_iff_eq] at h
    simp only [evBin.bytesLt, Bool.or_eq_false_iff, decide_eq_false_iff_not, Bool.and_eq_false_iff, beq_eq_false_iff_ne]
    rcases h with h | ⟨rfl, h⟩
    · exact ⟨UInt8.lt_asymm h, .inl (fun e => by subst e; exact UInt8.lt_irrefl _ h)⟩
    · exact ⟨UInt8.lt_irrefl _, .inr (lt_asymm h)⟩
theorem lt_tri : ∀ {a b : List UInt8}, evBin.bytesLt a b = false → a ≠ b → evBin.bytesLt b a = true
  | [], [], _, h => absurd rfl h
  | _ :: _, [], _, _ => by simp [evBin.bytesLt]
  | [], _ :: _, h, _ => by simp [evBin.bytesLt] at h
  | x :: a, y :: b, h, hn => by
    simp only [evBin.bytesLt, Bool.or_eq_false_iff, decide_eq_false_iff_not, Bool.and_eq_false_iff, beq_eq_false_iff_ne] at h
    simp only [evBin.bytesLt, Bool.or_eq_true, decide_eq_true_eq, Bool.and_eq_true, beq_iff_eq]
    by_cases e : x = y
    · subst e
      right
      refine ⟨rfl, lt_tri ?_ (fun e => hn (by rw [e]))⟩
      rcases h.2 with h | h
      · exact absurd rfl h
      · exact h
    · left
      have := h.1
      rw [UInt8.lt_iff_toNat_lt] at this ⊢
      have : x.toNat ≠ y.toNat := fun e' => e (UInt8.toNat_inj.1 e')
      omega
theorem lt_trans : ∀ {a b c : List UInt8}, evBin.bytesLt a b = true → evBin.bytesLt b c = true → evBin.bytesLt a c = true
  | _, [], _, h, _ => by simp [evBin.bytesLt] at h
  | _, _ :: _, [], _, h => by simp [evBin.bytesLt] at h
  | [], _ :: _, _ :: _, _, _ => by simp [evBin.bytesLt]
  | x :: a, y :: b, z :: c, h, k => by
    simp only [evBin.bytesLt, Bool.or_eq_true, decide_eq_true_eq, Bool.and_eq_true, beq_iff_eq] at h k ⊢
    rcases h with h | ⟨rfl, h⟩
    · rcases k with k | ⟨rfl, k⟩
      · exact .inl (UInt8.lt_trans h k)
      · exact .inl h
    · rcases k with k | ⟨rfl, k⟩
      · exact .inl k
      · exact .inr ⟨rfl, lt_trans h k⟩
theorem ordS_cases (a b : List UInt8) : (evBin.bytesLt a b = true ∧ ordS a b = -1) ∨ (a = b ∧ ordS a b = 0) ∨ (evBin.bytesLt b a = true ∧ ordS a b = 1) := by
  unfold ordS
  cases h : evBin.bytesLt a b with
  | true => left; simp
  | false =>
    right
    by_cases e : a = b
    · left; simp [e]
    · right; simp [e, lt_tri h e]
theorem pre_ordS : Pre ordS where
  anti a b := by
    rcases ordS_cases a b with ⟨h, e⟩ | ⟨rfl, e⟩ | ⟨h, e⟩
    · rcases ordS_cases b a with ⟨h', e'⟩ | ⟨rfl, e'⟩ | ⟨h', e'⟩
      · rw [lt_asymm h] at h'; cases h'
      · rw [bytesLt_irr] at h; cases h
      · omega
    · omega
    · rcases ordS_cases b a with ⟨h', e'⟩ | ⟨rfl, e'⟩ | ⟨h', e'⟩
      · omega
      · rw [bytesLt_irr] at h; cases h
      · rw [lt_asymm h] at h'; cases h'
  tr a b c h1 h2 := by
    rcases ordS_cases a b with ⟨h, e⟩ | ⟨rfl, e⟩ | ⟨h, e⟩
    · rcases ordS_cases b c with ⟨h', e'⟩ | ⟨rfl, e'⟩ | ⟨h', e'⟩
      · have := lt_trans h h'
        have e3 : ordS a c = -1 := by unfold ordS; rw [if_pos this]
        omega
      · omega
      · omega
    · exact ⟨h2, fun h => ⟨e, h⟩⟩
    · omega

theorem pre_cmpH : Pre cmpH := by
  have : Pre (fun a b : Ty => if ordI a.kind b.kind = 0 then (if ordS a.name b.name = 0 then (if ordI a.id b.id = 0 then (if ordI a.home b.home = 0 then (if ordI a.args.length b.args.length = 0 then 0 else ordI a.args.length b.args.length) else ordI a.home b.home) else ordI a.id b.id) else ordS a.name b.name) else ordI a.kind b.kind) :=
    (pre_ordI.on Ty.kind).lex ((pre_ordS.on Ty.name).lex ((pre_ordI.on Ty.id).lex ((pre_ordI.on Ty.home).lex ((pre_ordI.on fun t : Ty => (t.args.length : Int)).lex pre_zero))))
  exact this

theorem cmpL_anti : ∀ {as : List Ty}, (∀ x ∈ as, ∀ b, cmpT b x = - cmpT x b) → ∀ bs, cmpL bs as = - cmpL as bs
  | [], _, [] => by simp [cmpL]
  | [], _, _ :: _ => by simp [cmpL]
  | _ :: _, _, [] => by simp [cmpL]
  | a :: as, h, b :: bs => by
    simp only [cmpL]
    have h1 := h a (by simp) b
    have h2 := cmpL_anti (as := as) (fun x hx => h x (by simp [hx])) bs
    split <;> split <;> omega
theorem cmpT_anti (a : Ty) : ∀ b, cmpT b a = - cmpT a b := by
  refine Ty.rec1 (p := fun a => ∀ b, cmpT b a = - cmpT a b) ?_ a
  intro a ih b
  rw [cmpT_eq, cmpT_eq]
  have h1 := pre_cmpH.anti a b
  have h2 := cmpL_anti ih b.args
  split <;> split <;> omega
theorem cmpL_tr : ∀ {as : List Ty}, (∀ x ∈ as, ∀ b c, cmpT x b ≤ 0 → cmpT b c ≤ 0 → cmpT x c ≤ 0 ∧ (cmpT x c = 0 → cmpT x b = 0 ∧ cmpT b c = 0)) →
    ∀ bs cs, cmpL as bs ≤ 0 → cmpL bs cs ≤ 0 → cmpL as cs ≤ 0 ∧ (cmpL as cs = 0 → cmpL as bs = 0 ∧ cmpL bs cs = 0)
  | [], _, [], [], _, _ => by simp [cmpL]
  | [], _, [], _ :: _, _, _ => by simp [cmpL]
  | [], _, _ :: _, [], _, h => by simp [cmpL] at h
  | [], _, _ :: _, _ :: _, _, _ => by simp [cmpL]
  | _ :: _, _, [], _, h, _ => by simp [cmpL] at h
  | _ :: _, _, _ :: _, [], _, h => by simp [cmpL] at h
  | a :: as, h, b :: bs, c :: cs, k1, k2 => by
    simp only [cmpL] at k1 k2 ⊢
    have h1 := h a (by simp) b c
    have h2 := cmpL_tr (as := as) (fun x hx => h x (by simp [hx])) bs cs
    have a1 : cmpT a b ≤ 0 := by split at k1 <;> omega
    have a2 : cmpT b c ≤ 0 := by split at k2 <;> omega
    obtain ⟨b1, b2⟩ := h1 a1 a2
    by_cases e : cmpT a c = 0
    · obtain ⟨e1, e2⟩ := b2 e
      rw [if_pos e1] at k1
      rw [if_pos e2] at k2
      rw [if_pos e, if_pos e1, if_pos e2]
      exact h2 k1 k2
    · rw [if_neg e]
      exact ⟨b1, fun h => absurd h e⟩
theorem cmpT_tr (a : Ty) : ∀ b c, cmpT a b ≤ 0 → cmpT b c ≤ 0 → cmpT a c ≤ 0 ∧ (cmpT a c = 0 → cmpT a b = 0 ∧ cmpT b c = 0) := by
  refine Ty.rec1 (p := fun a => ∀ b c, cmpT a b ≤ 0 → cmpT b c ≤ 0 → cmpT a c ≤ 0 ∧ (cmpT a c = 0 → cmpT a b = 0 ∧ cmpT b c = 0)) ?_ a
  intro a ih b c k1 k2
  rw [cmpT_eq] at k1 k2
  rw [cmpT_eq a c, cmpT_eq a b, cmpT_eq b c]
  have a1 : cmpH a b ≤ 0 := by split at k1 <;> omega
  have a2 : cmpH b c ≤ 0 := by split at k2 <;> omega
  obtain ⟨b1, b2⟩ := pre_cmpH.tr a b c a1 a2
  by_cases e : cmpH a c = 0
  · obtain ⟨e1, e2⟩ := b2 e
    rw [if_pos e1] at k1
    rw [if_pos e2] at k2
    rw [if_pos e, if_pos e1, if_pos e2]
    exact cmpL_tr ih _ _ k1 k2
  · rw [if_neg e]
    exact ⟨b1, fun h => absurd h e⟩
theorem cmpT_trans {a b c : Ty} (h1 : cmpT a b < 0) (h2 : cmpT b c < 0) : cmpT a c < 0 := by
  obtain ⟨h, k⟩ := cmpT_tr a b c (by omega) (by omega)
  by_cases e : cmpT a c = 0
  · have := (k e).1; omega
  · omega
end Go.Ab.Lw

