import Derived.Test.YtnncaaakhfaacaaLS
/-
  The order of types.
  Chapter 13: equality of substitutions; the laws SubstAssociates and SubstEqual.
  Chapter 13: the law SubstEqual.
-/
set_option linter.unusedVariables false
set_option linter.unusedSimpArgs false
namespace Go.Ab.Lw
open Ev
set_option maxRecDepth 10000
set_option linter.unusedSimpArgs false

def ordI (a b : Int) : Int := if a < b then -1 else if b < a then 1 else 0
def ordS (a b : List UInt8) : Int := if evBin.bytesLt a b = true then -1 else if a = b then 0 else 1

/-- The first that is not 0. -/
def orI : List Int → Int
  | [] => 0
  | x :: r => if x = 0 then orI r else x

mutual
def cmpT : Ty → Ty → Int
  | ⟨k, n, i, h, as⟩, b => if orI [ordI k b.kind, ordS n b.name, ordI i b.id, ordI h b.home, ordI as.length b.args.length] = 0 then cmpL as b.args
      else orI [ordI k b.kind, ordS n b.name, ordI i b.id, ordI h b.home, ordI as.length b.args.length]
def cmpL : List Ty → List Ty → Int
  | [], [] => 0
  | [], _ :: _ => -1
  | _ :: _, [] => 1
  | a :: r, b :: s => if cmpT a b = 0 then cmpL r s else cmpT a b
end
/-- The heads' order. -/
def cmpH (a b : Ty) : Int := orI [ordI a.kind b.kind, ordS a.name b.name, ordI a.id b.id, ordI a.home b.home, ordI a.args.length b.args.length]
theorem cmpT_eq (a b : Ty) : cmpT a b = if cmpH a b = 0 then cmpL a.args b.args else cmpH a b := by
  cases a; simp only [cmpT, cmpH]; rfl

theorem c113 {n : Int} : (orcL AP).p 113 [vI n] = some [.bool false] := by
  rw [callP_body (af := g113) rfl rfl (by decide)]
  simp [g113]
theorem c114 {n : List UInt8} : (orcL AP).p 114 [.str n] = some [.bool false] := by
  rw [callP_body (af := g114) rfl rfl (by decide)]
  simp [g114]
theorem c81 {a b : Int} : (orcL AP).p 81 [vI a, vI b] = some [vI (ordI a b)] := by
  have h1 := c113 (n := a)
  have h2 := c113 (n := b)
  rw [callP_body (af := g81) rfl rfl (by decide)]
  simp [g81, h1, h2, ordI]
  (repeat' split) <;> rfl
theorem c82 {a b : List UInt8} : (orcL AP).p 82 [.str a, .str b] = some [vI (ordS a b)] := by
  have h1 := c114 (n := a)
  have h2 := c114 (n := b)
  rw [callP_body (af := g82) rfl rfl (by decide)]
  by_cases e1 : evBin.bytesLt a b = true
  · simp [g82, h1, h2, ordS, e1]
  · have e1 : evBin.bytesLt a b = false := by simpa using e1
    by_cases e2 : a = b
    · subst e2
      simp [g82, h1, h2, ordS, e1]
    · simp [g82, h1, h2, ordS, e1, e2]
theorem c84 {a b : Int} : (orcL AP).p 84 [vI a, vI b] = some [vI (ordI a b)] := by
  rw [callP_body (af := g84) rfl rfl (by decide)]
  simp [g84, ordI]
  (repeat' split) <;> rfl
theorem c80 {a b c d e : Int} : (orcL AP).p 80 [.lst [vI a, vI b, vI c, vI d, vI e]] = some [vI (orI [a, b, c, d, e])] := by
  rw [callP_body (af := g80) rfl rfl (by decide)]
  by_cases h1 : a = 0
  · by_cases h2 : b = 0
    · by_cases h3 : c = 0
      · by_cases h4 : d = 0
        · by_cases h5 : e = 0
          · simp (disch := omega) [-getElem?_pos, g80, g80L0_eq, g80B0, wrap_id, orI, h1, h2, h3, h4, h5]
          · simp (disch := omega) [-getElem?_pos, g80, g80L0_eq, g80B0, wrap_id, orI, h1, h2, h3, h4, h5]
        · simp (disch := omega) [-getElem?_pos, g80, g80L0_eq, g80B0, wrap_id, orI, h1, h2, h3, h4]
      · simp (disch := omega) [-getElem?_pos, g80, g80L0_eq, g80B0, wrap_id, orI, h1, h2, h3]
    · simp (disch := omega) [-getElem?_pos, g80, g80L0_eq, g80B0, wrap_id, orI, h1, h2]
  · simp (disch := omega) [-getElem?_pos, g80, g80L0_eq, g80B0, wrap_id, orI, h1]

def R83 (as bs : List Ty) (sh : Sh) (l : Int) (c : Int) (eq : Bool) : Option (AExit × St) :=
  if eq = true then some (.exit 0, ⟨[(0, .pv (.lst (as.map Ty.pv))), (1, .pv (.lst (bs.map Ty.pv))), (2, .fn 35 []), (11, .pv (.lst (as.map Ty.pv))), (12, .pv (vI l)), (13, .pv (vI l)), (14, .pv (.bool false))], [], sh, []⟩)
  else some (.ret, ⟨[(6, .pv (vI c))], [], sh, []⟩)
theorem L83 {as bs : List Ty} (hS : Sm as) (hl : as.length = bs.length) (h : ∀ x ∈ as, ∀ y, (orcL AP).i 35 [.pv x.pv, .pv y.pv] [] [] = some ([.pv (vI (cmpT x y))], [], [])) : ∀ (n i : Nat), as.length - i = n → i ≤ as.length →
    cl AP g83L0 ⟨[(0, .pv (.lst (as.map Ty.pv))), (1, .pv (.lst (bs.map Ty.pv))), (2, .fn 35 []), (11, .pv (.lst (as.map Ty.pv))), (12, .pv (vI as.length)), (13, .pv (vI i))], [], [], []⟩ =
      R83 as bs [] as.length (cmpL (as.drop i) (bs.drop i)) (decide (cmpL (as.drop i) (bs.drop i) = 0))
  | 0, i, hn, hi => by
    have : i = as.length := by omega
    subst this
    rw [g83L0_eq, dropN (l := bs) (by omega)]
    simp [g83B0, R83, cmpL]
  | n + 1, i, hn, hi => by
    have hi : i < as.length := by omega
    obtain ⟨x, hx⟩ := getO hi
    obtain ⟨y, hy⟩ := getO (hl ▸ hi)
    have hc := h x (memO hx) y
    have ih := L83 hS hl h n (i + 1) (by omega) (by omega)
    unfold Sm at hS
    have hb : ¬ bs.length ≤ i := by omega
    rw [g83L0_eq] at ih ⊢
    rw [dropC hx, dropC hy]
    simp at ih hc
    by_cases e : cmpT x y = 0
    · rw [e] at hc
      simp (disch := omega) [-getElem?_pos, g83B0, hx, hy, hi, hb, hc, wrap_id]
      rw [g83L0_eq]
      simp [ih, cmpL, e]
    · simp (disch := omega) [-getElem?_pos, g83B0, hx, hy, hi, hb, hc, wrap_id, e, R83, cmpL]

theorem cmpH_len {a b : Ty} (h : cmpH a b = 0) : a.args.length = b.args.length := by
  simp only [cmpH, orI] at h
  have : ordI a.args.length b.args.length = 0 := by
    split at h
    · split at h
      · split at h
        · split at h
          · split at h
            · assumption
            · contradiction
          · contradiction
        · contradiction
      · contradiction
    · contradiction
  unfold ordI at this
  split at this
  · cases this
  · split at this
    · cases this
    · omega

theorem c35_both {a : Ty} (hO : a.Ok) : ∀ b : Ty, (orcL AP).p 35 [a.pv, b.pv] = some [vI (cmpT a b)] ∧ (orcL AP).i 35 [.pv a.pv, .pv b.pv] [] [] = some ([.pv (vI (cmpT a b))], [], []) := by
  revert hO
  refine Ty.rec1 (p := fun a => a.Ok → ∀ b : Ty, (orcL AP).p 35 [a.pv, b.pv] = some [vI (cmpT a b)] ∧ (orcL AP).i 35 [.pv a.pv, .pv b.pv] [] [] = some ([.pv (vI (cmpT a b))], [], [])) ?_ a
  intro a ih hO b
  have k1 := c81 (a := a.kind) (b := b.kind)
  have k2 := c82 (a := a.name) (b := b.name)
  have k3 := c81 (a := a.id) (b := b.id)
  have k4 := c81 (a := a.home) (b := b.home)
  have k5 := c81 (a := a.args.length) (b := b.args.length)
  have k6 := c80 (a := ordI a.kind b.kind) (b := ordS a.name b.name) (c := ordI a.id b.id) (d := ordI a.home b.home) (e := ordI a.args.length b.args.length)
  have eH : orI [ordI a.kind b.kind, ordS a.name b.name, ordI a.id b.id, ordI a.home b.home, ordI a.args.length b.args.length] = cmpH a b := rfl
  rw [eH] at k6
  have hS := hO.sm
  by_cases e : cmpH a b = 0
  · have hl := cmpH_len e
    have h := L83 hS hl (fun x hx y => (ih x hx (hO.kid x hx) y).2) _ 0 rfl (by omega)
    rw [g83L0_eq] at h
    simp at h
    have c83 : (orcL AP).i 83 [.pv (.lst (a.args.map Ty.pv)), .pv (.lst (b.args.map Ty.pv)), .fn 35 []] [] [] = some ([.pv (vI (cmpL a.args b.args))], [], []) := by
      rw [callI_body (af := g83) rfl (by simp [g83])]
      by_cases e2 : cmpL a.args b.args = 0
      · simp [R83, e2] at h
        have hlt : ¬ a.args.length < b.args.length := by omega
        simp [g83, g83L0_eq, h, hlt, e2]
      · simp [R83, e2] at h
        simp [g83, g83L0_eq, h]
    rw [e] at k6
    rw [cmpT_eq, if_pos e]
    constructor
    · rw [callP_body (af := g35) rfl rfl (by decide)]
      simp [g35, k1, k2, k3, k4, k5, k6, c83]
    · rw [callI_body (af := g35) rfl (by simp [g35])]
      simp [g35, k1, k2, k3, k4, k5, k6, c83]
  · rw [cmpT_eq, if_neg e]
    constructor
    · rw [callP_body (af := g35) rfl rfl (by decide)]
      simp [g35, k1, k2, k3, k4, k5, k6, e]
    · rw [callI_body (af := g35) rfl (by simp [g35])]
      simp [g35, k1, k2, k3, k4, k5, k6, e]

theorem c35 {a b : Ty} (hO : a.Ok) : (orcL AP).p 35 [a.pv, b.pv] = some [vI (cmpT a b)] := (c35_both hO b).1
theorem c33 {a b : Ty} (hO : a.Ok) : (orcL AP).p 33 [a.pv, b.pv] = some [.bool (cmpT a b == 0)] := by
  have h := c35 (b := b) hO
  simp at h
  rw [callP_body (af := g33) rfl rfl (by decide)]
  simp [g33, h]
end Go.Ab.Lw

namespace Go.Ab.Lw
open Ev
set_option maxRecDepth 10000
set_option linter.unusedSimpArgs false

theorem bytesLt_irr : ∀ s : List UInt8, evBin.bytesLt s s = false
  | [] => rfl
  | a :: r => by simp [evBin.bytesLt, bytesLt_irr r]
theorem ordI_zero {a b : Int} : ordI a b = 0 ↔ a = b := by
  unfold ordI
  split
  · constructor
    · intro h; cases h
    · intro h; omega
  · split
    · constructor
      · intro h; cases h
      · intro h; omega
    · constructor
      · intro _; omega
      · intro _; rfl
theorem ordS_zero {a b : List UInt8} : ordS a b = 0 ↔ a = b := by
  unfold ordS
  split
  · rename_i h
    constructor
    · intro e; cases e
    · intro e; subst e; rw [bytesLt_irr] at h; cases h
  · split
    · rename_i h; simp [h]
    · rename_i h; simp [h]
theorem orI_zero : ∀ {l : List Int}, orI l = 0 ↔ ∀ x ∈ l, x = 0
  | [] => by simp [orI]
  | x :: r => by
    simp only [orI]
    split
    · rename_i h; rw [orI_zero]; simp [h]
    · rename_i h; constructor
      · intro e; exact absurd e h
      · intro e; exact e x (by simp)
theorem cmpH_zero {a b : Ty} : cmpH a b = 0 ↔ a.kind = b.kind ∧ a.name = b.name ∧ a.id = b.id ∧ a.home = b.home ∧ a.args.length = b.args.length := by
  unfold cmpH
  rw [orI_zero]
  simp [ordI_zero, ordS_zero]
  intros; omega
theorem cmpT_zero (a : Ty) : ∀ b, cmpT a b = 0 ↔ a = b := by
  refine Ty.rec1 (p := fun a => ∀ b, cmpT a b = 0 ↔ a = b) ?_ a
  intro a ih b
  have key : ∀ (as bs : List Ty), (∀ x ∈ as, ∀ b, cmpT x b = 0 ↔ x = b) → (cmpL as bs = 0 ↔ as = bs) := by
    intro as
    induction as with
    | nil => intro bs _; cases bs <;> simp [cmpL]
    | cons x r ih =>
      intro bs h
      cases bs with
      | nil => simp [cmpL]
      | cons y s =>
        simp only [cmpL]
        have hx := h x (by simp) y
        have hr := ih s (fun z hz => h z (by simp [hz]))
        split
        · rename_i e; rw [hr]; simp [hx.1 e]
        · rename_i e; constructor
          · intro e'; exact absurd e' e
          · intro e'; simp at e'; exact absurd (hx.2 e'.1) e
  rw [cmpT_eq]
  split
  · rename_i h
    rw [key _ _ ih]
    rw [cmpH_zero] at h
    cases a; cases b; simp at h ⊢; simp [h]
  · rename_i h
    constructor
    · intro e; exact absurd e h
    · intro e; subst e; exact absurd (cmpH_zero.2 ⟨rfl, rfl, rfl, rfl, rfl⟩) h
theorem cmpT_beq (a b : Ty) : (cmpT a b == 0) = decide (a = b) := by
  by_cases h : a = b
  · rw [decide_eq_true h, (cmpT_zero a b).2 h]; rfl
  · rw [decide_eq_false h]; simpa using fun e => h ((cmpT_zero a b).1 e)
theorem c33e {a b : Ty} (hO : a.Ok) : (orcL AP).p 33 [a.pv, b.pv] = some [.bool (decide (a = b))] := by rw [c33 hO, cmpT_beq]

theorem c87 {n : Int} : (orcL AP).p 87 [vI n] = some [(tyVar n).pv] := by
  rw [callP_body (af := g87) rfl rfl (by decide)]
  simp [g87, tyVar]

/-- Equal for one variable. -/
noncomputable def eqV (a b : List As) (id : Int) : Bool := decide ((tyVar id).sub a = (tyVar id).sub b)

theorem tyVar_ok {n : Int} : (tyVar n).Ok := ⟨by simp [tyVar, Sm], by simp [tyVar]⟩
theorem tyVar_wf {n : Int} : (tyVar n).Wf := ⟨by simp [tyVar], by simp [tyVar]⟩

theorem c86 {a b : List As} (ha : Sm a) (hb : Sm b) (hao : ∀ x ∈ a, x.ty.Ok) {sh : Sh} (hq : Quiet sh) (h0 : sh[0]? = some (some [.pv (.lst (a.map As.pv))])) (h1 : sh[1]? = some (some [.pv (.lst (b.map As.pv))])) (id : Int) :
    (orcL AP).i 86 [.pv (vI id), .sptr 0 0, .sptr 1 0] sh [] = some ([.pv (.bool (!eqV a b id))], sh, []) := by
  have k0 := c87 (n := id)
  have k1 := c21 ha (tyVar_ok (n := id)) tyVar_wf
  have k2 := c21 hb (tyVar_ok (n := id)) tyVar_wf
  have k3 := c33e (a := (tyVar id).sub a) (b := (tyVar id).sub b) (sub_ok hao tyVar_ok)
  rw [callI_body (af := g86) rfl (by simp [g86])]
  simp at k0 k1 k2 k3
  simp [g86, h0, h1, hq.norm, hq.shift, k0, k1, k2, k3, eqV]

/-- The first place where something holds. -/
def idxB {α : Type} (p : α → Bool) : List α → Option Nat
  | [] => none
  | a :: r => if p a = true then some 0 else (idxB p r).map (· + 1)
theorem idxB_none {α : Type} {p : α → Bool} : ∀ {l : List α}, idxB p l = none ↔ ∀ x ∈ l, p x = false
  | [] => by simp [idxB]
  | a :: r => by
    simp only [idxB]
    by_cases h : p a = true
    · simp [h]
    · have h : p a = false := by simpa using h
      simp [h, idxB_none]
def R115 (F : AV) (s : List Int) (sh : Sh) (i : Nat) : Option Nat → Option (AExit × St)
  | some k => some (.ret, ⟨[(4, .pv (vI (i + k : Nat)))], [], sh, []⟩)
  | none => some (.exit 0, ⟨[(0, .pv (.lst (s.map vI))), (1, F), (7, .pv (vI s.length)), (8, .pv (vI s.length)), (9, .pv (.bool false))], [], sh, []⟩)
theorem L115 {s : List Int} (hS : Sm s) {sh : Sh} (hq : Quiet sh) {g : Nat} {cap : List AV} {p : Int → Bool} (hcap : flatB.flatL cap = true) (hpass : passB.passL cap = true) (harg : argsOf [] 1 cap = cap) (hnrm : ∀ old ts, normL old ts cap = (cap, old, ts)) (hpo : cap.all passO = true)
    (hf : ∀ x, (orcL AP).i g (.pv (vI x) :: cap) sh [] = some ([.pv (.bool (p x))], sh, [])) : ∀ (n i : Nat), s.length - i = n → i ≤ s.length →
    cl AP g115L0 ⟨[(0, .pv (.lst (s.map vI))), (1, .fn g cap), (7, .pv (vI s.length)), (8, .pv (vI i))], [], sh, []⟩ = R115 (.fn g cap) s sh i (idxB p (s.drop i))
  | 0, i, hn, hi => by
    have : i = s.length := by omega
    subst this
    rw [g115L0_eq]
    simp [g115B0, idxB, R115, hq.norm, hcap]
  | n + 1, i, hn, hi => by
    have hi : i < s.length := by omega
    obtain ⟨x, hx⟩ := getO hi
    unfold Sm at hS
    have ih := L115 hS hq hcap hpass harg hnrm hpo hf n (i + 1) (by omega) (by omega)
    simp at ih
    have hc := hf x
    rw [g115L0_eq, dropC hx]
    cases e : p x with
    | true =>
      rw [e] at hc
      simp (disch := omega) [-getElem?_pos, g115B0, hx, hi, e, idxB, R115, hq.norm, hq.shift, hc, hcap, hpass, harg, hnrm, hpo]
    | false =>
      rw [e] at hc
      simp (disch := omega) [-getElem?_pos, g115B0, hx, hi, e, idxB, wrap_id, hq.norm, hq.shift, hc, ih, hcap, hpass, harg, hnrm, hpo]
      cases idxB p (s.drop (i + 1)) with
      | none => rfl
      | some k => simp [R115]; omega
theorem c85 {s : List Int} (hS : Sm s) {sh : Sh} (hq : Quiet sh) {g : Nat} {cap : List AV} {p : Int → Bool} (hcap : flatB.flatL cap = true) (hpass : passB.passL cap = true) (harg : argsOf [] 1 cap = cap) (hnrm : ∀ old ts, normL old ts cap = (cap, old, ts)) (hpo : cap.all passO = true)
    (hf : ∀ x, (orcL AP).i g (.pv (vI x) :: cap) sh [] = some ([.pv (.bool (p x))], sh, [])) : (orcL AP).i 85 [.pv (.lst (s.map vI)), .fn g cap] sh [] = some ([.pv (.bool (s.any p))], sh, []) := by
  have h := L115 hS hq hcap hpass harg hnrm hpo hf _ 0 rfl (by omega)
  simp at h
  have c115 : (orcL AP).i 115 [.pv (.lst (s.map vI)), .fn g cap] sh [] = some ([.pv (vI (match idxB p s with | some k => k | none => -1))], sh, []) := by
    rw [callI_body (af := g115) rfl (by simp [g115])]
    cases hi : idxB p s with
    | none => rw [hi] at h; simp [R115] at h; simp [g115, h, hq.norm, hcap]
    | some k => rw [hi] at h; simp [R115] at h; simp [g115, h, hq.norm, hcap]
  rw [callI_body (af := g85) rfl (by simp [g85])]
  cases hi : idxB p s with
  | none =>
    rw [hi] at c115
    have : s.any p = false := by rw [List.any_eq_false]; intro x hx; rw [idxB_none.1 hi x hx]; simp
    simp [g85, c115, hq.norm, hq.shift, hcap, hpass, hnrm, this]
  | some k =>
    rw [hi] at c115
    have : s.any p = true := by
      cases e : s.any p with
      | true => rfl
      | false => rw [List.any_eq_false] at e; have := idxB_none.2 (fun x hx => by simpa using e x hx); rw [hi] at this; cases this
    simp [g85, c115, hq.norm, hq.shift, hcap, hpass, hnrm, this]

noncomputable def eqS (a b : List As) (ids : List Int) : Bool := ids.all (eqV a b)
theorem any_not {α : Type} {p : α → Bool} {l : List α} : (!(l.any fun x => !p x)) = l.all p := by
  induction l with
  | nil => rfl
  | cons a r ih => simp [← ih]
theorem c38 {a b : List As} (ha : Sm a) (hb : Sm b) (hao : ∀ x ∈ a, x.ty.Ok) {ids : List Int} (hi : Sm ids) : (orcL AP).p 38 [.lst (a.map As.pv), .lst (b.map As.pv), .lst (ids.map vI)] = some [.bool (eqS a b ids)] := by
  have hq : Quiet [some [.pv (.lst (a.map As.pv))], some [.pv (.lst (b.map As.pv))]] := by
    intro cs hc v hv; simp at hc; rcases hc with rfl | rfl <;> (simp at hv; exact ⟨_, hv⟩)
  have h := c85 hi hq (g := 86) (cap := [.sptr 0 0, .sptr 1 0]) (p := fun x => !eqV a b x) rfl rfl rfl (fun _ _ => rfl) rfl (fun x => c86 ha hb hao hq rfl rfl x)
  rw [callP_body (af := g38) rfl rfl (by decide)]
  have e := any_not (p := eqV a b) (l := ids)
  simp only [eqS, ← e]
  simp [g38, h]

theorem L39 {a b : List As} (ha : Sm a) (hb : Sm b) (hao : ∀ x ∈ a, x.ty.Ok) {s : List Int} (hS : Sm s) : ∀ (n i : Nat), s.length - i = n → i ≤ s.length →
    cl AP g39L0 ⟨[(0, .pv (.lst (a.map As.pv))), (1, .pv (.lst (b.map As.pv))), (2, .pv (.lst (s.map vI))), (7, .pv (vI i))], [], [], []⟩ =
      if eqS a b (s.drop i) = true then some (.exit 0, ⟨[(0, .pv (.lst (a.map As.pv))), (1, .pv (.lst (b.map As.pv))), (2, .pv (.lst (s.map vI))), (7, .pv (vI s.length)), (11, .pv (.bool false))], [], [], []⟩)
      else some (.ret, ⟨[(6, .pv (.bool false))], [], [], []⟩)
  | 0, i, hn, hi => by
    have : i = s.length := by omega
    subst this
    rw [g39L0_eq]
    simp [g39B0, eqS]
  | n + 1, i, hn, hi => by
    have hi : i < s.length := by omega
    obtain ⟨x, hx⟩ := getO hi
    unfold Sm at hS
    have ih := L39 ha hb hao hS n (i + 1) (by omega) (by omega)
    simp at ih
    have k0 := c63 (n := x)
    have k1 := c22 ha (tyVar_ok (n := x))
    have k2 := c22 hb (tyVar_ok (n := x))
    have k3 := c20 (a := (tyVar x).sub a) (b := (tyVar x).sub b) (sub_ok hao tyVar_ok)
    have e : eqS a b (x :: s.drop (i + 1)) = (decide ((tyVar x).sub a = (tyVar x).sub b) && eqS a b (s.drop (i + 1))) := rfl
    rw [g39L0_eq, dropC hx, e]
    have hv : tyVar x = ⟨1, [], x, 0, []⟩ := rfl
    rw [← hv] at k0
    simp at k0 k1 k2 k3
    by_cases h : (tyVar x).sub a = (tyVar x).sub b
    · rw [decide_eq_true h] at k3 ⊢
      simp (disch := omega) [-getElem?_pos, g39B0, hx, hi, k0, k1, k2, k3, wrap_id, ih]
    · rw [decide_eq_false h] at k3 ⊢
      simp (disch := omega) [-getElem?_pos, g39B0, hx, hi, k0, k1, k2, k3, wrap_id, ih]
theorem c39 {a b : List As} (ha : Sm a) (hb : Sm b) (hao : ∀ x ∈ a, x.ty.Ok) {ids : List Int} (hi : Sm ids) : (orcL AP).p 39 [.lst (a.map As.pv), .lst (b.map As.pv), .lst (ids.map vI)] = some [.bool (eqS a b ids)] := by
  have h := L39 ha hb hao hi _ 0 rfl (by omega)
  simp at h
  rw [callP_body (af := g39) rfl rfl (by decide)]
  cases e : eqS a b ids <;> simp [e] at h <;> simp [g39, h]

theorem eqS_iff {a b : List As} {ids : List Int} : eqS a b ids = true ↔ ∀ id ∈ ids, (tyVar id).sub a = (tyVar id).sub b := by
  simp [eqS, eqV]
theorem eqS_refl {a : List As} {ids : List Int} : eqS a a ids = true := eqS_iff.2 fun _ _ => rfl

theorem sub_nil (t : Ty) : t.sub [] = t := by
  refine Ty.rec1 (p := fun t => t.sub [] = t) ?_ t
  intro t ih
  rw [Ty.sub_eq]
  split
  · rfl
  · have : t.args.map (Ty.sub []) = t.args := by
      conv => rhs; rw [← List.map_id t.args]
      exact List.map_congr_left fun x hx => ih x hx
    rw [this]
    cases t; rfl

/-- **The law SubstAssociates.** -/
theorem law8 (bits : Int) (L : List Int) : (orcL AP).p 8 [vI bits, .lst (L.map vI)] = some [.bool true] := by
  have c0 := c14
  have c1 := c15 (l := L)
  rw [callP_body (af := g8) rfl rfl (by decide)]
  by_cases hL : L.length ≤ 60
  · have hLs : Sm L := by unfold Sm; omega
    obtain ⟨a, b, t, j, e, ⟨a1, a2, _⟩, ⟨b1, b2, _⟩, mt, hj⟩ := c16 (L := L) hLs bits
    obtain ⟨ds, ed, hda, hds⟩ := c32 bits
    obtain ⟨c, j2, ec, c1', c2, _, _⟩ := c37 hLs hds hda hj
    have ao : ∀ x ∈ a, x.ty.Ok := fun x hx => (a2 x hx).1.ok leavesS_bare
    have aw : ∀ x ∈ a, x.ty.Wf := fun x hx => (a2 x hx).1.wf leavesS_bare
    have bo : ∀ x ∈ b, x.ty.Ok := fun x hx => (b2 x hx).1.ok leavesS_bare
    have bw : ∀ x ∈ b, x.ty.Wf := fun x hx => (b2 x hx).1.wf leavesS_bare
    have co : ∀ x ∈ c, x.ty.Ok := fun x hx => (c2 x hx).1.ok leavesS_bare
    have cw : ∀ x ∈ c, x.ty.Wf := fun x hx => (c2 x hx).1.wf leavesS_bare
    have l1 := comp_len (a := a) (b := b)
    have l2 := comp_len (a := b) (b := c)
    have l3 := comp_len (a := comp a b) (b := c)
    have l4 := comp_len (a := a) (b := comp b c)
    have l5 := comp_len (a := a) (b := [])
    have l6 := comp_len (a := []) (b := a)
    simp at l5 l6
    have abo := comp_ok ao bo
    have bco := comp_ok bo co
    have d1 := c17 (a := a) (b := b) (by omega) (fun x hx => ⟨ao x hx, aw x hx⟩)
    have d2 := c17 (a := comp a b) (b := c) (by omega) (fun x hx => ⟨abo x hx, comp_wf aw bw x hx⟩)
    have d3 := c17 (a := b) (b := c) (by omega) (fun x hx => ⟨bo x hx, bw x hx⟩)
    have d4 := c17 (a := a) (b := comp b c) (by omega) (fun x hx => ⟨ao x hx, aw x hx⟩)
    have d5 := c17 (a := a) (b := []) (by simp; omega) (fun x hx => ⟨ao x hx, aw x hx⟩)
    have d6 := c17 (a := []) (b := a) (by simp; omega) (by simp)
    have s1 := c38 (a := comp (comp a b) c) (b := comp a (comp b c)) (ids := [0, 1, 2, 3, 4]) (by unfold Sm; omega) (by unfold Sm; omega) (comp_ok abo co) (by simp [Sm])
    have s2 := c38 (a := comp a []) (b := a) (ids := [0, 1, 2, 3, 4]) (by unfold Sm; omega) (by unfold Sm; omega) (comp_ok ao (by simp)) (by simp [Sm])
    have s3 := c38 (a := comp [] a) (b := a) (ids := [0, 1, 2, 3, 4]) (by unfold Sm; omega) (by unfold Sm; omega) (comp_ok (by simp) ao) (by simp [Sm])
    have t1 : eqS (comp (comp a b) c) (comp a (comp b c)) [0, 1, 2, 3, 4] = true := eqS_iff.2 fun id _ => by simp only [comp_sub]
    have t2 : eqS (comp a []) a [0, 1, 2, 3, 4] = true := eqS_iff.2 fun id _ => by rw [comp_sub, sub_nil]
    have t3 : eqS (comp [] a) a [0, 1, 2, 3, 4] = true := eqS_iff.2 fun id _ => by rw [comp_sub, sub_nil]
    rw [t1] at s1; rw [t2] at s2; rw [t3] at s3
    simp at e ec ed d5 d6 s1 s2 s3
    simp [hL] at c1
    simp [g8, c0, c1, e, ed, ec, d1, d2, d3, d4, d5, d6, s1, s2, s3]
  · simp [hL] at c1
    simp [g8, c0, c1]
end Go.Ab.Lw

namespace Go.Ab.Lw
open Ev
set_option maxRecDepth 10000
set_option linter.unusedSimpArgs false

@[simp] theorem headSz_vI {l : List Int} : headSz 1 (l.map vI) = true := by cases l <;> simp

def R9 (ids : List Int) (a b : List As) (sh : Sh) (l : List Int) : Option (AExit × St) :=
  some (.exit 0, ⟨[(2, .pv (.lst (ids.map vI))), (7, .own (a.map As.pv) 0), (8, .own (b.map As.pv) 1), (11, .own (l.map vI) 2), (12, .pv (vI ids.length)), (34, .pv (.bool false))], [], sh, [a.length, b.length, l.length]⟩)
theorem L9 {ids : List Int} (hS : Sm ids) {a b : List As} {L : List Int} {j : Int} : ∀ (n i : Nat), ids.length - i = n → i ≤ ids.length → ∀ acc : List Int, acc.length = i →
    ∃ l : List Int, cl AP g9L0 ⟨[(2, .pv (.lst (ids.map vI))), (7, .own (a.map As.pv) 0), (8, .own (b.map As.pv) 1), (11, .own (acc.map vI) 2), (12, .pv (vI i))], [], tp L j, [a.length, b.length, acc.length]⟩ = R9 ids a b (tp L j) l ∧ l.length = ids.length
  | 0, i, hn, hi, acc, ha => by
    have : i = ids.length := by omega
    subst this
    refine ⟨acc, ?_, ha⟩
    rw [g9L0_eq]
    simp [g9B0, R9]
  | n + 1, i, hn, hi, acc, ha => by
    have hi : i < ids.length := by omega
    obtain ⟨x, hx⟩ := getO hi
    unfold Sm at hS
    obtain ⟨r, e, _, _⟩ := c26 (n := x) (m := 6) (by omega) (by omega)
    obtain ⟨l, ih, hl⟩ := L9 hS (a := a) (b := b) (L := L) (j := j) n (i + 1) (by omega) (by omega) (acc ++ [r]) (by simp; omega)
    have hb : (acc.length + 1) * 8 ≤ 140737488355328 := by omega
    refine ⟨l, ?_, hl⟩
    rw [g9L0_eq] at ih ⊢
    simp at ih
    simp (disch := omega) [-getElem?_pos, g9B0, hx, hi, e, hb, wrap_id]
    rw [g9L0_eq]
    simp [ih]

/-- **The law SubstEqual.** -/
theorem law9 (bits : Int) (L ids : List Int) : (orcL AP).p 9 [vI bits, .lst (L.map vI), .lst (ids.map vI)] = some [.bool true] := by
  have c0 := c14
  have c1 := c15 (l := L)
  rw [callP_body (af := g9) rfl rfl (by decide)]
  by_cases hL : L.length ≤ 60
  · by_cases hI : ids.length ≤ 6
    · have hLs : Sm L := by unfold Sm; omega
      have hIs : Sm ids := by unfold Sm; omega
      obtain ⟨a, b, t, j, e, ⟨a1, a2, _⟩, ⟨b1, b2, _⟩, mt, hj⟩ := c16 (L := L) hLs bits
      have ao : ∀ x ∈ a, x.ty.Ok := fun x hx => (a2 x hx).1.ok leavesS_bare
      obtain ⟨l, h, hl⟩ := L9 hIs (a := a) (b := b) (L := L) (j := j) ids.length 0 (by omega) (by omega) [] rfl
      have s1 := c38 (a := a) (b := b) (ids := l) (by unfold Sm; omega) (by unfold Sm; omega) ao (by unfold Sm; omega)
      have s2 := c39 (a := a) (b := b) (ids := l) (by unfold Sm; omega) (by unfold Sm; omega) ao (by unfold Sm; omega)
      have s3 := c38 (a := a) (b := a) (ids := l) (by unfold Sm; omega) (by unfold Sm; omega) ao (by unfold Sm; omega)
      rw [eqS_refl] at s3
      rw [g9L0_eq] at h
      simp [R9] at h e
      simp [hL] at c1
      have hI' : ¬ ((6 : Int) < ids.length) := by omega
      simp [g9, c0, c1, hI', e, g9L0_eq, h, s1, s2, s3]
    · simp [hL] at c1
      have hI' : (6 : Int) < ids.length := by omega
      simp [g9, c0, c1, hI']
  · simp [hL] at c1
    simp [g9, c0, c1]
end Go.Ab.Lw

