import Derived.Test.YtnncaaakhfaacaaLN
/-
  Types and substitutions: what replaces variables.
  Types: rebuilding with new leaves.
  Types and substitutions: the program's replacing, finding, composing.
  Substitutions: composing; equality of types and of substitutions.
  Chapter 13: the plain laws, and the law that composition composes.
-/
set_option linter.unusedVariables false
set_option linter.unusedSimpArgs false
namespace Go.Ab.Lw
open Ev
set_option maxRecDepth 10000
set_option linter.unusedSimpArgs false

/-- No list within is long. -/
inductive Ty.Ok : Ty → Prop
  | mk {t : Ty} : Sm t.args → (∀ x ∈ t.args, Ty.Ok x) → Ty.Ok t
theorem Ty.Ok.sm {t : Ty} (h : t.Ok) : Sm t.args := by cases h; assumption
theorem Ty.Ok.kid {t : Ty} (h : t.Ok) : ∀ x ∈ t.args, x.Ok := by cases h; assumption
/-- Variables have no parts. -/
inductive Ty.Wf : Ty → Prop
  | mk {t : Ty} : (t.kind = 1 → t.args = []) → (∀ x ∈ t.args, Ty.Wf x) → Ty.Wf t
theorem Ty.Wf.var {t : Ty} (h : t.Wf) : t.kind = 1 → t.args = [] := by cases h; assumption
theorem Ty.Wf.kid {t : Ty} (h : t.Wf) : ∀ x ∈ t.args, x.Wf := by cases h; assumption

/-- The first assignment of a variable. -/
def fnd : List As → Int → Option Ty
  | [], _ => none
  | a :: r, id => if a.id = id then some a.ty else fnd r id

mutual
def Ty.sub (s : List As) : Ty → Ty
  | ⟨k, n, i, h, as⟩ => if k = 1 then (fnd s i).getD ⟨k, n, i, h, as⟩ else ⟨k, n, i, h, Ty.subs s as⟩
def Ty.subs (s : List As) : List Ty → List Ty
  | [] => []
  | a :: r => a.sub s :: Ty.subs s r
end
theorem Ty.subs_map (s : List As) : ∀ l : List Ty, Ty.subs s l = l.map (Ty.sub s)
  | [] => by simp [Ty.subs]
  | a :: r => by simp [Ty.subs, Ty.subs_map s r]
theorem Ty.sub_eq (s : List As) (t : Ty) : t.sub s = if t.kind = 1 then (fnd s t.id).getD t else ⟨t.kind, t.name, t.id, t.home, t.args.map (Ty.sub s)⟩ := by
  cases t; simp only [Ty.sub, Ty.subs_map]

def R46a (s : List As) (t : Ty) : Option Ty → Option (AExit × St)
  | some a => some (.ret, ⟨[(4, .lptr 4 0)], [(4, [.pv (vI a.kind), .pv (.str a.name), .pv (vI a.id), .pv (vI a.home), .pv (.lst (a.args.map Ty.pv))])], [], [0]⟩)
  | none => some (.exit 0, ⟨[(1, .pv (.lst (s.map As.pv))), (2, .lptr 2 0), (4, .lptr 4 0), (5, .pv (vI s.length)), (14, .pv (.bool false))],
      [(2, [.pv (vI t.kind), .pv (.str t.name), .pv (vI t.id), .pv (vI t.home), .pv (.lst (t.args.map Ty.pv))]), (4, [.pv (vI 0), .pv (.str []), .pv (vI 0), .pv (vI 0), .own [] 0])], [], [0]⟩)
theorem L46a {s : List As} (hS : Sm s) (t : Ty) : ∀ (n i : Nat), s.length - i = n → i ≤ s.length →
    cl AP g46L0 ⟨[(1, .pv (.lst (s.map As.pv))), (2, .lptr 2 0), (4, .lptr 4 0), (5, .pv (vI i))],
      [(2, [.pv (vI t.kind), .pv (.str t.name), .pv (vI t.id), .pv (vI t.home), .pv (.lst (t.args.map Ty.pv))]), (4, [.pv (vI 0), .pv (.str []), .pv (vI 0), .pv (vI 0), .own [] 0])], [], [0]⟩ = R46a s t (fnd (s.drop i) t.id)
  | 0, i, hn, hi => by
    have : i = s.length := by omega
    subst this
    rw [g46L0_eq]
    simp [g46B0, fnd, R46a]
  | n + 1, i, hn, hi => by
    have hi : i < s.length := by omega
    obtain ⟨x, hx⟩ := getO hi
    unfold Sm at hS
    have ih := L46a hS t n (i + 1) (by omega) (by omega)
    simp at ih
    rw [g46L0_eq, dropC hx]
    by_cases e : x.id = t.id
    · simp (disch := omega) [-getElem?_pos, g46B0, hx, hi, e, fnd, R46a]
    · simp (disch := omega) [-getElem?_pos, g46B0, hx, hi, e, fnd, wrap_id, ih]

theorem L46b {s : List As} {t : Ty} (hS : Sm t.args) (h : ∀ x ∈ t.args, (orcL AP).p 46 [x.pv, .lst (s.map As.pv)] = some [(x.sub s).pv]) : ∀ (n i : Nat), t.args.length - i = n → i ≤ t.args.length → ∀ acc : List Ty, acc = (t.args.take i).map (Ty.sub s) →
    cl AP g46L1 ⟨[(1, .pv (.lst (s.map As.pv))), (2, .lptr 2 0), (4, .lptr 4 0), (6, .lptr 6 0), (7, .pv (vI i))],
      [(2, [.pv (vI t.kind), .pv (.str t.name), .pv (vI t.id), .pv (vI t.home), .pv (.lst (t.args.map Ty.pv))]), (4, [.pv (vI 0), .pv (.str []), .pv (vI 0), .pv (vI 0), .own [] 0]),
        (6, [.pv (vI t.kind), .pv (.str t.name), .pv (vI t.id), .pv (vI t.home), .own (acc.map Ty.pv) 1])], [], [0, acc.length]⟩ =
      some (.exit 2, ⟨[(1, .pv (.lst (s.map As.pv))), (2, .lptr 2 0), (4, .lptr 4 0), (6, .lptr 6 0), (7, .pv (vI t.args.length)), (37, .pv (.bool false))],
      [(2, [.pv (vI t.kind), .pv (.str t.name), .pv (vI t.id), .pv (vI t.home), .pv (.lst (t.args.map Ty.pv))]), (4, [.pv (vI 0), .pv (.str []), .pv (vI 0), .pv (vI 0), .own [] 0]),
        (6, [.pv (vI t.kind), .pv (.str t.name), .pv (vI t.id), .pv (vI t.home), .own ((t.args.map (Ty.sub s)).map Ty.pv) 1])], [], [0, t.args.length]⟩)
  | 0, i, hn, hi, acc, ha => by
    have : i = t.args.length := by omega
    subst this
    subst ha
    rw [g46L1_eq]
    simp [g46B1]
  | n + 1, i, hn, hi, acc, ha => by
    have hi : i < t.args.length := by omega
    obtain ⟨x, hx⟩ := getO hi
    unfold Sm at hS
    have hb : (acc.length + 1) * 64 ≤ 140737488355328 := by subst ha; simp; omega
    have hc := h x (memO hx)
    have ih := L46b hS h n (i + 1) (by omega) (by omega) (acc ++ [x.sub s]) (by rw [List.take_add_one, hx, ha]; simp)
    rw [g46L1_eq] at ih ⊢
    simp at ih hc
    simp (disch := omega) [-getElem?_pos, g46B1, hx, hi, hc, hb, wrap_id]
    rw [g46L1_eq]
    simp [ih]

theorem c46 {s : List As} (hS : Sm s) {t : Ty} (hO : t.Ok) : (orcL AP).p 46 [t.pv, .lst (s.map As.pv)] = some [(t.sub s).pv] := by
  revert hO
  refine Ty.rec1 (p := fun t => t.Ok → (orcL AP).p 46 [t.pv, .lst (s.map As.pv)] = some [(t.sub s).pv]) ?_ t
  intro t ih hO
  rw [callP_body (af := g46) rfl rfl (by decide)]
  by_cases hk : t.kind = 1
  · have h := L46a hS t _ 0 rfl (by omega)
    rw [g46L0_eq] at h
    simp at h
    cases hf : fnd s t.id with
    | none =>
      rw [hf] at h
      simp [R46a, hk] at h
      simp [g46, hk, g46L0_eq, h, Ty.sub_eq, hf]
    | some a =>
      rw [hf] at h
      simp [R46a, hk] at h
      simp [g46, hk, g46L0_eq, h, Ty.sub_eq, hf]
  · have h := L46b (s := s) hO.sm (fun x hx => ih x hx (hO.kid x hx)) _ 0 rfl (by omega) [] (by simp)
    rw [g46L1_eq] at h
    simp at h
    simp [g46, hk, g46L1_eq, h, Ty.sub_eq]
end Go.Ab.Lw

namespace Go.Ab.Lw
open Ev
set_option maxRecDepth 10000
set_option linter.unusedSimpArgs false

/-- Shared memory that holds plain data alone. -/
def Quiet (sh : Sh) : Prop := ∀ cs, some cs ∈ sh → ∀ v ∈ cs, ∃ p, v = AV.pv p

theorem normL_pv {old ts : Toks} : ∀ {cs : List AV}, (∀ v ∈ cs, ∃ p, v = AV.pv p) → normL old ts cs = (cs, old, ts)
  | [], _ => rfl
  | v :: r, h => by
    obtain ⟨p, rfl⟩ := h v (by simp)
    simp only [normL_cons, normV_pv, normL_pv (cs := r) (fun v hv => h v (by simp [hv]))]
theorem Quiet.norm : ∀ {sh : Sh}, Quiet sh → ∀ old ts, normS old ts sh = (sh, old, ts)
  | [], _, _, _ => rfl
  | none :: sh, h, old, ts => by
    simp only [normS_none, Quiet.norm (sh := sh) (fun cs hc => h cs (by simp [hc]))]
  | some cs :: sh, h, old, ts => by
    simp only [normS_some, normL_pv (h cs (by simp)), Quiet.norm (sh := sh) (fun cs hc => h cs (by simp [hc]))]
theorem shiftL_pv {n : Nat} : ∀ {cs : List AV}, (∀ v ∈ cs, ∃ p, v = AV.pv p) → cs.map (shiftV n) = cs
  | [], _ => rfl
  | v :: r, h => by
    obtain ⟨p, rfl⟩ := h v (by simp)
    simp only [List.map_cons, shiftV_pv, shiftL_pv (cs := r) (fun v hv => h v (by simp [hv]))]
theorem Quiet.shift : ∀ {sh : Sh}, Quiet sh → ∀ n, shiftS n sh = sh
  | [], _, _ => rfl
  | none :: sh, h, n => by
    simp only [shiftS_none, Quiet.shift (sh := sh) (fun cs hc => h cs (by simp [hc]))]
  | some cs :: sh, h, n => by
    simp only [shiftS_some, shiftL_pv (h cs (by simp)), Quiet.shift (sh := sh) (fun cs hc => h cs (by simp [hc]))]
theorem Quiet.app {a b : Sh} (ha : Quiet a) (hb : Quiet b) : Quiet (a ++ b) := by
  intro cs hc
  simp only [List.mem_append] at hc
  rcases hc with hc | hc
  · exact ha cs hc
  · exact hb cs hc
theorem Quiet.one {cs : List AV} (h : ∀ v ∈ cs, ∃ p, v = AV.pv p) : Quiet [some cs] := by
  intro cs' hc
  simp at hc
  subst hc
  exact h

@[simp] theorem getEnd {α : Type} {l : List α} {x : α} : (l ++ [x])[l.length]? = some x := by simp
@[simp] theorem setEnd {α : Type} {l : List α} {x y : α} : (l ++ [x]).set l.length y = l ++ [y] := by simp [List.set_append]
@[simp] theorem takeEnd {α : Type} {l : List α} {x : α} : (l ++ [x]).take l.length = l := by simp

/-! ### An array of types under way -/

def Ty.cl (t : Ty) : List AV := [.pv (vI t.kind), .pv (.str t.name), .pv (vI t.id), .pv (vI t.home), .pv (.lst (t.args.map Ty.pv))]
def zcl : List AV := [.pv (vI 0), .pv (.str []), .pv (vI 0), .pv (vI 0), .pv (.lst [])]
def arrC (d : List Ty) (m : Nat) : List AV := d.flatMap Ty.cl ++ (List.replicate m zcl).flatten
theorem flat_len {d : List Ty} : (d.flatMap Ty.cl).length = d.length * 5 := by
  induction d with
  | nil => rfl
  | cons a r ih => simp [ih, Ty.cl, Nat.add_mul]
theorem rep_len {m : Nat} : ((List.replicate m zcl).flatten).length = m * 5 := by
  simp [zcl]
theorem arrC_len {d : List Ty} {m : Nat} : (arrC d m).length = (d.length + m) * 5 := by
  simp only [arrC, List.length_append, flat_len, rep_len, Nat.add_mul]
theorem arrC_set {d : List Ty} {m : Nat} {t : Ty} : setRange (arrC d (m + 1)) (d.length * 5) t.cl = arrC (d ++ [t]) m := by
  have e : arrC d (m + 1) = d.flatMap Ty.cl ++ (zcl ++ (List.replicate m zcl).flatten) := by simp [arrC, List.replicate_succ]
  have hl : (d.flatMap Ty.cl).length = d.length * 5 := flat_len
  rw [setRange_eq, e, ← hl, List.take_left, List.drop_append, List.drop_eq_nil_of_le (by omega)]
  have : (d.flatMap Ty.cl).length + t.cl.length - (d.flatMap Ty.cl).length = 5 := by simp [Ty.cl]
  rw [this]
  simp [arrC, zcl]
theorem arrC_pv {d : List Ty} {m : Nat} : ∀ v ∈ arrC d m, ∃ p, v = AV.pv p := by
  intro v hv
  simp only [arrC, List.mem_append, List.mem_flatMap, List.mem_flatten, List.mem_replicate] at hv
  rcases hv with ⟨t, _, hv⟩ | ⟨l, ⟨_, rfl⟩, hv⟩
  · simp [Ty.cl] at hv
    rcases hv with rfl | rfl | rfl | rfl | rfl <;> exact ⟨_, rfl⟩
  · simp [zcl] at hv
    rcases hv with rfl | rfl | rfl | rfl | rfl <;> exact ⟨_, rfl⟩
theorem frzL_app {a b : List AV} {x y : List PV} (ha : frzL a = some x) (hb : frzL b = some y) : frzL (a ++ b) = some (x ++ y) := by
  induction a generalizing x with
  | nil => simp at ha; subst ha; exact hb
  | cons v r ih =>
    simp only [frzL_cons] at ha
    simp only [List.cons_append, frzL_cons]
    cases h1 : frz0 v with
    | none => rw [h1] at ha; cases ha
    | some p =>
      cases h2 : frzL r with
      | none => rw [h1, h2] at ha; cases ha
      | some q =>
        rw [h1, h2] at ha
        simp at ha
        subst ha
        rw [ih h2]; rfl
theorem arrC_frz : ∀ {d : List Ty}, ((frzL (arrC d 0)).bind (arrEls 5 true d.length)).map PV.lst = some (.lst (d.map Ty.pv)) := by
  have key : ∀ d : List Ty, ∃ ps, frzL (d.flatMap Ty.cl) = some ps ∧ (chunk 5 d.length ps).map PV.agg = d.map Ty.pv := by
    intro d
    induction d with
    | nil => exact ⟨[], rfl, rfl⟩
    | cons t r ih =>
      obtain ⟨ps, h1, h2⟩ := ih
      refine ⟨[vI t.kind, .str t.name, vI t.id, vI t.home, .lst (t.args.map Ty.pv)] ++ ps, ?_, ?_⟩
      · rw [List.flatMap_cons]
        exact frzL_app (by simp [Ty.cl]) h1
      · simp only [List.length_cons, chunk]
        simp [h2]
  intro d
  obtain ⟨ps, h1, h2⟩ := key d
  have : arrC d 0 = d.flatMap Ty.cl := by simp [arrC]
  rw [this, h1]
  simp only [Option.bind_some, arrEls, if_true, Option.map_some, h2]

/-! ### Rebuilding -/

mutual
def Ty.rbl (f : Ty → Ty) : Ty → Ty
  | ⟨k, n, i, h, as⟩ => match as with
    | [] => f ⟨k, n, i, h, []⟩
    | a :: r => ⟨k, n, i, h, a.rbl f :: Ty.rbls f r⟩
def Ty.rbls (f : Ty → Ty) : List Ty → List Ty
  | [] => []
  | a :: r => a.rbl f :: Ty.rbls f r
end
theorem Ty.rbls_map (f : Ty → Ty) : ∀ l : List Ty, Ty.rbls f l = l.map (Ty.rbl f)
  | [] => by simp [Ty.rbls]
  | a :: r => by simp [Ty.rbls, Ty.rbls_map f r]
theorem Ty.rbl_nil {f : Ty → Ty} {t : Ty} (h : t.args = []) : t.rbl f = f t := by
  obtain ⟨k, n, i, hm, as⟩ := t
  simp at h
  subst h
  simp [Ty.rbl]
theorem Ty.rbl_cons {f : Ty → Ty} {t : Ty} (h : ¬ t.args = []) : t.rbl f = ⟨t.kind, t.name, t.id, t.home, t.args.map (Ty.rbl f)⟩ := by
  obtain ⟨k, n, i, hm, as⟩ := t
  cases as with
  | nil => simp at h
  | cons a r => simp [Ty.rbl, Ty.rbls_map]

/-- What a function value makes of leaves, whatever arrays are under way. -/
def LeafF (g : Nat) (cap : List AV) (c0 : List AV) (f : Ty → Ty) : Prop := ∀ (sh : Sh) (x : Ty), Quiet sh → sh[0]? = some (some c0) → x.args = [] → (orcL AP).i g (.pv x.pv :: cap) sh [] = some ([(f x).av], sh, [])

def R91 (F : AV) (t : Ty) (f : Ty → Ty) (sh0 : Sh) : Option (AExit × St) :=
  some (.exit 0, ⟨[(1, F), (2, .lptr 2 0), (4, .lptr 4 0), (5, .sarr sh0.length 5 t.args.length true), (20, .pv (.lst (t.args.map Ty.pv))), (21, .pv (vI t.args.length)), (22, .pv (vI t.args.length)), (23, .pv (.bool false))],
    [(2, t.cl), (4, [.pv (vI 0), .pv (.str []), .pv (vI 0), .pv (vI 0), .own [] 0])], sh0 ++ [some (arrC (t.args.map (Ty.rbl f)) 0)], [0]⟩)

theorem L91 {g : Nat} {cap : List AV} {c0 : List AV} {f : Ty → Ty} {t : Ty} {sh0 : Sh} (hq : Quiet sh0) (h0 : sh0[0]? = some (some c0)) (hcap : flatB.flatL cap = true) (hpass : passB.passL cap = true) (hS : Sm t.args)
    (h : ∀ x ∈ t.args, ∀ sh, Quiet sh → sh[0]? = some (some c0) → (orcL AP).i 91 [.pv x.pv, .fn g cap] sh [] = some ([(x.rbl f).av], sh, [])) : ∀ (n i : Nat), t.args.length - i = n → i ≤ t.args.length → ∀ d : List Ty, d = (t.args.take i).map (Ty.rbl f) →
    cl AP g91L0 ⟨[(1, .fn g cap), (2, .lptr 2 0), (4, .lptr 4 0), (5, .sarr sh0.length 5 t.args.length true), (20, .pv (.lst (t.args.map Ty.pv))), (21, .pv (vI t.args.length)), (22, .pv (vI i))],
      [(2, t.cl), (4, [.pv (vI 0), .pv (.str []), .pv (vI 0), .pv (vI 0), .own [] 0])], sh0 ++ [some (arrC d n)], [0]⟩ = R91 (.fn g cap) t f sh0
  | 0, i, hn, hi, d, hd => by
    have : i = t.args.length := by omega
    subst this
    have hd' : d = t.args.map (Ty.rbl f) := by simpa using hd
    subst hd'
    have hQ := hq.app (Quiet.one (arrC_pv (d := t.args.map (Ty.rbl f)) (m := 0)))
    rw [g91L0_eq]
    simp [g91B0, R91, hcap, hQ.norm, Ty.cl]
  | n + 1, i, hn, hi, d, hd => by
    have hi : i < t.args.length := by omega
    obtain ⟨x, hx⟩ := getO hi
    unfold Sm at hS
    have hdl : d.length = i := by rw [hd]; simp; omega
    have hQ := hq.app (Quiet.one (arrC_pv (d := d) (m := n + 1)))
    have h0' : (sh0 ++ [some (arrC d (n + 1))])[0]? = some (some c0) := by
      rw [List.getElem?_append_left]; exact h0; exact (List.getElem?_eq_some_iff.1 h0).1
    have hc := h x (memO hx) _ hQ h0'
    have ih := L91 hq h0 hcap hpass hS h n (i + 1) (by omega) (by omega) (d ++ [x.rbl f]) (by rw [List.take_add_one, hx, hd]; simp)
    have hset : setRange (arrC d (n + 1)) (i * 5) (x.rbl f).cl = arrC (d ++ [x.rbl f]) n := by rw [← hdl]; exact arrC_set
    have hlen : i * 5 + 5 ≤ (arrC d (n + 1)).length := by rw [arrC_len]; omega
    have hQ2 := hq.app (Quiet.one (arrC_pv (d := d ++ [x.rbl f]) (m := n)))
    rw [g91L0_eq] at ih ⊢
    simp [Ty.cl, hcap, hQ2.norm] at ih hset hc
    simp (disch := omega) [-getElem?_pos, g91B0, hx, hi, hcap, hpass, hQ.norm, hQ.shift, Ty.cl, hc, hset, hlen, wrap_id]
    rw [g91L0_eq]
    simp [ih, hcap, hQ2.norm]

theorem c91 {g : Nat} {cap : List AV} {c0 : List AV} {f : Ty → Ty} (hf : LeafF g cap c0 f) (hcap : flatB.flatL cap = true) (hpass : passB.passL cap = true) (harg : argsOf [] 1 cap = cap) (hnrm : ∀ old ts, normL old ts cap = (cap, old, ts)) (hpo : cap.all passO = true) {t : Ty} (hO : t.Ok) :
    ∀ sh, Quiet sh → sh[0]? = some (some c0) → (orcL AP).i 91 [.pv t.pv, .fn g cap] sh [] = some ([(t.rbl f).av], sh, []) := by
  revert hO
  refine Ty.rec1 (p := fun t => t.Ok → ∀ sh, Quiet sh → sh[0]? = some (some c0) → (orcL AP).i 91 [.pv t.pv, .fn g cap] sh [] = some ([(t.rbl f).av], sh, [])) ?_ t
  intro t ih hO sh hq h0
  rw [callI_body (af := g91) rfl (by simp [g91])]
  by_cases hn : t.args = []
  · have h := hf sh t hq h0 hn
    simp [hn] at h
    simp [g91, hn, hcap, hpass, harg, hnrm, hpo, hq.norm, hq.shift, h, Ty.rbl_nil hn]
  · have hl : ¬ t.args.length = 0 := by simpa using hn
    have hS := hO.sm
    have h := L91 hq h0 hcap hpass hO.sm (fun x hx => ih x hx (hO.kid x hx)) t.args.length 0 (by omega) (by omega) [] (by simp)
    have hz : arrC [] t.args.length = (List.replicate t.args.length [.pv (vI 0), .pv (.str []), .pv (vI 0), .pv (vI 0), .pv (.lst [])]).flatten := by simp [arrC, zcl]
    have hQ := hq.app (Quiet.one (arrC_pv (d := []) (m := t.args.length)))
    rw [g91L0_eq] at h
    unfold Sm at hS
    have b1 : (t.args.length : Int) ≤ 9223372036854775807 := by omega
    have b2 : (t.args.length : Int) * 64 ≤ 140737488355328 := by omega
    rw [hz] at h hQ
    simp [hcap, hQ.norm, Ty.cl, R91] at h
    have hQ2 := hq.app (Quiet.one (arrC_pv (d := t.args.map (Ty.rbl f)) (m := 0)))
    have hfr := arrC_frz (d := t.args.map (Ty.rbl f))
    have hle := arrC_len (d := t.args.map (Ty.rbl f)) (m := 0)
    simp at hfr hle
    simp (disch := omega) [g91, hn, hl, hcap, hpass, hq.norm, hq.shift, b1, b2, g91L0_eq, hQ.norm, h, Ty.rbl_cons hn, hfr, hle]
end Go.Ab.Lw

namespace Go.Ab.Lw
open Ev
set_option maxRecDepth 10000
set_option linter.unusedSimpArgs false

def subLeaf (s : List As) (x : Ty) : Ty := if x.kind = 1 then (fnd s x.id).getD x else x

theorem rbl_sub {s : List As} {t : Ty} (h : t.Wf) : t.rbl (subLeaf s) = t.sub s := by
  revert h
  refine Ty.rec1 (p := fun t => t.Wf → t.rbl (subLeaf s) = t.sub s) ?_ t
  intro t ih h
  by_cases hn : t.args = []
  · rw [Ty.rbl_nil hn, Ty.sub_eq]
    unfold subLeaf
    split
    · rfl
    · cases t; simp at hn; simp [hn]
  · have hk : ¬ t.kind = 1 := fun e => hn (h.var e)
    rw [Ty.rbl_cons hn, Ty.sub_eq, if_neg hk]
    congr 1
    exact List.map_congr_left fun x hx => ih x hx (h.kid x hx)

def R92 (s : List As) (t : Ty) (sh : Sh) : Option Ty → Option (AExit × St)
  | some a => some (.ret, ⟨[(3, .lptr 3 0)], [(3, a.cl)], sh, [0]⟩)
  | none => some (.exit 0, ⟨[(2, .lptr 2 0), (3, .lptr 3 0), (9, .pv (.lst (s.map As.pv))), (10, .pv (vI s.length)), (11, .pv (vI s.length)), (12, .pv (.bool false))],
      [(2, t.cl), (3, [.pv (vI 0), .pv (.str []), .pv (vI 0), .pv (vI 0), .own [] 0])], sh, [0]⟩)
theorem L92 {s : List As} (hS : Sm s) (t : Ty) {sh : Sh} (hq : Quiet sh) : ∀ (n i : Nat), s.length - i = n → i ≤ s.length →
    cl AP g92L0 ⟨[(2, .lptr 2 0), (3, .lptr 3 0), (9, .pv (.lst (s.map As.pv))), (10, .pv (vI s.length)), (11, .pv (vI i))],
      [(2, t.cl), (3, [.pv (vI 0), .pv (.str []), .pv (vI 0), .pv (vI 0), .own [] 0])], sh, [0]⟩ = R92 s t sh (fnd (s.drop i) t.id)
  | 0, i, hn, hi => by
    have : i = s.length := by omega
    subst this
    rw [g92L0_eq]
    simp [g92B0, fnd, R92, Ty.cl, hq.norm]
  | n + 1, i, hn, hi => by
    have hi : i < s.length := by omega
    obtain ⟨x, hx⟩ := getO hi
    unfold Sm at hS
    have ih := L92 hS t hq n (i + 1) (by omega) (by omega)
    rw [g92L0_eq] at ih
    simp [Ty.cl, hq.norm] at ih
    rw [g92L0_eq, dropC hx]
    by_cases e : x.id = t.id
    · simp (disch := omega) [-getElem?_pos, g92B0, hx, hi, e, fnd, R92, Ty.cl, hq.norm]
    · simp (disch := omega) [-getElem?_pos, g92B0, hx, hi, e, fnd, wrap_id, Ty.cl, hq.norm]
      rw [g92L0_eq]
      simp [ih, hq.norm]

theorem c92 {s : List As} (hS : Sm s) : LeafF 92 [.sptr 0 0] [.pv (.lst (s.map As.pv))] (subLeaf s) := by
  intro sh x hq h0 hx
  rw [callI_body (af := g92) rfl (by simp [g92])]
  by_cases hk : x.kind = 1
  · have h := L92 hS x hq _ 0 rfl (by omega)
    rw [g92L0_eq] at h
    simp [Ty.cl, hq.norm] at h
    cases hf : fnd s x.id with
    | none =>
      rw [hf] at h
      simp [R92, Ty.cl, hx, hk] at h
      simp [g92, hk, h0, g92L0_eq, hq.norm, h, subLeaf, hf, hx, hq.shift]
    | some a =>
      rw [hf] at h
      simp [R92, Ty.cl, hx, hk] at h
      simp [g92, hk, h0, g92L0_eq, hq.norm, h, subLeaf, hf, hx, hq.shift]
  · simp [g92, hk, h0, hq.norm, subLeaf, hx, hq.shift]

theorem c45 {s : List As} (hS : Sm s) {t : Ty} (hO : t.Ok) (hW : t.Wf) : (orcL AP).p 45 [t.pv, .lst (s.map As.pv)] = some [(t.sub s).pv] := by
  have h := c91 (c92 hS) rfl rfl rfl (fun _ _ => rfl) rfl hO [some [.pv (.lst (s.map As.pv))]] (by intro cs hc v hv; simp at hc; subst hc; simp at hv; exact ⟨_, hv⟩) rfl
  rw [rbl_sub hW] at h
  simp at h
  rw [callP_body (af := g45) rfl rfl (by decide)]
  simp [g45, h]

/-! ### Apply -/
theorem c21 {s : List As} (hS : Sm s) {t : Ty} (hO : t.Ok) (hW : t.Wf) : (orcL AP).p 21 [.lst (s.map As.pv), t.pv] = some [(t.sub s).pv] := by
  have h := c45 hS hO hW
  simp at h
  rw [callP_body (af := g21) rfl rfl (by decide)]
  simp [g21, h]
theorem c22 {s : List As} (hS : Sm s) {t : Ty} (hO : t.Ok) : (orcL AP).p 22 [.lst (s.map As.pv), t.pv] = some [(t.sub s).pv] := by
  have h := c46 hS hO
  simp at h
  rw [callP_body (af := g22) rfl rfl (by decide)]
  simp [g22, h]

/-! ### Has and find -/
def hasA (s : List As) (id : Int) : Bool := (fnd s id).isSome
theorem hasA_nil (id : Int) : hasA [] id = false := rfl
theorem hasA_cons (a : As) (r : List As) (id : Int) : hasA (a :: r) id = (decide (a.id = id) || hasA r id) := by
  unfold hasA fnd
  by_cases e : a.id = id
  · simp [e]
  · simp only [if_neg e, decide_eq_false e, Bool.false_or]
    cases r <;> rfl

theorem L65 {s : List As} (hS : Sm s) (id : Int) : ∀ (n i : Nat), s.length - i = n → i ≤ s.length →
    cl AP g65L0 ⟨[(0, .pv (.lst (s.map As.pv))), (1, .pv (vI id)), (5, .pv (vI i))], [], [], []⟩ = if hasA (s.drop i) id = true then some (.ret, ⟨[(4, .pv (.bool true))], [], [], []⟩)
      else some (.exit 0, ⟨[(0, .pv (.lst (s.map As.pv))), (1, .pv (vI id)), (5, .pv (vI s.length)), (9, .pv (.bool false))], [], [], []⟩)
  | 0, i, hn, hi => by
    have : i = s.length := by omega
    subst this
    rw [g65L0_eq]
    simp [g65B0, hasA_nil]
  | n + 1, i, hn, hi => by
    have hi : i < s.length := by omega
    obtain ⟨x, hx⟩ := getO hi
    unfold Sm at hS
    have ih := L65 hS id n (i + 1) (by omega) (by omega)
    simp at ih
    rw [g65L0_eq, dropC hx]
    by_cases e : x.id = id
    · simp (disch := omega) [-getElem?_pos, g65B0, hx, hi, e, hasA_cons]
    · simp (disch := omega) [-getElem?_pos, g65B0, hx, hi, e, hasA_cons, wrap_id, ih]
theorem c65 {s : List As} (hS : Sm s) (id : Int) : (orcL AP).p 65 [.lst (s.map As.pv), vI id] = some [.bool (hasA s id)] := by
  have h := L65 hS id _ 0 rfl (by omega)
  simp at h
  rw [callP_body (af := g65) rfl rfl (by decide)]
  cases hh : hasA s id <;> simp [hh] at h <;> simp [g65, h]

theorem c105 {s : Sh} (hq : Quiet s) {id : Int} (h0 : s[0]? = some (some [.pv (vI id)])) (a : As) : (orcL AP).i 105 [.pv a.pv, .sptr 0 0] s [] = some ([.pv (.bool (a.id == id))], s, []) := by
  rw [callI_body (af := g105) rfl (by simp [g105])]
  simp [g105, h0, hq.norm, hq.shift]

/-- Where a variable is assigned first. -/
def idxA : List As → Int → Option Nat
  | [], _ => none
  | a :: r, id => if a.id = id then some 0 else (idxA r id).map (· + 1)
def R104 (F : AV) (s : List As) (sh : Sh) (i : Nat) : Option Nat → Option (AExit × St)
  | some k => some (.ret, ⟨[(4, .pv (vI (i + k : Nat)))], [], sh, []⟩)
  | none => some (.exit 0, ⟨[(0, .pv (.lst (s.map As.pv))), (1, F), (7, .pv (vI s.length)), (8, .pv (vI s.length)), (9, .pv (.bool false))], [], sh, []⟩)
theorem L104 {s : List As} (hS : Sm s) {sh : Sh} (hq : Quiet sh) {id : Int} (h0 : sh[0]? = some (some [.pv (vI id)])) : ∀ (n i : Nat), s.length - i = n → i ≤ s.length →
    cl AP g104L0 ⟨[(0, .pv (.lst (s.map As.pv))), (1, .fn 105 [.sptr 0 0]), (7, .pv (vI s.length)), (8, .pv (vI i))], [], sh, []⟩ = R104 (.fn 105 [.sptr 0 0]) s sh i (idxA (s.drop i) id)
  | 0, i, hn, hi => by
    have : i = s.length := by omega
    subst this
    rw [g104L0_eq]
    simp [g104B0, idxA, R104, hq.norm]
  | n + 1, i, hn, hi => by
    have hi : i < s.length := by omega
    obtain ⟨x, hx⟩ := getO hi
    unfold Sm at hS
    have ih := L104 hS hq h0 n (i + 1) (by omega) (by omega)
    simp at ih
    have hc := c105 hq h0 x
    simp at hc
    rw [g104L0_eq, dropC hx]
    by_cases e : x.id = id
    · simp [e] at hc
      simp (disch := omega) [-getElem?_pos, g104B0, hx, hi, e, idxA, R104, hq.norm, hq.shift, hc]
    · have e' : (x.id == id) = false := by simpa using e
      rw [e'] at hc
      simp (disch := omega) [-getElem?_pos, g104B0, hx, hi, e, idxA, wrap_id, hq.norm, hq.shift, hc, ih]
      cases idxA (s.drop (i + 1)) id with
      | none => rfl
      | some k => simp [R104]; omega
theorem idxA_fnd : ∀ {s : List As} {id : Int}, (idxA s id = none ∧ fnd s id = none) ∨ ∃ (k : Nat) (a : As), idxA s id = some k ∧ s[k]? = some a ∧ fnd s id = some a.ty
  | [], _ => .inl ⟨rfl, rfl⟩
  | a :: r, id => by
    simp only [idxA, fnd]
    by_cases e : a.id = id
    · right; exact ⟨0, a, by simp [e], rfl, by simp [e]⟩
    · rw [if_neg e, if_neg e]
      rcases idxA_fnd (s := r) (id := id) with ⟨h1, h2⟩ | ⟨k, b, h1, h2, h3⟩
      · left; simp [h1, h2]
      · right; exact ⟨k + 1, b, by simp [h1], by simpa using h2, h3⟩
theorem c64 {s : List As} (hS : Sm s) (id : Int) : (orcL AP).p 64 [.lst (s.map As.pv), vI id] = some [((fnd s id).getD ⟨0, [], 0, 0, []⟩).pv, .bool (hasA s id)] := by
  have hq : Quiet [some [.pv (vI id)]] := by intro cs hc v hv; simp at hc; subst hc; simp at hv; exact ⟨_, hv⟩
  have h := L104 hS hq (id := id) rfl _ 0 rfl (by omega)
  simp at h
  have hc : ∀ r, R104 (.fn 105 [.sptr 0 0]) s [some [.pv (vI id)]] 0 (idxA s id) = r → (orcL AP).i 104 [.pv (.lst (s.map As.pv)), .fn 105 [.sptr 0 0]] [some [.pv (vI id)]] [] = some ([.pv (vI (match idxA s id with | some k => k | none => -1))], [some [.pv (vI id)]], []) := by
    intro r _
    rw [callI_body (af := g104) rfl (by simp [g104])]
    cases hi : idxA s id with
    | none => rw [hi] at h; simp [R104] at h; simp [g104, h]
    | some k => rw [hi] at h; simp [R104] at h; simp [g104, h]
  have hc := hc _ rfl
  rw [callP_body (af := g64) rfl rfl (by decide)]
  unfold Sm at hS
  rcases idxA_fnd (s := s) (id := id) with ⟨h1, h2⟩ | ⟨k, b, h1, h2, h3⟩
  · simp [h1] at hc
    simp [g64, hc, h2, hasA]
  · simp [h1] at hc
    simp [-getElem?_pos, g64, hc, h2, h3, hasA]
end Go.Ab.Lw

namespace Go.Ab.Lw
open Ev
set_option maxRecDepth 10000
set_option linter.unusedSimpArgs false

noncomputable instance : DecidableEq As := fun _ _ => Classical.propDecidable _

/-! ### Equal -/
theorem L57 {as bs : List Ty} (hS : Sm as) (hl : as.length = bs.length) (h : ∀ x ∈ as, ∀ y, (orcL AP).p 20 [x.pv, y.pv] = some [.bool (decide (x = y))]) : ∀ (n i : Nat), as.length - i = n → i ≤ as.length →
    cl AP g57L0 ⟨[(0, .pv (.lst (as.map Ty.pv))), (1, .pv (.lst (bs.map Ty.pv))), (5, .pv (.int .i64 i))], [], [], []⟩ =
      if as.drop i = bs.drop i then some (.exit 0, ⟨[(0, .pv (.lst (as.map Ty.pv))), (1, .pv (.lst (bs.map Ty.pv))), (5, .pv (.int .i64 as.length)), (14, .pv (.bool false))], [], [], []⟩)
      else some (.ret, ⟨[(4, .pv (.bool false))], [], [], []⟩)
  | 0, i, hn, hi => by
    have : i = as.length := by omega
    subst this
    rw [g57L0_eq]
    simp [g57B0, hl]
  | n + 1, i, hn, hi => by
    have hi : i < as.length := by omega
    obtain ⟨x, hx⟩ := getO hi
    obtain ⟨y, hy⟩ := getO (hl ▸ hi)
    have hc := h x (memO hx) y
    simp at hc
    rw [g57L0_eq, dropC hx, dropC hy]
    unfold Sm at hS
    have ih := L57 hS hl h n (i + 1) (by omega) (by omega)
    simp at ih
    simp (disch := omega) [-getElem?_pos, g57B0, hx, hy, hi, hc, wrap_id, ih]
    by_cases e : x = y <;> simp [e]

theorem c57 {as bs : List Ty} (hS : Sm as) (h : ∀ x ∈ as, ∀ y, (orcL AP).p 20 [x.pv, y.pv] = some [.bool (decide (x = y))]) :
    (orcL AP).p 57 [.lst (as.map Ty.pv), .lst (bs.map Ty.pv)] = some [.bool (decide (as = bs))] := by
  rw [callP_body (af := g57) rfl rfl (by decide)]
  by_cases hl : as.length = bs.length
  · have hL := L57 hS hl h _ 0 rfl (by omega)
    simp at hL
    simp [g57, hl, hL]
    by_cases e : as = bs <;> simp [e]
  · have : ¬ as = bs := fun e => hl (by rw [e])
    simp [g57, hl, this]
    omega

theorem c20 {a b : Ty} (hO : a.Ok) : (orcL AP).p 20 [a.pv, b.pv] = some [.bool (decide (a = b))] := by
  revert b hO
  refine Ty.rec1 (p := fun a => ∀ {b : Ty}, a.Ok → (orcL AP).p 20 [a.pv, b.pv] = some [.bool (decide (a = b))]) ?_ a
  intro a ih b hO
  have h := c57 (bs := b.args) hO.sm (fun x hx y => ih x hx (hO.kid x hx))
  rw [callP_body (af := g20) rfl rfl (by decide)]
  simp [g20, h]
  cases a; cases b
  simp
  (repeat' split) <;> simp_all

/-! ### Compose -/
def comp (a b : List As) : List As := a.map (fun x => ⟨x.id, x.ty.sub b⟩) ++ b.filter (fun x => !hasA a x.id)

theorem L19a {a b : List As} (hS : a.length + b.length < 1099511627776) (hO : ∀ x ∈ a, x.ty.Ok) : ∀ (n i : Nat), a.length - i = n → i ≤ a.length → ∀ acc : List As, acc = (a.take i).map (fun x => ⟨x.id, x.ty.sub b⟩) →
    cl AP g19L0 ⟨[(0, .pv (.lst (a.map As.pv))), (1, .pv (.lst (b.map As.pv))), (5, .own (acc.map As.pv) 0), (6, .pv (vI i))], [], [], [acc.length]⟩ =
      some (.exit 0, ⟨[(0, .pv (.lst (a.map As.pv))), (1, .pv (.lst (b.map As.pv))), (5, .own ((a.map (fun x => (⟨x.id, x.ty.sub b⟩ : As))).map As.pv) 0), (6, .pv (vI a.length)), (11, .pv (.bool false))], [], [], [a.length]⟩)
  | 0, i, hn, hi, acc, ha => by
    have : i = a.length := by omega
    subst this
    subst ha
    rw [g19L0_eq]
    simp [g19B0]
  | n + 1, i, hn, hi, acc, ha => by
    have hi : i < a.length := by omega
    obtain ⟨x, hx⟩ := getO hi
    have hal : acc.length = i := by rw [ha]; simp; omega
    have hb : (acc.length + 1) * 72 ≤ 140737488355328 := by omega
    have hc := c22 (s := b) (by unfold Sm; omega) (hO x (memO hx))
    have ih := L19a hS hO n (i + 1) (by omega) (by omega) (acc ++ [⟨x.id, x.ty.sub b⟩]) (by rw [List.take_add_one, hx, ha]; simp)
    rw [g19L0_eq] at ih ⊢
    simp at ih hc
    simp (disch := omega) [-getElem?_pos, g19B0, hx, hi, hc, hb, wrap_id]
    rw [g19L0_eq]
    simp [ih]

theorem L19b {a b : List As} (hS : a.length + b.length < 1099511627776) : ∀ (n i : Nat), b.length - i = n → i ≤ b.length → ∀ acc : List As, acc.length ≤ a.length + i →
    cl AP g19L1 ⟨[(0, .pv (.lst (a.map As.pv))), (1, .pv (.lst (b.map As.pv))), (5, .own (acc.map As.pv) 0), (7, .pv (vI i))], [], [], [acc.length]⟩ =
      some (.exit 2, ⟨[(0, .pv (.lst (a.map As.pv))), (1, .pv (.lst (b.map As.pv))), (5, .own ((acc ++ (b.drop i).filter (fun x => !hasA a x.id)).map As.pv) 0), (7, .pv (vI b.length)), (33, .pv (.bool false))], [], [], [(acc ++ (b.drop i).filter (fun x => !hasA a x.id)).length]⟩)
  | 0, i, hn, hi, acc, ha => by
    have : i = b.length := by omega
    subst this
    rw [g19L1_eq]
    simp [g19B1]
  | n + 1, i, hn, hi, acc, ha => by
    have hi : i < b.length := by omega
    obtain ⟨x, hx⟩ := getO hi
    have hb : (acc.length + 1) * 72 ≤ 140737488355328 := by omega
    have hc := c65 (s := a) (by unfold Sm; omega) x.id
    rw [dropC hx]
    by_cases hh : hasA a x.id = true
    · have ih := L19b hS n (i + 1) (by omega) (by omega) acc (by omega)
      rw [g19L1_eq] at ih ⊢
      simp at ih
      simp (disch := omega) [-getElem?_pos, g19B1, hx, hi, hc, hh, wrap_id]
      rw [g19L1_eq]
      simp [ih, List.filter_cons, hh]
    · have hh : hasA a x.id = false := by simpa using hh
      have ih := L19b hS n (i + 1) (by omega) (by omega) (acc ++ [x]) (by simp; omega)
      rw [g19L1_eq] at ih ⊢
      simp at ih
      simp (disch := omega) [-getElem?_pos, g19B1, hx, hi, hc, hh, hb, wrap_id]
      rw [g19L1_eq]
      simp [ih, List.filter_cons, hh]

theorem c19 {a b : List As} (hS : a.length + b.length < 1099511627776) (hO : ∀ x ∈ a, x.ty.Ok) : (orcL AP).p 19 [.lst (a.map As.pv), .lst (b.map As.pv)] = some [.lst ((comp a b).map As.pv)] := by
  have h1 := L19a hS hO _ 0 rfl (by omega) [] (by simp)
  have h2 := L19b hS _ 0 rfl (by omega) (a.map (fun x => ⟨x.id, x.ty.sub b⟩)) (by simp)
  rw [g19L0_eq] at h1
  rw [g19L1_eq] at h2
  simp at h1 h2
  rw [callP_body (af := g19) rfl rfl (by decide)]
  simp [g19, g19L0_eq, h1, g19L1_eq, h2, comp]

theorem L17a {a b : List As} (hS : a.length + b.length < 1099511627776) (hO : ∀ x ∈ a, x.ty.Ok ∧ x.ty.Wf) : ∀ (n i : Nat), a.length - i = n → i ≤ a.length → ∀ acc : List As, acc = (a.take i).map (fun x => ⟨x.id, x.ty.sub b⟩) →
    cl AP g17L0 ⟨[(0, .pv (.lst (a.map As.pv))), (1, .pv (.lst (b.map As.pv))), (5, .own (acc.map As.pv) 0), (12, .pv (.lst (a.map As.pv))), (13, .pv (vI a.length)), (14, .pv (vI i))], [], [], [acc.length]⟩ =
      some (.exit 0, ⟨[(0, .pv (.lst (a.map As.pv))), (1, .pv (.lst (b.map As.pv))), (5, .own ((a.map (fun x => (⟨x.id, x.ty.sub b⟩ : As))).map As.pv) 0), (12, .pv (.lst (a.map As.pv))), (13, .pv (vI a.length)), (14, .pv (vI a.length)), (15, .pv (.bool false))], [], [], [a.length]⟩)
  | 0, i, hn, hi, acc, ha => by
    have : i = a.length := by omega
    subst this
    subst ha
    rw [g17L0_eq]
    simp [g17B0]
  | n + 1, i, hn, hi, acc, ha => by
    have hi : i < a.length := by omega
    obtain ⟨x, hx⟩ := getO hi
    have hal : acc.length = i := by rw [ha]; simp; omega
    have hb : (acc.length + 1) * 72 ≤ 140737488355328 := by omega
    have hc := c21 (s := b) (by unfold Sm; omega) (hO x (memO hx)).1 (hO x (memO hx)).2
    have ih := L17a hS hO n (i + 1) (by omega) (by omega) (acc ++ [⟨x.id, x.ty.sub b⟩]) (by rw [List.take_add_one, hx, ha]; simp)
    rw [g17L0_eq] at ih ⊢
    simp at ih hc
    simp (disch := omega) [-getElem?_pos, g17B0, hx, hi, hc, hb, wrap_id]
    rw [g17L0_eq]
    simp [ih]

theorem L17b {a b : List As} (hS : a.length + b.length < 1099511627776) : ∀ (n i : Nat), b.length - i = n → i ≤ b.length → ∀ acc : List As, acc.length ≤ a.length + i →
    cl AP g17L1 ⟨[(0, .pv (.lst (a.map As.pv))), (5, .own (acc.map As.pv) 0), (29, .pv (.lst (b.map As.pv))), (30, .pv (vI b.length)), (31, .pv (vI i))], [], [], [acc.length]⟩ =
      some (.exit 2, ⟨[(0, .pv (.lst (a.map As.pv))), (5, .own ((acc ++ (b.drop i).filter (fun x => !hasA a x.id)).map As.pv) 0), (29, .pv (.lst (b.map As.pv))), (30, .pv (vI b.length)), (31, .pv (vI b.length)), (32, .pv (.bool false))], [], [], [(acc ++ (b.drop i).filter (fun x => !hasA a x.id)).length]⟩)
  | 0, i, hn, hi, acc, ha => by
    have : i = b.length := by omega
    subst this
    rw [g17L1_eq]
    simp [g17B1]
  | n + 1, i, hn, hi, acc, ha => by
    have hi : i < b.length := by omega
    obtain ⟨x, hx⟩ := getO hi
    have hb : (acc.length + 1) * 72 ≤ 140737488355328 := by omega
    have hc := c64 (s := a) (by unfold Sm; omega) x.id
    rw [dropC hx]
    by_cases hh : hasA a x.id = true
    · have ih := L17b hS n (i + 1) (by omega) (by omega) acc (by omega)
      rw [g17L1_eq] at ih ⊢
      simp at ih hc
      simp (disch := omega) [-getElem?_pos, g17B1, hx, hi, hc, hh, wrap_id]
      rw [g17L1_eq]
      simp [ih, List.filter_cons, hh]
    · have hh : hasA a x.id = false := by simpa using hh
      have ih := L17b hS n (i + 1) (by omega) (by omega) (acc ++ [x]) (by simp; omega)
      rw [g17L1_eq] at ih ⊢
      simp at ih hc
      simp (disch := omega) [-getElem?_pos, g17B1, hx, hi, hc, hh, hb, wrap_id]
      rw [g17L1_eq]
      simp [ih, List.filter_cons, hh]

theorem c17 {a b : List As} (hS : a.length + b.length < 1099511627776) (hO : ∀ x ∈ a, x.ty.Ok ∧ x.ty.Wf) : (orcL AP).p 17 [.lst (a.map As.pv), .lst (b.map As.pv)] = some [.lst ((comp a b).map As.pv)] := by
  have h1 := L17a hS hO _ 0 rfl (by omega) [] (by simp)
  have h2 := L17b hS _ 0 rfl (by omega) (a.map (fun x => ⟨x.id, x.ty.sub b⟩)) (by simp)
  rw [g17L0_eq] at h1
  rw [g17L1_eq] at h2
  simp at h1 h2
  rw [callP_body (af := g17) rfl rfl (by decide)]
  simp [g17, g17L0_eq, h1, g17L1_eq, h2, comp]

/-! ### Same -/
theorem L18 {as bs : List As} (hS : Sm as) (hl : as.length = bs.length) (h : ∀ x ∈ as, x.ty.Ok) : ∀ (n i : Nat), as.length - i = n → i ≤ as.length →
    cl AP g18L0 ⟨[(0, .pv (.lst (as.map As.pv))), (1, .pv (.lst (bs.map As.pv))), (5, .pv (.int .i64 i))], [], [], []⟩ =
      if as.drop i = bs.drop i then some (.exit 0, ⟨[(0, .pv (.lst (as.map As.pv))), (1, .pv (.lst (bs.map As.pv))), (5, .pv (.int .i64 as.length)), (14, .pv (.bool false))], [], [], []⟩)
      else some (.ret, ⟨[(4, .pv (.bool false))], [], [], []⟩)
  | 0, i, hn, hi => by
    have : i = as.length := by omega
    subst this
    rw [g18L0_eq]
    simp [g18B0, hl]
  | n + 1, i, hn, hi => by
    have hi : i < as.length := by omega
    obtain ⟨x, hx⟩ := getO hi
    obtain ⟨y, hy⟩ := getO (hl ▸ hi)
    have hc := c20 (b := y.ty) (h x (memO hx))
    simp at hc
    rw [g18L0_eq, dropC hx, dropC hy]
    unfold Sm at hS
    have ih := L18 hS hl h n (i + 1) (by omega) (by omega)
    simp at ih
    have exy : x = y ↔ x.id = y.id ∧ x.ty = y.ty := by cases x; cases y; simp
    by_cases e1 : x.id = y.id
    · by_cases e2 : x.ty = y.ty
      · have e : x = y := exy.2 ⟨e1, e2⟩
        subst e
        simp at hc
        simp (disch := omega) [-getElem?_pos, g18B0, hx, hy, hi, hc, wrap_id, ih]
      · have e : ¬ x = y := fun e => e2 (exy.1 e).2
        rw [decide_eq_false e2] at hc
        simp (disch := omega) [-getElem?_pos, g18B0, hx, hy, hi, hc, wrap_id, ih, e, e1]
    · have e : ¬ x = y := fun e => e1 (exy.1 e).1
      simp (disch := omega) [-getElem?_pos, g18B0, hx, hy, hi, hc, wrap_id, ih, e, e1]

theorem c18 {as bs : List As} (hS : Sm as) (h : ∀ x ∈ as, x.ty.Ok) : (orcL AP).p 18 [.lst (as.map As.pv), .lst (bs.map As.pv)] = some [.bool (decide (as = bs))] := by
  rw [callP_body (af := g18) rfl rfl (by decide)]
  by_cases hl : as.length = bs.length
  · have hL := L18 hS hl h _ 0 rfl (by omega)
    simp at hL
    simp [g18, hl, hL]
    by_cases e : as = bs <;> simp [e]
  · have : ¬ as = bs := fun e => hl (by rw [e])
    simp [g18, hl, this]
    omega
end Go.Ab.Lw

namespace Go.Ab.Lw
open Ev
set_option maxRecDepth 10000
set_option linter.unusedSimpArgs false

theorem params_few : ∀ d ∈ allDatas, d.params.length ≤ 8 := by decide +kernel

theorem Made.ok {lv : Ty → Prop} (h : ∀ t, lv t → t.args = []) {t : Ty} (m : Made lv t) : t.Ok := by
  induction m with
  | leaf hl => exact ⟨by rw [h _ hl]; simp [Sm], by rw [h _ hl]; simp⟩
  | int => exact ⟨by simp [tyInt, Sm], by simp [tyInt]⟩
  | con hd hl _ ih => exact ⟨by have := params_few _ hd; simp only [Sm]; omega, ih⟩
  | arrow _ _ ha hb => exact ⟨by simp [Sm], by intro x hx; simp at hx; rcases hx with rfl | rfl <;> assumption⟩
theorem Made.wf {lv : Ty → Prop} (h : ∀ t, lv t → t.args = []) {t : Ty} (m : Made lv t) : t.Wf := by
  induction m with
  | leaf hl => exact ⟨fun _ => h _ hl, by rw [h _ hl]; simp⟩
  | int => exact ⟨by simp [tyInt], by simp [tyInt]⟩
  | con hd hl _ ih => exact ⟨by simp, ih⟩
  | arrow _ _ ha hb => exact ⟨by simp, by intro x hx; simp at hx; rcases hx with rfl | rfl <;> assumption⟩
theorem leavesL_bare : ∀ t, t ∈ leavesL → t.args = [] := by
  intro t ht
  simp [leavesL] at ht
  rcases ht with rfl | rfl | rfl | rfl | rfl | rfl | rfl | rfl <;> rfl
theorem leavesS_bare : ∀ t, t ∈ leavesS → t.args = [] := by
  intro t ht
  simp [leavesS] at ht
  rcases ht with rfl | rfl | rfl | rfl | rfl | rfl <;> rfl

theorem fnd_mem : ∀ {s : List As} {id : Int} {t : Ty}, fnd s id = some t → ∃ a ∈ s, a.ty = t
  | a :: r, id, t, h => by
    simp only [fnd] at h
    split at h
    · cases h; exact ⟨a, by simp, rfl⟩
    · obtain ⟨b, hb, e⟩ := fnd_mem h; exact ⟨b, by simp [hb], e⟩

theorem sub_ok {s : List As} (hs : ∀ a ∈ s, a.ty.Ok) {t : Ty} (h : t.Ok) : (t.sub s).Ok := by
  revert h
  refine Ty.rec1 (p := fun t => t.Ok → (t.sub s).Ok) ?_ t
  intro t ih h
  rw [Ty.sub_eq]
  split
  · cases hf : fnd s t.id with
    | none => simpa using h
    | some a => obtain ⟨b, hb, rfl⟩ := fnd_mem hf; simpa using hs b hb
  · refine ⟨by have := h.sm; unfold Sm at *; simpa using this, ?_⟩
    intro x hx
    simp at hx
    obtain ⟨y, hy, rfl⟩ := hx
    exact ih y hy (h.kid y hy)
theorem sub_wf {s : List As} (hs : ∀ a ∈ s, a.ty.Wf) {t : Ty} (h : t.Wf) : (t.sub s).Wf := by
  revert h
  refine Ty.rec1 (p := fun t => t.Wf → (t.sub s).Wf) ?_ t
  intro t ih h
  rw [Ty.sub_eq]
  split
  · cases hf : fnd s t.id with
    | none => simpa using h
    | some a => obtain ⟨b, hb, rfl⟩ := fnd_mem hf; simpa using hs b hb
  · rename_i hk
    refine ⟨fun e => absurd e hk, ?_⟩
    intro x hx
    simp at hx
    obtain ⟨y, hy, rfl⟩ := hx
    exact ih y hy (h.kid y hy)

theorem fnd_app : ∀ {a b : List As} {id : Int}, fnd (a ++ b) id = (fnd a id).or (fnd b id)
  | [], b, id => by simp [fnd]
  | x :: a, b, id => by
    simp only [List.cons_append, fnd]
    split
    · rfl
    · exact fnd_app
theorem fnd_map {b : List As} : ∀ {a : List As} {id : Int}, fnd (a.map fun x => ⟨x.id, x.ty.sub b⟩) id = (fnd a id).map (Ty.sub b)
  | [], id => rfl
  | x :: a, id => by
    simp only [List.map_cons, fnd]
    split
    · rfl
    · exact fnd_map
theorem fnd_filter {a : List As} {id : Int} (h : fnd a id = none) : ∀ {b : List As}, fnd (b.filter fun x => !hasA a x.id) id = fnd b id
  | [] => rfl
  | x :: b => by
    simp only [List.filter_cons, fnd]
    by_cases e : x.id = id
    · have : hasA a id = false := by simp [hasA, h]
      simp [e, this, fnd]
    · cases hh : hasA a x.id
      · simp only [Bool.not_false, if_true, fnd, if_neg e]; exact fnd_filter h
      · simp only [Bool.not_true, Bool.false_eq_true, if_false, if_neg e]; exact fnd_filter h
theorem fnd_comp {a b : List As} {id : Int} : fnd (comp a b) id = match fnd a id with | some t => some (t.sub b) | none => fnd b id := by
  unfold comp
  rw [fnd_app, fnd_map]
  cases h : fnd a id with
  | none => simp only [Option.map_none, Option.none_or]; exact fnd_filter h
  | some t => rfl

/-- **Applying a composition is applying both.** -/
theorem comp_sub {a b : List As} (t : Ty) : t.sub (comp a b) = (t.sub a).sub b := by
  refine Ty.rec1 (p := fun t => t.sub (comp a b) = (t.sub a).sub b) ?_ t
  intro t ih
  by_cases hk : t.kind = 1
  · rw [Ty.sub_eq (comp a b), Ty.sub_eq a, if_pos hk, if_pos hk, fnd_comp]
    cases h : fnd a t.id with
    | none => simp only [Option.getD_none]; rw [Ty.sub_eq, if_pos hk]
    | some x => rfl
  · rw [Ty.sub_eq (comp a b), Ty.sub_eq a, if_neg hk, if_neg hk, Ty.sub_eq b, if_neg hk]
    simp only [List.map_map]
    congr 1
    exact List.map_congr_left fun x hx => ih x hx

theorem comp_ok {a b : List As} (ha : ∀ x ∈ a, x.ty.Ok) (hb : ∀ x ∈ b, x.ty.Ok) : ∀ x ∈ comp a b, x.ty.Ok := by
  intro x hx
  simp only [comp, List.mem_append, List.mem_map, List.mem_filter] at hx
  rcases hx with ⟨y, hy, rfl⟩ | ⟨hx, _⟩
  · exact sub_ok hb (ha y hy)
  · exact hb x hx
theorem comp_wf {a b : List As} (ha : ∀ x ∈ a, x.ty.Wf) (hb : ∀ x ∈ b, x.ty.Wf) : ∀ x ∈ comp a b, x.ty.Wf := by
  intro x hx
  simp only [comp, List.mem_append, List.mem_map, List.mem_filter] at hx
  rcases hx with ⟨y, hy, rfl⟩ | ⟨hx, _⟩
  · exact sub_wf hb (ha y hy)
  · exact hb x hx
theorem comp_len {a b : List As} : (comp a b).length ≤ a.length + b.length := by
  simp only [comp, List.length_append, List.length_map]
  have := List.length_filter_le (fun x => !hasA a x.id) b
  omega

theorem c14 : (orcL AP).p 14 [] = some [.bool true] := Fc.p_of (k := 40) (n := 20) (by kernel_rfl)

/-- **The law SubstComposes.** -/
theorem law4 (bits : Int) (L : List Int) : (orcL AP).p 4 [vI bits, .lst (L.map vI)] = some [.bool true] := by
  have c0 := c14
  have c1 := c15 (l := L)
  rw [callP_body (af := g4) rfl rfl (by decide)]
  by_cases hL : L.length ≤ 60
  · obtain ⟨a, b, t, j, e, ⟨a1, a2, _⟩, ⟨b1, b2, _⟩, mt, _⟩ := c16 (L := L) (by unfold Sm; omega) bits
    have ao : ∀ x ∈ a, x.ty.Ok := fun x hx => (a2 x hx).1.ok leavesS_bare
    have aw : ∀ x ∈ a, x.ty.Wf := fun x hx => (a2 x hx).1.wf leavesS_bare
    have bo : ∀ x ∈ b, x.ty.Ok := fun x hx => (b2 x hx).1.ok leavesS_bare
    have bw : ∀ x ∈ b, x.ty.Wf := fun x hx => (b2 x hx).1.wf leavesS_bare
    have to := mt.ok leavesL_bare
    have tw := mt.wf leavesL_bare
    have cl := comp_len (a := a) (b := b)
    have d1 := c17 (a := a) (b := b) (by omega) (fun x hx => ⟨ao x hx, aw x hx⟩)
    have d2 := c19 (a := a) (b := b) (by omega) ao
    have d3 := c18 (as := comp a b) (bs := comp a b) (by unfold Sm; omega) (comp_ok ao bo)
    have d4 := c21 (s := comp a b) (by unfold Sm; omega) to tw
    have d5 := c22 (s := a) (by unfold Sm; omega) to
    have d6 := c22 (s := b) (by unfold Sm; omega) (sub_ok ao to)
    have d7 := c20 (a := t.sub (comp a b)) (b := (t.sub a).sub b) (sub_ok (comp_ok ao bo) to)
    rw [comp_sub] at d4 d7
    simp at e d3 d4 d5 d6 d7
    simp [hL] at c1
    simp [g4, c0, c1, e, d1, d2, d3, d4, d5, d6, d7]
  · simp [hL] at c1
    simp [g4, c0, c1]
end Go.Ab.Lw

