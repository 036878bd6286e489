import Derived.Test.YtnncaaakhfaacaaLLS1
/-
  Types: rebuilding with new leaves.
-/
set_option linter.unusedVariables false
set_option linter.unusedSimpArgs false
namespace Go.Ab.Lw
open Ev
set_option maxRecDepth 10000
set_option linter.unusedSimpArgs false

/-- Shared memory that holds plain data alone. -/
def Quiet (sh : Sh) : Prop := ∀ cs, some cs ∈ sh → ∀ v ∈ cs, ∃ p, v = AV.pv p

theorem normL_pv {old ts : Toks} : ∀ {cs : List AV}, (∀ v ∈ cs, ∃ p, v = AV.pv p) → normL old ts cs = (cs, old, ts)
  | [], _ => rfl
  | v :: r, h => by
    obtain ⟨p, rfl⟩ := h v (by simp)
    simp only [normL_cons, normV_pv, normL_pv (cs := r) (fun v hv => h v (by simp [hv]))]
theorem Quiet.norm : ∀ {sh : Sh}, Quiet sh → ∀ old ts, normS old ts sh = (sh, old, ts)
  | [], _, _, _ => rfl
  | none :: sh, h, old, ts => by
    simp only [normS_none, Quiet.norm (sh := sh) (fun cs hc => h cs (by simp [hc]))]
  | some cs :: sh, h, old, ts => by
    simp only [normS_some, normL_pv (h cs (by simp)), Quiet.norm (sh := sh) (fun cs hc => h cs (by simp [hc]))]
theorem shiftL_pv {n : Nat} : ∀ {cs : List AV}, (∀ v ∈ cs, ∃ p, v = AV.pv p) → cs.map (shiftV n) = cs
  | [], _ => rfl
  | v :: r, h => by
    obtain ⟨p, rfl⟩ := h v (by simp)
    simp only [List.map_cons, shiftV_pv, shiftL_pv (cs := r) (fun v hv => h v (by simp [hv]))]
theorem Quiet.shift : ∀ {sh : Sh}, Quiet sh → ∀ n, shiftS n sh = sh
  | [], _, _ => rfl
  | none :: sh, h, n => by
    simp only [shiftS_none, Quiet.shift (sh := sh) (fun cs hc => h cs (by simp [hc]))]
  | some cs :: sh, h, n => by
    simp only [shiftS_some, shiftL_pv (h cs (by simp)), Quiet.shift (sh := sh) (fun cs hc => h cs (by simp [hc]))]
theorem Quiet.app {a b : Sh} (ha : Quiet a) (hb : Quiet b) : Quiet (a ++ b) := by
  intro cs hc
  simp only [List.mem_append] at hc
  rcases hc with hc | hc
  · exact ha cs hc
  · exact hb cs hc
theorem Quiet.one {cs : List AV} (h : ∀ v ∈ cs, ∃ p, v = AV.pv p) : Quiet [some cs] := by
  intro cs' hc
  simp at hc
  subst hc
  exact h

@[simp] theorem getEnd {α : Type} {l : List α} {x : α} : (l ++ [x])[l.length]? = some x := by simp
@[simp] theorem setEnd {α : Type} {l : List α} {x y : α} : (l ++ [x]).set l.length y = l ++ [y] := by simp [List.set_append]
@[simp] theorem takeEnd {α : Type} {l : List α} {x : α} : (l ++ [x]).take l.length = l := by simp

/-! ### An array of types under way -/

def Ty.cl (t : Ty) : List AV := [.pv (vI t.kind), .pv (.str t.name), .pv (vI t.id), .pv (vI t.home), .pv (.lst (t.args.map Ty.pv))]
def zcl : List AV := [.pv (vI 0), .pv (.str []), .pv (vI 0), .pv (vI 0), .pv (.lst [])]
def arrC (d : List Ty) (m : Nat) : List AV := d.flatMap Ty.cl ++ (List.replicate m zcl).flatten
theorem flat_len {d : List Ty} : (d.flatMap Ty.cl).length = d.length * 5 := by
  induction d with
  | nil => rfl
  | cons a r ih => simp [ih, Ty.cl, Nat.add_mul]
theorem rep_len {m : Nat} : ((List.replicate m zcl).flatten).length = m * 5 := by
  simp [zcl]
theorem arrC_len {d : List Ty} {m : Nat} : (arrC d m).length = (d.length + m) * 5 := by
  simp only [arrC, List.length_append, flat_len, rep_len, Nat.add_mul]
theorem arrC_set {d : List Ty} {m : Nat} {t : Ty} : setRange (arrC d (m + 1)) (d.length * 5) t.cl = arrC (d ++ [t]) m := by
  have e : arrC d (m + 1) = d.flatMap Ty.cl ++ (zcl ++ (List.replicate m zcl).flatten) := by simp [arrC, List.replicate_succ]
  have hl : (d.flatMap Ty.cl).length = d.length * 5 := flat_len
  rw [setRange_eq, e, ← hl, List.take_left, List.drop_append, List.drop_eq_nil_of_le (by omega)]
  have : (d.flatMap Ty.cl).length + t.cl.length - (d.flatMap Ty.cl).length = 5 := by simp [Ty.cl]
  rw [this]
  simp [arrC, zcl]
theorem arrC_pv {d : List Ty} {m : Nat} : ∀ v ∈ arrC d m, ∃ p, v = AV.pv p := by
  intro v hv
  simp only [arrC, List.mem_append, List.mem_flatMap, List.mem_flatten, List.mem_replicate] at hv
  rcases hv with ⟨t, _, hv⟩ | ⟨l, ⟨_, rfl⟩, hv⟩
  · simp [Ty.cl] at hv
    rcases hv with rfl | rfl | rfl | rfl | rfl <;> exact ⟨_, rfl⟩
  · simp [zcl] at hv
    rcases hv with rfl | rfl | rfl | rfl | rfl <;> exact ⟨_, rfl⟩
theorem frzL_app {a b : List AV} {x y : List PV} (ha : frzL a = some x) (hb : frzL b = some y) : frzL (a ++ b) = some (x ++ y) := by
  induction a generalizing x with
  | nil => simp at ha; subst ha; exact hb
  | cons v r ih =>
    simp only [frzL_cons] at ha
    simp only [List.cons_append, frzL_cons]
    cases h1 : frz0 v with
    | none => rw [h1] at ha; cases ha
    | some p =>
      cases h2 : frzL r with
      | none => rw [h1, h2] at ha; cases ha
      | some q =>
        rw [h1, h2] at ha
        simp at ha
        subst ha
        rw [ih h2]; rfl
theorem arrC_frz : ∀ {d : List Ty}, ((frzL (arrC d 0)).bind (arrEls 5 true d.length)).map PV.lst = some (.lst (d.map Ty.pv)) := by
  have key : ∀ d : List Ty, ∃ ps, frzL (d.flatMap Ty.cl) = some ps ∧ (chunk 5 d.length ps).map PV.agg = d.map Ty.pv := by
    intro d
    induction d with
    | nil => exact ⟨[], rfl, rfl⟩
    | cons t r ih =>
      obtain ⟨ps, h1, h2⟩ := ih
      refine ⟨[vI t.kind, .str t.name, vI t.id, vI t.home, .lst (t.args.map Ty.pv)] ++ ps, ?_, ?_⟩
      · rw [List.flatMap_cons]
        exact frzL_app (by simp [Ty.cl]) h1
      · simp only [List.length_cons, chunk]
        simp [h2]
  intro d
  obtain ⟨ps, h1, h2⟩ := key d
  have : arrC d 0 = d.flatMap Ty.cl := by simp [arrC]
  rw [this, h1]
  simp only [Option.bind_some, arrEls, if_true, Option.map_some, h2]

/-! ### Rebuilding -/

mutual
def Ty.rbl (f : Ty → Ty) : Ty → Ty
  | ⟨k, n, i, h, as⟩ => match as with
    | [] => f ⟨k, n, i, h, []⟩
    | a :: r => ⟨k, n, i, h, a.rbl f :: Ty.rbls f r⟩
def Ty.rbls (f : Ty → Ty) : List Ty → List Ty
  | [] => []
  | a :: r => a.rbl f :: Ty.rbls f r
end
theorem Ty.rbls_map (f : Ty → Ty) : ∀ l : List Ty, Ty.rbls f l = l.map (Ty.rbl f)
  | [] => by simp [Ty.rbls]
  | a :: r => by simp [Ty.rbls, Ty.rbls_map f r]
theorem Ty.rbl_nil {f : Ty → Ty} {t : Ty} (h : t.args = []) : t.rbl f = f t := by
  obtain ⟨k, n, i, hm, as⟩ := t
  simp at h
  subst h
  simp [Ty.rbl]
theorem Ty.rbl_cons {f : Ty → Ty} {t : Ty} (h : ¬ t.args = []) : t.rbl f = ⟨t.kind, t.name, t.id, t.home, t.args.map (Ty.rbl f)⟩ := by
  obtain ⟨k, n, i, hm, as⟩ := t
  cases as with
  | nil => simp at h
  | cons a r => simp [Ty.rbl, Ty.rbls_map]

/-- What a function value makes of leaves, whatever arrays are under way. -/
def LeafF (g : Nat) (cap : List AV) (c0 : List AV) (f : Ty → Ty) : Prop := ∀ (sh : Sh) (x : Ty), Quiet sh → sh[0]? = some (some c0) → x.args = [] → (orcL AP).i g (.pv x.pv :: cap) sh [] = some ([(f x).av], sh, [])

def R91 (F : AV) (t : Ty) (f : Ty → Ty) (sh0 : Sh) : Option (AExit × St) :=
  some (.exit 0, ⟨[(1, F), (2, .lptr 2 0), (4, .lptr 4 0), (5, .sarr sh0.length 5 t.args.length true), (20, .pv (.lst (t.args.map Ty.pv))), (21, .pv (vI t.args.length)), (22, .pv (vI t.args.length)), (23, .pv (.bool false))],
    [(2, t.cl), (4, [.pv (vI 0), .pv (.str []), .pv (vI 0), .pv (vI 0), .own [] 0])], sh0 ++ [some (arrC (t.args.map (Ty.rbl f)) 0)], [0]⟩)

theorem L91 {g : Nat} {cap : List AV} {c0 : List AV} {f : Ty → Ty} {t : Ty} {sh0 : Sh} (hq : Quiet sh0) (h0 : sh0[0]? = some (some c0)) (hcap : flatB.flatL cap = true) (hpass : passB.passL cap = true) (hS : Sm t.args)
    (h : ∀ x ∈ t.args, ∀ sh, Quiet sh → sh[0]? = some (some c0) → (orcL AP).i 91 [.pv x.pv, .fn g cap] sh [] = some ([(x.rbl f).av], sh, [])) : ∀ (n i : Nat), t.args.length - i = n → i ≤ t.args.length → ∀ d : List Ty, d = (t.args.take i).map (Ty.rbl f) →
    cl AP g91L0 ⟨[(1, .fn g cap), (2, .lptr 2 0), (4, .lptr 4 0), (5, .sarr sh0.length 5 t.args.length true), (20, .pv (.lst (t.args.map Ty.pv))), (21, .pv (vI t.args.length)), (22, .pv (vI i))],
      [(2, t.cl), (4, [.pv (vI 0), .pv (.str []), .pv (vI 0), .pv (vI 0), .own [] 0])], sh0 ++ [some (arrC d n)], [0]⟩ = R91 (.fn g cap) t f sh0
  | 0, i, hn, hi, d, hd => by
    have : i = t.args.length := by omega
    subst this
    have hd' : d = t.args.map (Ty.rbl f) := by simpa using hd
    subst hd'
    have hQ := hq.app (Quiet.one (arrC_pv (d := t.args.map (Ty.rbl f)) (m := 0)))
    rw [g91L0_eq]
    simp [g91B0, R91, hcap, hQ.norm, Ty.cl]
  | n + 1, i, hn, hi, d, hd => by
    have hi : i < t.args.length := by omega
    obtain ⟨x, hx⟩ := getO hi
    unfold Sm at hS
    have hdl : d.length = i := by rw [hd]; simp; omega
    have hQ := hq.app (Quiet.one (arrC_pv (d := d) (m := n + 1)))
    have h0' : (sh0 ++ [some (arrC d (n + 1))])[0]? = some (some c0) := by
      rw [List.getElem?_append_left]; exact h0; exact (List.getElem?_eq_some_iff.1 h0).1
    have hc := h x (memO hx) _ hQ h0'
    have ih := L91 hq h0 hcap hpass hS h n (i + 1) (by omega) (by omega) (d ++ [x.rbl f]) (by rw [List.take_add_one, hx, hd]; simp)
    have hset : setRange (arrC d (n + 1)) (i * 5) (x.rbl f).cl = arrC (d ++ [x.rbl f]) n := by rw [← hdl]; exact arrC_set
    have hlen : i * 5 + 5 ≤ (arrC d (n + 1)).length := by rw [arrC_len]; omega
    have hQ2 := hq.app (Quiet.one (arrC_pv (d := d ++ [x.rbl f]) (m := n)))
    rw [g91L0_eq] at ih ⊢
    simp [Ty.cl, hcap, hQ2.norm] at ih hset hc
    simp (disch := omega) [-getElem?_pos, g91B0, hx, hi, hcap, hpass, hQ.norm, hQ.shift, Ty.cl, hc, hset, hlen, wrap_id]
    rw [g91L0_eq]
    simp [ih, hcap, hQ2.norm]

theorem c91 {g : Nat} {cap : List AV} {c0 : List AV} {f : Ty → Ty} (hf : LeafF g cap c0 f) (hcap : flatB.flatL cap = true) (hpass : passB.passL cap = true) (harg : argsOf [] 1 cap = cap) (hnrm : ∀ old ts, normL old ts cap = (cap, old, ts)) (hpo : cap.all passO = true) {t : Ty} (hO : t.Ok) :
    ∀ sh, Quiet sh → sh[0]? = some (some c0) → (orcL AP).i 91 [.pv t.pv, .fn g cap] sh [] = some ([(t.rbl f).av], sh, []) := by
  revert hO
  refine Ty.rec1 (p := fun t => t.Ok → ∀ sh, Quiet sh → sh[0]? = some (some c0) → (orcL AP).i 91 [.pv t.pv, .fn g cap] sh [] = some ([(t.rbl f).av], sh, [])) ?_ t
  intro t ih hO sh hq h0
  rw [callI_body (af := g91) rfl (by simp [g91])]
  by_cases hn : t.args = []
  · have h := hf sh t hq h0 hn
    simp [hn] at h
    simp [g91, hn, hcap, hpass, harg, hnrm, hpo, hq.norm, hq.shift, h, Ty.rbl_nil hn]
  · have hl : ¬ t.args.length = 0 := by simpa using hn
    have hS := hO.sm
    have h := L91 hq h0 hcap hpass hO.sm (fun x hx => ih x hx (hO.kid x hx)) t.args.length 0 (by omega) (by omega) [] (by simp)
    have hz : arrC [] t.args.length = (List.replicate t.args.length [.pv (vI 0), .pv (.str []), .pv (vI 0), .pv (vI 0), .pv (.lst [])]).flatten := by simp [arrC, zcl]
    have hQ := hq.app (Quiet.one (arrC_pv (d := []) (m := t.args.length)))
    rw [g91L0_eq] at h
    unfold Sm at hS
    have b1 : (t.args.length : Int) ≤ 9223372036854775807 := by omega
    have b2 : (t.args.length : Int) * 64 ≤ 140737488355328 := by omega
    rw [hz] at h hQ
    simp [hcap, hQ.norm, Ty.cl, R91] at h
    have hQ2 := hq.app (Quiet.one (arrC_pv (d := t.args.map (Ty.rbl f)) (m := 0)))
    have hfr := arrC_frz (d := t.args.map (Ty.rbl f))
    have hle := arrC_len (d := t.args.map (Ty.rbl f)) (m := 0)
    simp at hfr hle
    simp (disch := omega) [g91, hn, hl, hcap, hpass, hq.norm, hq.shift, b1, b2, g91L0_eq, hQ.norm, h, Ty.rbl_cons hn, hfr, hle]
end Go.Ab.Lw
