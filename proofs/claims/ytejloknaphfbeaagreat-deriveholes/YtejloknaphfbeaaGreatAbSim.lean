import Derived.Test.YtejloknaphfbeaaGreatAbRel
import Derived.Below
/-
  The relation between an abstract state and a state of the model.
-/
set_option linter.unusedVariables false
set_option linter.unusedSimpArgs false
namespace Go.Ab

inductive Role where
  | imm | priv (d : Nat) | shr (b : Nat) | tok (τ : Nat)
  deriving DecidableEq

/-- The slice that a token stands for, with its room to spare. -/
structure Tk where
  base : Option Addr
  len : Nat
  cap : Nat
  sz : Nat

def Tk.val (t : Tk) : Value := .slice t.base t.len t.cap

structure Gh where
  K : Know
  role : Nat → Role
  pm : Nat → Option Nat
  sm : Nat → Option (Nat × Nat)
  tk : Nat → Option Tk

/-- Which function of the program bears a lasting number. -/
abbrev Nums := Nat → Nat → Prop

mutual
def RelA (ρ : Nums) (G : Gh) : AV → Value → Prop
  | .un, v => v = undef
  | .pv p, v => Rel G.K p v
  | .clp els, v => ∃ base len, v = .slice base len len ∧ RSl G.K els base len
  | .own els τ, v => ∃ t, G.tk τ = some t ∧ els.length ≤ t.len ∧ Rel G.K (.lst els) v ∧
      (els.length = t.len → v = t.val ∧ (els = [] ∨ ∃ b o, t.base = some ⟨b, o, none⟩ ∧ Row G.K b o t.sz els))
  | .agg cs, v => ∃ vs : List Value, v = .agg vs.toArray ∧ RelAs ρ G cs vs
  | .tup cs, v => ∃ vs : List Value, v = .tuple vs.toArray ∧ RelAs ρ G cs vs
  | .lptr d off, v => ∃ b, G.pm d = some b ∧ v = .pointer (some ⟨b, off, none⟩)
  | .sptr s off, v => ∃ b, G.sm s = some b ∧ v = .pointer (some ⟨b.1, off, none⟩)
  | .eptr cs, v => ∃ b o vs, v = .pointer (some ⟨b, o, none⟩) ∧ At G.K b o vs ∧ RLs G.K cs vs
  | .sarr s z n _, v => ∃ b cap, G.sm s = some b ∧ v = .slice (some ⟨b.1, 0, none⟩) n (n + cap) ∧ (n + cap) * z ≤ b.2
  | .fn g cap, v => ∃ f vs, ρ g f ∧ v = .func (.func f) #[] (List.toArray vs) ∧ RelAs ρ G cap vs
  | .nilp, v => v = .pointer none ∨ v = .nilFunc
  | .mref s, v => ∃ b, G.sm s = some b ∧ v = .map (some b.1)
  | .mapc _, _ => False
  | .ssub s off n, v => ∃ b base cap, G.sm s = some b ∧ v = .slice base n cap ∧ (n = 0 ∨ base = some ⟨b.1, off, none⟩)
def RelAs (ρ : Nums) (G : Gh) : List AV → List Value → Prop
  | [], vs => vs = []
  | c :: cs, vs => ∃ v r, vs = v :: r ∧ RelA ρ G c v ∧ RelAs ρ G cs r
end

/-- What is known grows. -/
structure Gh.le (G G' : Gh) : Prop where
  K : G.K.le G'.K
  pm : ∀ d b, G.pm d = some b → G'.pm d = some b
  sm : ∀ d b, G.sm d = some b → G'.sm d = some b
  tk : ∀ τ t, G.tk τ = some t → ∃ t', G'.tk τ = some t' ∧ t.len ≤ t'.len ∧ (t.len = t'.len → t' = t)

theorem Gh.le_refl (G : Gh) : G.le G := ⟨G.K.le_refl, fun _ _ h => h, fun _ _ h => h, fun _ t h => ⟨t, h, Nat.le_refl _, fun _ => rfl⟩⟩
theorem Gh.le_trans {a b c : Gh} (h : a.le b) (k : b.le c) : a.le c :=
  ⟨Know.le_trans h.K k.K, fun x y e => k.pm _ _ (h.pm x y e), fun x y e => k.sm _ _ (h.sm x y e), fun τ t e => by
    obtain ⟨t', e1, e2, e3⟩ := h.tk τ t e
    obtain ⟨t'', f1, f2, f3⟩ := k.tk τ t' e1
    exact ⟨t'', f1, Nat.le_trans e2 f2, fun hl => by
      have h1 : t.len = t'.len := Nat.le_antisymm e2 (hl ▸ f2)
      have h2 : t'.len = t''.len := h1 ▸ hl
      rw [f3 h2, e3 h1]⟩⟩

section
variable {ρ : Nums} {G G' : Gh}

mutual
theorem RelA.mono (h : G.le G') : ∀ {x : AV} {v : Value}, RelA ρ G x v → RelA ρ G' x v
  | .un, _, hr => by simpa only [RelA] using hr
  | .pv p, _, hr => by simp only [RelA] at hr ⊢; exact hr.mono h.K
  | .clp els, _, hr => by
    simp only [RelA] at hr ⊢
    obtain ⟨b, l, e, r⟩ := hr
    exact ⟨b, l, e, r.mono h.K⟩
  | .own els τ, v, hr => by
    simp only [RelA] at hr ⊢
    obtain ⟨t, e1, e2, e3, e4⟩ := hr
    obtain ⟨t', f1, f2, f3⟩ := h.tk τ t e1
    refine ⟨t', f1, Nat.le_trans e2 f2, e3.mono h.K, fun hl => ?_⟩
    have h1 : els.length = t.len := Nat.le_antisymm e2 (hl ▸ f2)
    have h2 := f3 (h1 ▸ hl)
    subst h2
    obtain ⟨g1, g2⟩ := e4 h1
    exact ⟨g1, orR g2 fun ⟨b, o, e, r⟩ => ⟨b, o, e, Row.mono h.K _ _ _ _ r⟩⟩
  | .agg cs, _, hr => by
    simp only [RelA] at hr ⊢
    obtain ⟨vs, e, r⟩ := hr
    exact ⟨vs, e, RelAs.mono h r⟩
  | .tup cs, _, hr => by
    simp only [RelA] at hr ⊢
    obtain ⟨vs, e, r⟩ := hr
    exact ⟨vs, e, RelAs.mono h r⟩
  | .lptr d off, _, hr => by
    simp only [RelA] at hr ⊢
    obtain ⟨b, e, r⟩ := hr
    exact ⟨b, h.pm _ _ e, r⟩
  | .sptr d off, _, hr => by
    simp only [RelA] at hr ⊢
    obtain ⟨b, e, r⟩ := hr
    exact ⟨b, h.sm _ _ e, r⟩
  | .eptr cs, _, hr => by
    simp only [RelA] at hr ⊢
    obtain ⟨b, o, vs, e, f, r⟩ := hr
    exact ⟨b, o, vs, e, f.mono h.K, RLs.mono h.K _ _ r⟩
  | .sarr s _ n _, _, hr => by
    simp only [RelA] at hr ⊢
    obtain ⟨b, c, e, r⟩ := hr
    exact ⟨b, c, h.sm _ _ e, r⟩
  | .fn g cap, _, hr => by
    simp only [RelA] at hr ⊢
    obtain ⟨f, vs, e1, e2, r⟩ := hr
    exact ⟨f, vs, e1, e2, RelAs.mono h r⟩
  | .nilp, _, hr => by simpa only [RelA] using hr
  | .mref s, _, hr => by
    simp only [RelA] at hr ⊢
    obtain ⟨b, e, r⟩ := hr
    exact ⟨b, h.sm _ _ e, r⟩
  | .mapc _, _, hr => by simp only [RelA] at hr
  | .ssub s _ _, _, hr => by
    simp only [RelA] at hr ⊢
    obtain ⟨b, x, c, e, r⟩ := hr
    exact ⟨b, x, c, h.sm _ _ e, r⟩
theorem RelAs.mono (h : G.le G') : ∀ {xs : List AV} {vs : List Value}, RelAs ρ G xs vs → RelAs ρ G' xs vs
  | [], _, hr => by simpa only [RelAs] using hr
  | _ :: _, _, hr => by
    simp only [RelAs] at hr ⊢
    obtain ⟨v, r, e, e1, e2⟩ := hr
    exact ⟨v, r, e, RelA.mono h e1, RelAs.mono h e2⟩
end

theorem RelAs.length : ∀ {xs : List AV} {vs : List Value}, RelAs ρ G xs vs → vs.length = xs.length
  | [], _, hr => by simp only [RelAs] at hr; simp [hr]
  | _ :: _, _, hr => by
    simp only [RelAs] at hr
    obtain ⟨v, r, rfl, _, e2⟩ := hr
    simp [RelAs.length e2]

theorem RelAs.get : ∀ {xs : List AV} {vs : List Value}, RelAs ρ G xs vs → ∀ {j : Nat} {x : AV}, xs[j]? = some x → ∃ v, vs[j]? = some v ∧ RelA ρ G x v
  | [], _, _, j, x, hc => by simp at hc
  | x0 :: xs, _, hr, j, x, hc => by
    simp only [RelAs] at hr
    obtain ⟨v, r, rfl, e1, e2⟩ := hr
    cases j with
    | zero => simp at hc; subst hc; exact ⟨v, by simp, e1⟩
    | succ j => simpa using RelAs.get e2 (by simpa using hc)

theorem RelAs.drop : ∀ (n : Nat) {xs : List AV} {vs : List Value}, RelAs ρ G xs vs → RelAs ρ G (xs.drop n) (vs.drop n)
  | 0, _, _, h => by simpa using h
  | n + 1, [], _, h => by simp only [RelAs] at h; subst h; simp [RelAs]
  | n + 1, _ :: cs, _, h => by
    simp only [RelAs] at h
    obtain ⟨v, r, rfl, _, e3⟩ := h
    simpa using RelAs.drop n e3

theorem RelAs.take : ∀ (n : Nat) {xs : List AV} {vs : List Value}, RelAs ρ G xs vs → RelAs ρ G (xs.take n) (vs.take n)
  | 0, _, _, _ => by simp [RelAs]
  | n + 1, [], _, h => by simp only [RelAs] at h; subst h; simp [RelAs]
  | n + 1, _ :: cs, _, h => by
    simp only [RelAs] at h
    obtain ⟨v, r, rfl, e2, e3⟩ := h
    simp only [List.take_succ_cons, RelAs]
    exact ⟨v, _, rfl, e2, RelAs.take n e3⟩

theorem RelAs.append : ∀ {xs : List AV} {vs : List Value} {ys : List AV} {us : List Value}, RelAs ρ G xs vs → RelAs ρ G ys us → RelAs ρ G (xs ++ ys) (vs ++ us)
  | [], _, _, _, h, k => by simp only [RelAs] at h; subst h; simpa using k
  | _ :: cs, _, _, _, h, k => by
    simp only [RelAs] at h
    obtain ⟨v, r, rfl, e2, e3⟩ := h
    simp only [List.cons_append, RelAs]
    exact ⟨v, _, rfl, e2, RelAs.append e3 k⟩

theorem RelAs.set : ∀ {xs : List AV} {vs : List Value} (j : Nat) {x : AV} {v : Value}, RelAs ρ G xs vs → RelA ρ G x v → RelAs ρ G (xs.set j x) (vs.set j v)
  | [], _, _, _, _, h, _ => by simp only [RelAs] at h; subst h; simp [RelAs]
  | _ :: cs, _, 0, x, v, h, k => by
    simp only [RelAs] at h
    obtain ⟨v0, r, rfl, e2, e3⟩ := h
    simp only [List.set_cons_zero, RelAs]
    exact ⟨v, r, rfl, k, e3⟩
  | _ :: cs, _, j + 1, x, v, h, k => by
    simp only [RelAs] at h
    obtain ⟨v0, r, rfl, e2, e3⟩ := h
    simp only [List.set_cons_succ, RelAs]
    exact ⟨v0, _, rfl, e2, RelAs.set j e3 k⟩

theorem relAs_pv : ∀ {cs : List PV} {vs : List Value}, RLs G.K cs vs → RelAs ρ G (cs.map .pv) vs
  | [], _, h => by simp only [RLs] at h; subst h; simp [RelAs]
  | _ :: cs, _, h => by
    simp only [RLs] at h
    obtain ⟨v, r, rfl, e2, e3⟩ := h
    simp only [List.map_cons, RelAs]
    exact ⟨v, r, rfl, by simp only [RelA]; exact Rel.ofR e2, relAs_pv e3⟩

theorem relAs_of_relL : ∀ {cs : List PV} {vs : List Value}, RelL G.K cs vs → RelAs ρ G (cs.map .pv) vs
  | [], _, h => by cases h; simp [RelAs]
  | _ :: cs, _, ⟨v, r, e1, e2, e3⟩ => by
    subst e1
    simp only [List.map_cons, RelAs]
    exact ⟨v, r, rfl, by simp only [RelA]; exact e2, relAs_of_relL e3⟩

/-- A value's cells. -/
theorem RelA.cells {x : AV} {v : Value} (h : RelA ρ G x v) (hx : (cellsA x).all leafB = true) : RelAs ρ G (cellsA x) v.cells.toList := by
  cases x with
  | agg cs => simp only [RelA] at h; obtain ⟨vs, rfl, r⟩ := h; simpa [cellsA, Value.cells] using r
  | pv p =>
    cases p with
    | agg cs =>
      simp only [RelA, Rel] at h
      obtain ⟨vs, rfl, r⟩ := h
      simpa [cellsA, Value.cells] using relAs_pv r
    | bool b => have h' := h; simp only [RelA, Rel, R] at h; simp at h; subst h; simp only [cellsA, Value.cells, RelAs]; exact ⟨_, [], rfl, h', rfl⟩
    | int k n => have h' := h; simp only [RelA, Rel, R] at h; simp at h; subst h; simp only [cellsA, Value.cells, RelAs]; exact ⟨_, [], rfl, h', rfl⟩
    | str s => have h' := h; simp only [RelA, Rel, R] at h; simp at h; subst h; simp only [cellsA, Value.cells, RelAs]; exact ⟨_, [], rfl, h', rfl⟩
    | lst els =>
      have h' := h
      simp only [RelA] at h
      obtain ⟨b, l, c, rfl, _⟩ := rel_lst.1 h
      simp only [cellsA, Value.cells, RelAs]; exact ⟨_, [], rfl, h', rfl⟩
  | clp els =>
    have h' := h
    simp only [RelA] at h; obtain ⟨b, l, rfl, _⟩ := h
    simp only [cellsA, Value.cells, RelAs]; exact ⟨_, [], rfl, h', rfl⟩
  | own els τ =>
    have h' := h
    simp only [RelA] at h; obtain ⟨t, _, _, h3, _⟩ := h
    obtain ⟨b, l, c, rfl, _⟩ := rel_lst.1 h3
    simp only [cellsA, Value.cells, RelAs]; exact ⟨_, [], rfl, h', rfl⟩
  | sptr s o =>
    have h' := h
    simp only [RelA] at h; obtain ⟨b, _, rfl⟩ := h
    simp only [cellsA, Value.cells, RelAs]; exact ⟨_, [], rfl, h', rfl⟩
  | sarr s z n ag =>
    have h' := h
    simp only [RelA] at h; obtain ⟨b, c, _, rfl, _⟩ := h
    simp only [cellsA, Value.cells, RelAs]; exact ⟨_, [], rfl, h', rfl⟩
  | fn g cap =>
    have h' := h
    simp only [RelA] at h; obtain ⟨f, vs, _, rfl, _⟩ := h
    simp only [cellsA, Value.cells, RelAs]; exact ⟨_, [], rfl, h', rfl⟩
  | nilp =>
    have h' := h
    simp only [RelA] at h
    rcases h with rfl | rfl
    · simp only [cellsA, Value.cells, RelAs]; exact ⟨_, [], rfl, h', rfl⟩
    · simp only [cellsA, Value.cells, RelAs]; exact ⟨_, [], rfl, h', rfl⟩
  | mref s =>
    have h' := h
    simp only [RelA] at h; obtain ⟨b, _, rfl⟩ := h
    simp only [cellsA, Value.cells, RelAs]; exact ⟨_, [], rfl, h', rfl⟩
  | mapc kvs => simp only [RelA] at h
  | _ => simp [cellsA, leafB] at hx

end

/-! ### Memory -/

/-- Block b holds these cells, for that role. -/
structure Blk (ρ : Nums) (G : Gh) (w : World) (b : Nat) (r : Role) (cells : List AV) : Prop where
  role : G.role b = r
  at_ : ∃ c t, w.heap[b]? = some (.cells c t (0, 0)) ∧ RelAs ρ G cells c.toList

/-- The entries of a map, in order. -/
def MapRel (K : Know) : List (PV × PV) → List MapEntry → Prop
  | [], es => es = []
  | (k, p) :: r, es => ∃ e es', es = e :: es' ∧ Rel K k e.key ∧ Rel K p e.val ∧ MapRel K r es'

theorem MapRel.mono {K K' : Know} (h : K.le K') : ∀ {kvs : List (PV × PV)} {es : List MapEntry}, MapRel K kvs es → MapRel K' kvs es
  | [], _, hr => hr
  | (_, _) :: _, _, ⟨e, es', e1, e3, e4, e5⟩ => ⟨e, es', e1, e3.mono h, e4.mono h, MapRel.mono h e5⟩

/-- What an object of shared memory holds: cells (of n, the first ones), or a map's entries. -/
def Holds (ρ : Nums) (G : Gh) (o : Obj) (n : Nat) (cells : List AV) : Prop :=
  (∃ c t vs suf, o = .cells c t (0, 0) ∧ c.size = n ∧ c.toList = vs ++ suf ∧ RelAs ρ G cells vs) ∨ ∃ es clock kvs, o = .map es clock ∧ cells = [.mapc kvs] ∧ MapRel G.K kvs es.toList

theorem Holds.full {ρ : Nums} {G : Gh} {c : Array Value} {t : TypeId} {cells : List AV} (h : RelAs ρ G cells c.toList) : Holds ρ G (.cells c t (0, 0)) c.size cells :=
  .inl ⟨c, t, c.toList, [], rfl, rfl, by simp, h⟩

/-- A shared block (with its size) holds these cells, or this map. -/
structure SBlk (ρ : Nums) (G : Gh) (w : World) (b : Nat × Nat) (r : Role) (cells : List AV) : Prop where
  role : G.role b.1 = r
  at_ : ∃ o, w.heap[b.1]? = some o ∧ Holds ρ G o b.2 cells

theorem Holds.to {ρ : Nums} {G G' : Gh} {o : Obj} {n : Nat} {cells cells' : List AV} (h : Holds ρ G o n cells) (hK : G.K.le G'.K) (hm : ∀ kvs, cells = [.mapc kvs] → cells' = [.mapc kvs])
    (hc : ∀ vs, RelAs ρ G cells vs → RelAs ρ G' cells' vs) : Holds ρ G' o n cells' := by
  rcases h with ⟨c, t, vs, suf, e, e3, e4, r⟩ | ⟨es, cl, kvs, e, e2, r⟩
  · exact .inl ⟨c, t, vs, suf, e, e3, e4, hc _ r⟩
  · exact .inr ⟨es, cl, kvs, e, hm kvs e2, r.mono hK⟩

theorem Holds.mono {ρ : Nums} {G G' : Gh} {o : Obj} {n : Nat} {cells : List AV} (h : G.le G') (hh : Holds ρ G o n cells) : Holds ρ G' o n cells :=
  hh.to h.K (fun _ e => e) (fun _ r => r.mono h)

/-- The cells of a shared block: the first ones of a block. -/
structure PBlk' (ρ : Nums) (G : Gh) (w : World) (b : Nat × Nat) (r : Role) (cells : List AV) : Prop where
  role : G.role b.1 = r
  at_ : ∃ c t vs suf, w.heap[b.1]? = some (.cells c t (0, 0)) ∧ c.size = b.2 ∧ c.toList = vs ++ suf ∧ RelAs ρ G cells vs
theorem SBlk.cells {ρ : Nums} {G : Gh} {w : World} {b : Nat × Nat} {r : Role} {cells : List AV} (h : SBlk ρ G w b r cells) (hm : mapB cells = false) : PBlk' ρ G w b r cells := by
  obtain ⟨h1, o, h2, h3⟩ := h
  rcases h3 with ⟨c, t, vs, suf, rfl, h4, h5, h6⟩ | ⟨es, cl, kvs, rfl, rfl, _⟩
  · exact ⟨h1, c, t, vs, suf, h2, h4, h5, h6⟩
  · simp [mapB] at hm

theorem relAs_mapB {ρ : Nums} {G : Gh} {cells : List AV} {vs : List Value} (h : RelAs ρ G cells vs) : mapB cells = false := by
  cases cells with
  | nil => rfl
  | cons c r =>
    cases c with
    | mapc kvs => simp [RelAs, RelA] at h
    | _ => rfl

structure TkOk (G : Gh) (w : World) (τ : Nat) (t : Tk) : Prop where
  cap : t.len ≤ t.cap
  zero : t.len = 0 → t.cap = 0
  spare : t.len < t.cap → ∃ b o c ty, t.base = some ⟨b, o, none⟩ ∧ G.role b = .tok τ ∧ w.heap[b]? = some (.cells c ty (0, 0)) ∧
    o + t.cap * t.sz ≤ c.size ∧ ∀ j v, G.K b j = some v → j < o + t.len * t.sz

structure Inv (ρ : Nums) (G : Gh) (w : World) (mem : List (Nat × List AV)) (sh : Sh) (toks : Toks) : Prop where
  known : ∀ b o v, G.K b o = some v → w.cell? ⟨b, o, none⟩ = some v
  known_role : ∀ b o v, G.K b o = some v → G.role b = .imm ∨ ∃ τ, G.role b = .tok τ
  fresh : ∀ b, w.heap.size ≤ b → G.role b = .imm
  memOk : ∀ d cells, look mem d = some cells → ∃ b, G.pm d = some b ∧ Blk ρ G w b (.priv d) cells ∧ cells.all leafB = true
  pmOk : ∀ d b, G.pm d = some b → (look mem d).isSome = true
  shOk : ∀ s cells, sh[s]? = some (some cells) → ∃ b, G.sm s = some b ∧ SBlk ρ G w b (.shr s) cells ∧ cells.all leafS = true ∧ cells.all (refsLt (s + 1)) = true
  smOk : ∀ s b, G.sm s = some b → s < sh.length
  tokOk : ∀ τ n, toks[τ]? = some n → ∃ t, G.tk τ = some t ∧ t.len = n ∧ TkOk G w τ t
  tkOk : ∀ τ t, G.tk τ = some t → toks[τ]? = some t.len

structure EnvOk (ρ : Nums) (G : Gh) (N : Nat) (env : List (Nat × AV)) (a : Act) : Prop where
  size : a.tmps.size = N
  env : ∀ t x, look env t = some x → ∃ v, a.tmps[t]? = some v ∧ RelA ρ G x v

/-- The marks of ranges over functions that are over: each names a block of its own that holds no calls. -/
def Marks (n0 : Nat) (G : Gh) (a : Act) (w : World) : Prop :=
  n0 ≤ w.heap.size ∧ ∃ Ds : List Nat, a.defers = Ds.map (fun D => { target := .collected D, args := #[] }) ∧ Ds.Nodup ∧
    ∀ D ∈ Ds, n0 ≤ D ∧ D < w.heap.size ∧ G.role D = .imm ∧ w.heap[D]? = some (.deferred (some []))

structure Sim (ρ : Nums) (n0 N : Nat) (G : Gh) (st : St) (a : Act) (w : World) : Prop where
  env : EnvOk ρ G N st.env a
  inv : Inv ρ G w st.mem st.sh st.toks
  marks : Marks n0 G a w

/-- How ghost and world may go on: what is nobody's stays as it is. -/
structure Evo (G : Gh) (w : World) (G' : Gh) (w' : World) : Prop where
  size : w.heap.size ≤ w'.heap.size
  os : w'.os = w.os
  tape : w'.tape = w.tape
  output : w'.output = w.output
  K : G.K.le G'.K
  sm : ∀ s b, G.sm s = some b → G'.sm s = some b
  imm : ∀ b, b < w.heap.size → G.role b = .imm → G'.role b = .imm ∧ w'.heap[b]? = w.heap[b]?
  tokr : ∀ b τ, b < w.heap.size → G.role b = .tok τ → G'.role b = .imm ∨ ∃ τ', G'.role b = .tok τ'
  Kimm : ∀ b o v, b < w.heap.size → G.role b = .imm → G'.K b o = some v → G.K b o = some v

theorem Evo.refl (G : Gh) (w : World) : Evo G w G w :=
  ⟨Nat.le_refl _, rfl, rfl, rfl, G.K.le_refl, fun _ _ h => h, fun _ _ h => ⟨h, rfl⟩, fun _ τ _ h => .inr ⟨τ, h⟩, fun _ _ _ _ _ h => h⟩

theorem Evo.trans {G₁ G₂ G₃ : Gh} {w₁ w₂ w₃ : World} (h : Evo G₁ w₁ G₂ w₂) (k : Evo G₂ w₂ G₃ w₃) : Evo G₁ w₁ G₃ w₃ where
  size := Nat.le_trans h.size k.size
  os := k.os.trans h.os
  tape := k.tape.trans h.tape
  output := k.output.trans h.output
  K := Know.le_trans h.K k.K
  sm := fun s b e => k.sm _ _ (h.sm s b e)
  imm := fun b hb hr => by
    obtain ⟨h1, h2⟩ := h.imm b hb hr
    obtain ⟨k1, k2⟩ := k.imm b (Nat.lt_of_lt_of_le hb h.size) h1
    exact ⟨k1, k2.trans h2⟩
  tokr := fun b τ hb hr => by
    rcases h.tokr b τ hb hr with h1 | ⟨τ', h1⟩
    · exact .inl (k.imm b (Nat.lt_of_lt_of_le hb h.size) h1).1
    · exact k.tokr b τ' (Nat.lt_of_lt_of_le hb h.size) h1
  Kimm := fun b o v hb hr hk => h.Kimm b o v hb hr (k.Kimm b o v (Nat.lt_of_lt_of_le hb h.size) (h.imm b hb hr).1 hk)

theorem Marks.evo {n0 : Nat} {G G' : Gh} {a a' : Act} {w w' : World} (h : Marks n0 G a w) (he : Evo G w G' w') (hd : a'.defers = a.defers) : Marks n0 G' a' w' := by
  obtain ⟨e0, Ds, e1, e2, e3⟩ := h
  refine ⟨Nat.le_trans e0 he.size, Ds, hd.trans e1, e2, fun D hD => ?_⟩
  obtain ⟨f0, f1, f2, f3⟩ := e3 D hD
  obtain ⟨g1, g2⟩ := he.imm D f1 f2
  exact ⟨f0, Nat.lt_of_lt_of_le f1 he.size, g1, g2.trans f3⟩

/-- Behind a draw of the tape nothing has turned. -/
theorem Evo.drew (G : Gh) (w : World) : Evo G w G w.drew :=
  ⟨Nat.le_refl _, rfl, rfl, rfl, G.K.le_refl, fun _ _ h => h, fun _ _ h => ⟨h, rfl⟩, fun _ τ _ h => .inr ⟨τ, h⟩, fun _ _ _ _ _ h => h⟩

theorem Inv.drew {ρ : Nums} {G : Gh} {w : World} {mem : List (Nat × List AV)} {sh : Sh} {toks : Toks} (h : Inv ρ G w mem sh toks) : Inv ρ G w.drew mem sh toks where
  known := h.known
  known_role := h.known_role
  fresh := h.fresh
  memOk := fun d cells e => by obtain ⟨b, e1, e2, e3⟩ := h.memOk d cells e; exact ⟨b, e1, ⟨e2.role, e2.at_⟩, e3⟩
  pmOk := h.pmOk
  shOk := fun d cells e => by obtain ⟨b, e1, e2, e3⟩ := h.shOk d cells e; exact ⟨b, e1, ⟨e2.role, e2.at_⟩, e3⟩
  smOk := h.smOk
  tokOk := fun τ n e => by obtain ⟨t, e1, e2, e3⟩ := h.tokOk τ n e; exact ⟨t, e1, e2, ⟨e3.cap, e3.zero, e3.spare⟩⟩
  tkOk := h.tkOk

end Go.Ab
