import Derived.Test.YtejloknaphfbeaaGreatAbDefs
/-
  Without fuel: the limit of the evaluator.
-/
set_option linter.unusedVariables false
set_option linter.unusedSimpArgs false
namespace Go.Ab

/-! ### Limits of growing families -/

def Grows {α : Type} (f : Nat → Option α) : Prop := ∀ k k' r, k ≤ k' → f k = some r → f k' = some r

open Classical in
noncomputable def lim {α : Type} (f : Nat → Option α) : Option α := if h : ∃ r k, f k = some r then some h.choose else none

theorem lim_of {α : Type} {f : Nat → Option α} (hf : Grows f) {k : Nat} {r : α} (h : f k = some r) : lim f = some r := by
  have hex : ∃ r k, f k = some r := ⟨r, k, h⟩
  unfold lim
  rw [dif_pos hex]
  obtain ⟨k', h'⟩ := hex.choose_spec
  have h1 := hf _ (max k k') _ (Nat.le_max_right _ _) h'
  have h2 := hf _ (max k k') _ (Nat.le_max_left _ _) h
  rw [h1] at h2
  exact h2

theorem lim_some {α : Type} {f : Nat → Option α} {r : α} (h : lim f = some r) : ∃ k, f k = some r := by
  unfold lim at h
  split at h
  · rename_i hex
    obtain ⟨k, hk⟩ := hex.choose_spec
    cases h
    exact ⟨k, hk⟩
  · simp at h

theorem lim_none {α : Type} {f : Nat → Option α} (h : ∀ k, f k = none) : lim f = none := by
  cases hl : lim f with
  | none => rfl
  | some r => obtain ⟨k, hk⟩ := lim_some hl; rw [h k] at hk; simp at hk

theorem lim_ext {α : Type} {f : Nat → Option α} (hf : Grows f) {o : Option α} (h1 : ∀ k r, f k = some r → o = some r) (h2 : ∀ r, o = some r → ∃ k, f k = some r) : lim f = o := by
  cases ho : o with
  | none => exact lim_none fun k => by cases hk : f k with | none => rfl | some r => rw [h1 k r hk] at ho; simp at ho
  | some r => obtain ⟨k, hk⟩ := h2 r ho; exact lim_of hf hk

/-! ### More calls, more turns -/

structure Orc.le (a b : Orc) : Prop where
  p : ∀ g x r, a.p g x = some r → b.p g x = some r
  i : ∀ g x s t r, a.i g x s t = some r → b.i g x s t = some r

theorem Orc.le_refl (a : Orc) : a.le a := ⟨fun _ _ _ h => h, fun _ _ _ _ _ h => h⟩
theorem Orc.le_trans {a b c : Orc} (h : a.le b) (k : b.le c) : a.le c := ⟨fun g x r e => k.p _ _ _ (h.p _ _ _ e), fun g x s t r e => k.i _ _ _ _ _ (h.i _ _ _ _ _ e)⟩

theorem execCall_mono {a b : Orc} (h : a.le b) {g : Nat} {own : List Nat} {vals : List AV} {sh : Sh} {toks : Toks} {r : AV × Sh × Toks} (e : execCall a g own vals sh toks = some r) : execCall b g own vals sh toks = some r := by
  unfold execCall at *
  split at e
  · rename_i hp
    rw [if_pos hp]
    simp only [Option.map_eq_some_iff] at e ⊢
    obtain ⟨x, h1, h2⟩ := e
    exact ⟨x, h.i _ _ _ _ _ h1, h2⟩
  · simp at e

theorem exec_mono {a b : Orc} (h : a.le b) {op : AK} {vals : List AV} {cells : Option (List AV)} {sh : Sh} {toks : Toks} {r : Out} (e : exec a op vals cells sh toks = some r) : exec b op vals cells sh toks = some r := by
  cases op with
  | callP g =>
    simp only [exec] at e ⊢
    split at e
    · simp only [Option.map_eq_some_iff] at e ⊢
      obtain ⟨x, h1, h2⟩ := e
      exact ⟨x, h.p _ _ _ h1, h2⟩
    · simp at e
  | callPS g =>
    simp only [exec] at e ⊢
    split at e
    · simp only [Option.map_eq_some_iff] at e ⊢
      obtain ⟨x, h1, h2⟩ := e
      exact ⟨x, h.p _ _ _ h1, h2⟩
    · simp at e
  | callI g own =>
    simp only [exec, Option.map_eq_some_iff] at e ⊢
    obtain ⟨x, h1, h2⟩ := e
    exact ⟨x, execCall_mono h h1, h2⟩
  | callQ g =>
    simp only [exec] at e ⊢
    split at e
    · split at e
      · rename_i rs ts h1
        rw [h.i _ _ _ _ _ h1]
        exact e
      · simp at e
    · simp at e
  | callV =>
    cases vals with
    | nil => simp [exec] at e
    | cons f vals =>
      cases f with
      | fn g cap =>
        simp only [exec, Option.map_eq_some_iff] at e ⊢
        obtain ⟨x, h1, h2⟩ := e
        exact ⟨x, execCall_mono h h1, h2⟩
      | _ => simp [exec] at e
  | _ => rw [← e]; unfold exec; split <;> first | rfl | (rename_i heq; cases heq; done) | (simp at *; done)

theorem evOp_mono {a b : Orc} (h : a.le b) {o : AOp} {st r : St} (e : evOp a o st = some r) : evOp b o st = some r := by
  unfold evOp at *
  cases hw : wantedA st.env o.guard with
  | none => rw [hw] at e; simp at e
  | some t =>
    cases t with
    | false => rw [hw] at e; exact e
    | true =>
      rw [hw] at e
      dsimp only at e ⊢
      cases hv : evOpds st.env o.args with
      | none => rw [hv] at e; simp at e
      | some vals =>
        rw [hv] at e
        dsimp only at e ⊢
        cases ho : exec a o.op vals (o.op.key.bind (look st.mem)) st.sh st.toks with
        | none => rw [ho] at e; simp at e
        | some out =>
          rw [ho] at e
          rw [exec_mono h ho]
          exact e

theorem evOps_mono {a b : Orc} (h : a.le b) : ∀ {l : List AOp} {st r : St}, evOps a l st = some r → evOps b l st = some r
  | [], _, _, e => e
  | o :: l, st, r, e => by
    simp only [evOps] at e ⊢
    split at e
    · simp at e
    · rename_i st' ho
      rw [evOp_mono h ho]
      exact evOps_mono h e

theorem loopN_mono {f f' : St → Option (AExit × St)} {pre : St → St} (h : ∀ s r, f s = some r → f' s = some r) : ∀ {n n' : Nat} {st : St} {r : AExit × St}, n ≤ n' → loopN f pre n st = some r → loopN f' pre n' st = some r
  | 0, _, _, _, _, e => by simp [loopN] at e
  | n + 1, 0, _, _, hn, _ => by omega
  | n + 1, n' + 1, st, r, hn, e => by
    simp only [loopN] at e ⊢
    cases hf : f (pre st) with
    | none => rw [hf] at e; simp at e
    | some q =>
      rw [h _ _ hf]
      rw [hf] at e
      obtain ⟨x, s⟩ := q
      cases x with
      | normal => exact loopN_mono h (by omega) e
      | ret => exact e
      | exit id => exact e

theorem backN_mono {f f' : St → Option (AExit × St)} (h : ∀ s r, f s = some r → f' s = some r) {live : List Nat} {pi px sz : Nat} {ag : Bool} {env : List (Nat × AV)} : ∀ {l : List (PV × Nat)} {st : St} {r : AExit × St},
    backN f live pi px sz ag env l st = some r → backN f' live pi px sz ag env l st = some r
  | [], _, _, e => e
  | (el, i) :: l, st, r, e => by
    simp only [backN] at e ⊢
    cases hv : elAV sz ag el with
    | none => rw [hv] at e; simp at e
    | some v =>
      rw [hv] at e
      simp only at e ⊢
      cases hf : f (norm (restrict live { st with env := putL (putL env pi (.pv (.int .i64 i))) px v })) with
      | none => rw [hf] at e; simp at e
      | some q =>
        rw [h _ _ hf]
        rw [hf] at e
        obtain ⟨x, s⟩ := q
        cases x with
        | normal => exact backN_mono h e
        | ret => exact e
        | exit id => exact e
theorem backWith_mono {f f' : St → Option (AExit × St)} (h : ∀ s r, f s = some r → f' s = some r) {v : Option AV} {gb pi px sz : Nat} {ag : Bool} {live : List Nat} {st : St} {r : AExit × St}
    (e : backWith f v gb pi px sz ag live st = some r) : backWith f' v gb pi px sz ag live st = some r := by
  unfold backWith at e ⊢
  split at e
  · split at e
    · rename_i hg
      rw [if_pos hg]
      split at e
      · split at e
        · rename_i hl
          rw [if_pos hl]
          exact backN_mono h e
        · simp at e
      · simp at e
    · simp at e
  · simp at e
theorem andThen_mono {f g f' g' : St → Option (AExit × St)} (h : ∀ s r, f s = some r → f' s = some r) (k : ∀ s r, g s = some r → g' s = some r) : ∀ s r, andThen f g s = some r → andThen f' g' s = some r := by
  intro s r e
  unfold andThen at e ⊢
  cases hf : f s with
  | none => rw [hf] at e; simp at e
  | some q =>
    rw [h _ _ hf]
    rw [hf] at e
    obtain ⟨x, t⟩ := q
    cases x with
    | normal => exact k _ _ e
    | ret => simp at e
    | exit id => simp at e

theorem evC_mono {a b : Orc} (h : a.le b) {k k' : Nat} (hk : k ≤ k') : ∀ {c : ACode} {st : St} {r : AExit × St}, evC a k c st = some r → evC b k' c st = some r
  | .skip, _, _, e => e
  | .frz _, _, _, e => e
  | .reg ops live, st, r, e => by
    simp only [evC] at e ⊢
    split at e
    · rename_i st' ho
      rw [evOps_mono h ho]
      exact e
    · simp at e
  | .seq x y, st, r, e => by
    simp only [evC] at e ⊢
    cases hx : evC a k x st with
    | none => rw [hx] at e; simp at e
    | some q =>
      rw [evC_mono h hk hx]
      rw [hx] at e
      obtain ⟨ex, s⟩ := q
      cases ex with
      | normal => exact evC_mono h hk e
      | ret => exact e
      | exit id => exact e
  | .cond c x y, st, r, e => by
    simp only [evC] at e ⊢
    split at e
    · rename_i t hc
      split at e
      · rename_i ht; rw [if_pos ht]; exact evC_mono h hk e
      · rename_i ht; rw [if_neg ht]; exact evC_mono h hk e
    · simp at e
  | .block id x, st, r, e => by
    simp only [evC] at e ⊢
    cases hx : evC a k x st with
    | none => rw [hx] at e; simp at e
    | some q =>
      rw [evC_mono h hk hx]
      rw [hx] at e
      exact e
  | .loop live x, st, r, e => by
    simp only [evC] at e ⊢
    exact loopN_mono (fun s r hs => evC_mono h hk hs) hk e
  | .exit id, _, _, e => e
  | .ret, _, _, e => e
  | .back c gb pi px sz ag live x y, st, r, e => by
    simp only [evC] at e ⊢
    exact backWith_mono (andThen_mono (fun s r hs => evC_mono h hk hs) (fun s r hs => evC_mono h hk hs)) e

theorem callBody_mono {a b : Orc} (h : a.le b) {k k' : Nat} (hk : k ≤ k') {keep : Bool} {af : AFunc} {args : List AV} {sh : Sh} {ts : Toks} {r : List AV × Sh × Toks} (e : callBody a k keep af args sh ts = some r) : callBody b k' keep af args sh ts = some r := by
  unfold callBody at *
  cases hc : evC a k af.body { env := enterEnv 0 args, mem := [], sh, toks := ts } with
  | none => rw [hc] at e; simp at e
  | some q => rw [evC_mono h hk hc]; rw [hc] at e; exact e

variable {AP : Nat → Option AFunc}

theorem run_mono : ∀ {n n' k k' : Nat}, n ≤ n' → k ≤ k' → (run AP k n).le (run AP k' n')
  | 0, _, _, _, _, _ => ⟨fun g x r e => by simp [run] at e, fun g x s t r e => by simp [run] at e⟩
  | n + 1, 0, _, _, h, _ => by omega
  | n + 1, n' + 1, k, k', h, hk => by
    have ih : (run AP k n).le (run AP k' n') := run_mono (by omega) hk
    refine ⟨fun g x r e => ?_, fun g x s t r e => ?_⟩
    · simp only [run] at e ⊢
      cases hg : AP g with
      | none => rw [hg] at e; simp at e
      | some af =>
        rw [hg] at e
        dsimp only at e ⊢
        cases hp : af.prim with
        | some f => rw [hp] at e; exact e
        | none =>
          rw [hp] at e
          dsimp only at e ⊢
          split at e
          · rename_i hc
            rw [if_pos hc]
            cases hb : callBody (run AP k n) k false af (x.map .pv) [] [] with
            | none => rw [hb] at e; simp at e
            | some q => rw [callBody_mono ih hk hb]; rw [hb] at e; exact e
          · simp at e
    · simp only [run] at e ⊢
      cases hg : AP g with
      | none => rw [hg] at e; simp at e
      | some af =>
        rw [hg] at e
        dsimp only at e ⊢
        split at e
        · rename_i hc
          rw [if_pos hc]
          exact callBody_mono ih hk e
        · simp at e

/-- The evaluator of a program, without fuel. -/
noncomputable def orcL (AP : Nat → Option AFunc) : Orc where
  p := fun g x => lim fun n => (run AP n n).p g x
  i := fun g x s t => lim fun n => (run AP n n).i g x s t

theorem grows_p (g : Nat) (x : List PV) : Grows fun n => (run AP n n).p g x := fun _ _ _ h e => (run_mono h h).p _ _ _ e
theorem grows_i (g : Nat) (x : List AV) (s : Sh) (t : Toks) : Grows fun n => (run AP n n).i g x s t := fun _ _ _ h e => (run_mono h h).i _ _ _ _ _ e

theorem run_le (n : Nat) : (run AP n n).le (orcL AP) := ⟨fun g x _ e => lim_of (grows_p g x) e, fun g x s t _ e => lim_of (grows_i g x s t) e⟩

/-- What the limit does, some stage does. -/
theorem stage_p {g : Nat} {x : List PV} {r : List PV} (h : (orcL AP).p g x = some r) : ∃ n, (run AP n n).p g x = some r := lim_some h
theorem stage_i {g : Nat} {x : List AV} {s : Sh} {t : Toks} {r : List AV × Sh × Toks} (h : (orcL AP).i g x s t = some r) : ∃ n, (run AP n n).i g x s t = some r := lim_some h

theorem stage_call {g : Nat} {own : List Nat} {vals : List AV} {sh : Sh} {toks : Toks} {r : AV × Sh × Toks} (e : execCall (orcL AP) g own vals sh toks = some r) : ∃ n, execCall (run AP n n) g own vals sh toks = some r := by
  unfold execCall at *
  split at e
  · rename_i hp
    simp only [Option.map_eq_some_iff] at e
    obtain ⟨x, h1, h2⟩ := e
    obtain ⟨n, hn⟩ := stage_i h1
    exact ⟨n, by rw [if_pos hp, hn]; simp only [Option.map_some, h2]⟩
  · simp at e

theorem stage_exec {op : AK} {vals : List AV} {cells : Option (List AV)} {sh : Sh} {toks : Toks} {r : Out} (e : exec (orcL AP) op vals cells sh toks = some r) : ∃ n, exec (run AP n n) op vals cells sh toks = some r := by
  cases op with
  | callP g =>
    simp only [exec] at e ⊢
    split at e
    · rename_i pvs hp
      simp only [Option.map_eq_some_iff] at e
      obtain ⟨x, h1, h2⟩ := e
      obtain ⟨n, hn⟩ := stage_p h1
      exact ⟨n, by rw [hn]; simp only [Option.map_some, h2]⟩
    · simp at e
  | callPS g =>
    simp only [exec] at e ⊢
    split at e
    · rename_i pvs hp
      simp only [Option.map_eq_some_iff] at e
      obtain ⟨x, h1, h2⟩ := e
      obtain ⟨n, hn⟩ := stage_p h1
      exact ⟨n, by rw [hn]; simp only [Option.map_some, h2]⟩
    · simp at e
  | callI g own =>
    simp only [exec, Option.map_eq_some_iff] at e ⊢
    obtain ⟨x, h1, h2⟩ := e
    obtain ⟨n, hn⟩ := stage_call h1
    exact ⟨n, x, hn, h2⟩
  | callQ g =>
    simp only [exec] at e ⊢
    split at e
    · split at e
      · rename_i rs ts h1
        obtain ⟨n, hn⟩ := stage_i h1
        exact ⟨n, by rw [hn]; exact e⟩
      · simp at e
    · simp at e
  | callV =>
    cases vals with
    | nil => simp [exec] at e
    | cons f vals =>
      cases f with
      | fn g cap =>
        simp only [exec, Option.map_eq_some_iff] at e ⊢
        obtain ⟨x, h1, h2⟩ := e
        obtain ⟨n, hn⟩ := stage_call h1
        exact ⟨n, x, hn, h2⟩
      | _ => simp [exec] at e
  | _ => exact ⟨0, by rw [← e]; unfold exec; split <;> first | rfl | (rename_i heq; cases heq; done) | (simp at *; done)⟩

theorem stage_op {o : AOp} {st r : St} (e : evOp (orcL AP) o st = some r) : ∃ n, evOp (run AP n n) o st = some r := by
  unfold evOp at *
  cases hw : wantedA st.env o.guard with
  | none => rw [hw] at e; simp at e
  | some t =>
    cases t with
    | false => rw [hw] at e; exact ⟨0, e⟩
    | true =>
      rw [hw] at e
      dsimp only at e ⊢
      cases hv : evOpds st.env o.args with
      | none => rw [hv] at e; simp at e
      | some vals =>
        rw [hv] at e
        dsimp only at e ⊢
        cases ho : exec (orcL AP) o.op vals (o.op.key.bind (look st.mem)) st.sh st.toks with
        | none => rw [ho] at e; simp at e
        | some out =>
          obtain ⟨n, hn⟩ := stage_exec ho
          rw [ho] at e
          exact ⟨n, by rw [hn]; exact e⟩

theorem stage_ops : ∀ {l : List AOp} {st r : St}, evOps (orcL AP) l st = some r → ∃ n, evOps (run AP n n) l st = some r
  | [], _, _, e => ⟨0, e⟩
  | o :: l, st, r, e => by
    simp only [evOps] at e ⊢
    cases ho : evOp (orcL AP) o st with
    | none => rw [ho] at e; simp at e
    | some s =>
      rw [ho] at e
      obtain ⟨n, hn⟩ := stage_op ho
      obtain ⟨m, hm⟩ := stage_ops (l := l) e
      refine ⟨max n m, ?_⟩
      rw [evOp_mono (run_mono (Nat.le_max_left n m) (Nat.le_max_left n m)) hn]
      exact evOps_mono (run_mono (Nat.le_max_right n m) (Nat.le_max_right n m)) hm

theorem stage_loop {k : Nat} {c : ACode} {pre : St → St} (ih : ∀ {st : St} {r : AExit × St}, evC (orcL AP) k c st = some r → ∃ n, evC (run AP n n) n c st = some r) :
    ∀ {j : Nat} {st : St} {r : AExit × St}, loopN (evC (orcL AP) k c) pre j st = some r → ∃ n, loopN (evC (run AP n n) n c) pre n st = some r
  | 0, _, _, e => by simp [loopN] at e
  | j + 1, st, r, e => by
    simp only [loopN] at e
    cases hf : evC (orcL AP) k c (pre st) with
    | none => rw [hf] at e; simp at e
    | some q =>
      obtain ⟨n, hn⟩ := ih hf
      rw [hf] at e
      obtain ⟨x, s⟩ := q
      cases x with
      | normal =>
        obtain ⟨m, hm⟩ := stage_loop ih e
        refine ⟨max n m + 1, ?_⟩
        simp only [loopN]
        rw [evC_mono (run_mono (n := n) (n' := max n m + 1) (by omega) (by omega)) (k := n) (k' := max n m + 1) (by omega) hn]
        exact loopN_mono (fun s r hs => evC_mono (run_mono (n := m) (by omega) (by omega)) (k := m) (by omega) hs) (n := m) (by omega) hm
      | ret =>
        refine ⟨n + 1, ?_⟩
        simp only [loopN]
        rw [evC_mono (run_mono (n := n) (n' := n + 1) (by omega) (by omega)) (k := n) (k' := n + 1) (by omega) hn]
        exact e
      | exit id =>
        refine ⟨n + 1, ?_⟩
        simp only [loopN]
        rw [evC_mono (run_mono (n := n) (n' := n + 1) (by omega) (by omega)) (k := n) (k' := n + 1) (by omega) hn]
        exact e

theorem evC_up {n m : Nat} (h : n ≤ m) {c : ACode} {st : St} {r : AExit × St} (e : evC (run AP n n) n c st = some r) : evC (run AP m m) m c st = some r := evC_mono (run_mono h h) h e

theorem stage_andThen {k : Nat} {x y : ACode} (ihx : ∀ {st : St} {r : AExit × St}, evC (orcL AP) k x st = some r → ∃ n, evC (run AP n n) n x st = some r) (ihy : ∀ {st : St} {r : AExit × St}, evC (orcL AP) k y st = some r → ∃ n, evC (run AP n n) n y st = some r)
    {st : St} {r : AExit × St} (e : andThen (evC (orcL AP) k x) (evC (orcL AP) k y) st = some r) : ∃ n, andThen (evC (run AP n n) n x) (evC (run AP n n) n y) st = some r := by
  unfold andThen at e ⊢
  cases hx : evC (orcL AP) k x st with
  | none => rw [hx] at e; simp at e
  | some q =>
    obtain ⟨n, hn⟩ := ihx hx
    rw [hx] at e
    obtain ⟨ex, s⟩ := q
    cases ex with
    | normal =>
      obtain ⟨m, hm⟩ := ihy e
      exact ⟨max n m, by rw [evC_up (Nat.le_max_left n m) hn]; exact evC_up (Nat.le_max_right n m) hm⟩
    | ret => simp at e
    | exit id => simp at e
theorem stage_back {F : St → Option (AExit × St)} {f : Nat → St → Option (AExit × St)} (hm : ∀ {n m : Nat}, n ≤ m → ∀ s r, f n s = some r → f m s = some r) (ih : ∀ {st : St} {r : AExit × St}, F st = some r → ∃ n, f n st = some r)
    {live : List Nat} {pi px sz : Nat} {ag : Bool} {env : List (Nat × AV)} : ∀ {l : List (PV × Nat)} {st : St} {r : AExit × St}, backN F live pi px sz ag env l st = some r → ∃ n, backN (f n) live pi px sz ag env l st = some r
  | [], _, _, e => ⟨0, e⟩
  | (el, i) :: l, st, r, e => by
    simp only [backN] at e ⊢
    cases hv : elAV sz ag el with
    | none => rw [hv] at e; simp at e
    | some v =>
      rw [hv] at e
      simp only at e ⊢
      cases hf : F (norm (restrict live { st with env := putL (putL env pi (.pv (.int .i64 i))) px v })) with
      | none => rw [hf] at e; simp at e
      | some q =>
        obtain ⟨n, hn⟩ := ih hf
        rw [hf] at e
        obtain ⟨x, s⟩ := q
        cases x with
        | normal =>
          obtain ⟨m, hm'⟩ := stage_back hm ih e
          exact ⟨max n m, by rw [hm (Nat.le_max_left n m) _ _ hn]; exact backN_mono (hm (Nat.le_max_right n m)) hm'⟩
        | ret => exact ⟨n, by rw [hn]; exact e⟩
        | exit id => exact ⟨n, by rw [hn]; exact e⟩

theorem stage_C {k : Nat} : ∀ {c : ACode} {st : St} {r : AExit × St}, evC (orcL AP) k c st = some r → ∃ n, evC (run AP n n) n c st = some r
  | .skip, _, _, e => ⟨0, e⟩
  | .frz _, _, _, e => ⟨0, e⟩
  | .reg ops live, st, r, e => by
    simp only [evC] at e ⊢
    cases ho : evOps (orcL AP) ops st with
    | none => rw [ho] at e; simp at e
    | some s => obtain ⟨n, hn⟩ := stage_ops ho; rw [ho] at e; exact ⟨n, by rw [hn]; exact e⟩
  | .seq x y, st, r, e => by
    simp only [evC] at e ⊢
    cases hx : evC (orcL AP) k x st with
    | none => rw [hx] at e; simp at e
    | some q =>
      obtain ⟨n, hn⟩ := stage_C hx
      rw [hx] at e
      obtain ⟨ex, s⟩ := q
      cases ex with
      | normal =>
        obtain ⟨m, hm⟩ := stage_C (c := y) e
        exact ⟨max n m, by rw [evC_up (Nat.le_max_left n m) hn]; exact evC_up (Nat.le_max_right n m) hm⟩
      | ret => exact ⟨n, by rw [hn]; exact e⟩
      | exit id => exact ⟨n, by rw [hn]; exact e⟩
  | .cond c x y, st, r, e => by
    simp only [evC] at e ⊢
    split at e
    · rename_i t hc
      split at e
      · rename_i ht
        obtain ⟨n, hn⟩ := stage_C e
        exact ⟨n, by rw [if_pos ht]; exact hn⟩
      · rename_i ht
        obtain ⟨n, hn⟩ := stage_C e
        exact ⟨n, by rw [if_neg ht]; exact hn⟩
    · simp at e
  | .block id x, st, r, e => by
    simp only [evC] at e ⊢
    cases hx : evC (orcL AP) k x st with
    | none => rw [hx] at e; simp at e
    | some q =>
      obtain ⟨n, hn⟩ := stage_C hx
      rw [hx] at e
      exact ⟨n, by rw [hn]; exact e⟩
  | .loop live x, st, r, e => by
    simp only [evC] at e ⊢
    exact stage_loop (fun h => stage_C h) e
  | .exit id, _, _, e => ⟨0, e⟩
  | .ret, _, _, e => ⟨0, e⟩
  | .back c gb pi px sz ag live x y, st, r, e => by
    simp only [evC] at e ⊢
    unfold backWith at e ⊢
    split at e
    · split at e
      · rename_i hg
        split at e
        · split at e
          · rename_i hl
            obtain ⟨n, hn⟩ := stage_back (f := fun n => andThen (evC (run AP n n) n x) (evC (run AP n n) n y)) (fun h => andThen_mono (fun s r hs => evC_up h hs) (fun s r hs => evC_up h hs)) (stage_andThen (fun h => stage_C h) (fun h => stage_C h)) e
            exact ⟨n, by rw [if_pos hg, if_pos hl]; exact hn⟩
          · simp at e
        · simp at e
      · simp at e
    · simp at e

/-! ### Code without fuel -/

noncomputable def cl (AP : Nat → Option AFunc) (c : ACode) (st : St) : Option (AExit × St) := lim fun k => evC (orcL AP) k c st

theorem grows_C (c : ACode) (st : St) : Grows fun k => evC (orcL AP) k c st := fun _ _ _ h e => evC_mono (Orc.le_refl _) h e

theorem cl_of {c : ACode} {st : St} {k : Nat} {r : AExit × St} (h : evC (orcL AP) k c st = some r) : cl AP c st = some r := lim_of (grows_C c st) h

theorem cl_skip {st : St} : cl AP .skip st = some (.normal, st) := cl_of (k := 0) rfl
theorem cl_exit {id : Nat} {st : St} : cl AP (.exit id) st = some (.exit id, st) := cl_of (k := 0) rfl
theorem cl_frz {ts : List Nat} {st : St} : cl AP (.frz ts) st = some (.normal, frzT ts st) := cl_of (k := 0) rfl
theorem cl_ret {st : St} : cl AP .ret st = some (.ret, st) := cl_of (k := 0) rfl

theorem cl_reg {ops : List AOp} {live : List Nat} {st : St} : cl AP (.reg ops live) st = (evOps (orcL AP) ops st).map fun st' => (.normal, restrict live st') := by
  cases h : evOps (orcL AP) ops st with
  | none => exact lim_none fun k => by simp only [evC, h]
  | some s => exact cl_of (k := 0) (by simp only [evC, h])

/-- What comes behind. -/
def after (f : St → Option (AExit × St)) : Option (AExit × St) → Option (AExit × St)
  | some (.normal, st) => f st
  | r => r

theorem cl_seq {a b : ACode} {st : St} : cl AP (.seq a b) st = after (cl AP b) (cl AP a st) := by
  refine lim_ext (grows_C _ _) (fun k r h => ?_) fun r h => ?_
  · simp only [evC] at h
    cases hx : evC (orcL AP) k a st with
    | none => rw [hx] at h; simp at h
    | some q =>
      rw [cl_of hx]
      rw [hx] at h
      obtain ⟨ex, s⟩ := q
      cases ex with
      | normal => exact cl_of h
      | ret => exact h
      | exit id => exact h
  · cases hx : cl AP a st with
    | none => rw [hx] at h; simp [after] at h
    | some q =>
      obtain ⟨k, hk⟩ := lim_some hx
      rw [hx] at h
      obtain ⟨ex, s⟩ := q
      cases ex with
      | normal =>
        obtain ⟨k', hk'⟩ := lim_some (show lim (fun k => evC (orcL AP) k b s) = some r from h)
        refine ⟨max k k', ?_⟩
        simp only [evC]
        rw [evC_mono (Orc.le_refl _) (Nat.le_max_left k k') hk]
        exact evC_mono (Orc.le_refl _) (Nat.le_max_right k k') hk'
      | ret => exact ⟨k, by simp only [evC]; rw [hk]; exact h⟩
      | exit id => exact ⟨k, by simp only [evC]; rw [hk]; exact h⟩

theorem cl_cond {c : AOpd} {a b : ACode} {st : St} {t : Bool} (h : evOpd st.env c = some (.pv (.bool t))) : cl AP (.cond c a b) st = if t then cl AP a st else cl AP b st := by
  unfold cl
  simp only [evC, h]
  cases t <;> rfl

/-- At the end of a block. -/
def leave (id : Nat) : Option (AExit × St) → Option (AExit × St)
  | some (.exit id', st) => if id' = id then some (.normal, st) else some (.exit id', st)
  | r => r

theorem cl_block {id : Nat} {b : ACode} {st : St} : cl AP (.block id b) st = leave id (cl AP b st) := by
  refine lim_ext (grows_C _ _) (fun k r h => ?_) fun r h => ?_
  · simp only [evC] at h
    cases hx : evC (orcL AP) k b st with
    | none => rw [hx] at h; simp at h
    | some q => rw [cl_of hx]; rw [hx] at h; exact h
  · cases hx : cl AP b st with
    | none => rw [hx] at h; simp [leave] at h
    | some q =>
      obtain ⟨k, hk⟩ := lim_some hx
      rw [hx] at h
      exact ⟨k, by simp only [evC]; rw [hk]; exact h⟩

theorem cl_loop {live : List Nat} {b : ACode} {st : St} : cl AP (.loop live b) st = after (cl AP (.loop live b)) (cl AP b (norm (restrict live st))) := by
  refine lim_ext (grows_C _ _) (fun k r h => ?_) fun r h => ?_
  · simp only [evC] at h
    cases k with
    | zero => simp [loopN] at h
    | succ k =>
      simp only [loopN] at h
      cases hx : evC (orcL AP) (k + 1) b (norm (restrict live st)) with
      | none => rw [hx] at h; simp at h
      | some q =>
        rw [cl_of hx]
        rw [hx] at h
        obtain ⟨ex, s⟩ := q
        cases ex with
        | normal => exact cl_of (k := k + 1) (by simp only [evC]; exact loopN_mono (fun _ _ h => h) (Nat.le_succ k) h)
        | ret => exact h
        | exit id => exact h
  · cases hx : cl AP b (norm (restrict live st)) with
    | none => rw [hx] at h; simp [after] at h
    | some q =>
      obtain ⟨k, hk⟩ := lim_some hx
      rw [hx] at h
      obtain ⟨ex, s⟩ := q
      have up : ∀ m, k ≤ m → evC (orcL AP) m b (norm (restrict live st)) = some (ex, s) := fun m hm => evC_mono (Orc.le_refl _) hm hk
      cases ex with
      | normal =>
        obtain ⟨k', hk'⟩ := lim_some (show lim (fun k => evC (orcL AP) k (.loop live b) s) = some r from h)
        refine ⟨max k k' + 1, ?_⟩
        simp only [evC, loopN]
        rw [up _ (by omega)]
        simp only [evC] at hk'
        exact loopN_mono (fun _ _ h => evC_mono (Orc.le_refl _) (by omega) h) (by omega) hk'
      | ret => exact ⟨k + 1, by simp only [evC, loopN]; rw [up _ (by omega)]; exact h⟩
      | exit id => exact ⟨k + 1, by simp only [evC, loopN]; rw [up _ (by omega)]; exact h⟩

/-- A range over a slice backward. -/
theorem cl_back {c : AOpd} {gb pi px sz : Nat} {ag : Bool} {live : List Nat} {x y : ACode} {st : St} :
    cl AP (.back c gb pi px sz ag live x y) st = backWith (andThen (cl AP x) (cl AP y)) (evOpd st.env c) gb pi px sz ag live st := by
  refine lim_ext (grows_C _ _) (fun k r h => ?_) fun r h => ?_
  · simp only [evC] at h
    exact backWith_mono (andThen_mono (fun s r hs => cl_of hs) (fun s r hs => cl_of hs)) h
  · simp only [evC]
    unfold backWith at h ⊢
    split at h
    · split at h
      · rename_i hg
        split at h
        · rename_i l hsl
          by_cases hl : l.length < 4611686018427387904
          case neg => rw [if_neg hl] at h; simp at h
          rw [if_pos hl] at h
          have st1 : ∀ {s : St} {r : AExit × St}, andThen (cl AP x) (cl AP y) s = some r → ∃ n, andThen (evC (orcL AP) n x) (evC (orcL AP) n y) s = some r := by
            intro s r e
            unfold andThen at e ⊢
            cases hx : cl AP x s with
            | none => rw [hx] at e; simp at e
            | some q =>
              obtain ⟨n, hn⟩ := lim_some hx
              rw [hx] at e
              obtain ⟨ex, s'⟩ := q
              cases ex with
              | normal =>
                obtain ⟨m, hm⟩ := lim_some (show lim (fun k => evC (orcL AP) k y s') = some r from e)
                exact ⟨max n m, by rw [evC_mono (Orc.le_refl _) (Nat.le_max_left n m) hn]; exact evC_mono (Orc.le_refl _) (Nat.le_max_right n m) hm⟩
              | ret => simp at e
              | exit id => simp at e
          obtain ⟨n, hn⟩ := stage_back (f := fun n => andThen (evC (orcL AP) n x) (evC (orcL AP) n y)) (fun h => andThen_mono (fun s r hs => evC_mono (Orc.le_refl _) h hs) (fun s r hs => evC_mono (Orc.le_refl _) h hs)) st1 h
          exact ⟨n, by rw [if_pos hg, if_pos hl]; exact hn⟩
        · simp at h
      · simp at h
    · simp at h

/-! ### Functions without fuel -/

/-- A body's end. -/
def finish (keep : Bool) (af : AFunc) (sh : Sh) : Option (AExit × St) → Option (List AV × Sh × Toks)
  | some (e, st) =>
    if e = .ret ∨ e = .normal then
      match evResL st af.results with
      | some vs =>
        let rs := outAll keep af.ks st.sh vs
        let sh' := if rs.all (refsLt sh.length) = true then (shOut keep af.ks st.sh vs).take sh.length else shOut keep af.ks st.sh vs
        if rs.all passO = true then some ((giveN st.toks rs sh').1, (giveN st.toks rs sh').2.1, (giveN st.toks rs sh').2.2.2) else none
      | none => none
    else none
  | none => none

theorem callBody_finish {orc : Orc} {k : Nat} {keep : Bool} {af : AFunc} {args : List AV} {sh : Sh} {ts : Toks} : callBody orc k keep af args sh ts = finish keep af sh (evC orc k af.body { env := enterEnv 0 args, mem := [], sh, toks := ts }) := by
  unfold callBody finish
  cases evC orc k af.body { env := enterEnv 0 args, mem := [], sh, toks := ts } with
  | none => rfl
  | some q => obtain ⟨e, st⟩ := q; rfl

noncomputable def bodyL (AP : Nat → Option AFunc) (keep : Bool) (af : AFunc) (args : List AV) (sh : Sh) (ts : Toks) : Option (List AV × Sh × Toks) :=
  finish keep af sh (cl AP af.body { env := enterEnv 0 args, mem := [], sh, toks := ts })

theorem body_some {keep : Bool} {af : AFunc} {args : List AV} {sh : Sh} {ts : Toks} {r : List AV × Sh × Toks} (h : bodyL AP keep af args sh ts = some r) : ∃ n, callBody (run AP n n) n keep af args sh ts = some r := by
  unfold bodyL at h
  cases hc : cl AP af.body { env := enterEnv 0 args, mem := [], sh, toks := ts } with
  | none => rw [hc] at h; simp [finish] at h
  | some q =>
    obtain ⟨k, hk⟩ := lim_some hc
    obtain ⟨n, hn⟩ := stage_C hk
    exact ⟨n, by rw [callBody_finish, hn, ← hc]; exact h⟩

theorem body_of {n : Nat} {keep : Bool} {af : AFunc} {args : List AV} {sh : Sh} {ts : Toks} {r : List AV × Sh × Toks} (h : callBody (run AP n n) n keep af args sh ts = some r) : bodyL AP keep af args sh ts = some r := by
  rw [callBody_finish] at h
  unfold bodyL
  cases hc : evC (run AP n n) n af.body { env := enterEnv 0 args, mem := [], sh, toks := ts } with
  | none => rw [hc] at h; simp [finish] at h
  | some q =>
    rw [cl_of (evC_mono (run_le n) (Nat.le_refl n) hc)]
    rw [hc] at h
    exact h

/-- **A call for pure data: what the body gives.** -/
theorem cP_eq {g : Nat} {af : AFunc} {x : List PV} (hg : AP g = some af) (hp : af.prim = none) (h1 : x.length = af.nparams) (h2 : x.length ≤ af.ntmps) :
    (orcL AP).p g x = (bodyL AP false af (x.map .pv) [] []).bind fun r => frzOut r.1 := by
  refine lim_ext (grows_p g x) (fun k r h => ?_) fun r h => ?_
  · cases k with
    | zero => simp [run] at h
    | succ k =>
      simp only [run, hg, hp] at h
      rw [if_pos ⟨h1, h2⟩] at h
      cases hb : callBody (run AP (k + 1) k) (k + 1) false af (x.map .pv) [] [] with
      | none => rw [hb] at h; simp at h
      | some q =>
        rw [body_of (n := k + 1) (callBody_mono (run_mono (Nat.le_succ k) (Nat.le_refl _)) (Nat.le_refl _) hb)]
        rw [hb] at h
        exact h
  · cases hb : bodyL AP false af (x.map .pv) [] [] with
    | none => rw [hb] at h; simp at h
    | some q =>
      obtain ⟨n, hn⟩ := body_some hb
      rw [hb] at h
      refine ⟨n + 1, ?_⟩
      simp only [run, hg, hp]
      rw [if_pos ⟨h1, h2⟩, callBody_mono (run_mono (n := n) (n' := n) (k := n) (k' := n + 1) (Nat.le_refl _) (Nat.le_succ n)) (Nat.le_succ n) hn]
      exact h

/-- A call of a function that is known otherwise. -/
theorem cP_prim {g : Nat} {af : AFunc} {x : List PV} {f : List PV → Option (List PV)} (hg : AP g = some af) (hp : af.prim = some f) : (orcL AP).p g x = f x := by
  refine lim_ext (grows_p g x) (fun k r h => ?_) fun r h => ?_
  · cases k with
    | zero => simp [run] at h
    | succ k => simpa only [run, hg, hp] using h
  · exact ⟨1, by simpa only [run, hg, hp] using h⟩

/-- **A call with shared memory: what the body gives.** -/
theorem cI_eq {g : Nat} {af : AFunc} {x : List AV} {sh : Sh} {ts : Toks} (hg : AP g = some af) (h2 : x.length ≤ af.ntmps) : (orcL AP).i g x sh ts = bodyL AP true af x sh ts := by
  refine lim_ext (grows_i g x sh ts) (fun k r h => ?_) fun r h => ?_
  · cases k with
    | zero => simp [run] at h
    | succ k =>
      simp only [run, hg] at h
      rw [if_pos h2] at h
      exact body_of (n := k + 1) (callBody_mono (run_mono (Nat.le_succ k) (Nat.le_refl _)) (Nat.le_refl _) h)
  · obtain ⟨n, hn⟩ := body_some h
    refine ⟨n + 1, ?_⟩
    simp only [run, hg]
    rw [if_pos h2]
    exact callBody_mono (run_mono (n := n) (n' := n) (k := n) (k' := n + 1) (Nat.le_refl _) (Nat.le_succ n)) (Nat.le_succ n) hn

end Go.Ab
