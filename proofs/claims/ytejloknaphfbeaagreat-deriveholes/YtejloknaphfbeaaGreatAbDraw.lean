import Derived.Test.YtejloknaphfbeaaGreatAbRegion
/-
  A region that draws its order: whatever order is picked, the end is that of the text's order.
-/
set_option linter.unusedVariables false
set_option linter.unusedSimpArgs false
namespace Go.Ab

section
variable {orc : Orc}

def opdF (E : Nat → Option AV) : AOpd → Option AV
  | .t n => E n
  | .c v => some v

def opdsF (E : Nat → Option AV) : List AOpd → Option (List AV)
  | [] => some []
  | x :: r => match opdF E x, opdsF E r with
    | some v, some vs => some (v :: vs)
    | _, _ => none

def wantedF (E : Nat → Option AV) : Option (Nat × Bool) → Option Bool
  | none => some true
  | some (t, b) => match E t with
    | some (.pv (.bool c)) => some (c == b)
    | some .un => some false
    | _ => none

def evCore (orc : Orc) (o : AOp) (E : Nat → Option AV) (M : Nat → Option (List AV)) (sh : Sh) (toks : Toks) : Option Out :=
  match wantedF E o.guard with
  | none => none
  | some false => some ⟨.un, none, sh, toks⟩
  | some true => match opdsF E o.args with
    | none => none
    | some vals => exec orc o.op vals (o.op.key.bind M) sh toks

theorem opdsF_look (env : List (Nat × AV)) : ∀ l, evOpds env l = opdsF (look env) l
  | [] => rfl
  | x :: l => by
    have : evOpd env x = opdF (look env) x := by cases x <;> rfl
    simp only [evOpds, opdsF, this, opdsF_look env l]
    rfl

theorem evOp_core (o : AOp) (st : St) : evOp orc o st = (evCore orc o (look st.env) (look st.mem) st.sh st.toks).map
    fun r => { env := putD st.env o.dst r.val, mem := putC st.mem o.op.key r.cells, sh := r.sh, toks := r.toks } := by
  unfold evOp evCore
  have hw : wantedA st.env o.guard = wantedF (look st.env) o.guard := by
    cases o.guard with
    | none => rfl
    | some g => rfl
  rw [hw]
  cases wantedF (look st.env) o.guard with
  | none => rfl
  | some b => cases b with
    | false => simp [putC_none]
    | true =>
      simp only [opdsF_look]
      cases opdsF (look st.env) o.args with
      | none => rfl
      | some vals =>
        simp only
        cases exec orc o.op vals (o.op.key.bind (look st.mem)) st.sh st.toks <;> rfl

theorem opdsF_congr {E E' : Nat → Option AV} : ∀ {l : List AOpd}, (∀ t ∈ l.filterMap (fun | .t n => some n | _ => none), E t = E' t) → opdsF E l = opdsF E' l
  | [], _ => rfl
  | .c v :: l, h => by
    simp only [opdsF, opdF]
    rw [opdsF_congr (l := l) (fun t ht => h t (by simpa using ht))]
  | .t n :: l, h => by
    simp only [opdsF, opdF]
    rw [opdsF_congr (l := l) (fun t ht => h t (by simp only [List.filterMap_cons, List.mem_cons]; exact .inr ht)), h n (by simp)]

theorem evCore_congr {o : AOp} {E E' : Nat → Option AV} {M M' : Nat → Option (List AV)} {sh : Sh} {toks : Toks} (hE : ∀ t ∈ o.looks, E t = E' t) (hM : ∀ k, o.op.key = some k → M k = M' k) :
    evCore orc o E M sh toks = evCore orc o E' M' sh toks := by
  have h1 : wantedF E o.guard = wantedF E' o.guard := by
    cases hg : o.guard with
    | none => rfl
    | some g =>
      obtain ⟨t, b⟩ := g
      simp only [wantedF]
      rw [hE t (by simp [AOp.looks, hg])]
  have h2 : opdsF E o.args = opdsF E' o.args := opdsF_congr fun t ht => hE t (by simp only [AOp.looks, List.mem_append]; exact .inl ht)
  have h3 : o.op.key.bind M = o.op.key.bind M' := by
    cases hk : o.op.key with
    | none => rfl
    | some k => exact hM k hk
  unfold evCore
  rw [h1, h2, h3]

theorem exec_S {op : AK} {vals : List AV} {cells : Option (List AV)} {sh : Sh} {toks : Toks} {r : Out} (ht : op.touchS = false) (h : exec orc op vals cells sh toks = some r) :
    r.sh = sh ∧ ∀ sh', exec orc op vals cells sh' toks = some { r with sh := sh' } := by
  cases op with
  | v vo =>
    simp only [exec, Option.map_eq_some_iff] at h ⊢
    obtain ⟨x, h1, rfl⟩ := h
    exact ⟨rfl, fun sh' => ⟨x, h1, rfl⟩⟩
  | loadL k o s ag =>
    obtain ⟨cs, x, rfl, rfl, hx, rfl⟩ := exec_loadL h
    exact ⟨rfl, fun sh' => by simp [exec, hx]⟩
  | storeL k o s =>
    obtain ⟨cs, v, rfl, rfl, h1, h2, h3, rfl⟩ := exec_storeL h
    exact ⟨rfl, fun sh' => by simp [exec, h1, h2, h3]⟩
  | alloc k z =>
    obtain ⟨rfl, rfl, rfl⟩ := exec_alloc h
    exact ⟨rfl, fun sh' => by simp [exec]⟩
  | box k s =>
    obtain ⟨v, rfl, rfl, h1, h2, rfl⟩ := exec_box h
    exact ⟨rfl, fun sh' => by simp only [exec]; rw [if_pos ⟨h1, h2⟩]⟩
  | append s b =>
    obtain ⟨s, x, y, ts, rfl, h1, rfl⟩ := exec_append h
    exact ⟨rfl, fun sh' => by simp [exec, h1]⟩
  | appendS s b ag => simp [AK.touchS] at ht
  | clearS s z => simp [AK.touchS] at ht
  | clone s b =>
    obtain ⟨x, y, ts, rfl, h1, rfl⟩ := exec_clone h
    exact ⟨rfl, fun sh' => by simp [exec, h1]⟩
  | callP g =>
    simp only [exec] at h ⊢
    split at h
    · rename_i pvs hp
      simp only [Option.map_eq_some_iff] at h
      obtain ⟨rs, h1, rfl⟩ := h
      exact ⟨rfl, fun sh' => by simp [h1]⟩
    · simp at h
  | callQ g =>
    simp only [exec] at h ⊢
    split at h
    · rename_i pvs hp
      split at h
      · rename_i rs ts1 h1
        cases h
        exact ⟨rfl, fun sh' => by simp [h1]⟩
      · simp at h
    · simp at h
  | _ => simp [AK.touchS] at ht

theorem exec_T {op : AK} {vals : List AV} {cells : Option (List AV)} {sh : Sh} {toks : Toks} {r : Out} (ht : op.touchT = false) (h : exec orc op vals cells sh toks = some r) :
    r.toks = toks ∧ ∀ ts, exec orc op vals cells sh ts = some { r with toks := ts } := by
  cases op with
  | v vo =>
    simp only [exec, Option.map_eq_some_iff] at h ⊢
    obtain ⟨x, h1, rfl⟩ := h
    exact ⟨rfl, fun ts => ⟨x, h1, rfl⟩⟩
  | loadL k o s ag =>
    obtain ⟨cs, x, rfl, rfl, hx, rfl⟩ := exec_loadL h
    exact ⟨rfl, fun ts => by simp [exec, hx]⟩
  | storeL k o s =>
    obtain ⟨cs, v, rfl, rfl, h1, h2, h3, rfl⟩ := exec_storeL h
    exact ⟨rfl, fun ts => by simp [exec, h1, h2, h3]⟩
  | alloc k z =>
    obtain ⟨rfl, rfl, rfl⟩ := exec_alloc h
    exact ⟨rfl, fun ts => by simp [exec]⟩
  | box k s =>
    obtain ⟨v, rfl, rfl, h1, h2, rfl⟩ := exec_box h
    exact ⟨rfl, fun ts => by simp only [exec]; rw [if_pos ⟨h1, h2⟩]⟩
  | append s b => simp [AK.touchT] at ht
  | appendS s b ag => simp [AK.touchT] at ht
  | clone s b => simp [AK.touchT] at ht
  | clearS s z =>
    obtain ⟨x, sh', rfl, h1, rfl⟩ := exec_clearS h
    exact ⟨rfl, fun ts => by simp [exec, h1]⟩
  | makeM =>
    obtain ⟨rfl, rfl⟩ := exec_makeM h
    exact ⟨rfl, fun ts => by simp [exec]⟩
  | lookM c ok z =>
    obtain ⟨s, k, kvs, r, rfl, h1, h2, rfl⟩ := exec_lookM h
    exact ⟨rfl, fun ts => by simp [exec, h1, h2]⟩
  | putM c =>
    obtain ⟨s, k, v, kvs, p, kvs', rfl, h1, h2, h3, rfl⟩ := exec_putM h
    exact ⟨rfl, fun ts => by simp [exec, h1, h2, h3]⟩
  | callP g =>
    simp only [exec] at h ⊢
    split at h
    · rename_i pvs hp
      simp only [Option.map_eq_some_iff] at h
      obtain ⟨rs, h1, rfl⟩ := h
      exact ⟨rfl, fun ts => by simp [h1]⟩
    · simp at h
  | callPS g =>
    simp only [exec] at h ⊢
    split at h
    · rename_i pvs hp
      simp only [Option.map_eq_some_iff] at h
      obtain ⟨rs, h1, rfl⟩ := h
      exact ⟨rfl, fun ts => by simp [h1]⟩
    · simp at h
  | callI g own => simp [AK.touchT] at ht
  | callQ g => simp [AK.touchT] at ht
  | callV => simp [AK.touchT] at ht
  | loadS s ag =>
    obtain ⟨p, x, rfl, rfl, hor⟩ := exec_loadS h
    refine ⟨rfl, fun ts => ?_⟩
    rcases hor with ⟨cs, rfl, hx⟩ | ⟨b, off, cs, rfl, hcs, hm, hx⟩
    · simp [exec, hx]
    · simp [exec, hcs, hm, hx]
  | storeS s =>
    obtain ⟨b, off, v, cs, rfl, hcs, h0, h1, h2, h3, h4, rfl⟩ := exec_storeS h
    refine ⟨rfl, fun ts => ?_⟩
    simp only [exec, hcs]
    rw [if_pos ⟨h0, h1, h2, h3, h4⟩]
  | boxS s =>
    obtain ⟨v, rfl, h1, h2, h3, rfl⟩ := exec_boxS h
    refine ⟨rfl, fun ts => ?_⟩
    simp only [exec]
    rw [if_pos ⟨h1, h2, h3⟩]
  | allocS z =>
    obtain ⟨rfl, rfl⟩ := exec_allocS h
    exact ⟨rfl, fun ts => by simp [exec]⟩
  | makeS s b ag z =>
    obtain ⟨k, k', n, rfl, h1, h2, h3, h4, rfl⟩ := exec_makeS h
    exact ⟨rfl, fun ts => by simp [exec, h1, h2, h3, h4]⟩

theorem exec_W {op : AK} {vals : List AV} {cells : Option (List AV)} {sh : Sh} {toks : Toks} {r : Out} (ht : op.writesK = false) (hk : op.key ≠ none) (h : exec orc op vals cells sh toks = some r) : r.cells = none := by
  cases op with
  | loadL k o s ag =>
    obtain ⟨cs, x, rfl, rfl, hx, rfl⟩ := exec_loadL h
    rfl
  | storeL k o s => simp [AK.writesK] at ht
  | alloc k z => simp [AK.writesK] at ht
  | box k s => simp [AK.writesK] at ht
  | _ => simp [AK.key] at hk

theorem exec_loadS_sh {sz : Nat} {ag : Bool} {vals : List AV} {cells : Option (List AV)} {sh : Sh} {toks : Toks} {r : Out} (h : exec orc (.loadS sz ag) vals cells sh toks = some r) : r.sh = sh := by
  obtain ⟨p, x, rfl, rfl, _⟩ := exec_loadS h
  rfl

theorem exec_lookM_sh {c : CK} {ok : Bool} {z : PV} {vals : List AV} {cells : Option (List AV)} {sh : Sh} {toks : Toks} {r : Out} (h : exec orc (.lookM c ok z) vals cells sh toks = some r) : r.sh = sh := by
  obtain ⟨s, k, kvs, r, rfl, _, _, rfl⟩ := exec_lookM h
  rfl

theorem evCore_S {o : AOp} {E : Nat → Option AV} {M : Nat → Option (List AV)} {sh : Sh} {toks : Toks} {r : Out} (ht : o.op.touchS = false) (h : evCore orc o E M sh toks = some r) :
    r.sh = sh ∧ ∀ sh', evCore orc o E M sh' toks = some { r with sh := sh' } := by
  unfold evCore at *
  split at h
  · simp at h
  · simp at h; subst h; exact ⟨rfl, fun _ => rfl⟩
  · split at h
    · simp at h
    · exact exec_S ht h

theorem evCore_R {o : AOp} {E : Nat → Option AV} {M : Nat → Option (List AV)} {sh : Sh} {toks : Toks} {r : Out} (ht : o.op.readS = true) (h : evCore orc o E M sh toks = some r) : r.sh = sh := by
  unfold evCore at *
  split at h
  · simp at h
  · simp at h; subst h; rfl
  · split at h
    · simp at h
    · rename_i vals _
      cases ho : o.op with
      | loadS sz ag =>
        rw [ho] at h
        have hl := exec_loadS_sh h
        exact hl
      | lookM c ok z =>
        rw [ho] at h
        exact exec_lookM_sh h
      | _ => rw [ho] at ht; simp [AK.readS] at ht

theorem evCore_T {o : AOp} {E : Nat → Option AV} {M : Nat → Option (List AV)} {sh : Sh} {toks : Toks} {r : Out} (ht : o.op.touchT = false) (h : evCore orc o E M sh toks = some r) :
    r.toks = toks ∧ ∀ ts, evCore orc o E M sh ts = some { r with toks := ts } := by
  unfold evCore at *
  split at h
  · simp at h
  · simp at h; subst h; exact ⟨rfl, fun _ => rfl⟩
  · split at h
    · simp at h
    · exact exec_T ht h

theorem evCore_W {o : AOp} {E : Nat → Option AV} {M : Nat → Option (List AV)} {sh : Sh} {toks : Toks} {r : Out} (ht : o.op.writesK = false) (hk : o.op.key ≠ none) (h : evCore orc o E M sh toks = some r) : r.cells = none := by
  unfold evCore at h
  split at h
  · simp at h
  · simp at h; subst h; rfl
  · split at h
    · simp at h
    · exact exec_W ht hk h

/-- Two states that look alike. -/
structure Like (x y : St) : Prop where
  env : ∀ t, look x.env t = look y.env t
  mem : ∀ t, look x.mem t = look y.mem t
  sh : x.sh = y.sh
  toks : x.toks = y.toks

theorem Like.refl (x : St) : Like x x := ⟨fun _ => rfl, fun _ => rfl, rfl, rfl⟩
theorem Like.symm {x y : St} (h : Like x y) : Like y x := ⟨fun t => (h.env t).symm, fun t => (h.mem t).symm, h.sh.symm, h.toks.symm⟩
theorem Like.trans {x y z : St} (h : Like x y) (k : Like y z) : Like x z := ⟨fun t => (h.env t).trans (k.env t), fun t => (h.mem t).trans (k.mem t), h.sh.trans k.sh, h.toks.trans k.toks⟩

theorem look_putD (env : List (Nat × AV)) (d : Option Nat) (v : AV) (t : Nat) : look (putD env d v) t = if d = some t then some v else look env t := by
  cases d with
  | none => simp [putD]
  | some d =>
    simp only [putD, Option.some.injEq]
    by_cases h : d = t
    · subst h; rw [if_pos rfl, look_put_same]
    · rw [if_neg h, look_put_other _ _ _ _ h]

theorem look_putC (mem : List (Nat × List AV)) (k : Option Nat) (c : Option (List AV)) (t : Nat) : look (putC mem k c) t = if k = some t then (match c with | some cs => some cs | none => look mem t) else look mem t := by
  cases c with
  | none => rw [putC_none]; split <;> rfl
  | some cs =>
    cases k with
    | none => simp [putC]
    | some k =>
      simp only [putC, Option.some.injEq]
      by_cases h : k = t
      · subst h; rw [if_pos rfl, look_put_same]
      · rw [if_neg h, look_put_other _ _ _ _ h]

theorem evOp_like {o : AOp} {x y x' : St} (h : Like x y) (he : evOp orc o x = some x') : ∃ y', evOp orc o y = some y' ∧ Like x' y' := by
  rw [evOp_core, Option.map_eq_some_iff] at he
  obtain ⟨r, hr, rfl⟩ := he
  have : evCore orc o (look y.env) (look y.mem) y.sh y.toks = some r := by
    rw [← h.sh, ← h.toks, ← hr]
    exact (evCore_congr (fun t _ => h.env t) (fun t _ => h.mem t)).symm
  refine ⟨{ env := putD y.env o.dst r.val, mem := putC y.mem o.op.key r.cells, sh := r.sh, toks := r.toks }, by rw [evOp_core, this]; rfl, ⟨fun t => ?_, fun t => ?_, rfl, rfl⟩⟩
  · simp only [look_putD, h.env]
  · simp only [look_putC, h.mem]

end
end Go.Ab
