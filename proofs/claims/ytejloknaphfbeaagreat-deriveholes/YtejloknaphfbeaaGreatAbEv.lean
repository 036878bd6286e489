import Derived.Test.YtejloknaphfbeaaGreatAbLim
/-
  Rules for running slim code by the simplifier: each is an equation on constructors.
-/
set_option linter.unusedVariables false
set_option linter.unusedSimpArgs false
namespace Go.Ab.Ev

section
variable {AP : Nat → Option AFunc} {O : Orc}

/-! ### Code -/

/-- A branch, once the condition is known. -/
noncomputable def branch (AP : Nat → Option AFunc) (o : Option AV) (a b : ACode) (st : St) : Option (AExit × St) :=
  match o with
  | some (.pv (.bool t)) => if t = true then cl AP a st else cl AP b st
  | _ => none

theorem cl_branch {c : AOpd} {a b : ACode} {st : St} : cl AP (.cond c a b) st = branch AP (evOpd st.env c) a b st := by
  unfold branch
  split
  · rename_i t h
    rw [cl_cond h]
  · rename_i h
    unfold cl
    refine lim_none fun k => ?_
    simp only [evC]

theorem branch_bool {t : Bool} {a b : ACode} {st : St} : branch AP (some (.pv (.bool t))) a b st = if t = true then cl AP a st else cl AP b st := rfl

/-- A region's end. -/
def regEnd (live : List Nat) : Option St → Option (AExit × St)
  | some st => some (.normal, restrict live st)
  | none => none

theorem cl_region {ops : List AOp} {live : List Nat} {st : St} : cl AP (.reg ops live) st = regEnd live (evOps (orcL AP) ops st) := by
  rw [cl_reg]
  cases evOps (orcL AP) ops st <;> rfl

theorem regEnd_some {live : List Nat} {st : St} : regEnd live (some st) = some (.normal, restrict live st) := rfl
theorem regEnd_ite {live : List Nat} {c : Prop} [Decidable c] {x y : Option St} : regEnd live (if c then x else y) = if c then regEnd live x else regEnd live y := by split <;> rfl

theorem after_normal {f : St → Option (AExit × St)} {st : St} : after f (some (.normal, st)) = f st := rfl
theorem after_ret {f : St → Option (AExit × St)} {st : St} : after f (some (.ret, st)) = some (.ret, st) := rfl
theorem after_exit {f : St → Option (AExit × St)} {st : St} {id : Nat} : after f (some (.exit id, st)) = some (.exit id, st) := rfl
theorem after_ite {f : St → Option (AExit × St)} {c : Prop} [Decidable c] {x y : Option (AExit × St)} : after f (if c then x else y) = if c then after f x else after f y := by split <;> rfl
theorem leave_normal {id : Nat} {st : St} : leave id (some (.normal, st)) = some (.normal, st) := rfl
theorem leave_ret {id : Nat} {st : St} : leave id (some (.ret, st)) = some (.ret, st) := rfl
theorem leave_exit {id id' : Nat} {st : St} : leave id (some (.exit id', st)) = if id' = id then some (.normal, st) else some (.exit id', st) := rfl
theorem leave_ite {id : Nat} {c : Prop} [Decidable c] {x y : Option (AExit × St)} : leave id (if c then x else y) = if c then leave id x else leave id y := by split <;> rfl

/-! ### Operations -/

/-- The operations behind one. -/
def opsThen (O : Orc) (l : List AOp) : Option St → Option St
  | some st => evOps O l st
  | none => none

theorem evOps_nil {st : St} : evOps O [] st = some st := rfl
theorem evOps_step {o : AOp} {l : List AOp} {st : St} : evOps O (o :: l) st = opsThen O l (evOp O o st) := by
  simp only [evOps]
  cases evOp O o st <;> rfl
theorem evOps_cons {d : Option Nat} {args : List AOpd} {op : AK} {l : List AOp} {st : St} : evOps O (⟨d, none, args, op⟩ :: l) st = opsThen O l (evOp O ⟨d, none, args, op⟩ st) := evOps_step
theorem opsThen_some {l : List AOp} {st : St} : opsThen O l (some st) = evOps O l st := rfl
theorem opsThen_ite {l : List AOp} {c : Prop} [Decidable c] {x y : Option St} : opsThen O l (if c then x else y) = if c then opsThen O l x else opsThen O l y := by split <;> rfl

/-- What an operation lays. -/
def putOut (d k : Option Nat) (env : List (Nat × AV)) (mem : List (Nat × List AV)) : Option Out → Option St
  | some out => some { env := putD env d out.val, mem := putC mem k out.cells, sh := out.sh, toks := out.toks }
  | none => none

def execO (O : Orc) (op : AK) (vals : Option (List AV)) (cells : Option (List AV)) (sh : Sh) (toks : Toks) : Option Out :=
  match vals with
  | some vals => exec O op vals cells sh toks
  | none => none

theorem evOp_plain {d : Option Nat} {args : List AOpd} {op : AK} {env : List (Nat × AV)} {mem : List (Nat × List AV)} {sh : Sh} {toks : Toks} :
    evOp O ⟨d, none, args, op⟩ ⟨env, mem, sh, toks⟩ = putOut d op.key env mem (execO O op (evOpds env args) (op.key.bind (look mem)) sh toks) := by
  simp only [evOp, wantedA]
  cases evOpds env args with
  | none => rfl
  | some vals =>
    dsimp only [execO]
    cases exec O op vals (op.key.bind (look mem)) sh toks <;> rfl

/-- An operation, its guard's temporary known. -/
def gset (t : Nat) (b : Bool) (o : AOp) : AOp :=
  match o.guard with
  | some (t', b') => if t' = t then (if b' = b then { o with guard := none } else ⟨o.dst, none, [.c .un], .v .mv⟩) else o
  | none => o

/-- Nobody writes a temporary. -/
def noW (t : Nat) : List AOp → Bool
  | [] => true
  | o :: l => (o.dst != some t) && noW t l

theorem look_putL {α : Type} {t t' : Nat} {v : α} : ∀ {l : List (Nat × α)}, look (putL l t v) t' = if t' = t then some v else look l t'
  | [] => by
    simp only [putL, look]
    by_cases h : t' = t
    · subst h; simp
    · rw [if_neg (fun e => h e.symm), if_neg h]
  | (k, u) :: r => by
    simp only [putL]
    by_cases hk : k = t
    · subst hk
      simp only [if_true, look]
      by_cases h : t' = k
      · subst h; simp
      · rw [if_neg (fun e => h e.symm), if_neg h, if_neg (fun e => h e.symm)]
    · rw [if_neg hk]
      simp only [look, look_putL (l := r)]
      by_cases h : k = t'
      · subst h; simp [hk]
      · rw [if_neg h, if_neg h]

theorem putL_same {α : Type} {t : Nat} {v : α} : ∀ {l : List (Nat × α)}, look l t = some v → putL l t v = l
  | [], h => by simp [look] at h
  | (k, u) :: r, h => by
    simp only [look] at h
    simp only [putL]
    split at h
    · rename_i e; cases h; rw [if_pos e]
    · rename_i e; rw [if_neg e, putL_same h]

theorem evOp_look {o : AOp} {st st' : St} {t : Nat} {v : AV} (hd : (o.dst != some t) = true) (h : look st.env t = some v) (e : evOp O o st = some st') : look st'.env t = some v := by
  have key : ∀ x, look (putD st.env o.dst x) t = some v := by
    intro x
    cases hdd : o.dst with
    | none => exact h
    | some d =>
      rw [hdd] at hd
      simp only [putD, look_putL]
      rw [if_neg (by intro e; subst e; simp at hd)]
      exact h
  simp only [evOp] at e
  split at e
  · cases e
  · cases e; exact key _
  · split at e
    · cases e
    · split at e
      · cases e
      · cases e; exact key _

theorem evOp_gset {o : AOp} {st : St} {t : Nat} {b : Bool} (h : look st.env t = some (.pv (.bool b))) : evOp O o st = evOp O (gset t b o) st := by
  obtain ⟨d, g, args, op⟩ := o
  cases g with
  | none => rfl
  | some p =>
    obtain ⟨t', b'⟩ := p
    simp only [gset]
    by_cases ht : t' = t
    · subst ht
      rw [if_pos rfl]
      by_cases hb : b' = b
      · subst hb
        rw [if_pos rfl]
        simp only [evOp, wantedA, h, beq_self_eq_true]
      · rw [if_neg hb]
        have hb' : (b == b') = false := by simpa using fun e => hb e.symm
        simp only [evOp, wantedA, h, hb']
        obtain ⟨env, mem, sh, toks⟩ := st
        rfl
    · rw [if_neg ht]

theorem evOps_gset {t : Nat} {b : Bool} : ∀ {l : List AOp} {st : St}, noW t l = true → look st.env t = some (.pv (.bool b)) → evOps O l st = evOps O (l.map (gset t b)) st
  | [], _, _, _ => rfl
  | o :: l, st, hn, h => by
    simp only [noW, Bool.and_eq_true] at hn
    rw [List.map_cons, evOps_step, evOps_step, ← evOp_gset h]
    cases e : evOp O o st with
    | none => rfl
    | some st' => exact evOps_gset hn.2 (evOp_look hn.1 h e)

theorem evOps_guard {d : Option Nat} {t : Nat} {b : Bool} {args : List AOpd} {op : AK} {l : List AOp} {env : List (Nat × AV)} {mem : List (Nat × List AV)} {sh : Sh} {toks : Toks} {c : Bool} (h : look env t = some (.pv (.bool c))) (hn : noW t (⟨d, some (t, b), args, op⟩ :: l) = true) :
    evOps O (⟨d, some (t, b), args, op⟩ :: l) ⟨env, mem, sh, toks⟩ =
      if c = true then evOps O ((⟨d, some (t, b), args, op⟩ :: l).map (gset t true)) ⟨putL env t (.pv (.bool true)), mem, sh, toks⟩
      else evOps O ((⟨d, some (t, b), args, op⟩ :: l).map (gset t false)) ⟨putL env t (.pv (.bool false)), mem, sh, toks⟩ := by
  cases c with
  | true => rw [if_pos rfl, putL_same h]; exact evOps_gset hn h
  | false => rw [if_neg (by simp), putL_same h]; exact evOps_gset hn h

theorem evOps_guardU {d : Option Nat} {t : Nat} {b : Bool} {args : List AOpd} {op : AK} {l : List AOp} {env : List (Nat × AV)} {mem : List (Nat × List AV)} {sh : Sh} {toks : Toks} (h : look env t = some .un) :
    evOps O (⟨d, some (t, b), args, op⟩ :: l) ⟨env, mem, sh, toks⟩ = evOps O l ⟨putD env d .un, mem, sh, toks⟩ := by
  rw [evOps_step]
  simp only [evOp, wantedA, h]
  rfl

/-- A guard, once its temporary is looked up. -/
noncomputable def gd (O : Orc) (t : Nat) (ops : List AOp) (d : Option Nat) (l : List AOp) (env : List (Nat × AV)) (mem : List (Nat × List AV)) (sh : Sh) (toks : Toks) : Option AV → Option St
  | some (.pv (.bool c)) => if noW t ops = true then (if c = true then evOps O (ops.map (gset t true)) ⟨putL env t (.pv (.bool true)), mem, sh, toks⟩
      else evOps O (ops.map (gset t false)) ⟨putL env t (.pv (.bool false)), mem, sh, toks⟩) else evOps O ops ⟨env, mem, sh, toks⟩
  | some .un => evOps O l ⟨putD env d .un, mem, sh, toks⟩
  | _ => evOps O ops ⟨env, mem, sh, toks⟩

theorem evOps_gd {d : Option Nat} {t : Nat} {b : Bool} {args : List AOpd} {op : AK} {l : List AOp} {env : List (Nat × AV)} {mem : List (Nat × List AV)} {sh : Sh} {toks : Toks} :
    evOps O (⟨d, some (t, b), args, op⟩ :: l) ⟨env, mem, sh, toks⟩ = gd O t (⟨d, some (t, b), args, op⟩ :: l) d l env mem sh toks (look env t) := by
  unfold gd
  split
  · rename_i c h
    split
    · rename_i hn; exact evOps_guard h hn
    · rfl
  · rename_i h; exact evOps_guardU h
  · rfl

theorem gd_bool {t : Nat} {ops : List AOp} {d : Option Nat} {l : List AOp} {env : List (Nat × AV)} {mem : List (Nat × List AV)} {sh : Sh} {toks : Toks} {c : Bool} : gd O t ops d l env mem sh toks (some (.pv (.bool c))) =
    if noW t ops = true then (if c = true then evOps O (ops.map (gset t true)) ⟨putL env t (.pv (.bool true)), mem, sh, toks⟩
      else evOps O (ops.map (gset t false)) ⟨putL env t (.pv (.bool false)), mem, sh, toks⟩) else evOps O ops ⟨env, mem, sh, toks⟩ := rfl
theorem gd_un {t : Nat} {ops : List AOp} {d : Option Nat} {l : List AOp} {env : List (Nat × AV)} {mem : List (Nat × List AV)} {sh : Sh} {toks : Toks} : gd O t ops d l env mem sh toks (some .un) = evOps O l ⟨putD env d .un, mem, sh, toks⟩ := rfl
theorem noW_nil {t : Nat} : noW t [] = true := rfl
theorem noW_some {t d : Nat} {g : Option (Nat × Bool)} {args : List AOpd} {op : AK} {l : List AOp} : noW t (⟨some d, g, args, op⟩ :: l) = (!(decide (d = t)) && noW t l) := by
  simp only [noW]
  congr 1
theorem noW_none {t : Nat} {g : Option (Nat × Bool)} {args : List AOpd} {op : AK} {l : List AOp} : noW t (⟨none, g, args, op⟩ :: l) = noW t l := by
  simp [noW]
theorem gset_none {t : Nat} {b : Bool} {d : Option Nat} {args : List AOpd} {op : AK} : gset t b ⟨d, none, args, op⟩ = ⟨d, none, args, op⟩ := rfl
theorem gset_some {t t' : Nat} {b b' : Bool} {d : Option Nat} {args : List AOpd} {op : AK} : gset t b ⟨d, some (t', b'), args, op⟩ = if t' = t then (if b' = b then ⟨d, none, args, op⟩ else ⟨d, none, [.c .un], .v .mv⟩) else ⟨d, some (t', b'), args, op⟩ := rfl

theorem putOut_some {d k : Option Nat} {env : List (Nat × AV)} {mem : List (Nat × List AV)} {v : AV} {cs : Option (List AV)} {sh : Sh} {toks : Toks} :
    putOut d k env mem (some ⟨v, cs, sh, toks⟩) = some ⟨putD env d v, putC mem k cs, sh, toks⟩ := rfl
theorem putOut_ite {d k : Option Nat} {env : List (Nat × AV)} {mem : List (Nat × List AV)} {c : Prop} [Decidable c] {x y : Option Out} : putOut d k env mem (if c then x else y) = if c then putOut d k env mem x else putOut d k env mem y := by split <;> rfl

theorem execO_some {op : AK} {vals : List AV} {cells : Option (List AV)} {sh : Sh} {toks : Toks} : execO O op (some vals) cells sh toks = exec O op vals cells sh toks := rfl

/-- A value as an outcome. -/
def outV (sh : Sh) (toks : Toks) : Option AV → Option Out
  | some x => some ⟨x, none, sh, toks⟩
  | none => none
theorem outV_some {sh : Sh} {toks : Toks} {x : AV} : outV sh toks (some x) = some ⟨x, none, sh, toks⟩ := rfl
theorem outV_ite {sh : Sh} {toks : Toks} {c : Prop} [Decidable c] {x y : Option AV} : outV sh toks (if c then x else y) = if c then outV sh toks x else outV sh toks y := by split <;> rfl

variable {vals : List AV} {cells : Option (List AV)} {sh : Sh} {toks : Toks}

theorem exec_v {o : VOp} : exec O (.v o) vals cells sh toks = outV sh toks (evV o vals) := by
  show (evV o vals).map _ = _
  cases evV o vals <;> rfl
theorem exec_loadL {key off sz d o : Nat} {ag : Bool} {cs : List AV} : exec O (.loadL key off sz ag) [.lptr d o] (some cs) sh toks = if d = key ∧ o = off then outV sh toks (ofCells ag sz cs off) else none := by
  show (if d = key ∧ o = off then (ofCells ag sz cs off).map _ else none) = _
  cases ofCells ag sz cs off <;> rfl
theorem exec_storeL {key off sz d o : Nat} {v : AV} {cs : List AV} : exec O (.storeL key off sz) [.lptr d o, v] (some cs) sh toks =
    if d = key ∧ o = off ∧ (cellsA v).length = sz ∧ (cellsA v).all leafB = true then if off + sz ≤ cs.length then some ⟨.un, some (setRange cs off (cellsA v)), sh, toks⟩ else none else none := rfl
theorem exec_alloc {key : Nat} {zero : List PV} : exec O (.alloc key zero) [] none sh toks = some ⟨.lptr key 0, some (zero.map evV.zeroCell), sh, toks⟩ := rfl
theorem exec_box {key sz : Nat} {v : AV} : exec O (.box key sz) [v] none sh toks = if (cellsA v).length = sz ∧ (cellsA v).all leafB = true then some ⟨.lptr key 0, some (cellsA v), sh, toks⟩ else none := rfl
theorem exec_loadSe {sz : Nat} {ag : Bool} {cs : List PV} : exec O (.loadS sz ag) [.eptr cs] cells sh toks = outV sh toks (ofCellsP ag sz cs) := by
  show (ofCellsP ag sz cs).map _ = _
  cases ofCellsP ag sz cs <;> rfl
/-- Out of shared memory. -/
def shLoad (ag : Bool) (sz off : Nat) : Option (Option (List AV)) → Option AV
  | some (some cs) => if mapB cs = true then none else ofCells ag sz cs off
  | _ => none
theorem shLoad_some {ag : Bool} {sz off : Nat} {cs : List AV} : shLoad ag sz off (some (some cs)) = if mapB cs = true then none else ofCells ag sz cs off := rfl
theorem exec_loadSs {sz b off : Nat} {ag : Bool} : exec O (.loadS sz ag) [.sptr b off] cells sh toks = outV sh toks (shLoad ag sz off sh[b]?) := by
  show (match sh[b]? with | some (some cs) => if mapB cs = true then none else (ofCells ag sz cs off).map _ | _ => none) = _
  split
  · rename_i cs h
    rw [h, shLoad_some]
    split
    · rfl
    · cases ofCells ag sz cs off <;> rfl
  · rename_i h
    unfold shLoad
    split
    · rename_i cs e; exact absurd e (h cs)
    · rfl
/-- Into shared memory. -/
def shStore (b off sz : Nat) (vs : List AV) (sh : Sh) (toks : Toks) : Option (Option (List AV)) → Option Out
  | some (some cs) => if mapB cs = false ∧ vs.length = sz ∧ off + sz ≤ cs.length ∧ vs.all leafS = true ∧ vs.all (refsLt (b + 1)) = true then some ⟨.un, none, sh.set b (some (setRange cs off vs)), toks⟩ else none
  | _ => none
theorem shStore_some {b off sz : Nat} {vs cs : List AV} : shStore b off sz vs sh toks (some (some cs)) = if mapB cs = false ∧ vs.length = sz ∧ off + sz ≤ cs.length ∧ vs.all leafS = true ∧ vs.all (refsLt (b + 1)) = true then some ⟨.un, none, sh.set b (some (setRange cs off vs)), toks⟩ else none := rfl
theorem exec_storeS {sz b off : Nat} {v : AV} : exec O (.storeS sz) [.sptr b off, v] cells sh toks = shStore b off sz (shCells v) sh toks sh[b]? := by
  show (match sh[b]? with | some (some cs) => _ | _ => none) = _
  split
  · rename_i cs h
    rw [h, shStore_some]
  · rename_i h
    unfold shStore
    split
    · rename_i cs e; exact absurd e (h cs)
    · rfl
theorem exec_boxS {sz : Nat} {v : AV} : exec O (.boxS sz) [v] cells sh toks = if (shCells v).length = sz ∧ (shCells v).all leafS = true ∧ (shCells v).all (refsLt sh.length) = true then some ⟨.sptr sh.length 0, none, sh ++ [some (shCells v)], toks⟩ else none := rfl
theorem exec_allocS {zero : List PV} : exec O (.allocS zero) [] cells sh toks = some ⟨.sptr sh.length 0, none, sh ++ [some (zero.map evV.zeroCell)], toks⟩ := rfl
theorem exec_makeS {sz bytes : Nat} {ag : Bool} {zero : List PV} {k k' : IntKind} {n n' : Int} : exec O (.makeS sz bytes ag zero) [.pv (.int k n), .pv (.int k' n')] cells sh toks =
    if n = n' ∧ 0 ≤ n ∧ n ≤ 9223372036854775807 ∧ n * bytes ≤ 140737488355328 ∧ zero.length = sz then some ⟨.sarr sh.length sz n.toNat ag, none, sh ++ [some ((List.replicate n.toNat (zero.map .pv)).flatten)], toks⟩ else none := rfl

theorem mapB_nil : mapB [] = false := rfl
theorem mapB_pv {p : PV} {r : List AV} : mapB (.pv p :: r) = false := rfl
theorem mapB_clp {l : List PV} {r : List AV} : mapB (.clp l :: r) = false := rfl
theorem mapB_own {l : List PV} {τ : Nat} {r : List AV} : mapB (.own l τ :: r) = false := rfl
theorem mapB_sptr {b o : Nat} {r : List AV} : mapB (.sptr b o :: r) = false := rfl
theorem mapB_sarr {b z n : Nat} {ag : Bool} {r : List AV} : mapB (.sarr b z n ag :: r) = false := rfl
theorem mapB_fn {g : Nat} {c r : List AV} : mapB (.fn g c :: r) = false := rfl
theorem mapB_nilp {r : List AV} : mapB (.nilp :: r) = false := rfl
theorem mapB_mref {s : Nat} {r : List AV} : mapB (.mref s :: r) = false := rfl
theorem mapB_mapc {kvs : List (PV × PV)} {r : List AV} : mapB (.mapc kvs :: r) = true := rfl

/-! ### Maps -/

theorem exec_makeM : exec O .makeM [] cells sh toks = some ⟨.mref sh.length, none, sh ++ [some [.mapc []]], toks⟩ := rfl
def outM (ok : Bool) (z : PV) (sh : Sh) (toks : Toks) : Option (Option PV) → Option Out
  | some r => some ⟨lookRes ok z r, none, sh, toks⟩
  | none => none
theorem outM_some {ok : Bool} {z : PV} {r : Option PV} : outM ok z sh toks (some r) = some ⟨lookRes ok z r, none, sh, toks⟩ := rfl
theorem outM_ite {ok : Bool} {z : PV} {c : Prop} [Decidable c] {x y : Option (Option PV)} : outM ok z sh toks (if c then x else y) = if c then outM ok z sh toks x else outM ok z sh toks y := by split <;> rfl
theorem lookRes_true {z : PV} {r : Option PV} : lookRes true z r = .tup [.pv (r.getD z), .pv (.bool r.isSome)] := rfl
theorem lookRes_false {z : PV} {r : Option PV} : lookRes false z r = .pv (r.getD z) := rfl
def lookO (c : CK) (ok : Bool) (z k : PV) (sh : Sh) (toks : Toks) : Option (Option (List AV)) → Option Out
  | some (some [.mapc kvs]) => outM ok z sh toks (findKV c kvs k)
  | _ => none
theorem lookO_some {c : CK} {ok : Bool} {z k : PV} {kvs : List (PV × PV)} : lookO c ok z k sh toks (some (some [.mapc kvs])) = outM ok z sh toks (findKV c kvs k) := rfl
theorem exec_lookM {c : CK} {ok : Bool} {z k : PV} {s : Nat} : exec O (.lookM c ok z) [.mref s, .pv k] cells sh toks = lookO c ok z k sh toks sh[s]? := by
  show (match sh[s]? with | some (some [.mapc kvs]) => (findKV c kvs k).map _ | _ => none) = _
  split
  · rename_i kvs h
    rw [h, lookO_some]
    cases findKV c kvs k <;> rfl
  · rename_i h
    unfold lookO
    split
    · rename_i kvs e; exact absurd e (h kvs)
    · rfl
def putR (s : Nat) (sh : Sh) (toks : Toks) : Option (List (PV × PV)) → Option Out
  | some kvs => some ⟨.un, none, sh.set s (some [.mapc kvs]), toks⟩
  | none => none
theorem putR_some {s : Nat} {kvs : List (PV × PV)} : putR s sh toks (some kvs) = some ⟨.un, none, sh.set s (some [.mapc kvs]), toks⟩ := rfl
def putO (c : CK) (s : Nat) (k : PV) (sh : Sh) (toks : Toks) : Option (Option (List AV)) → Option PV → Option Out
  | some (some [.mapc kvs]), some p => putR s sh toks (putKV c kvs k p)
  | _, _ => none
theorem putO_some {c : CK} {s : Nat} {k p : PV} {kvs : List (PV × PV)} : putO c s k sh toks (some (some [.mapc kvs])) (some p) = putR s sh toks (putKV c kvs k p) := rfl
theorem exec_putM {c : CK} {k : PV} {s : Nat} {v : AV} : exec O (.putM c) [.mref s, .pv k, v] cells sh toks = putO c s k sh toks sh[s]? (frz [] v) := by
  show (match sh[s]?, frz [] v with | some (some [.mapc kvs]), some p => (putKV c kvs k p).map _ | _, _ => none) = _
  split
  · rename_i kvs p h1 h2
    rw [h1, h2, putO_some]
    cases putKV c kvs k p <;> rfl
  · rename_i h
    unfold putO
    split
    · rename_i kvs p e1 e2; exact absurd e2 (h kvs p e1)
    · rfl

def veqR (neg : Bool) : Option Bool → Option AV
  | some b => some (.pv (.bool (if neg then !b else b)))
  | none => none
theorem veqR_some {neg b : Bool} : veqR neg (some b) = some (.pv (.bool (if neg then !b else b))) := rfl
theorem veqR_ite {neg : Bool} {c : Prop} [Decidable c] {x y : Option Bool} : veqR neg (if c then x else y) = if c then veqR neg x else veqR neg y := by split <;> rfl
def veqO (cs : List CK) (neg : Bool) : Option PV → Option PV → Option AV
  | some (.agg ps), some (.agg qs) => veqR neg (eqCells cs ps qs)
  | _, _ => none
theorem veqO_some {cs : List CK} {neg : Bool} {ps qs : List PV} : veqO cs neg (some (.agg ps)) (some (.agg qs)) = veqR neg (eqCells cs ps qs) := rfl
theorem evV_veq {cs : List CK} {neg : Bool} {x y : AV} : evV (.veq cs neg) [x, y] = veqO cs neg (frz [] x) (frz [] y) := by
  show (match frz [] x, frz [] y with | some (.agg ps), some (.agg qs) => (eqCells cs ps qs).map _ | _, _ => none) = _
  split
  · rename_i ps qs h1 h2
    rw [h1, h2, veqO_some]
    cases eqCells cs ps qs <;> rfl
  · rename_i h
    unfold veqO
    split
    · rename_i ps qs e1 e2; exact absurd e2 (h ps qs e1)
    · rfl

/-- What an append lays. -/
def outA (sh : Sh) : Option (AV × Toks) → Option Out
  | some (v, ts) => some ⟨v, none, sh, ts⟩
  | none => none
theorem outA_some {v : AV} {ts : Toks} : outA sh (some (v, ts)) = some ⟨v, none, sh, ts⟩ := rfl
theorem outA_ite {c : Prop} [Decidable c] {x y : Option (AV × Toks)} : outA sh (if c then x else y) = if c then outA sh x else outA sh y := by split <;> rfl
theorem exec_append {sz bytes : Nat} {s x : AV} : exec O (.append sz bytes) [s, x] cells sh toks = outA sh (execAppend sz bytes s x toks) := by
  show (execAppend sz bytes s x toks).map _ = _
  cases execAppend sz bytes s x toks <;> rfl

theorem exec_clone {sz bytes : Nat} {x : AV} : exec O (.clone sz bytes) [x] cells sh toks = outA sh (execAppend sz bytes (.clp []) x toks) := by
  show (execAppend sz bytes (.clp []) x toks).map _ = _
  cases execAppend sz bytes (.clp []) x toks <;> rfl

def appTo (sz bytes : Nat) (s : AV) (toks : Toks) : Option (List PV) → Option (AV × Toks)
  | some xs => if headSz sz xs = true then
    match s with
    | .clp l => if xs.isEmpty = true then some (.clp l, toks) else if headSz sz l = true ∧ (l.length + xs.length) * bytes ≤ 140737488355328 then
        some (.own (l ++ xs) toks.length, toks ++ [(l ++ xs).length]) else none
    | .own l τ => if toks[τ]? = some l.length ∧ headSz sz l = true ∧ (l.length + xs.length) * bytes ≤ 140737488355328 then
        some (.own (l ++ xs) τ, toks.set τ (l ++ xs).length) else none
    | _ => none
    else none
  | none => none
theorem execAppend_eq {sz bytes : Nat} {s x : AV} : execAppend sz bytes s x toks = appTo sz bytes s toks (elsOf x) := by
  unfold execAppend appTo
  cases elsOf x <;> rfl
theorem appTo_clp {sz bytes : Nat} {l xs : List PV} : appTo sz bytes (.clp l) toks (some xs) = if headSz sz xs = true then if xs.isEmpty = true then some (.clp l, toks) else if headSz sz l = true ∧ (l.length + xs.length) * bytes ≤ 140737488355328 then
        some (.own (l ++ xs) toks.length, toks ++ [(l ++ xs).length]) else none else none := rfl
theorem appTo_own {sz bytes τ : Nat} {l xs : List PV} : appTo sz bytes (.own l τ) toks (some xs) = if headSz sz xs = true then if toks[τ]? = some l.length ∧ headSz sz l = true ∧ (l.length + xs.length) * bytes ≤ 140737488355328 then
        some (.own (l ++ xs) τ, toks.set τ (l ++ xs).length) else none else none := rfl
/-- What an append onto an array that may be written lays. -/
def outH (toks : Toks) : Option (AV × Sh) → Option Out
  | some (v, sh) => some ⟨v, none, sh, toks⟩
  | none => none
theorem outH_some {v : AV} {sh : Sh} : outH toks (some (v, sh)) = some ⟨v, none, sh, toks⟩ := rfl
theorem outH_ite {c : Prop} [Decidable c] {x y : Option (AV × Sh)} : outH toks (if c then x else y) = if c then outH toks x else outH toks y := by split <;> rfl
def hotTo (sz bytes : Nat) (ag : Bool) (s : AV) (sh : Sh) (toks : Toks) : Option (List PV) → Option Out
  | some xs => if headSz sz xs = true then outH toks (appS sz bytes ag s xs sh toks) else none
  | none => none
theorem hotTo_some {sz bytes : Nat} {ag : Bool} {s : AV} {xs : List PV} : hotTo sz bytes ag s sh toks (some xs) = if headSz sz xs = true then outH toks (appS sz bytes ag s xs sh toks) else none := rfl
theorem exec_appendS {sz bytes : Nat} {ag : Bool} {s x : AV} : exec O (.appendS sz bytes ag) [s, x] cells sh toks = hotTo sz bytes ag s sh toks (elsOf x) := by
  simp only [exec, hotTo]
  cases elsOf x with
  | none => rfl
  | some xs =>
    simp only
    split
    · cases appS sz bytes ag s xs sh toks <;> rfl
    · rfl
def hotArr (sz bytes : Nat) (ag : Bool) (b z n : Nat) (g : Bool) (xs : List PV) (sh : Sh) : Option (Option (List AV)) → Option (AV × Sh)
  | some (some cells) => if z = sz ∧ g = ag ∧ mapB cells = false ∧ n * sz ≤ cells.length ∧ (n + xs.length) * bytes ≤ 140737488355328 then
        if xs.isEmpty = true then some (.sarr b sz n ag, sh) else some (.sarr sh.length sz (n + xs.length) ag, sh.set b none ++ [some (cells.take (n * sz) ++ (xs.flatMap cellsP).map .pv)])
      else none
  | _ => none
theorem hotArr_some {sz bytes : Nat} {ag : Bool} {b z n : Nat} {g : Bool} {xs : List PV} {cells : List AV} : hotArr sz bytes ag b z n g xs sh (some (some cells)) = if z = sz ∧ g = ag ∧ mapB cells = false ∧ n * sz ≤ cells.length ∧ (n + xs.length) * bytes ≤ 140737488355328 then
        if xs.isEmpty = true then some (.sarr b sz n ag, sh) else some (.sarr sh.length sz (n + xs.length) ag, sh.set b none ++ [some (cells.take (n * sz) ++ (xs.flatMap cellsP).map .pv)])
      else none := rfl
theorem appS_clp {sz bytes : Nat} {ag : Bool} {xs : List PV} : appS sz bytes ag (.clp []) xs sh toks = app0 sz bytes ag (.clp []) xs sh := rfl
theorem appS_own {sz bytes τ : Nat} {ag : Bool} {xs : List PV} : appS sz bytes ag (.own [] τ) xs sh toks = if toks[τ]? = some 0 then app0 sz bytes ag (.own [] τ) xs sh else none := rfl
theorem appS_sarr {sz bytes b z n : Nat} {ag g : Bool} {xs : List PV} : appS sz bytes ag (.sarr b z n g) xs sh toks = hotArr sz bytes ag b z n g xs sh sh[b]? := by
  simp only [appS, hotArr]
  rcases sh[b]? with _ | _ | cells <;> rfl
theorem app0_eq {sz bytes : Nat} {ag : Bool} {s : AV} {xs : List PV} : app0 sz bytes ag s xs sh = if xs.isEmpty = true then some (s, sh) else if xs.length * bytes ≤ 140737488355328 then some (.sarr sh.length sz xs.length ag, sh ++ [some ((xs.flatMap cellsP).map .pv)]) else none := rfl
def frzQ (r : List Nat) (t : Nat) (st : St) (v : AV) : Option PV → St
  | some p => frzT r { st with env := putL st.env t (.pv p), sh := killAll st.sh [v] }
  | none => frzT r (frzM v st)
def frzMp (d : Nat) (cs : List AV) (st : St) : Option (List PV) → St
  | some ps => { st with mem := putL st.mem d (ps.map .pv), sh := killAll st.sh [.agg cs] }
  | none => st
def frzMo (d : Nat) (st : St) : Option (List AV) → St
  | some cs => frzMp d cs st (frzLs st.sh cs)
  | none => st
theorem frzM_lptr {d : Nat} {st : St} : frzM (.lptr d 0) st = frzMo d st (look st.mem d) := by
  simp only [frzM]
  cases look st.mem d with
  | none => rfl
  | some cs =>
    simp only [frzMo]
    cases frzLs st.sh cs <;> rfl
theorem frzMo_some {d : Nat} {st : St} {cs : List AV} : frzMo d st (some cs) = frzMp d cs st (frzLs st.sh cs) := rfl
theorem frzMp_some {d : Nat} {st : St} {cs : List AV} {ps : List PV} : frzMp d cs st (some ps) = { st with mem := putL st.mem d (ps.map .pv), sh := killAll st.sh [.agg cs] } := rfl
theorem frzMp_none {d : Nat} {st : St} {cs : List AV} : frzMp d cs st none = st := rfl
def frzR (r : List Nat) (t : Nat) (st : St) : Option AV → St
  | some v => frzQ r t st v (frz st.sh v)
  | none => frzT r st
theorem frzT_nil {st : St} : frzT [] st = st := rfl
theorem frzT_cons {t : Nat} {r : List Nat} {st : St} : frzT (t :: r) st = frzR r t st (look st.env t) := by
  simp only [frzT]
  cases look st.env t with
  | none => rfl
  | some v =>
    simp only [frzR]
    cases frz st.sh v <;> rfl
theorem frzR_some {r : List Nat} {t : Nat} {st : St} {v : AV} : frzR r t st (some v) = frzQ r t st v (frz st.sh v) := rfl
theorem frzR_none {r : List Nat} {t : Nat} {st : St} : frzR r t st none = frzT r st := rfl
theorem frzQ_some {r : List Nat} {t : Nat} {st : St} {v : AV} {p : PV} : frzQ r t st v (some p) = frzT r { st with env := putL st.env t (.pv p), sh := killAll st.sh [v] } := rfl
theorem frzQ_none {r : List Nat} {t : Nat} {st : St} {v : AV} : frzQ r t st v none = frzT r (frzM v st) := rfl
def outC (toks : Toks) : Option Sh → Option Out
  | some sh => some ⟨.tup [], none, sh, toks⟩
  | none => none
theorem outC_some {sh : Sh} : outC toks (some sh) = some ⟨.tup [], none, sh, toks⟩ := rfl
theorem outC_ite {c : Prop} [Decidable c] {x y : Option Sh} : outC toks (if c then x else y) = if c then outC toks x else outC toks y := by split <;> rfl
def clearM (sz : Nat) (zero : List PV) (sh : Sh) (b off n : Nat) : Option (Option (List AV)) → Option Sh
  | some (some cells) => if mapB cells = false ∧ off + n * sz ≤ cells.length ∧ zero.length = sz then some (sh.set b (some (setRange cells off (List.replicate n (zero.map .pv)).flatten))) else none
  | _ => none
theorem clearM_some {sz b off n : Nat} {zero : List PV} {cells : List AV} : clearM sz zero sh b off n (some (some cells)) = if mapB cells = false ∧ off + n * sz ≤ cells.length ∧ zero.length = sz then some (sh.set b (some (setRange cells off (List.replicate n (zero.map .pv)).flatten))) else none := rfl
theorem exec_clearSa {sz b n : Nat} {ag : Bool} {zero : List PV} : exec O (.clearS sz zero) [.sarr b sz n ag] cells sh toks = outC toks (clearM sz zero sh b 0 n sh[b]?) := by
  simp only [exec, subOf, if_true, clearR]
  rcases sh[b]? with _ | _ | cs
  · rfl
  · rfl
  · simp only [clearM]
    split <;> rfl
theorem exec_clearSs {sz b off n : Nat} {zero : List PV} : exec O (.clearS sz zero) [.ssub b off n] cells sh toks = outC toks (clearM sz zero sh b off n sh[b]?) := by
  simp only [exec, subOf, clearR]
  rcases sh[b]? with _ | _ | cs
  · rfl
  · rfl
  · simp only [clearM]
    split <;> rfl
theorem key_clearS {s : Nat} {z : List PV} : AK.key (.clearS s z) = none := rfl
theorem evV_sliceH {sz b n : Nat} {ag lo hi : Bool} {rest : List AV} : evV (.sliceH sz lo hi) (.sarr b sz n ag :: rest) = evSliceH sz lo hi (.sarr b sz n ag :: rest) := rfl
theorem normV_ssub {old ts : Toks} {a b c : Nat} : normV old ts (.ssub a b c) = (.ssub a b c, old, ts) := rfl
theorem keepB_ssub {live : List Nat} {a b c : Nat} : keepB live (.ssub a b c) = true := rfl
theorem elsOf_pv {l : List PV} : elsOf (.pv (.lst l)) = some l := rfl
theorem elsOf_clp {l : List PV} : elsOf (.clp l) = some l := rfl
theorem elsOf_own {l : List PV} {τ : Nat} : elsOf (.own l τ) = some l := rfl
theorem headSz_nil {sz : Nat} : headSz sz [] = true := rfl
theorem headSz_cons {sz : Nat} {p : PV} {r : List PV} : headSz sz (p :: r) = ((cellsP p).length == sz) := rfl

/-! ### Calls -/

def outP (sh : Sh) (toks : Toks) : Option (List PV) → Option Out
  | some rs => some ⟨resP rs, none, sh, toks⟩
  | none => none
theorem outP_some {rs : List PV} : outP sh toks (some rs) = some ⟨resP rs, none, sh, toks⟩ := rfl
theorem outP_ite {c : Prop} [Decidable c] {x y : Option (List PV)} : outP sh toks (if c then x else y) = if c then outP sh toks x else outP sh toks y := by split <;> rfl
def callO (O : Orc) (g : Nat) : Option (List PV) → Option (List PV)
  | some pvs => O.p g pvs
  | none => none
theorem callO_some {g : Nat} {pvs : List PV} : callO O g (some pvs) = O.p g pvs := rfl
theorem exec_callP {g : Nat} : exec O (.callP g) vals cells sh toks = outP sh toks (callO O g (frzAll [] vals)) := by
  show (match frzAll [] vals with | some pvs => _ | none => none) = _
  split
  · rename_i pvs h
    rw [h, callO_some]
    cases O.p g pvs <;> rfl
  · rename_i h; rw [h]; rfl
theorem exec_callPS {g : Nat} : exec O (.callPS g) vals cells sh toks = outP (killAll sh vals) toks (callO O g (frzAll sh vals)) := by
  show (match frzAll sh vals with | some pvs => _ | none => none) = _
  split
  · rename_i pvs h
    rw [h, callO_some]
    cases O.p g pvs <;> rfl
  · rename_i h; rw [h]; rfl

/-- What an impure call lays. -/
def outI (n : Nat) (ts0 : Toks) : Option (List AV × Sh × Toks) → Option Out
  | some (rs, sh', ts) => some ⟨resA (rs.map (shiftV n)), none, shiftS n sh', ts0 ++ ts⟩
  | none => none
theorem outI_some {n : Nat} {ts0 : Toks} {rs : List AV} {sh' : Sh} {ts : Toks} : outI n ts0 (some (rs, sh', ts)) = some ⟨resA (rs.map (shiftV n)), none, shiftS n sh', ts0 ++ ts⟩ := rfl
theorem outI_ite {n : Nat} {ts0 : Toks} {c : Prop} [Decidable c] {x y : Option (List AV × Sh × Toks)} : outI n ts0 (if c then x else y) = if c then outI n ts0 x else outI n ts0 y := by split <;> rfl

/-- A call with what is handed over. -/
def callN (O : Orc) (g n : Nat) (q : List AV × Sh × Toks × Toks) : Option Out := outI n q.2.2.1 (O.i g q.1 q.2.1 q.2.2.2)
theorem callN_mk {g n : Nat} {a : List AV} {s : Sh} {o t : Toks} : callN O g n (a, s, o, t) = outI n o (O.i g a s t) := rfl
def callA (O : Orc) (g : Nat) (args : List AV) (sh : Sh) (toks : Toks) : Option Out :=
  if args.all passO = true then callN O g toks.length (giveN toks args sh) else none
theorem callA_eq {g : Nat} {args : List AV} : callA O g args sh toks = if args.all passO = true then callN O g toks.length (giveN toks args sh) else none := rfl
theorem execCall_eq {g : Nat} {own : List Nat} : (execCall O g own vals sh toks).map (fun (v, sh', ts) => (⟨v, none, sh', ts⟩ : Out)) = callA O g (argsOf own 0 vals) sh toks := by
  unfold execCall callA callN
  split
  · cases O.i g (giveN toks (argsOf own 0 vals) sh).1 (giveN toks (argsOf own 0 vals) sh).2.1 (giveN toks (argsOf own 0 vals) sh).2.2.2 with
    | none => rfl
    | some q => obtain ⟨a, b, c⟩ := q; rfl
  · rfl
theorem exec_callI {g : Nat} {own : List Nat} : exec O (.callI g own) vals cells sh toks = callA O g (argsOf own 0 vals) sh toks := execCall_eq
theorem exec_callV {g : Nat} {cap : List AV} : exec O .callV (.fn g cap :: vals) cells sh toks = callA O g (argsOf [] 0 (vals ++ cap)) sh toks := execCall_eq (vals := vals ++ cap)

/-- A call that sees no shared memory. -/
def outQ (sh : Sh) (toks : Toks) : Option (List AV × Sh × Toks) → Option Out
  | some (rs, [], ts) => some ⟨resA (rs.map (shiftV toks.length)), none, sh, toks ++ ts⟩
  | _ => none
theorem outQ_some {rs : List AV} {ts : Toks} : outQ sh toks (some (rs, [], ts)) = some ⟨resA (rs.map (shiftV toks.length)), none, sh, toks ++ ts⟩ := rfl
theorem outQ_ite {c : Prop} [Decidable c] {x y : Option (List AV × Sh × Toks)} : outQ sh toks (if c then x else y) = if c then outQ sh toks x else outQ sh toks y := by split <;> rfl
def callQO (O : Orc) (g : Nat) : Option (List PV) → Option (List AV × Sh × Toks)
  | some pvs => O.i g (pvs.map .pv) [] []
  | none => none
theorem callQO_some {g : Nat} {pvs : List PV} : callQO O g (some pvs) = O.i g (pvs.map .pv) [] [] := rfl
theorem exec_callQ {g : Nat} : exec O (.callQ g) vals cells sh toks = outQ sh toks (callQO O g (frzAll [] vals)) := by
  show (match frzAll [] vals with | some pvs => _ | none => none) = _
  split
  · rename_i pvs h
    rw [h, callQO_some]
    cases O.i g (pvs.map .pv) [] [] with
    | none => rfl
    | some q =>
      obtain ⟨a, b, c⟩ := q
      cases b <;> rfl
  · rename_i h; rw [h]; rfl

theorem argsOf_nil {own : List Nat} {i : Nat} : argsOf own i [] = [] := rfl
theorem argsOf_cons {own : List Nat} {i : Nat} {v : AV} {r : List AV} : argsOf own i (v :: r) = (if own.contains i then v else argOf v) :: argsOf own (i + 1) r := rfl
theorem argOf_pv {p : PV} : argOf (.pv p) = .pv p := rfl
theorem argOf_clp {l : List PV} : argOf (.clp l) = .pv (.lst l) := rfl
theorem argOf_own {l : List PV} {τ : Nat} : argOf (.own l τ) = .pv (.lst l) := rfl
theorem argOf_sptr {b o : Nat} : argOf (.sptr b o) = .sptr b o := rfl
theorem argOf_fn {g : Nat} {cap : List AV} : argOf (.fn g cap) = .fn g cap := rfl
theorem argOf_sarr {b s n : Nat} {ag : Bool} : argOf (.sarr b s n ag) = .sarr b s n ag := rfl
theorem argOf_nilp : argOf .nilp = .nilp := rfl
theorem argOf_mref {s : Nat} : argOf (.mref s) = (.mref s) := rfl
/-- A struct handed over. -/
def argAgg (cs : List AV) : Option (List PV) → AV
  | some ps => .pv (.agg ps)
  | none => .agg cs
theorem argOf_agg {cs : List AV} : argOf (.agg cs) = argAgg cs (frzLs [] cs) := by
  have h : frz [] (.agg cs) = (frzLs [] cs).map .agg := rfl
  unfold argOf argAgg
  rw [h]
  cases frzLs [] cs <;> rfl
theorem argAgg_some {cs : List AV} {ps : List PV} : argAgg cs (some ps) = .pv (.agg ps) := rfl

/-- Cons under an option. -/
def consO {α : Type} : Option α → Option (List α) → Option (List α)
  | some x, some l => some (x :: l)
  | _, _ => none
theorem consO_some {α : Type} {x : α} {l : List α} : consO (some x) (some l) = some (x :: l) := rfl
theorem evOpds_nil {env : List (Nat × AV)} : evOpds env [] = some [] := rfl
theorem evOpds_cons {env : List (Nat × AV)} {x : AOpd} {r : List AOpd} : evOpds env (x :: r) = consO (evOpd env x) (evOpds env r) := by
  simp only [evOpds]
  cases evOpd env x <;> cases evOpds env r <;> rfl
theorem evOpd_t {env : List (Nat × AV)} {n : Nat} : evOpd env (.t n) = look env n := rfl
theorem evOpd_c {env : List (Nat × AV)} {v : AV} : evOpd env (.c v) = some v := rfl

theorem frzL_nil : frzL [] = some [] := rfl
theorem frzL_cons {v : AV} {r : List AV} : frzL (v :: r) = consO (frz0 v) (frzL r) := by
  simp only [frzL]
  cases frz0 v <;> cases frzL r <;> rfl
theorem frzAll_nil : frzAll sh [] = some [] := rfl
theorem frzAll_cons {v : AV} {r : List AV} : frzAll sh (v :: r) = consO (frz sh v) (frzAll sh r) := by
  simp only [frzAll]
  cases frz sh v <;> cases frzAll sh r <;> rfl
theorem frzLs_nil : frzLs sh [] = some [] := rfl
theorem frzLs_cons {v : AV} {r : List AV} : frzLs sh (v :: r) = if leafB v = true then consO (frzLeaf sh v) (frzLs sh r) else none := by
  simp only [frzLs]
  split
  · cases frzLeaf sh v <;> cases frzLs sh r <;> rfl
  · rfl
theorem frz0_pv {p : PV} : frz0 (.pv p) = some p := rfl
theorem frz0_clp {l : List PV} : frz0 (.clp l) = some (.lst l) := rfl
theorem frz0_own {l : List PV} {τ : Nat} : frz0 (.own l τ) = some (.lst l) := rfl
theorem frz_pv {p : PV} : frz sh (.pv p) = some p := rfl
theorem frz_clp {l : List PV} : frz sh (.clp l) = some (.lst l) := rfl
theorem frz_own {l : List PV} {τ : Nat} : frz sh (.own l τ) = some (.lst l) := rfl
def aggO : Option (List PV) → Option PV
  | some ps => some (.agg ps)
  | none => none
theorem aggO_some {ps : List PV} : aggO (some ps) = some (.agg ps) := rfl
theorem frz_agg {cs : List AV} : frz sh (.agg cs) = aggO (frzLs sh cs) := by
  simp only [frz]
  cases frzLs sh cs <;> rfl
theorem frzLeaf_pv {p : PV} : frzLeaf sh (.pv p) = some p := rfl
theorem frzLeaf_clp {l : List PV} : frzLeaf sh (.clp l) = some (.lst l) := rfl
theorem frzLeaf_own {l : List PV} {τ : Nat} : frzLeaf sh (.own l τ) = some (.lst l) := rfl
theorem frzLeaf_sptr {b o : Nat} : frzLeaf sh (.sptr b o) = none := rfl
theorem frzLeaf_fn {g : Nat} {c : List AV} : frzLeaf sh (.fn g c) = none := rfl
theorem frzLeaf_nilp : frzLeaf sh .nilp = none := rfl
theorem frzLeaf_mref {s : Nat} : frzLeaf sh (.mref s) = none := rfl
theorem frz_sptr {b o : Nat} : frz sh (.sptr b o) = none := rfl
theorem frz_fn {g : Nat} {c : List AV} : frz sh (.fn g c) = none := rfl
theorem frz_nilp : frz sh .nilp = none := rfl
theorem frz_mref {s : Nat} : frz sh (.mref s) = none := rfl
/-- An array made here, frozen. -/
def arrO (sz n : Nat) (ag : Bool) : Option (Option (List AV)) → Option PV
  | some (some cells) => if cells.length = n * sz then ((frzL cells).bind (arrEls sz ag n)).map .lst
    else if mapB cells = false ∧ n * sz ≤ cells.length then ((frzL (cells.take (n * sz))).bind (arrEls sz ag n)).map .lst else none
  | _ => none
theorem frzLeaf_sarr {b sz n : Nat} {ag : Bool} : frzLeaf sh (.sarr b sz n ag) = arrO sz n ag sh[b]? := rfl
theorem frz_sarr {b sz n : Nat} {ag : Bool} : frz sh (.sarr b sz n ag) = arrO sz n ag sh[b]? := rfl
theorem arrO_some {sz n : Nat} {ag : Bool} {cells : List AV} : arrO sz n ag (some (some cells)) = if cells.length = n * sz then ((frzL cells).bind (arrEls sz ag n)).map .lst else if mapB cells = false ∧ n * sz ≤ cells.length then ((frzL (cells.take (n * sz))).bind (arrEls sz ag n)).map .lst else none := rfl

theorem resP_one {r : PV} : resP [r] = .pv r := rfl
theorem resP_nil : resP [] = .tup [] := rfl
theorem resP_two {a b : PV} {r : List PV} : resP (a :: b :: r) = .tup (.pv a :: .pv b :: r.map .pv) := rfl
theorem resA_one {r : AV} : resA [r] = r := rfl
theorem resA_nil : resA [] = .tup [] := rfl
theorem resA_two {a b : AV} {r : List AV} : resA (a :: b :: r) = .tup (a :: b :: r) := rfl

/-! ### Handing over -/

theorem giveN_eq {xs : List AV} : giveN toks xs sh = ((normL toks [] xs).1, (normS (normL toks [] xs).2.1 (normL toks [] xs).2.2 sh).1, (normS (normL toks [] xs).2.1 (normL toks [] xs).2.2 sh).2.1, (normS (normL toks [] xs).2.1 (normL toks [] xs).2.2 sh).2.2) := rfl
theorem normL_nil {old ts : Toks} : normL old ts [] = ([], old, ts) := rfl
theorem normL_cons {old ts : Toks} {v : AV} {r : List AV} : normL old ts (v :: r) = ((normV old ts v).1 :: (normL (normV old ts v).2.1 (normV old ts v).2.2 r).1, (normL (normV old ts v).2.1 (normV old ts v).2.2 r).2) := rfl
theorem normS_nil {old ts : Toks} : normS old ts [] = ([], old, ts) := rfl
theorem normS_none {old ts : Toks} {r : Sh} : normS old ts (none :: r) = (none :: (normS old ts r).1, (normS old ts r).2) := rfl
theorem normS_some {old ts : Toks} {cs : List AV} {r : Sh} : normS old ts (some cs :: r) = (some (normL old ts cs).1 :: (normS (normL old ts cs).2.1 (normL old ts cs).2.2 r).1, (normS (normL old ts cs).2.1 (normL old ts cs).2.2 r).2) := rfl
theorem normE_nil {old ts : Toks} : normE old ts [] = ([], old, ts) := rfl
theorem normE_cons {old ts : Toks} {t : Nat} {v : AV} {r : List (Nat × AV)} : normE old ts ((t, v) :: r) = ((t, (normV old ts v).1) :: (normE (normV old ts v).2.1 (normV old ts v).2.2 r).1, (normE (normV old ts v).2.1 (normV old ts v).2.2 r).2) := rfl
theorem normM_nil {old ts : Toks} : normM old ts [] = ([], old, ts) := rfl
theorem normM_cons {old ts : Toks} {t : Nat} {v : List AV} {r : List (Nat × List AV)} : normM old ts ((t, v) :: r) = ((t, (normL old ts v).1) :: (normM (normL old ts v).2.1 (normL old ts v).2.2 r).1, (normM (normL old ts v).2.1 (normL old ts v).2.2 r).2) := rfl
theorem normV_own {old ts : Toks} {l : List PV} {τ : Nat} : normV old ts (.own l τ) = if old[τ]? = some l.length then (.own l ts.length, old.set τ (l.length + 1), ts ++ [l.length]) else (.pv (.lst l), old, ts) := rfl
theorem normV_clp {old ts : Toks} {l : List PV} : normV old ts (.clp l) = (.own l ts.length, old, ts ++ [l.length]) := rfl
theorem normV_un {old ts : Toks} : normV old ts .un = (.un, old, ts) := rfl
theorem normV_pv {old ts : Toks} {p : PV} : normV old ts (.pv p) = (.pv p, old, ts) := rfl
/-- A struct at the head of a loop. -/
def normAg (old ts : Toks) (p : List AV) : Bool → AV × Toks × Toks
  | true => (.agg p, old, ts)
  | false => (.agg (normCs old ts p).1, (normCs old ts p).2.1, (normCs old ts p).2.2)
theorem normV_agg {old ts : Toks} {p : List AV} : normV old ts (.agg p) = normAg old ts p (flatB.flatL p) := by
  simp only [normV]
  cases flatB.flatL p <;> rfl
theorem normAg_true {old ts : Toks} {p : List AV} : normAg old ts p true = (.agg p, old, ts) := rfl
theorem normAg_false {old ts : Toks} {p : List AV} : normAg old ts p false = (.agg (normCs old ts p).1, (normCs old ts p).2.1, (normCs old ts p).2.2) := rfl
theorem normCs_nil {old ts : Toks} : normCs old ts [] = ([], old, ts) := rfl
theorem normCs_cons {old ts : Toks} {v : AV} {r : List AV} : normCs old ts (v :: r) = ((normC old ts v).1 :: (normCs (normC old ts v).2.1 (normC old ts v).2.2 r).1, (normCs (normC old ts v).2.1 (normC old ts v).2.2 r).2) := rfl
theorem normC_own {old ts : Toks} {l : List PV} {τ : Nat} : normC old ts (.own l τ) = if old[τ]? = some l.length then (.own l ts.length, old.set τ (l.length + 1), ts ++ [l.length]) else (.pv (.lst l), old, ts) := rfl
theorem normC_pv {old ts : Toks} {p : PV} : normC old ts (.pv p) = (.pv p, old, ts) := rfl
theorem normC_clp {old ts : Toks} {p : List PV} : normC old ts (.clp p) = (.clp p, old, ts) := rfl
theorem normC_sptr {old ts : Toks} {a b : Nat} : normC old ts (.sptr a b) = (.sptr a b, old, ts) := rfl
theorem normC_sarr {old ts : Toks} {a b c : Nat} {d : Bool} : normC old ts (.sarr a b c d) = (.sarr a b c d, old, ts) := rfl
theorem normC_fn {old ts : Toks} {a : Nat} {c : List AV} : normC old ts (.fn a c) = (.fn a c, old, ts) := rfl
theorem normC_nilp {old ts : Toks} : normC old ts .nilp = (.nilp, old, ts) := rfl
theorem normC_mref {s : Nat} {old ts : Toks} : normC old ts (.mref s) = ((.mref s), old, ts) := rfl
theorem normV_tup {old ts : Toks} {p : List AV} : normV old ts (.tup p) = (.tup p, old, ts) := rfl
theorem normV_lptr {old ts : Toks} {a b : Nat} : normV old ts (.lptr a b) = (.lptr a b, old, ts) := rfl
theorem normV_sptr {old ts : Toks} {a b : Nat} : normV old ts (.sptr a b) = (.sptr a b, old, ts) := rfl
theorem normV_eptr {old ts : Toks} {a : List PV} : normV old ts (.eptr a) = (.eptr a, old, ts) := rfl
theorem normV_sarr {old ts : Toks} {a b c : Nat} {d : Bool} : normV old ts (.sarr a b c d) = (.sarr a b c d, old, ts) := rfl
theorem normV_fn {old ts : Toks} {a : Nat} {c : List AV} : normV old ts (.fn a c) = (.fn a c, old, ts) := rfl
theorem normV_nilp {old ts : Toks} : normV old ts .nilp = (.nilp, old, ts) := rfl
theorem normV_mref {s : Nat} {old ts : Toks} : normV old ts (.mref s) = ((.mref s), old, ts) := rfl
theorem normV_mapc {s : List (PV × PV)} {old ts : Toks} : normV old ts (.mapc s) = ((.mapc s), old, ts) := rfl

theorem norm_mk {env : List (Nat × AV)} {mem : List (Nat × List AV)} : norm ⟨env, mem, sh, toks⟩ = 
    { env := (normE toks [] env).1,
      mem := (normM (normE toks [] env).2.1 (normE toks [] env).2.2 mem).1,
      sh := (normS (normM (normE toks [] env).2.1 (normE toks [] env).2.2 mem).2.1 (normM (normE toks [] env).2.1 (normE toks [] env).2.2 mem).2.2 sh).1,
      toks := (normS (normM (normE toks [] env).2.1 (normE toks [] env).2.2 mem).2.1 (normM (normE toks [] env).2.1 (normE toks [] env).2.2 mem).2.2 sh).2.2 } := rfl

theorem restrict_mk {live : List Nat} {env : List (Nat × AV)} {mem : List (Nat × List AV)} : restrict live ⟨env, mem, sh, toks⟩ = ⟨restrictEnv live env live, restrictMem mem live, sh, toks⟩ := rfl
/-- One of the kept ones. -/
def keepE (live : List Nat) (t : Nat) (rest : List (Nat × AV)) : Option AV → List (Nat × AV)
  | some v => if keepB live v = true then (t, v) :: rest else rest
  | none => rest
theorem keepE_some {live : List Nat} {t : Nat} {rest : List (Nat × AV)} {v : AV} : keepE live t rest (some v) = if keepB live v = true then (t, v) :: rest else rest := rfl
theorem keepE_none {live : List Nat} {t : Nat} {rest : List (Nat × AV)} : keepE live t rest none = rest := rfl
theorem restrictEnv_nil {live : List Nat} {env : List (Nat × AV)} : restrictEnv live env [] = [] := rfl
theorem restrictEnv_cons {live : List Nat} {env : List (Nat × AV)} {t : Nat} {r : List Nat} : restrictEnv live env (t :: r) = keepE live t (restrictEnv live env r) (look env t) := by
  show (match look env t with | some v => _ | none => _) = _
  cases look env t <;> rfl
def keepM (t : Nat) (rest : List (Nat × List AV)) : Option (List AV) → List (Nat × List AV)
  | some v => (t, v) :: rest
  | none => rest
theorem keepM_some {t : Nat} {rest : List (Nat × List AV)} {v : List AV} : keepM t rest (some v) = (t, v) :: rest := rfl
theorem keepM_none {t : Nat} {rest : List (Nat × List AV)} : keepM t rest none = rest := rfl
theorem restrictMem_nil {mem : List (Nat × List AV)} : restrictMem mem [] = [] := rfl
theorem restrictMem_cons {mem : List (Nat × List AV)} {t : Nat} {r : List Nat} : restrictMem mem (t :: r) = keepM t (restrictMem mem r) (look mem t) := by
  show (match look mem t with | some v => _ | none => _) = _
  cases look mem t <;> rfl
theorem keepB_lptr {live : List Nat} {d o : Nat} : keepB live (.lptr d o) = live.contains d := rfl
theorem keepB_own {live : List Nat} {l : List PV} {τ : Nat} : keepB live (.own l τ) = true := rfl
theorem keepB_un {live : List Nat} : keepB live .un = true := rfl
theorem keepB_pv {live : List Nat} {p : PV} : keepB live (.pv p) = true := rfl
theorem keepB_clp {live : List Nat} {l : List PV} : keepB live (.clp l) = true := rfl
theorem keepB_agg {live : List Nat} {l : List AV} : keepB live (.agg l) = flatOL l := rfl
theorem flatOL_nil : flatOL [] = true := rfl
theorem flatOL_cons {v : AV} {r : List AV} : flatOL (v :: r) = (flatO v && flatOL r) := rfl
theorem flatO_own {l : List PV} {τ : Nat} : flatO (.own l τ) = true := rfl
theorem flatO_pv {p : PV} : flatO (.pv p) = true := rfl
theorem flatO_clp {l : List PV} : flatO (.clp l) = true := rfl
theorem flatO_sptr {a b : Nat} : flatO (.sptr a b) = true := rfl
theorem flatO_sarr {a b c : Nat} {d : Bool} : flatO (.sarr a b c d) = true := rfl
theorem flatO_fn {a : Nat} {c : List AV} : flatO (.fn a c) = flatB.flatL c := rfl
theorem flatO_agg {c : List AV} : flatO (.agg c) = flatB.flatL c := rfl
theorem flatO_nilp : flatO .nilp = true := rfl
theorem flatO_un : flatO .un = true := rfl
theorem flatO_mref {s : Nat} : flatO (.mref s) = true := rfl
theorem keepB_tup {live : List Nat} {l : List AV} : keepB live (.tup l) = flatB.flatL l := rfl
theorem keepB_sptr {live : List Nat} {a b : Nat} : keepB live (.sptr a b) = true := rfl
theorem keepB_eptr {live : List Nat} {a : List PV} : keepB live (.eptr a) = true := rfl
theorem keepB_sarr {live : List Nat} {a b c : Nat} {d : Bool} : keepB live (.sarr a b c d) = true := rfl
theorem keepB_fn {live : List Nat} {a : Nat} {c : List AV} : keepB live (.fn a c) = flatB.flatL c := rfl
theorem keepB_nilp {live : List Nat} : keepB live .nilp = true := rfl
theorem keepB_mref {s : Nat} {live : List Nat} : keepB live (.mref s) = true := rfl

theorem look_nil {α : Type} {t : Nat} : look ([] : List (Nat × α)) t = none := rfl
theorem look_cons {α : Type} {k t : Nat} {v : α} {r : List (Nat × α)} : look ((k, v) :: r) t = if k = t then some v else look r t := rfl
theorem putL_nil {α : Type} {t : Nat} {v : α} : putL ([] : List (Nat × α)) t v = [(t, v)] := rfl
theorem putL_cons {α : Type} {k t : Nat} {v u : α} {r : List (Nat × α)} : putL ((k, v) :: r) t u = if k = t then (k, u) :: r else (k, v) :: putL r t u := rfl
theorem putD_some {env : List (Nat × AV)} {d : Nat} {v : AV} : putD env (some d) v = putL env d v := rfl
theorem putD_none {env : List (Nat × AV)} {v : AV} : putD env none v = env := rfl
theorem putC_some {mem : List (Nat × List AV)} {k : Nat} {cs : List AV} : putC mem (some k) (some cs) = putL mem k cs := rfl
theorem putC_none {mem : List (Nat × List AV)} {o : Option (List AV)} : putC mem none o = mem := rfl
theorem putC_none' {mem : List (Nat × List AV)} {k : Nat} : putC mem (some k) none = mem := rfl
theorem enterEnv_nil {i : Nat} : enterEnv i [] = [] := rfl
theorem enterEnv_cons {i : Nat} {v : AV} {r : List AV} : enterEnv i (v :: r) = (i, v) :: enterEnv (i + 1) r := rfl

/-! ### Values -/

theorem cellsA_agg {cs : List AV} : cellsA (.agg cs) = cs := rfl
theorem cellsA_pagg {cs : List PV} : cellsA (.pv (.agg cs)) = cs.map .pv := rfl
theorem cellsA_bool {b : Bool} : cellsA (.pv (.bool b)) = [.pv (.bool b)] := rfl
theorem cellsA_int {k : IntKind} {n : Int} : cellsA (.pv (.int k n)) = [.pv (.int k n)] := rfl
theorem cellsA_str {s : List UInt8} : cellsA (.pv (.str s)) = [.pv (.str s)] := rfl
theorem cellsA_lst {l : List PV} : cellsA (.pv (.lst l)) = [.pv (.lst l)] := rfl
theorem cellsA_clp {l : List PV} : cellsA (.clp l) = [.clp l] := rfl
theorem cellsA_own {l : List PV} {τ : Nat} : cellsA (.own l τ) = [.own l τ] := rfl
theorem cellsA_sptr {a b : Nat} : cellsA (.sptr a b) = [.sptr a b] := rfl
theorem cellsA_sarr {a b c : Nat} {d : Bool} : cellsA (.sarr a b c d) = [.sarr a b c d] := rfl
theorem cellsA_fn {a : Nat} {c : List AV} : cellsA (.fn a c) = [.fn a c] := rfl
theorem cellsA_nilp : cellsA .nilp = [.nilp] := rfl
theorem cellsA_mref {s : Nat} : cellsA (.mref s) = [(.mref s)] := rfl
theorem cellsP_agg {cs : List PV} : cellsP (.agg cs) = cs := rfl
theorem cellsP_bool {b : Bool} : cellsP (.bool b) = [.bool b] := rfl
theorem cellsP_int {k : IntKind} {n : Int} : cellsP (.int k n) = [.int k n] := rfl
theorem cellsP_str {s : List UInt8} : cellsP (.str s) = [.str s] := rfl
theorem cellsP_lst {l : List PV} : cellsP (.lst l) = [.lst l] := rfl
theorem leafB_bool {b : Bool} : leafB (.pv (.bool b)) = true := rfl
theorem leafB_int {k : IntKind} {n : Int} : leafB (.pv (.int k n)) = true := rfl
theorem leafB_str {s : List UInt8} : leafB (.pv (.str s)) = true := rfl
theorem leafB_lst {l : List PV} : leafB (.pv (.lst l)) = true := rfl
theorem leafB_clp {l : List PV} : leafB (.clp l) = true := rfl
theorem leafB_own {l : List PV} {τ : Nat} : leafB (.own l τ) = true := rfl
theorem leafB_sptr {a b : Nat} : leafB (.sptr a b) = true := rfl
theorem leafB_sarr {a b c : Nat} {d : Bool} : leafB (.sarr a b c d) = true := rfl
theorem leafB_fn {a : Nat} {c : List AV} : leafB (.fn a c) = passB.passL c := rfl
theorem leafB_nilp : leafB .nilp = true := rfl
theorem leafB_mref {s : Nat} : leafB (.mref s) = true := rfl
theorem leafB_mapc {s : List (PV × PV)} : leafB (.mapc s) = true := rfl
theorem leafS_eq {v : AV} : leafS v = leafB v := rfl
theorem passB_pv {p : PV} : passB (.pv p) = true := rfl
theorem passB_clp {l : List PV} : passB (.clp l) = true := rfl
theorem passB_sptr {a b : Nat} : passB (.sptr a b) = true := rfl
theorem passB_sarr {a b c : Nat} {d : Bool} : passB (.sarr a b c d) = true := rfl
theorem passB_nilp : passB .nilp = true := rfl
theorem passB_mref {s : Nat} : passB (.mref s) = true := rfl
theorem passB_fn {a : Nat} {c : List AV} : passB (.fn a c) = passB.passL c := rfl
theorem passB_agg {c : List AV} : passB (.agg c) = passB.passL c := rfl
theorem passL_nil : passB.passL [] = true := rfl
theorem passL_cons {v : AV} {r : List AV} : passB.passL (v :: r) = (passB v && passB.passL r) := rfl
theorem passO_own {l : List PV} {τ : Nat} : passO (.own l τ) = true := rfl
theorem passO_pv {p : PV} : passO (.pv p) = true := rfl
theorem passO_clp {l : List PV} : passO (.clp l) = true := rfl
theorem passO_sptr {a b : Nat} : passO (.sptr a b) = true := rfl
theorem passO_sarr {a b c : Nat} {d : Bool} : passO (.sarr a b c d) = true := rfl
theorem passO_nilp : passO .nilp = true := rfl
theorem passO_mref {s : Nat} : passO (.mref s) = true := rfl
theorem passO_fn {a : Nat} {c : List AV} : passO (.fn a c) = passB.passL c := rfl
theorem passO_agg {c : List AV} : passO (.agg c) = passOL c := rfl
theorem passOL_nil : passOL [] = true := rfl
theorem passOL_cons {v : AV} {r : List AV} : passOL (v :: r) = (passC v && passOL r) := rfl
theorem passC_own {l : List PV} {τ : Nat} : passC (.own l τ) = true := rfl
theorem passC_pv {p : PV} : passC (.pv p) = true := rfl
theorem passC_clp {l : List PV} : passC (.clp l) = true := rfl
theorem passC_sptr {a b : Nat} : passC (.sptr a b) = true := rfl
theorem passC_sarr {a b c : Nat} {d : Bool} : passC (.sarr a b c d) = true := rfl
theorem passC_nilp : passC .nilp = true := rfl
theorem passC_mref {s : Nat} : passC (.mref s) = true := rfl
theorem passC_fn {a : Nat} {c : List AV} : passC (.fn a c) = passB.passL c := rfl
theorem passC_agg {c : List AV} : passC (.agg c) = passB.passL c := rfl
theorem flatL_nil : flatB.flatL [] = true := rfl
theorem flatL_cons {v : AV} {r : List AV} : flatB.flatL (v :: r) = (flatB v && flatB.flatL r) := rfl
theorem flatB_pv {p : PV} : flatB (.pv p) = true := rfl
theorem flatB_clp {l : List PV} : flatB (.clp l) = true := rfl
theorem flatB_own {l : List PV} {τ : Nat} : flatB (.own l τ) = false := rfl
theorem flatB_sptr {a b : Nat} : flatB (.sptr a b) = true := rfl
theorem flatB_sarr {a b c : Nat} {d : Bool} : flatB (.sarr a b c d) = true := rfl
theorem flatB_fn {a : Nat} {c : List AV} : flatB (.fn a c) = flatB.flatL c := rfl
theorem flatB_nilp : flatB .nilp = true := rfl
theorem flatB_mref {s : Nat} : flatB (.mref s) = true := rfl
theorem flatB_un : flatB .un = true := rfl
theorem flatB_lptr {a b : Nat} : flatB (.lptr a b) = false := rfl
theorem flatB_agg {c : List AV} : flatB (.agg c) = flatB.flatL c := rfl
theorem refsLt_pv {n : Nat} {p : PV} : refsLt n (.pv p) = true := rfl
theorem refsLt_clp {n : Nat} {l : List PV} : refsLt n (.clp l) = true := rfl
theorem refsLt_own {n : Nat} {l : List PV} {τ : Nat} : refsLt n (.own l τ) = true := rfl
theorem refsLt_nilp {n : Nat} : refsLt n .nilp = true := rfl
theorem refsLt_mref {s : Nat} {n : Nat} : refsLt n (.mref s) = decide (s < n) := rfl
theorem refsLt_mapc {s : List (PV × PV)} {n : Nat} : refsLt n (.mapc s) = true := rfl
theorem refsLt_sptr {n a b : Nat} : refsLt n (.sptr a b) = decide (a < n) := rfl
theorem refsLt_sarr {n a b c : Nat} {d : Bool} : refsLt n (.sarr a b c d) = decide (a < n) := rfl
theorem refsLt_fn {n a : Nat} {c : List AV} : refsLt n (.fn a c) = refsLt.refsLtL n c := rfl
theorem refsLt_agg {n : Nat} {c : List AV} : refsLt n (.agg c) = refsLt.refsLtL n c := rfl
theorem refsLtL_nil {n : Nat} : refsLt.refsLtL n [] = true := rfl
theorem refsLtL_cons {n : Nat} {v : AV} {r : List AV} : refsLt.refsLtL n (v :: r) = (refsLt n v && refsLt.refsLtL n r) := rfl
theorem shiftV_own {n τ : Nat} {l : List PV} : shiftV n (.own l τ) = .own l (τ + n) := rfl
theorem shiftV_pv {n : Nat} {p : PV} : shiftV n (.pv p) = .pv p := rfl
theorem shiftV_clp {n : Nat} {p : List PV} : shiftV n (.clp p) = .clp p := rfl
def shiftAg (n : Nat) (p : List AV) : Bool → AV
  | true => .agg p
  | false => .agg (p.map (shiftC n))
theorem shiftV_agg {n : Nat} {p : List AV} : shiftV n (.agg p) = shiftAg n p (flatB.flatL p) := by
  simp only [shiftV]
  cases flatB.flatL p <;> rfl
theorem shiftAg_true {n : Nat} {p : List AV} : shiftAg n p true = .agg p := rfl
theorem shiftAg_false {n : Nat} {p : List AV} : shiftAg n p false = .agg (p.map (shiftC n)) := rfl
theorem shiftC_own {n τ : Nat} {l : List PV} : shiftC n (.own l τ) = .own l (τ + n) := rfl
theorem shiftC_pv {n : Nat} {p : PV} : shiftC n (.pv p) = .pv p := rfl
theorem shiftC_clp {n : Nat} {p : List PV} : shiftC n (.clp p) = .clp p := rfl
theorem shiftC_sptr {n a b : Nat} : shiftC n (.sptr a b) = .sptr a b := rfl
theorem shiftC_fn {n a : Nat} {b : List AV} : shiftC n (.fn a b) = .fn a b := rfl
theorem shiftC_sarr {n a b c : Nat} {d : Bool} : shiftC n (.sarr a b c d) = .sarr a b c d := rfl
theorem shiftC_nilp {n : Nat} : shiftC n .nilp = .nilp := rfl
theorem shiftC_mref {s : Nat} {n : Nat} : shiftC n (.mref s) = (.mref s) := rfl
theorem shiftV_sptr {n a b : Nat} : shiftV n (.sptr a b) = .sptr a b := rfl
theorem shiftV_fn {n a : Nat} {b : List AV} : shiftV n (.fn a b) = .fn a b := rfl
theorem shiftV_sarr {n a b c : Nat} {d : Bool} : shiftV n (.sarr a b c d) = .sarr a b c d := rfl
theorem shiftV_nilp {n : Nat} : shiftV n .nilp = .nilp := rfl
theorem shiftV_mref {s : Nat} {n : Nat} : shiftV n (.mref s) = (.mref s) := rfl
theorem shiftV_mapc {s : List (PV × PV)} {n : Nat} : shiftV n (.mapc s) = (.mapc s) := rfl
theorem shiftS_nil {n : Nat} : shiftS n [] = [] := rfl
theorem shiftS_none {n : Nat} {r : Sh} : shiftS n (none :: r) = none :: shiftS n r := rfl
theorem shiftS_some {n : Nat} {cs : List AV} {r : Sh} : shiftS n (some cs :: r) = some (cs.map (shiftV n)) :: shiftS n r := rfl
theorem zeroCell_bool {b : Bool} : evV.zeroCell (.bool b) = .pv (.bool b) := rfl
theorem zeroCell_int {k : IntKind} {n : Int} : evV.zeroCell (.int k n) = .pv (.int k n) := rfl
theorem zeroCell_str {s : List UInt8} : evV.zeroCell (.str s) = .pv (.str s) := rfl
theorem zeroCell_nil : evV.zeroCell (.lst []) = .clp [] := rfl
theorem shCells_clp {l : List PV} : shCells (.clp l) = [.clp l] := rfl
theorem shCells_own {l : List PV} {τ : Nat} : shCells (.own l τ) = [.own l τ] := rfl
theorem shCells_pv {p : PV} : shCells (.pv p) = cellsA (.pv p) := rfl
theorem shCells_sptr {a b : Nat} : shCells (.sptr a b) = [.sptr a b] := rfl
theorem shCells_sarr {a b c : Nat} {d : Bool} : shCells (.sarr a b c d) = [.sarr a b c d] := rfl
theorem shCells_fn {a : Nat} {c : List AV} : shCells (.fn a c) = [.fn a c] := rfl
theorem shCells_nilp : shCells .nilp = [.nilp] := rfl
theorem shCells_mref {s : Nat} : shCells (.mref s) = [(.mref s)] := rfl
def shAgg (cs : List AV) : Option (List PV) → List AV
  | some ps => ps.map .pv
  | none => cs
theorem shCells_agg {cs : List AV} : shCells (.agg cs) = shAgg cs (frzLs [] cs) := by
  show (match frz [] (.agg cs) with | some p => cellsA (.pv p) | none => cellsA (.agg cs)) = _
  have h : frz [] (.agg cs) = (frzLs [] cs).map .agg := rfl
  unfold shAgg
  rw [h]
  cases frzLs [] cs <;> rfl
theorem shAgg_some {cs : List AV} {ps : List PV} : shAgg cs (some ps) = ps.map .pv := rfl
theorem shAgg_none {cs : List AV} : shAgg cs none = cs := rfl
theorem key_v {o : VOp} : AK.key (.v o) = none := rfl
theorem key_loadL {k o s : Nat} {a : Bool} : AK.key (.loadL k o s a) = some k := rfl
theorem key_storeL {k o s : Nat} : AK.key (.storeL k o s) = some k := rfl
theorem key_alloc {k : Nat} {z : List PV} : AK.key (.alloc k z) = some k := rfl
theorem key_box {k s : Nat} : AK.key (.box k s) = some k := rfl
theorem key_loadS {s : Nat} {a : Bool} : AK.key (.loadS s a) = none := rfl
theorem key_storeS {s : Nat} : AK.key (.storeS s) = none := rfl
theorem key_boxS {s : Nat} : AK.key (.boxS s) = none := rfl
theorem key_allocS {s : List PV} : AK.key (.allocS s) = none := rfl
theorem key_makeS {s b : Nat} {a : Bool} {z : List PV} : AK.key (.makeS s b a z) = none := rfl
theorem key_appendS {s b : Nat} {ag : Bool} : AK.key (.appendS s b ag) = none := rfl
theorem key_append {s b : Nat} : AK.key (.append s b) = none := rfl
theorem key_callP {g : Nat} : AK.key (.callP g) = none := rfl
theorem key_callPS {g : Nat} : AK.key (.callPS g) = none := rfl
theorem key_callQ {g : Nat} : AK.key (.callQ g) = none := rfl
theorem key_callI {g : Nat} {o : List Nat} : AK.key (.callI g o) = none := rfl
theorem key_makeM : AK.makeM.key = none := rfl
theorem key_lookM {c : CK} {ok : Bool} {z : PV} : (AK.lookM c ok z).key = none := rfl
theorem key_putM {c : CK} : (AK.putM c).key = none := rfl
theorem key_clone {sz bytes : Nat} : (AK.clone sz bytes).key = none := rfl
theorem key_callV : AK.key .callV = none := rfl
theorem bind_none {f : Nat → Option (List AV)} : (none : Option Nat).bind f = none := rfl
theorem bind_some {f : Nat → Option (List AV)} {n : Nat} : (some n).bind f = f n := rfl

theorem ofCells_ag {sz off : Nat} {cs : List AV} : ofCells true sz cs off = if off + sz ≤ cs.length then some (.agg ((cs.drop off).take sz)) else none := rfl
theorem ofCells_one {off : Nat} {cs : List AV} : ofCells false 1 cs off = if off + 1 ≤ cs.length then cs[off]? else none := rfl
theorem ofCellsP_ag {sz : Nat} {cs : List PV} : ofCellsP true sz cs = if sz ≤ cs.length then some (.pv (.agg (cs.take sz))) else none := rfl
theorem ofCellsP_one {c : PV} {cs : List PV} : ofCellsP false 1 (c :: cs) = some (.pv c) := by simp [ofCellsP]
theorem setRange_eq {cs vs : List AV} {off : Nat} : setRange cs off vs = cs.take off ++ vs ++ cs.drop (off + vs.length) := rfl

theorem evV_mv {x : AV} : evV .mv [x] = some x := rfl
theorem evV_pick {c : Bool} {a b : AV} : evV .pick [.pv (.bool c), a, b] = if c = true then some a else some b := by cases c <;> rfl
theorem evV_ext {i : Nat} {vs : List AV} : evV (.ext i) [.tup vs] = vs[i]? := rfl
theorem evV_field {off sz : Nat} {ag : Bool} {cs : List AV} : evV (.field off sz ag) [.agg cs] = ofCells ag sz cs off := rfl
theorem evV_fieldP {off sz : Nat} {ag : Bool} {cs : List PV} : evV (.field off sz ag) [.pv (.agg cs)] = ofCellsP ag sz (cs.drop off) := rfl
theorem evV_faddrL {off d o : Nat} : evV (.faddr off) [.lptr d o] = some (.lptr d (o + off)) := rfl
theorem evV_faddrS {off d o : Nat} : evV (.faddr off) [.sptr d o] = some (.sptr d (o + off)) := rfl
theorem evV_faddrE {off : Nat} {cs : List PV} : evV (.faddr off) [.eptr cs] = some (.eptr (cs.drop off)) := rfl
/-- An element's address. -/
def elAddr (sz : Nat) : Option PV → Option AV
  | some el => if (cellsP el).length = sz then some (.eptr (cellsP el)) else none
  | none => none
theorem elAddr_some {sz : Nat} {el : PV} : elAddr sz (some el) = if (cellsP el).length = sz then some (.eptr (cellsP el)) else none := rfl
theorem evV_iaddr {sz : Nat} {l : List PV} {k : IntKind} {i : Int} : evV (.iaddr sz) [.pv (.lst l), .pv (.int k i)] = if i < 0 then none else elAddr sz l[i.toNat]? := by
  show (if i < 0 then none else _) = _
  split
  · rfl
  · show (match l[i.toNat]? with | some el => _ | none => _) = _
    cases l[i.toNat]? <;> rfl
theorem evV_iaddrC {sz : Nat} {l : List PV} {k : IntKind} {i : Int} : evV (.iaddr sz) [.clp l, .pv (.int k i)] = if i < 0 then none else elAddr sz l[i.toNat]? := by
  show (if i < 0 then none else _) = _
  split
  · rfl
  · show (match l[i.toNat]? with | some el => _ | none => _) = _
    cases l[i.toNat]? <;> rfl
theorem evV_iaddrO {sz τ : Nat} {l : List PV} {k : IntKind} {i : Int} : evV (.iaddr sz) [.own l τ, .pv (.int k i)] = if i < 0 then none else elAddr sz l[i.toNat]? := by
  show (if i < 0 then none else _) = _
  split
  · rfl
  · show (match l[i.toNat]? with | some el => _ | none => _) = _
    cases l[i.toNat]? <;> rfl
theorem evV_iaddrS {sz b sz' n : Nat} {ag : Bool} {k : IntKind} {i : Int} : evV (.iaddr sz) [.sarr b sz' n ag, .pv (.int k i)] = if i < 0 then none else if sz = sz' ∧ i.toNat < n then some (.sptr b (i.toNat * sz)) else none := rfl
def byteO : Option UInt8 → Option AV
  | some b => some (.pv (.int .u8 b.toNat))
  | none => none
theorem byteO_some {b : UInt8} : byteO (some b) = some (.pv (.int .u8 b.toNat)) := rfl
theorem evV_index {s : List UInt8} {k : IntKind} {i : Int} : evV .index [.pv (.str s), .pv (.int k i)] = if i < 0 then none else byteO s[i.toNat]? := by
  show (if i < 0 then none else _) = _
  cases s[i.toNat]? <;> rfl
def aggA : Option (List AV) → Option AV
  | some cs => some (.agg cs)
  | none => none
theorem aggA_some {cs : List AV} : aggA (some cs) = some (.agg cs) := rfl
theorem evV_build {zero : List PV} {places : List (Nat × Nat)} : evV (.build zero places) vals = aggA (fillA (zero.map evV.zeroCell) places vals) := by
  show (fillA _ _ _).map _ = _
  cases fillA (zero.map evV.zeroCell) places vals <;> rfl
theorem fillA_nil {cs : List AV} : fillA cs [] [] = some cs := rfl
theorem fillA_cons {cs : List AV} {off sz : Nat} {ps : List (Nat × Nat)} {v : AV} {vs : List AV} : fillA cs ((off, sz) :: ps) (v :: vs) =
    if (cellsA v).length = sz ∧ off + sz ≤ cs.length ∧ (cellsA v).all leafB = true then fillA (setRange cs off (cellsA v)) ps vs else none := rfl
def litO (sz : Nat) : Option (List PV) → Option AV
  | some els => if els.all (fun e => (cellsP e).length == sz) then some (.clp els) else none
  | none => none
theorem litO_some {sz : Nat} {els : List PV} : litO sz (some els) = if els.all (fun e => (cellsP e).length == sz) then some (.clp els) else none := rfl
theorem evV_bslice {sz : Nat} : evV (.bslice sz) vals = litO sz (frzAll [] vals) := by
  show (frzAll [] vals).bind _ = _
  cases frzAll [] vals <;> rfl
theorem evV_loadE {sz : Nat} {ag : Bool} {cs : List PV} : evV (.loadE sz ag) [.eptr cs] = ofCellsP ag sz cs := rfl
theorem evV_len {l : List PV} : evV .len [.pv (.lst l)] = some (.pv (.int .i64 l.length)) := rfl
theorem evV_lenC {l : List PV} : evV .len [.clp l] = some (.pv (.int .i64 l.length)) := rfl
theorem evV_lenO {l : List PV} {τ : Nat} : evV .len [.own l τ] = some (.pv (.int .i64 l.length)) := rfl
theorem evV_lenA {a b n : Nat} {d : Bool} : evV .len [.sarr a b n d] = some (.pv (.int .i64 n)) := rfl
theorem evV_lenS {s : List UInt8} : evV .lenS [.pv (.str s)] = some (.pv (.int .i64 s.length)) := rfl
theorem evV_nilL {a b : Nat} : evV .nilchk [.lptr a b] = some (.lptr a b) := rfl
theorem evV_nilS {a b : Nat} : evV .nilchk [.sptr a b] = some (.sptr a b) := rfl
theorem evV_nilE {a : List PV} : evV .nilchk [.eptr a] = some (.eptr a) := rfl
theorem evV_nilF {a : Nat} {b : List AV} : evV .nilchk [.fn a b] = some (.fn a b) := rfl
theorem evV_mn {k k' : IntKind} {x y : Int} : evV .mn [.pv (.int k x), .pv (.int k' y)] = if k = k' then some (.pv (.int k (if y < x then y else x))) else none := rfl
theorem evV_mx {k k' : IntKind} {x y : Int} : evV .mx [.pv (.int k x), .pv (.int k' y)] = if k = k' then some (.pv (.int k (if y > x then y else x))) else none := rfl
theorem evV_mkfn {g : Nat} : evV (.mkfn g) vals = some (.fn g vals) := by cases vals <;> rfl
theorem evV_conv {k k' : IntKind} {n : Int} : evV (.conv k) [.pv (.int k' n)] = some (.pv (.int k (k.wrap n))) := rfl
theorem evV_not {b : Bool} : evV (.un .not) [.pv (.bool b)] = some (.pv (.bool !b)) := rfl
theorem evV_neg {k : IntKind} {n : Int} : evV (.un .neg) [.pv (.int k n)] = some (.pv (.int k (k.wrap (0 - n)))) := rfl
theorem evV_beq {a b : Bool} : evV (.beq false) [.pv (.bool a), .pv (.bool b)] = some (.pv (.bool (a == b))) := rfl
theorem evV_bne {a b : Bool} : evV (.beq true) [.pv (.bool a), .pv (.bool b)] = some (.pv (.bool !(a == b))) := rfl
theorem evV_add {k : IntKind} {a b : Int} : evV (.bin .add) [.pv (.int k a), .pv (.int k b)] = some (.pv (.int k (k.wrap (a + b)))) := by simp [evV, evBin]
theorem evV_sub {k : IntKind} {a b : Int} : evV (.bin .sub) [.pv (.int k a), .pv (.int k b)] = some (.pv (.int k (k.wrap (a - b)))) := by simp [evV, evBin]
theorem evV_mul {k : IntKind} {a b : Int} : evV (.bin .mul) [.pv (.int k a), .pv (.int k b)] = some (.pv (.int k (k.wrap (a * b)))) := by simp [evV, evBin]
theorem evV_quo {k : IntKind} {a b : Int} : evV (.bin .quo) [.pv (.int k a), .pv (.int k b)] = if b = 0 then none else some (.pv (.int k (k.wrap (a.tdiv b)))) := by simp [evV, evBin]
theorem evV_rem {k : IntKind} {a b : Int} : evV (.bin .rem) [.pv (.int k a), .pv (.int k b)] = if b = 0 then none else some (.pv (.int k (a.tmod b))) := by simp [evV, evBin]
theorem evV_eql {k : IntKind} {a b : Int} : evV (.bin .eql) [.pv (.int k a), .pv (.int k b)] = some (.pv (.bool (a == b))) := by simp [evV, evBin]
theorem evV_neq {k : IntKind} {a b : Int} : evV (.bin .neq) [.pv (.int k a), .pv (.int k b)] = some (.pv (.bool (a != b))) := by simp [evV, evBin]
theorem evV_lss {k : IntKind} {a b : Int} : evV (.bin .lss) [.pv (.int k a), .pv (.int k b)] = some (.pv (.bool (decide (a < b)))) := by simp [evV, evBin]
theorem evV_leq {k : IntKind} {a b : Int} : evV (.bin .leq) [.pv (.int k a), .pv (.int k b)] = some (.pv (.bool (decide (a ≤ b)))) := by simp [evV, evBin]
theorem evV_gtr {k : IntKind} {a b : Int} : evV (.bin .gtr) [.pv (.int k a), .pv (.int k b)] = some (.pv (.bool (decide (a > b)))) := by simp [evV, evBin]
theorem evV_geq {k : IntKind} {a b : Int} : evV (.bin .geq) [.pv (.int k a), .pv (.int k b)] = some (.pv (.bool (decide (a ≥ b)))) := by simp [evV, evBin]
theorem evV_and {k : IntKind} {a b : Int} : evV (.bin .and) [.pv (.int k a), .pv (.int k b)] = some (.pv (.int k (k.wrap (BitVec.ofInt k.bits a &&& BitVec.ofInt k.bits b).toNat))) := by simp [evV, evBin]
theorem evV_shr {k k' : IntKind} {a b : Int} : evV (.bin .shr) [.pv (.int k a), .pv (.int k' b)] = if b < 0 then none else some (.pv (.int k (a.fdiv (2 ^ (min b.toNat k.bits))))) := by simp [evV, evBin]
theorem evV_shl {k k' : IntKind} {a b : Int} : evV (.bin .shl) [.pv (.int k a), .pv (.int k' b)] = if b < 0 then none else some (.pv (.int k (k.wrap (a * 2 ^ (min b.toNat k.bits))))) := by simp [evV, evBin]
theorem evV_cat {a b : List UInt8} : evV (.bin .add) [.pv (.str a), .pv (.str b)] = if a.length + b.length ≤ 9223372036854775807 then some (.pv (.str (a ++ b))) else none := rfl
theorem evV_eqlS {a b : List UInt8} : evV (.bin .eql) [.pv (.str a), .pv (.str b)] = some (.pv (.bool (a == b))) := rfl
theorem evV_neqS {a b : List UInt8} : evV (.bin .neq) [.pv (.str a), .pv (.str b)] = some (.pv (.bool (!(a == b)))) := rfl
theorem evV_lssS {a b : List UInt8} : evV (.bin .lss) [.pv (.str a), .pv (.str b)] = some (.pv (.bool (evBin.bytesLt a b))) := rfl
theorem evV_gtrS {a b : List UInt8} : evV (.bin .gtr) [.pv (.str a), .pv (.str b)] = some (.pv (.bool (!(evBin.bytesLt a b || a == b)))) := rfl
theorem evV_slice {sz : Nat} {lo hi mx : Bool} {x : AV} {rest : List AV} : evV (.slice false sz lo hi mx) (x :: rest) = evSlice false sz lo hi mx (x :: rest) := rfl
theorem evV_sliceS {sz : Nat} {lo hi mx : Bool} {x : AV} {rest : List AV} : evV (.slice true sz lo hi mx) (x :: rest) = evSlice true sz lo hi mx (x :: rest) := rfl

/-! ### Ends -/

/-- The results go out. -/
def outEnd (keep ks : Bool) (sh0 sh : Sh) (toks : Toks) : Option (List AV) → Option (List AV × Sh × Toks)
  | some vs => if (outAll keep ks sh vs).all passO = true then
      some ((giveN toks (outAll keep ks sh vs) (if (outAll keep ks sh vs).all (refsLt sh0.length) = true then (shOut keep ks sh vs).take sh0.length else shOut keep ks sh vs)).1,
        (giveN toks (outAll keep ks sh vs) (if (outAll keep ks sh vs).all (refsLt sh0.length) = true then (shOut keep ks sh vs).take sh0.length else shOut keep ks sh vs)).2.1,
        (giveN toks (outAll keep ks sh vs) (if (outAll keep ks sh vs).all (refsLt sh0.length) = true then (shOut keep ks sh vs).take sh0.length else shOut keep ks sh vs)).2.2.2) else none
  | none => none
theorem outEnd_some {keep ks : Bool} {sh0 : Sh} {vs : List AV} : outEnd keep ks sh0 sh toks (some vs) = if (outAll keep ks sh vs).all passO = true then
      some ((giveN toks (outAll keep ks sh vs) (if (outAll keep ks sh vs).all (refsLt sh0.length) = true then (shOut keep ks sh vs).take sh0.length else shOut keep ks sh vs)).1,
        (giveN toks (outAll keep ks sh vs) (if (outAll keep ks sh vs).all (refsLt sh0.length) = true then (shOut keep ks sh vs).take sh0.length else shOut keep ks sh vs)).2.1,
        (giveN toks (outAll keep ks sh vs) (if (outAll keep ks sh vs).all (refsLt sh0.length) = true then (shOut keep ks sh vs).take sh0.length else shOut keep ks sh vs)).2.2.2) else none := rfl
/-- A body's end. -/
def fin (keep ks : Bool) (rs : List ARes) (sh0 : Sh) : Option (AExit × St) → Option (List AV × Sh × Toks)
  | some (.ret, st) => outEnd keep ks sh0 st.sh st.toks (evResL st rs)
  | some (.normal, st) => outEnd keep ks sh0 st.sh st.toks (evResL st rs)
  | _ => none
theorem fin_ret {keep ks : Bool} {rs : List ARes} {sh0 : Sh} {st : St} : fin keep ks rs sh0 (some (.ret, st)) = outEnd keep ks sh0 st.sh st.toks (evResL st rs) := rfl
theorem fin_normal {keep ks : Bool} {rs : List ARes} {sh0 : Sh} {st : St} : fin keep ks rs sh0 (some (.normal, st)) = outEnd keep ks sh0 st.sh st.toks (evResL st rs) := rfl
theorem fin_ite {keep ks : Bool} {rs : List ARes} {sh0 : Sh} {c : Prop} [Decidable c] {x y : Option (AExit × St)} : fin keep ks rs sh0 (if c then x else y) = if c then fin keep ks rs sh0 x else fin keep ks rs sh0 y := by split <;> rfl
theorem finish_eq {keep : Bool} {af : AFunc} {sh0 : Sh} {r : Option (AExit × St)} : finish keep af sh0 r = fin keep af.ks af.results sh0 r := by
  cases r with
  | none => rfl
  | some q =>
    obtain ⟨e, st⟩ := q
    cases e with
    | ret => simp only [finish, fin]; cases evResL st af.results <;> simp [outEnd]
    | normal => simp only [finish, fin]; cases evResL st af.results <;> simp [outEnd]
    | exit id => simp [finish, fin]

theorem evResL_nil {st : St} : evResL st [] = some [] := rfl
theorem evResL_cons {st : St} {r : ARes} {rs : List ARes} : evResL st (r :: rs) = consO (evRes st r) (evResL st rs) := by
  simp only [evResL]
  cases evRes st r <;> cases evResL st rs <;> rfl
theorem evRes_t {st : St} {n : Nat} : evRes st (.t n) = look st.env n := rfl
def cellRes (key sz : Nat) (ag : Bool) (mem : List (Nat × List AV)) (sh : Sh) : Option AV → Option AV
  | some (.lptr d 0) => cellMem key d sz ag (look mem key)
  | some (.sptr s 0) => shLoad ag sz 0 sh[s]?
  | _ => none
where cellMem (key d sz : Nat) (ag : Bool) : Option (List AV) → Option AV
  | some cs => if d = key then ofCells ag sz cs 0 else none
  | none => none
theorem evRes_c {st : St} {key sz : Nat} {ag : Bool} : evRes st (.c key sz ag) = cellRes key sz ag st.mem st.sh (look st.env key) := by
  simp only [evRes]
  unfold cellRes
  split
  · rename_i h; rw [h]; rfl
  · rename_i h; rw [h]; rfl
  · rename_i h1 h2
    split
    · rename_i d e; exact absurd e (h1 d)
    · rename_i s e; exact absurd e (h2 s)
    · rfl
theorem cellRes_priv {key sz d : Nat} {ag : Bool} {mem : List (Nat × List AV)} : cellRes key sz ag mem sh (some (.lptr d 0)) = cellRes.cellMem key d sz ag (look mem key) := rfl
theorem cellMem_some {key sz d : Nat} {ag : Bool} {cs : List AV} : cellRes.cellMem key d sz ag (some cs) = if d = key then ofCells ag sz cs 0 else none := rfl
theorem cellRes_shr {key sz s : Nat} {ag : Bool} {mem : List (Nat × List AV)} : cellRes key sz ag mem sh (some (.sptr s 0)) = shLoad ag sz 0 sh[s]? := rfl

theorem outAll_false {vs : List AV} {ks : Bool} : outAll false ks sh vs = vs.map (outOf sh) := rfl
theorem outAll_true {vs : List AV} : outAll true false sh vs = vs.map (outK sh) := rfl
theorem outAll_ks {vs : List AV} : outAll true true sh vs = vs := rfl
theorem shOut_false {vs : List AV} {ks : Bool} : shOut false ks sh vs = killAll sh vs := rfl
theorem shOut_true {vs : List AV} : shOut true false sh vs = killAll sh vs := rfl
theorem shOut_ks {vs : List AV} : shOut true true sh vs = sh := rfl
def outF (v : AV) : Option PV → AV
  | some p => .pv p
  | none => v
theorem outF_some {v : AV} {p : PV} : outF v (some p) = .pv p := rfl
theorem outF_none {v : AV} : outF v none = v := rfl
theorem outOf_eq {v : AV} : outOf sh v = outF v (frz sh v) := rfl
theorem outK_clp {l : List PV} : outK sh (.clp l) = .clp l := rfl
theorem outK_own {l : List PV} {τ : Nat} : outK sh (.own l τ) = .own l τ := rfl
theorem outK_agg {cs : List AV} : outK sh (.agg cs) = .agg (cs.map (outL sh)) := rfl
theorem outK_pv {p : PV} : outK sh (.pv p) = .pv p := rfl
theorem outK_sptr {a b : Nat} : outK sh (.sptr a b) = .sptr a b := rfl
theorem outK_fn {a : Nat} {b : List AV} : outK sh (.fn a b) = .fn a b := rfl
theorem outK_nilp : outK sh .nilp = .nilp := rfl
theorem outK_mref {s : Nat} : outK sh (.mref s) = (.mref s) := rfl
theorem outK_sarr {a b c : Nat} {d : Bool} : outK sh (.sarr a b c d) = outF (.sarr a b c d) (frz sh (.sarr a b c d)) := rfl
theorem outL_clp {l : List PV} : outL sh (.clp l) = .clp l := rfl
theorem outL_own {l : List PV} {τ : Nat} : outL sh (.own l τ) = .pv (.lst l) := rfl
theorem outL_bool {b : Bool} : outL sh (.pv (.bool b)) = .pv (.bool b) := rfl
theorem outL_int {k : IntKind} {n : Int} : outL sh (.pv (.int k n)) = .pv (.int k n) := rfl
theorem outL_str {s : List UInt8} : outL sh (.pv (.str s)) = .pv (.str s) := rfl
theorem outL_lst {l : List PV} : outL sh (.pv (.lst l)) = .pv (.lst l) := rfl
theorem outL_sptr {a b : Nat} : outL sh (.sptr a b) = .sptr a b := rfl
theorem outL_nilp : outL sh .nilp = .nilp := rfl
theorem outL_mref {s : Nat} : outL sh (.mref s) = (.mref s) := rfl
theorem outL_sarr {a b c : Nat} {d : Bool} : outL sh (.sarr a b c d) = outF (.sarr a b c d) (frz sh (.sarr a b c d)) := rfl
theorem killAll_eq {vs : List AV} : killAll sh vs = kill sh (vs.flatMap arrs) := rfl
theorem kill_nil : kill sh [] = sh := rfl
theorem kill_cons {b : Nat} {l : List Nat} : kill sh (b :: l) = kill (sh.set b none) l := rfl
theorem arrs_sarr {a b c : Nat} {d : Bool} : arrs (.sarr a b c d) = [a] := rfl
theorem arrs_pv {p : PV} : arrs (.pv p) = [] := rfl
theorem arrs_own {l : List PV} {τ : Nat} : arrs (.own l τ) = [] := rfl
theorem arrs_clp {l : List PV} : arrs (.clp l) = [] := rfl
theorem arrs_sptr {a b : Nat} : arrs (.sptr a b) = [] := rfl
theorem arrs_fn {a : Nat} {b : List AV} : arrs (.fn a b) = [] := rfl
theorem arrs_nilp : arrs .nilp = [] := rfl
theorem arrs_mref {s : Nat} : arrs (.mref s) = [] := rfl
def arrs1 : AV → List Nat
  | .sarr b _ _ _ => [b]
  | _ => []
theorem arrs_agg {cs : List AV} : arrs (.agg cs) = cs.flatMap arrs1 := by
  show cs.flatMap _ = cs.flatMap arrs1
  congr 1
theorem arrs1_sarr {a b c : Nat} {d : Bool} : arrs1 (.sarr a b c d) = [a] := rfl
theorem arrs1_pv {p : PV} : arrs1 (.pv p) = [] := rfl
theorem arrs1_own {l : List PV} {τ : Nat} : arrs1 (.own l τ) = [] := rfl
theorem arrs1_clp {l : List PV} : arrs1 (.clp l) = [] := rfl
theorem arrs1_sptr {a b : Nat} : arrs1 (.sptr a b) = [] := rfl
theorem arrs1_fn {a : Nat} {b : List AV} : arrs1 (.fn a b) = [] := rfl
theorem arrs1_nilp : arrs1 .nilp = [] := rfl
theorem arrs1_mref {s : Nat} : arrs1 (.mref s) = [] := rfl

theorem frzOut_nil : frzOut [] = some [] := rfl
theorem frzOut_cons {p : PV} {r : List AV} : frzOut (.pv p :: r) = consO (some p) (frzOut r) := by
  simp only [frzOut]
  cases frzOut r <;> rfl
/-- The results of a pure call. -/
def pureEnd : Option (List AV × Sh × Toks) → Option (List PV)
  | some (rs, _, _) => frzOut rs
  | none => none
theorem pureEnd_some {rs : List AV} {t : Toks} : pureEnd (some (rs, sh, t)) = frzOut rs := rfl
theorem pureEnd_ite {c : Prop} [Decidable c] {x y : Option (List AV × Sh × Toks)} : pureEnd (if c then x else y) = if c then pureEnd x else pureEnd y := by split <;> rfl

/-- A pure call: run the body. -/
theorem callP_body {g : Nat} {af : AFunc} {x : List PV} (hg : AP g = some af) (h1 : x.length = af.nparams) (h2 : af.nparams ≤ af.ntmps) (hp : af.prim = none := by rfl) :
    (orcL AP).p g x = pureEnd (fin false af.ks af.results [] (cl AP af.body ⟨enterEnv 0 (x.map .pv), [], [], []⟩)) := by
  rw [cP_eq hg hp h1 (by omega)]
  unfold bodyL pureEnd
  rw [finish_eq]
  cases fin false af.ks af.results [] (cl AP af.body ⟨enterEnv 0 (x.map .pv), [], [], []⟩) <;> rfl
/-- An impure call: run the body. -/
theorem callI_body {g : Nat} {af : AFunc} {x : List AV} {ts : Toks} (hg : AP g = some af) (h2 : x.length ≤ af.ntmps) :
    (orcL AP).i g x sh ts = fin true af.ks af.results sh (cl AP af.body ⟨enterEnv 0 x, [], sh, ts⟩) := by
  rw [cI_eq hg h2, ← finish_eq]
  rfl

end

attribute [simp] cl_branch branch_bool cl_region regEnd_some regEnd_ite after_normal after_ret after_exit after_ite leave_normal leave_ret leave_exit
  leave_ite evOps_nil evOps_cons opsThen_some opsThen_ite evOp_plain evOps_gd gd_bool gd_un noW_nil noW_some noW_none
  gset_none gset_some putOut_some putOut_ite execO_some outV_some outV_ite exec_v exec_loadL exec_storeL exec_alloc exec_box
  exec_loadSe shLoad_some exec_loadSs shStore_some exec_storeS exec_boxS exec_allocS exec_makeS outA_some outA_ite exec_append execAppend_eq
  appTo_clp appTo_own elsOf_pv elsOf_clp elsOf_own headSz_nil headSz_cons outP_some outP_ite callO_some exec_callP exec_callPS
  outI_some outI_ite callN_mk callA_eq exec_callI exec_callV argsOf_nil argsOf_cons argOf_pv argOf_clp argOf_own argOf_sptr
  argOf_fn argOf_sarr argOf_nilp argOf_agg argAgg_some consO_some evOpds_nil evOpds_cons evOpd_t evOpd_c frzL_nil frzL_cons
  frzAll_nil frzAll_cons frzLs_nil frzLs_cons frz0_pv frz0_clp frz0_own frz_pv frz_clp frz_own aggO_some frz_agg
  frzLeaf_pv frzLeaf_clp frzLeaf_own frzLeaf_sptr frzLeaf_fn frzLeaf_nilp frz_sptr frz_fn frz_nilp frzLeaf_sarr frz_sarr arrO_some
  resP_one resP_nil resP_two resA_one resA_nil resA_two giveN_eq normL_nil normL_cons normS_nil normS_none normS_some
  normE_nil normE_cons normM_nil normM_cons normV_own normV_clp normV_un normV_pv normV_agg normV_tup normV_lptr normV_sptr
  normV_eptr normV_sarr normV_fn normV_nilp norm_mk restrict_mk keepE_some keepE_none restrictEnv_nil restrictEnv_cons keepM_some keepM_none
  restrictMem_nil restrictMem_cons keepB_lptr keepB_own keepB_un keepB_pv keepB_clp keepB_agg keepB_tup keepB_sptr keepB_eptr keepB_sarr
  keepB_fn keepB_nilp look_nil look_cons putL_nil putL_cons putD_some putD_none putC_some putC_none putC_none' enterEnv_nil
  enterEnv_cons cellsA_agg cellsA_pagg cellsA_bool cellsA_int cellsA_str cellsA_lst cellsA_clp cellsA_own cellsA_sptr cellsA_sarr cellsA_fn
  cellsA_nilp cellsP_agg cellsP_bool cellsP_int cellsP_str cellsP_lst leafB_bool leafB_int leafB_str leafB_lst leafB_clp leafB_own
  leafB_sptr leafB_sarr leafB_fn leafB_nilp leafS_eq passB_pv passB_clp passB_sptr passB_sarr passB_nilp passB_fn passB_agg
  passL_nil passL_cons passO_own passO_pv passO_clp passO_sptr passO_sarr passO_nilp passO_fn passO_agg flatL_nil flatL_cons
  flatB_pv flatB_clp flatB_own flatB_sptr flatB_sarr flatB_fn flatB_nilp flatB_un flatB_lptr flatB_agg refsLt_pv refsLt_clp
  refsLt_own refsLt_nilp refsLt_sptr refsLt_sarr refsLt_fn refsLt_agg refsLtL_nil refsLtL_cons shiftV_own shiftV_pv shiftV_clp shiftV_agg
  shiftV_sptr shiftV_fn shiftV_sarr shiftV_nilp shiftS_nil shiftS_none shiftS_some zeroCell_bool zeroCell_int zeroCell_str zeroCell_nil shCells_clp
  shCells_own shCells_pv shCells_sptr shCells_sarr shCells_fn shCells_nilp shCells_agg shAgg_some shAgg_none key_v key_loadL key_storeL
  key_alloc key_box key_loadS key_storeS key_boxS key_allocS key_makeS key_append key_callP key_callPS key_callI key_callV
  bind_none bind_some ofCells_ag ofCells_one ofCellsP_ag ofCellsP_one setRange_eq evV_mv evV_pick evV_ext evV_field evV_fieldP
  evV_faddrL evV_faddrS evV_faddrE elAddr_some evV_iaddr evV_iaddrC evV_iaddrO evV_iaddrS byteO_some evV_index aggA_some evV_build
  fillA_nil fillA_cons litO_some evV_bslice evV_loadE evV_len evV_lenC evV_lenO evV_lenA evV_lenS evV_nilL evV_nilS
  evV_nilE evV_nilF evV_mn evV_mx evV_mkfn evV_conv evV_not evV_neg evV_beq evV_bne evV_add evV_sub
  evV_mul evV_quo evV_rem evV_eql evV_neq evV_lss evV_leq evV_gtr evV_geq evV_and evV_shr evV_shl
  evV_cat evV_eqlS evV_neqS evV_lssS evV_gtrS evV_slice evV_sliceS outEnd_some fin_ret fin_normal fin_ite evResL_nil
  evResL_cons evRes_t evRes_c cellRes_priv cellMem_some cellRes_shr outAll_false outAll_true outF_some outF_none outOf_eq outK_clp outK_own outK_agg
  outK_pv outK_sptr outK_fn outK_nilp outK_sarr outL_clp outL_own outL_bool outL_int outL_str outL_lst outL_sptr
  outL_nilp outL_sarr killAll_eq kill_nil kill_cons arrs_sarr arrs_pv arrs_own arrs_clp arrs_sptr arrs_fn arrs_nilp
  arrs_agg arrs1_sarr arrs1_pv arrs1_own arrs1_clp arrs1_sptr arrs1_fn arrs1_nilp frzOut_nil frzOut_cons pureEnd_some pureEnd_ite
  argOf_mref frzLeaf_mref frz_mref normV_mref normV_mapc keepB_mref cellsA_mref leafB_mref leafB_mapc passB_mref passO_mref flatB_mref refsLt_mref refsLt_mapc shiftV_mref shiftV_mapc shCells_mref outK_mref outL_mref arrs_mref arrs1_mref mapB_nil mapB_pv mapB_clp mapB_own mapB_sptr mapB_sarr mapB_fn mapB_nilp mapB_mref mapB_mapc exec_makeM exec_lookM exec_putM exec_clone outM_some outM_ite lookRes_true lookRes_false lookO_some putR_some putO_some key_makeM key_lookM key_putM key_clone veqR_some veqR_ite veqO_some evV_veq
  outQ_some outQ_ite callQO_some exec_callQ normAg_true normAg_false normCs_nil normCs_cons normC_own normC_pv normC_clp normC_sptr normC_sarr normC_fn normC_nilp normC_mref
  flatOL_nil flatOL_cons flatO_own flatO_pv flatO_clp flatO_sptr flatO_sarr flatO_fn flatO_agg flatO_nilp flatO_un flatO_mref
  passOL_nil passOL_cons passC_own passC_pv passC_clp passC_sptr passC_sarr passC_nilp passC_mref passC_fn passC_agg
  shiftAg_true shiftAg_false shiftC_own shiftC_pv shiftC_clp shiftC_sptr shiftC_fn shiftC_sarr shiftC_nilp shiftC_mref
  outAll_ks shOut_false shOut_true shOut_ks key_callQ
  outH_some outH_ite hotTo_some exec_appendS hotArr_some appS_clp appS_own appS_sarr app0_eq frzT_nil frzT_cons frzR_some frzR_none frzQ_some frzQ_none frzM_lptr frzMo_some frzMp_some frzMp_none cl_frz key_appendS outC_some outC_ite clearM_some exec_clearSa exec_clearSs key_clearS evV_sliceH normV_ssub keepB_ssub
  cl_seq cl_skip cl_exit cl_ret cl_block List.getElem?_cons_zero

/-- Int's range. -/
theorem wrap_id {n : Int} (h1 : -9223372036854775808 ≤ n) (h2 : n ≤ 9223372036854775807) : IntKind.i64.wrap n = n := by
  simp [IntKind.wrap, IntKind.bits, IntKind.signed]
  omega

end Go.Ab.Ev
