import Derived.Test.YtejloknaphfbeaaGreatAbLim
/-
  The evaluator for the kernel: what an operation lays is brought to its last form at once. It answers as the evaluator does.
-/
set_option linter.unusedVariables false
set_option linter.unusedSimpArgs false
namespace Go.Ab.Fc

variable {α : Type}

def fN (n : Nat) (K : Nat → Option α) : Option α := match n with
  | 0 => K 0
  | m + 1 => K (m + 1)
theorem fN_eq {n : Nat} {K : Nat → Option α} : fN n K = K n := by cases n <;> rfl

def fI (n : Int) (K : Int → Option α) : Option α := match n with
  | .ofNat m => fN m fun m => K (.ofNat m)
  | .negSucc m => fN m fun m => K (.negSucc m)
theorem fI_eq {n : Int} {K : Int → Option α} : fI n K = K n := by cases n <;> simp [fI, fN_eq]

def fB (b : Bool) (K : Bool → Option α) : Option α := match b with
  | true => K true
  | false => K false
theorem fB_eq {b : Bool} {K : Bool → Option α} : fB b K = K b := by cases b <;> rfl

/-- A list's spine. -/
def fS {β : Type} : List β → (List β → Option α) → Option α
  | [], K => K []
  | a :: r, K => fS r fun r => K (a :: r)
theorem fS_eq {β : Type} : ∀ {l : List β} {K : List β → Option α}, fS l K = K l
  | [], _ => rfl
  | a :: r, K => by simp only [fS]; rw [fS_eq]

/-- A leaf. -/
def fL (p : PV) (K : PV → Option α) : Option α := match p with
  | .bool b => fB b fun b => K (.bool b)
  | .int k n => fI n fun n => K (.int k n)
  | .str s => K (.str s)
  | .agg cs => K (.agg cs)
  | .lst l => K (.lst l)
theorem fL_eq {p : PV} {K : PV → Option α} : fL p K = K p := by cases p <;> simp [fL, fB_eq, fI_eq]

def fLs : List PV → (List PV → Option α) → Option α
  | [], K => K []
  | a :: r, K => fL a fun a => fLs r fun r => K (a :: r)
theorem fLs_eq : ∀ {l : List PV} {K : List PV → Option α}, fLs l K = K l
  | [], _ => rfl
  | a :: r, K => by simp only [fLs]; rw [fL_eq, fLs_eq]

/-- A value and its cells. -/
def fP (p : PV) (K : PV → Option α) : Option α := match p with
  | .agg cs => fLs cs fun cs => K (.agg cs)
  | p => fL p K
theorem fP_eq {p : PV} {K : PV → Option α} : fP p K = K p := by cases p <;> simp [fP, fLs_eq, fL_eq]

def fA0 (v : AV) (K : AV → Option α) : Option α := match v with
  | .un => K .un
  | .pv p => fP p fun p => K (.pv p)
  | .clp l => K (.clp l)
  | .own l τ => fN τ fun τ => K (.own l τ)
  | .agg cs => K (.agg cs)
  | .tup cs => K (.tup cs)
  | .lptr a b => fN a fun a => fN b fun b => K (.lptr a b)
  | .sptr a b => fN a fun a => fN b fun b => K (.sptr a b)
  | .eptr cs => fS cs fun cs => K (.eptr cs)
  | .sarr a b c d => fN a fun a => fN c fun c => K (.sarr a b c d)
  | .fn g c => K (.fn g c)
  | .nilp => K .nilp
  | .mref s => fN s fun s => K (.mref s)
  | .mapc kvs => fS kvs fun kvs => K (.mapc kvs)
  | .ssub a b c => fN a fun a => fN b fun b => fN c fun c => K (.ssub a b c)
theorem fA0_eq {v : AV} {K : AV → Option α} : fA0 v K = K v := by cases v <;> simp [fA0, fP_eq, fN_eq, fS_eq]

def fAs : List AV → (List AV → Option α) → Option α
  | [], K => K []
  | a :: r, K => fA0 a fun a => fAs r fun r => K (a :: r)
theorem fAs_eq : ∀ {l : List AV} {K : List AV → Option α}, fAs l K = K l
  | [], _ => rfl
  | a :: r, K => by simp only [fAs]; rw [fA0_eq, fAs_eq]

/-- A value, its cells, its parts. -/
def fA (v : AV) (K : AV → Option α) : Option α := match v with
  | .agg cs => fAs cs fun cs => K (.agg cs)
  | .tup cs => fAs cs fun cs => K (.tup cs)
  | .fn g cs => fAs cs fun cs => K (.fn g cs)
  | v => fA0 v K
theorem fA_eq {v : AV} {K : AV → Option α} : fA v K = K v := by cases v <;> simp [fA, fAs_eq, fA0_eq]

/-- Results. -/
def fRs : List AV → (List AV → Option α) → Option α
  | [], K => K []
  | a :: r, K => fA a fun a => fRs r fun r => K (a :: r)
theorem fRs_eq : ∀ {l : List AV} {K : List AV → Option α}, fRs l K = K l
  | [], _ => rfl
  | a :: r, K => by simp only [fRs]; rw [fA_eq, fRs_eq]

/-- The rows of a list, as they were laid just now. -/
def fV (v : AV) (K : AV → Option α) : Option α := match v with
  | .pv (.str s) => fS s fun s => K (.pv (.str s))
  | .pv (.lst l) => fS l fun l => K (.pv (.lst l))
  | .clp l => fS l fun l => fLs l fun l => K (.clp l)
  | .own l τ => fS l fun l => fN τ fun τ => K (.own l τ)
  | v => fA v K
theorem fV_eq {v : AV} {K : AV → Option α} : fV v K = K v := by
  cases v with
  | pv p => cases p <;> simp [fV, fS_eq, fA_eq]
  | _ => simp [fV, fS_eq, fA_eq, fLs_eq, fN_eq]

/-- New elements. -/
def fEs : List PV → (List PV → Option α) → Option α
  | [], K => K []
  | a :: r, K => fP a fun a => fEs r fun r => K (a :: r)
theorem fEs_eq : ∀ {l : List PV} {K : List PV → Option α}, fEs l K = K l
  | [], _ => rfl
  | a :: r, K => by simp only [fEs]; rw [fP_eq, fEs_eq]

/-- Whether an operation makes rows anew. -/
def fresh : AK → Bool
  | .v (.bslice _) | .v (.slice ..) | .append .. | .v (.bin .add) => true
  | _ => false

def fOut (op : AK) (v : AV) (K : AV → Option α) : Option α := match op, v with
  | .v (.bslice _), .clp l => fEs l fun l => K (.clp l)
  | op, v => if fresh op then fV v K else fA v K
theorem fOut_eq {op : AK} {v : AV} {K : AV → Option α} : fOut op v K = K v := by
  unfold fOut
  split
  · exact fEs_eq
  · split
    · exact fV_eq
    · exact fA_eq

def fO {β : Type} (f : β → (β → Option α) → Option α) (o : Option β) (K : Option β → Option α) : Option α := match o with
  | none => K none
  | some x => f x fun x => K (some x)
theorem fO_eq {β : Type} {f : β → (β → Option α) → Option α} (hf : ∀ x K, f x K = K x) {o : Option β} {K : Option β → Option α} : fO f o K = K o := by cases o <;> simp [fO, hf]

def fSh : Sh → (Sh → Option α) → Option α
  | [], K => K []
  | a :: r, K => fO fAs a fun a => fSh r fun r => K (a :: r)
theorem fSh_eq : ∀ {l : Sh} {K : Sh → Option α}, fSh l K = K l
  | [], _ => rfl
  | a :: r, K => by simp only [fSh]; rw [fO_eq (fun _ _ => fAs_eq), fSh_eq]

def fT : Toks → (Toks → Option α) → Option α
  | [], K => K []
  | a :: r, K => fN a fun a => fT r fun r => K (a :: r)
theorem fT_eq : ∀ {l : Toks} {K : Toks → Option α}, fT l K = K l
  | [], _ => rfl
  | a :: r, K => by simp only [fT]; rw [fN_eq, fT_eq]

def fPut {β : Type} : List (Nat × β) → Nat → β → (List (Nat × β) → Option α) → Option α
  | [], t, u, K => K [(t, u)]
  | (k, v) :: r, t, u, K => if k = t then K ((k, u) :: r) else fPut r t u fun r => K ((k, v) :: r)
theorem fPut_eq {β : Type} : ∀ {l : List (Nat × β)} {t : Nat} {u : β} {K : List (Nat × β) → Option α}, fPut l t u K = K (putL l t u)
  | [], _, _, _ => rfl
  | (k, v) :: r, t, u, K => by
    simp only [fPut, putL]
    split
    · rfl
    · rw [fPut_eq]

def fEnv : List (Nat × AV) → (List (Nat × AV) → Option α) → Option α
  | [], K => K []
  | (t, v) :: r, K => fA v fun v => fEnv r fun r => K ((t, v) :: r)
theorem fEnv_eq : ∀ {l : List (Nat × AV)} {K : List (Nat × AV) → Option α}, fEnv l K = K l
  | [], _ => rfl
  | (t, v) :: r, K => by simp only [fEnv]; rw [fA_eq, fEnv_eq]

def fMem : List (Nat × List AV) → (List (Nat × List AV) → Option α) → Option α
  | [], K => K []
  | (t, v) :: r, K => fAs v fun v => fMem r fun r => K ((t, v) :: r)
theorem fMem_eq : ∀ {l : List (Nat × List AV)} {K : List (Nat × List AV) → Option α}, fMem l K = K l
  | [], _ => rfl
  | (t, v) :: r, K => by simp only [fMem]; rw [fAs_eq, fMem_eq]

def fSt (st : St) (K : St → Option α) : Option α := match st with
  | ⟨env, mem, sh, toks⟩ => fEnv env fun env => fMem mem fun mem => fSh sh fun sh => fT toks fun toks => K ⟨env, mem, sh, toks⟩
theorem fSt_eq {st : St} {K : St → Option α} : fSt st K = K st := by
  obtain ⟨env, mem, sh, toks⟩ := st
  simp only [fSt]; rw [fEnv_eq, fMem_eq, fSh_eq, fT_eq]

/-! ### Looking up -/

def lk {β : Type} : List (Nat × β) → Nat → Option β
  | [], _ => none
  | (k, v) :: r, t => bif Nat.beq k t then some v else lk r t
theorem lk_eq {β : Type} : ∀ {l : List (Nat × β)} {t : Nat}, lk l t = look l t
  | [], _ => rfl
  | (k, v) :: r, t => by
    simp only [lk, look]
    rw [lk_eq]
    by_cases h : k = t
    · subst h; simp
    · rw [if_neg h, show Nat.beq k t = false from by rw [Bool.eq_false_iff]; intro e; exact h (Nat.eq_of_beq_eq_true e)]
      rfl

def pt {β : Type} : List (Nat × β) → Nat → β → (List (Nat × β) → Option α) → Option α
  | [], t, u, K => K [(t, u)]
  | (k, v) :: r, t, u, K => bif Nat.beq k t then K ((k, u) :: r) else pt r t u fun r => K ((k, v) :: r)
theorem pt_eq {β : Type} : ∀ {l : List (Nat × β)} {t : Nat} {u : β} {K : List (Nat × β) → Option α}, pt l t u K = K (putL l t u)
  | [], _, _, _ => rfl
  | (k, v) :: r, t, u, K => by
    simp only [pt, putL]
    by_cases h : k = t
    · subst h; simp
    · rw [if_neg h, show Nat.beq k t = false from by rw [Bool.eq_false_iff]; intro e; exact h (Nat.eq_of_beq_eq_true e)]
      exact pt_eq

def od (env : List (Nat × AV)) (x : AOpd) (K : AV → Option α) : Option α := match x with
  | .t n => match lk env n with
    | some v => K v
    | none => none
  | .c v => K v
theorem od_eq {env : List (Nat × AV)} {x : AOpd} {K : AV → Option α} : od env x K = (evOpd env x).bind K := by
  cases x with
  | t n => simp only [od, evOpd, lk_eq]; cases look env n <;> rfl
  | c v => rfl

def ods (env : List (Nat × AV)) : List AOpd → (List AV → Option α) → Option α
  | [], K => K []
  | x :: r, K => od env x fun v => ods env r fun vs => K (v :: vs)
theorem ods_eq {env : List (Nat × AV)} : ∀ {l : List AOpd} {K : List AV → Option α}, ods env l K = (evOpds env l).bind K
  | [], _ => rfl
  | x :: r, K => by
    simp only [ods, evOpds]
    rw [od_eq]
    cases evOpd env x with
    | none => rfl
    | some v =>
      dsimp only [Option.bind_some]
      rw [ods_eq]
      cases evOpds env r <;> rfl

/-! ### Operations -/

def kIx : IntKind → Nat
  | .i8 => 0 | .i16 => 1 | .i32 => 2 | .i64 => 3 | .u8 => 4 | .u16 => 5 | .u32 => 6 | .u64 => 7
theorem kIx_inj {a b : IntKind} (h : Nat.beq (kIx a) (kIx b) = true) : a = b := by
  have := Nat.eq_of_beq_eq_true h
  cases a <;> cases b <;> first | rfl | (simp [kIx] at this)

/-- Comparing two integers. -/
def iEq : Int → Int → Bool
  | .ofNat a, .ofNat b => Nat.beq a b
  | .negSucc a, .negSucc b => Nat.beq a b
  | _, _ => false
theorem beqN {a b : Nat} : Nat.beq a b = decide (a = b) := by
  by_cases h : a = b
  · subst h; simp
  · rw [decide_eq_false h, Bool.eq_false_iff]; intro e; exact h (Nat.eq_of_beq_eq_true e)
theorem iEq_eq {a b : Int} : iEq a b = (a == b) := by
  cases a <;> cases b <;> (rw [Bool.eq_iff_iff]; simp [iEq, beqN]) <;> omega
def iLt : Int → Int → Bool
  | .ofNat a, .ofNat b => Nat.blt a b
  | .negSucc a, .negSucc b => Nat.blt b a
  | .negSucc _, .ofNat _ => true
  | .ofNat _, .negSucc _ => false
theorem iLt_eq {a b : Int} : iLt a b = decide (a < b) := by
  cases a <;> cases b <;> (rw [Bool.eq_iff_iff]; simp [iLt, Nat.blt_eq]) <;> omega

def iAdd (k : IntKind) (a b : Int) (K : Int → Option α) : Option α := match k, a, b with
  | .i64, .ofNat x, .ofNat y => bif Nat.blt (x + y) 4611686018427387904 then fN (x + y) fun n => K (.ofNat n) else fI (IntKind.i64.wrap (.ofNat x + .ofNat y)) K
  | k, a, b => fI (k.wrap (a + b)) K
theorem iAdd_eq {k : IntKind} {a b : Int} {K : Int → Option α} : iAdd k a b K = K (k.wrap (a + b)) := by
  unfold iAdd
  split
  · rename_i x y
    cases h : Nat.blt (x + y) 4611686018427387904 with
    | false => simp only [cond_false]; exact fI_eq
    | true =>
      simp only [cond_true, fN_eq]
      have : x + y < 4611686018427387904 := by simpa [Nat.blt_eq] using h
      congr 1
      simp [IntKind.wrap, IntKind.bits, IntKind.signed]
      omega
  · exact fI_eq

def xBin (op : BinOp) (a b : AV) (K : AV → Option α) : Option α := match a with
  | .pv (.int k x) => match b with
    | .pv (.int k' y) => bif Nat.beq (kIx k) (kIx k') then (match op with
        | .eql => fB (iEq x y) fun c => K (.pv (.bool c))
        | .neq => fB (!iEq x y) fun c => K (.pv (.bool c))
        | .lss => fB (iLt x y) fun c => K (.pv (.bool c))
        | .gtr => fB (iLt y x) fun c => K (.pv (.bool c))
        | .geq => fB (!iLt x y) fun c => K (.pv (.bool c))
        | .leq => fB (!iLt y x) fun c => K (.pv (.bool c))
        | .add => iAdd k x y fun n => K (.pv (.int k n))
        | op => (evBin op a b).bind fun v => fV v K)
      else (evBin op a b).bind fun v => fV v K
    | b => (evBin op a b).bind fun v => fV v K
  | a => (evBin op a b).bind fun v => fV v K
theorem xBin_eq {op : BinOp} {a b : AV} {K : AV → Option α} : xBin op a b K = (evBin op a b).bind K := by
  have dflt : ((evBin op a b).bind fun v => fV v K) = (evBin op a b).bind K := by
    congr 1; funext v; exact fV_eq
  unfold xBin
  split
  · rename_i k x
    split
    · rename_i k' y
      cases hk : Nat.beq (kIx k) (kIx k') with
      | false => exact dflt
      | true =>
        obtain rfl := kIx_inj hk
        simp only [cond_true]
        split
        · simp [fB_eq, iEq_eq, evBin]
        · simp [fB_eq, iEq_eq, evBin, bne]
        · simp [fB_eq, iLt_eq, evBin]
        · simp [fB_eq, iLt_eq, evBin]
        · simp [fB_eq, iLt_eq, evBin, ← decide_not, Int.not_lt]
        · simp [fB_eq, iLt_eq, evBin, ← decide_not, Int.not_lt]
        · simp [iAdd_eq, evBin]
        · exact dflt
    · exact dflt
  · exact dflt

def xFa (off : Nat) (x : AV) (K : AV → Option α) : Option α := match x with
  | .lptr d o => fN (o + off) fun n => K (.lptr d n)
  | .sptr b o => fN (o + off) fun n => K (.sptr b n)
  | .eptr cs => fS (cs.drop off) fun cs => K (.eptr cs)
  | _ => none

/-- An element by its number. -/
def nth {β : Type} : List β → Nat → Option β
  | [], _ => none
  | a :: r, n => match n with
    | 0 => some a
    | n + 1 => nth r n
theorem nth_eq {β : Type} : ∀ {l : List β} {n : Nat}, nth l n = l[n]?
  | [], n => by simp [nth]
  | a :: r, 0 => rfl
  | a :: r, n + 1 => by simp only [nth, List.getElem?_cons_succ]; exact nth_eq

def ln {β : Type} : List β → Nat → (Nat → Option α) → Option α
  | [], n, K => K n
  | _ :: r, n, K => fN (n + 1) fun n => ln r n K
theorem ln_eq {β : Type} : ∀ {l : List β} {n : Nat} {K : Nat → Option α}, ln l n K = K (n + l.length)
  | [], n, K => rfl
  | _ :: r, n, K => by
    simp only [ln]; rw [fN_eq, ln_eq]; congr 1; simp; omega

def xV (o : VOp) (vals : List AV) (K : AV → Option α) : Option α := match o with
  | .mv => match vals with
    | [x] => K x
    | vals => (evV .mv vals).bind fun v => fA v K
  | .bin op => match vals with
    | [a, b] => xBin op a b K
    | vals => (evV (.bin op) vals).bind fun v => fA v K
  | .faddr off => match vals with
    | [x] => xFa off x K
    | vals => (evV (.faddr off) vals).bind fun v => fA v K
  | .nilchk => match vals with
    | [.lptr a b] => K (.lptr a b)
    | [.sptr a b] => K (.sptr a b)
    | vals => (evV .nilchk vals).bind fun v => fA v K
  | .index => match vals with
    | [.pv (.str s), .pv (.int _ (.ofNat i))] => match nth s i with
      | some b => fN b.toNat fun n => K (.pv (.int .u8 (.ofNat n)))
      | none => none
    | vals => (evV .index vals).bind fun v => fA v K
  | .lenS => match vals with
    | [.pv (.str s)] => ln s 0 fun n => K (.pv (.int .i64 (.ofNat n)))
    | vals => (evV .lenS vals).bind fun v => fA v K
  | .len => match vals with
    | [.pv (.lst l)] => ln l 0 fun n => K (.pv (.int .i64 (.ofNat n)))
    | [.own l _] => ln l 0 fun n => K (.pv (.int .i64 (.ofNat n)))
    | vals => (evV .len vals).bind fun v => fA v K
  | .bslice sz => match evV (.bslice sz) vals with
    | some (.clp l) => fEs l fun l => K (.clp l)
    | some v => K v
    | none => none
  | .slice a b c d e => (evV (.slice a b c d e) vals).bind fun v => fV v K
  | o => (evV o vals).bind fun v => fA v K
theorem xV_eq {o : VOp} {vals : List AV} {K : AV → Option α} : xV o vals K = (evV o vals).bind K := by
  have dA : ∀ o vals, ((evV o vals).bind fun v => fA v K) = (evV o vals).bind K := by
    intro o vals; congr 1; funext v; exact fA_eq
  unfold xV
  split
  · split
    · rfl
    · exact dA _ _
  · split
    · exact xBin_eq
    · exact dA _ _
  · split
    · rename_i x
      cases x <;> simp [xFa, evV, fN_eq, fS_eq]
    · exact dA _ _
  · split
    · rfl
    · rfl
    · exact dA _ _
  · split
    · rename_i s k i
      rw [nth_eq]
      have hi : ¬ (Int.ofNat i < 0) := by simp
      simp only [evV]
      rw [if_neg hi]
      simp only [Int.toNat_natCast, Int.ofNat_eq_natCast]
      cases s[i]? with
      | none => rfl
      | some b => simp [fN_eq]
    · exact dA _ _
  · split
    · simp [ln_eq, evV]
    · exact dA _ _
  · split
    · simp [ln_eq, evV, elsOf]
    · simp [ln_eq, evV, elsOf]
    · exact dA _ _
  · split
    · rename_i l h; rw [h, fEs_eq]; rfl
    · rename_i h; rw [h]; rfl
    · rename_i h; rw [h]; rfl
  · congr 1; funext v; exact fV_eq
  · exact dA _ _

/-- Putting a value into the state. -/
def lay (env : List (Nat × AV)) (mem : List (Nat × List AV)) (sh : Sh) (toks : Toks) (d : Option Nat) (v : AV) (K : St → Option α) : Option α := match d with
  | some d => pt env d v fun env => K ⟨env, mem, sh, toks⟩
  | none => K ⟨env, mem, sh, toks⟩
theorem lay_eq {env : List (Nat × AV)} {mem : List (Nat × List AV)} {sh : Sh} {toks : Toks} {d : Option Nat} {v : AV} {K : St → Option α} : lay env mem sh toks d v K = K ⟨putD env d v, mem, sh, toks⟩ := by
  cases d <;> simp [lay, putD, pt_eq]

def layC (mem : List (Nat × List AV)) (k : Nat) (cs : Option (List AV)) (K : List (Nat × List AV) → Option α) : Option α := match cs with
  | some cs => fAs cs fun cs => pt mem k cs K
  | none => K mem
theorem layC_eq {mem : List (Nat × List AV)} {k : Nat} {cs : Option (List AV)} {K : List (Nat × List AV) → Option α} : layC mem k cs K = K (putC mem (some k) cs) := by
  cases cs <;> simp [layC, putC, fAs_eq, pt_eq]

/-- Anything else. -/
def xAny (orc : Orc) (op : AK) (d : Option Nat) (vals : List AV) (env : List (Nat × AV)) (mem : List (Nat × List AV)) (sh : Sh) (toks : Toks) (K : St → Option α) : Option α :=
  match exec orc op vals (op.key.bind (look mem)) sh toks with
  | none => none
  | some ⟨val, cells, sh', toks'⟩ => fV val fun val => (match op.key with | some k => layC mem k cells | none => fun K => K mem) fun mem => fSh sh' fun sh' => fT toks' fun toks' => lay env mem sh' toks' d val K
theorem xAny_eq {orc : Orc} {op : AK} {d : Option Nat} {vals : List AV} {env : List (Nat × AV)} {mem : List (Nat × List AV)} {sh : Sh} {toks : Toks} {K : St → Option α} :
    xAny orc op d vals env mem sh toks K = (match exec orc op vals (op.key.bind (look mem)) sh toks with
      | none => none
      | some out => some (⟨putD env d out.val, putC mem op.key out.cells, out.sh, out.toks⟩ : St)).bind K := by
  unfold xAny
  cases exec orc op vals (op.key.bind (look mem)) sh toks with
  | none => rfl
  | some out =>
    obtain ⟨val, cells, sh', toks'⟩ := out
    simp only [fV_eq, Option.bind_some]
    cases op.key with
    | none => simp only [fSh_eq, fT_eq, lay_eq]; cases cells <;> rfl
    | some k => simp only [layC_eq, fSh_eq, fT_eq, lay_eq]

/-- A pure call. -/
def xP (orc : Orc) (g : Nat) (vals : List AV) (K : AV → Option α) : Option α := match frzAll [] vals with
  | some pvs => match orc.p g pvs with
    | some rs => fA (resP rs) K
    | none => none
  | none => none

def x1 (orc : Orc) (op : AK) (d : Option Nat) (vals : List AV) (env : List (Nat × AV)) (mem : List (Nat × List AV)) (sh : Sh) (toks : Toks) (K : St → Option α) : Option α := match op with
  | .v o => xV o vals fun v => lay env mem sh toks d v K
  | .callP g => xP orc g vals fun v => lay env mem sh toks d v K
  | .loadL key off sz ag => match vals with
    | [.lptr d' o] => match lk mem key with
      | some cs => bif Nat.beq d' key && Nat.beq o off then (match ofCells ag sz cs off with
          | some v => fA v fun v => lay env mem sh toks d v K
          | none => none) else none
      | none => none
    | vals => xAny orc (.loadL key off sz ag) d vals env mem sh toks K
  | .loadS sz ag => match vals with
    | [.sptr b off] => match nth sh b with
      | some (some cs) => bif mapB cs then none else (match ofCells ag sz cs off with
          | some v => fA v fun v => lay env mem sh toks d v K
          | none => none)
      | _ => none
    | vals => xAny orc (.loadS sz ag) d vals env mem sh toks K
  | op => xAny orc op d vals env mem sh toks K
theorem x1_eq {orc : Orc} {op : AK} {d : Option Nat} {vals : List AV} {env : List (Nat × AV)} {mem : List (Nat × List AV)} {sh : Sh} {toks : Toks} {K : St → Option α} :
    x1 orc op d vals env mem sh toks K = (match exec orc op vals (op.key.bind (look mem)) sh toks with
      | none => none
      | some out => some (⟨putD env d out.val, putC mem op.key out.cells, out.sh, out.toks⟩ : St)).bind K := by
  unfold x1
  split
  · rename_i o
    simp only [xV_eq, lay_eq, exec]
    cases evV o vals with
    | none => rfl
    | some v => rfl
  · rename_i g
    simp only [xP, exec]
    cases frzAll [] vals with
    | none => rfl
    | some pvs =>
      dsimp only
      cases orc.p g pvs with
      | none => rfl
      | some rs => simp only [fA_eq, lay_eq]; rfl
  · rename_i key off sz ag
    split
    · rename_i d' o
      rw [lk_eq]
      have hk : ((AK.loadL key off sz ag).key.bind (look mem)) = look mem key := rfl
      rw [hk]
      cases look mem key with
      | none => simp [exec]
      | some cs =>
        simp only [exec]
        by_cases h : d' = key ∧ o = off
        · obtain ⟨rfl, rfl⟩ := h
          simp only [Nat.beq_refl, Bool.and_self, cond_true, and_self, if_true]
          cases ofCells ag sz cs o with
          | none => rfl
          | some v => simp only [fA_eq, lay_eq]; rfl
        · rw [if_neg h]
          have : (Nat.beq d' key && Nat.beq o off) = false := by
            rw [Bool.eq_false_iff]; intro e
            simp only [Bool.and_eq_true] at e
            exact h ⟨Nat.eq_of_beq_eq_true e.1, Nat.eq_of_beq_eq_true e.2⟩
          rw [this]; rfl
    · exact xAny_eq
  · rename_i sz ag
    split
    · rename_i b off
      rw [nth_eq]
      simp only [exec]
      split
      · rename_i cs h
        rw [h]
        dsimp only
        cases mapB cs with
        | true => rfl
        | false =>
          simp only [cond_false, Bool.false_eq_true, if_false]
          cases ofCells ag sz cs off with
          | none => rfl
          | some v => simp only [fA_eq, lay_eq]; rfl
      · rename_i h
        split
        · rfl
        · rename_i e1 e2 e3
          split at e3
          · rename_i cs e4; exact absurd e4 (h cs)
          · cases e3
    · exact xAny_eq
  · exact xAny_eq

def opF (orc : Orc) (o : AOp) (st : St) (K : St → Option α) : Option α := match st with
  | ⟨env, mem, sh, toks⟩ => match o with
    | ⟨d, g, args, op⟩ => match g with
      | none => ods env args fun vals => x1 orc op d vals env mem sh toks K
      | some (t, b) => match lk env t with
        | some (.pv (.bool c)) => bif c == b then ods env args fun vals => x1 orc op d vals env mem sh toks K else lay env mem sh toks d .un K
        | some .un => lay env mem sh toks d .un K
        | _ => none
theorem opF_eq {orc : Orc} {o : AOp} {st : St} {K : St → Option α} : opF orc o st K = (evOp orc o st).bind K := by
  obtain ⟨env, mem, sh, toks⟩ := st
  obtain ⟨d, g, args, op⟩ := o
  have run : (ods env args fun vals => x1 orc op d vals env mem sh toks K) = (match evOpds env args with
      | none => none
      | some vals => match exec orc op vals (op.key.bind (look mem)) sh toks with
        | none => none
        | some out => some (⟨putD env d out.val, putC mem op.key out.cells, out.sh, out.toks⟩ : St)).bind K := by
    rw [ods_eq]
    cases evOpds env args with
    | none => rfl
    | some vals => exact x1_eq
  cases g with
  | none => simp only [opF, evOp, wantedA]; exact run
  | some p =>
    obtain ⟨t, b⟩ := p
    simp only [opF, evOp, wantedA, lk_eq]
    split
    · rename_i c h
      rw [h]
      dsimp only
      cases hc : (c == b) with
      | true => simp only [cond_true]; exact run
      | false => simp only [cond_false, lay_eq]; rfl
    · rename_i h
      rw [h]
      simp only [lay_eq]; rfl
    · rename_i h1 h2
      split
      · rfl
      · rename_i e; split at e <;> simp_all
      · rename_i e; split at e <;> simp_all

def opsF (orc : Orc) : List AOp → St → (St → Option α) → Option α
  | [], st, K => K st
  | o :: r, st, K => opF orc o st fun st => opsF orc r st K
theorem opsF_eq {orc : Orc} : ∀ {l : List AOp} {st : St} {K : St → Option α}, opsF orc l st K = (evOps orc l st).bind K
  | [], _, _ => rfl
  | o :: r, st, K => by
    simp only [opsF, evOps]
    rw [opF_eq]
    cases evOp orc o st with
    | none => rfl
    | some s => exact opsF_eq

def loopF (f : St → (AExit → St → Option α) → Option α) (pre : St → St) : Nat → St → (AExit → St → Option α) → Option α
  | 0, _, _ => none
  | n + 1, st, K => fSt (pre st) fun st => f st fun e st => match e with
    | .normal => loopF f pre n st K
    | e => K e st

def keepK (live : List Nat) (v : AV) : Bool := match v with
  | .lptr d _ => live.contains d
  | .pv _ => true
  | .own .. => true
  | .agg cs => flatOL cs
  | v => flatB v
theorem keepK_eq {live : List Nat} {v : AV} : keepK live v = keepB live v := by cases v <;> rfl

def rsE (live : List Nat) (env : List (Nat × AV)) : List Nat → (List (Nat × AV) → Option α) → Option α
  | [], K => K []
  | t :: r, K => match lk env t with
    | some v => rsE live env r fun e => bif keepK live v then K ((t, v) :: e) else K e
    | none => rsE live env r K
theorem rsE_eq {live : List Nat} {env : List (Nat × AV)} : ∀ {l : List Nat} {K : List (Nat × AV) → Option α}, rsE live env l K = K (restrictEnv live env l)
  | [], _ => rfl
  | t :: r, K => by
    simp only [rsE, restrictEnv, lk_eq]
    cases look env t with
    | none => exact rsE_eq
    | some v =>
      dsimp only
      rw [rsE_eq, keepK_eq]
      cases keepB live v <;> simp

def rsM (mem : List (Nat × List AV)) : List Nat → (List (Nat × List AV) → Option α) → Option α
  | [], K => K []
  | t :: r, K => match lk mem t with
    | some v => rsM mem r fun e => K ((t, v) :: e)
    | none => rsM mem r K
theorem rsM_eq {mem : List (Nat × List AV)} : ∀ {l : List Nat} {K : List (Nat × List AV) → Option α}, rsM mem l K = K (restrictMem mem l)
  | [], _ => rfl
  | t :: r, K => by
    simp only [rsM, restrictMem, lk_eq]
    cases look mem t with
    | none => exact rsM_eq
    | some v => exact rsM_eq

/-- What lives on. -/
def rs (live : List Nat) (st : St) (K : St → Option α) : Option α := match st with
  | ⟨env, mem, sh, toks⟩ => rsE live env live fun env => rsM mem live fun mem => K ⟨env, mem, sh, toks⟩
theorem rs_eq {live : List Nat} {st : St} {K : St → Option α} : rs live st K = K (restrict live st) := by
  obtain ⟨env, mem, sh, toks⟩ := st
  simp only [rs]; rw [rsE_eq, rsM_eq]; rfl

/-- Code, and what comes behind. -/
def unc (K : AExit → St → Option α) : Option (AExit × St) → Option α
  | some (e, st) => K e st
  | none => none

def cF (orc : Orc) (k : Nat) : ACode → St → (AExit → St → Option α) → Option α
  | .skip, st, K => K .normal st
  | .reg ops live, st, K => opsF orc ops st fun st => rs live st fun st => K .normal st
  | .seq a b, st, K => cF orc k a st fun e st => match e with
    | .normal => cF orc k b st K
    | e => K e st
  | .cond c a b, st, K => match evOpd st.env c with
    | some (.pv (.bool t)) => match t with
      | true => cF orc k a st K
      | false => cF orc k b st K
    | _ => none
  | .block id b, st, K => cF orc k b st fun e st => match e with
    | .exit id' => if id' = id then K .normal st else K (.exit id') st
    | e => K e st
  | .loop live b, st, K => loopF (cF orc k b) (fun s => norm (restrict live s)) k st K
  | .back c gb pi px sz ag live x y, st, K => unc K (evC orc k (.back c gb pi px sz ag live x y) st)
  | .exit id, st, K => K (.exit id) st
  | .ret, st, K => K .ret st
  | .frz ts, st, K => K .normal (frzT ts st)

theorem loopF_eq {f : St → (AExit → St → Option α) → Option α} {g : St → Option (AExit × St)} {pre : St → St} (h : ∀ st K, f st K = unc K (g st)) : ∀ {n : Nat} {st : St} {K : AExit → St → Option α}, loopF f pre n st K = unc K (loopN g pre n st)
  | 0, _, _ => rfl
  | n + 1, st, K => by
    simp only [loopF, loopN]
    rw [fSt_eq, h]
    cases g (pre st) with
    | none => rfl
    | some q =>
      obtain ⟨e, s⟩ := q
      cases e with
      | normal => exact loopF_eq h
      | ret => rfl
      | exit id => rfl

theorem cF_eq {orc : Orc} {k : Nat} : ∀ {c : ACode} {st : St} {K : AExit → St → Option α}, cF orc k c st K = unc K (evC orc k c st)
  | .skip, _, _ => rfl
  | .reg ops live, st, K => by
    simp only [cF, evC]
    rw [opsF_eq]
    cases evOps orc ops st with
    | none => rfl
    | some s => simp only [Option.bind_some, rs_eq, unc]
  | .seq a b, st, K => by
    simp only [cF, evC]
    rw [cF_eq]
    cases evC orc k a st with
    | none => rfl
    | some q =>
      obtain ⟨e, s⟩ := q
      cases e with
      | normal => simp only [unc]; exact cF_eq
      | ret => rfl
      | exit id => rfl
  | .cond c a b, st, K => by
    simp only [cF, evC]
    split
    · rename_i t h
      rw [h]
      cases t with
      | true => exact cF_eq
      | false => exact cF_eq
    · rename_i h
      split
      · rename_i t h'; exact absurd h' (h t)
      · rfl
  | .block id b, st, K => by
    simp only [cF, evC]
    rw [cF_eq]
    cases evC orc k b st with
    | none => rfl
    | some q =>
      obtain ⟨e, s⟩ := q
      cases e with
      | normal => rfl
      | ret => rfl
      | exit id' =>
        simp only [unc]
        split <;> rfl
  | .loop live b, st, K => by
    simp only [cF, evC]
    exact loopF_eq (g := evC orc k b) fun _ _ => cF_eq
  | .back c gb pi px sz ag live x y, _, _ => by simp only [cF]
  | .exit id, _, _ => rfl
  | .ret, _, _ => rfl
  | .frz _, _, _ => rfl

/-! ### Functions -/

def resF (keep : Bool) (af : AFunc) (sh0 : Sh) (e : AExit) (st : St) (K : List AV → Sh → Toks → Option α) : Option α :=
  match e with
  | .exit _ => none
  | _ => match evResL st af.results with
    | some vs =>
      fRs (outAll keep af.ks st.sh vs) fun rs =>
      let sh' := if rs.all (refsLt sh0.length) = true then (shOut keep af.ks st.sh vs).take sh0.length else shOut keep af.ks st.sh vs
      if rs.all passO = true then
        match giveN st.toks rs sh' with
        | (rs, sh, _, ts) => fRs rs fun rs => fSh sh fun sh => fT ts fun ts => K rs sh ts
      else none
    | none => none

def unc3 (K : List AV → Sh → Toks → Option α) : Option (List AV × Sh × Toks) → Option α
  | some (a, b, c) => K a b c
  | none => none

theorem resF_eq {keep : Bool} {af : AFunc} {sh0 : Sh} {e : AExit} {st : St} {K : List AV → Sh → Toks → Option α} : resF keep af sh0 e st K = unc3 K (finish keep af sh0 (some (e, st))) := by
  cases e with
  | exit id => rfl
  | normal =>
    simp only [resF, finish]
    cases evResL st af.results with
    | none => rfl
    | some vs =>
      simp only [fRs_eq, or_true, if_true]
      split
      · simp only [fRs_eq, fSh_eq, fT_eq, unc3]
      · rfl
  | ret =>
    simp only [resF, finish]
    cases evResL st af.results with
    | none => rfl
    | some vs =>
      simp only [fRs_eq, true_or, if_true]
      split
      · simp only [fRs_eq, fSh_eq, fT_eq, unc3]
      · rfl

def bodyF (orc : Orc) (k : Nat) (keep : Bool) (af : AFunc) (args : List AV) (sh : Sh) (ts : Toks) (K : List AV → Sh → Toks → Option α) : Option α :=
  fSt { env := enterEnv 0 args, mem := [], sh, toks := ts } fun st => cF orc k af.body st fun e st => resF keep af sh e st K

theorem bodyF_eq {orc : Orc} {k : Nat} {keep : Bool} {af : AFunc} {args : List AV} {sh : Sh} {ts : Toks} {K : List AV → Sh → Toks → Option α} : bodyF orc k keep af args sh ts K = unc3 K (callBody orc k keep af args sh ts) := by
  unfold bodyF
  rw [fSt_eq, cF_eq, callBody_finish]
  cases evC orc k af.body { env := enterEnv 0 args, mem := [], sh, toks := ts } with
  | none => rfl
  | some q => obtain ⟨e, s⟩ := q; simp only [unc]; exact resF_eq

def runF (AP : Nat → Option AFunc) (k : Nat) : Nat → Orc
  | 0 => { p := fun _ _ => none, i := fun _ _ _ _ => none }
  | n + 1 =>
    { p := fun g pvs => match AP g with
        | some af => match af.prim with
          | some f => f pvs
          | none => if pvs.length = af.nparams ∧ pvs.length ≤ af.ntmps then bodyF (runF AP k n) k false af (pvs.map .pv) [] [] fun rs _ _ => frzOut rs else none
        | none => none
      i := fun g args sh ts => match AP g with
        | some af => if args.length ≤ af.ntmps then bodyF (runF AP k n) k true af args sh ts fun a b c => some (a, b, c) else none
        | none => none }

theorem runF_eq {AP : Nat → Option AFunc} {k : Nat} : ∀ n, runF AP k n = run AP k n
  | 0 => rfl
  | n + 1 => by
    have ih := runF_eq (AP := AP) (k := k) n
    simp only [runF, run]
    congr 1
    · funext g pvs
      cases AP g with
      | none => rfl
      | some af =>
        dsimp only
        cases af.prim with
        | some f => rfl
        | none =>
          dsimp only
          split
          · rw [bodyF_eq, ih]
            cases callBody (run AP k n) k false af (pvs.map .pv) [] [] with
            | none => rfl
            | some q => rfl
          · rfl
    · funext g args sh ts
      cases AP g with
      | none => rfl
      | some af =>
        dsimp only
        split
        · rw [bodyF_eq, ih]
          cases callBody (run AP k n) k true af args sh ts with
          | none => rfl
          | some q => rfl
        · rfl

/-- What the kernel finds, holds. -/
theorem p_of {AP : Nat → Option AFunc} {k n g : Nat} {x rs : List PV} (h : (runF AP k n).p g x = some rs) : (orcL AP).p g x = some rs := by
  rw [runF_eq] at h
  exact lim_of (grows_p g x) (show (run AP (max k n) (max k n)).p g x = some rs from (run_mono (Nat.le_max_right k n) (Nat.le_max_left k n)).p _ _ _ h)

/-- What the kernel finds of a call with shared memory, holds. -/
theorem i_of {AP : Nat → Option AFunc} {k n g : Nat} {x : List AV} {s : Sh} {ts : Toks} {r : List AV × Sh × Toks} (h : (runF AP k n).i g x s ts = some r) : (orcL AP).i g x s ts = some r := by
  rw [runF_eq] at h
  exact lim_of (grows_i g x s ts) (show (run AP (max k n) (max k n)).i g x s ts = some r from (run_mono (Nat.le_max_right k n) (Nat.le_max_left k n)).i _ _ _ _ _ h)

/-- The same, some pure calls being known. -/
def runX (AP : Nat → Option AFunc) (ov : Nat → List PV → Option (List PV)) (k : Nat) : Nat → Orc
  | 0 => { p := ov, i := fun _ _ _ _ => none }
  | n + 1 =>
    { p := fun g pvs => match ov g pvs with
        | some r => some r
        | none => match AP g with
          | some af => match af.prim with
            | some f => f pvs
            | none => if pvs.length = af.nparams ∧ pvs.length ≤ af.ntmps then bodyF (runX AP ov k n) k false af (pvs.map .pv) [] [] fun rs _ _ => frzOut rs else none
          | none => none
      i := fun g args sh ts => match AP g with
        | some af => if args.length ≤ af.ntmps then bodyF (runX AP ov k n) k true af args sh ts fun a b c => some (a, b, c) else none
        | none => none }

theorem body_lim {AP : Nat → Option AFunc} {orc : Orc} {k : Nat} {keep : Bool} {af : AFunc} {args : List AV} {sh : Sh} {ts : Toks} {r : List AV × Sh × Toks} (hle : orc.le (orcL AP)) (h : callBody orc k keep af args sh ts = some r) : bodyL AP keep af args sh ts = some r := by
  rw [callBody_finish] at h
  unfold bodyL
  cases hc : evC orc k af.body { env := enterEnv 0 args, mem := [], sh, toks := ts } with
  | none => rw [hc] at h; simp [finish] at h
  | some q =>
    rw [cl_of (evC_mono hle (Nat.le_refl k) hc)]
    rw [hc] at h
    exact h

theorem runX_le {AP : Nat → Option AFunc} {ov : Nat → List PV → Option (List PV)} {k : Nat} (hov : ∀ g x r, ov g x = some r → (orcL AP).p g x = some r) : ∀ n, (runX AP ov k n).le (orcL AP)
  | 0 => ⟨hov, fun g x s t r h => by simp [runX] at h⟩
  | n + 1 => by
    have ih := runX_le (k := k) hov n
    refine ⟨fun g x r h => ?_, fun g x s t r h => ?_⟩
    · simp only [runX] at h
      split at h
      · rename_i r' e; rw [← h]; exact hov g x r' e
      · split at h
        · rename_i af hg
          cases hp : af.prim with
          | some f => rw [hp] at h; rw [cP_prim hg hp]; exact h
          | none =>
            rw [hp] at h
            simp only [Option.ite_none_right_eq_some] at h
            obtain ⟨⟨h1, h2⟩, h⟩ := h
            rw [bodyF_eq] at h
            rw [cP_eq hg hp h1 h2]
            cases hb : callBody (runX AP ov k n) k false af (x.map .pv) [] [] with
            | none => rw [hb] at h; simp [unc3] at h
            | some q => rw [body_lim ih hb]; rw [hb] at h; exact h
        · cases h
    · simp only [runX] at h
      split at h
      · rename_i af hg
        simp only [Option.ite_none_right_eq_some] at h
        obtain ⟨h2, h⟩ := h
        rw [bodyF_eq] at h
        rw [cI_eq hg h2]
        cases hb : callBody (runX AP ov k n) k true af x s t with
        | none => rw [hb] at h; simp [unc3] at h
        | some q => rw [body_lim ih hb]; rw [hb] at h; exact h
      · cases h

theorem p_ofX {AP : Nat → Option AFunc} {ov : Nat → List PV → Option (List PV)} {k n g : Nat} {x rs : List PV} (hov : ∀ g x r, ov g x = some r → (orcL AP).p g x = some r) (h : (runX AP ov k n).p g x = some rs) : (orcL AP).p g x = some rs := (runX_le hov n).p _ _ _ h

end Go.Ab.Fc
