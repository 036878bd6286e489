import GoSem.Core.Value
import GoSem.Core.Ast
import GoSem.Core.View
/-
  The abstract machine: pure data, abstract values, slim code, and an evaluator with fuel. Nothing here mentions a program.
-/
set_option linter.unusedVariables false
set_option linter.unusedSimpArgs false
namespace Go.Ab

/-- Pure data: what a value reads as. A struct is the list of its cells, a slice the list of its elements. -/
inductive PV where
  | bool (b : Bool)
  | int (k : IntKind) (n : Int)
  | str (s : List UInt8)
  | agg (cs : List PV)
  | lst (els : List PV)
  deriving Inhabited

/-- Abstract values. -/
inductive AV where
  | un
  | pv (p : PV)
  | clp (els : List PV)
  | own (els : List PV) (tok : Nat)
  | agg (cs : List AV)
  | tup (vs : List AV)
  | lptr (d off : Nat)
  | sptr (b off : Nat)
  | eptr (cs : List PV)
  | sarr (b sz len : Nat) (ag : Bool)
  | fn (g : Nat) (cap : List AV)
  | nilp
  | mref (s : Nat)
  | mapc (kvs : List (PV × PV))
  | ssub (b off n : Nat)
  deriving Inhabited

abbrev Sh := List (Option (List AV))
abbrev Toks := List Nat

inductive AOpd where
  | t (n : Nat)
  | c (v : AV)
  deriving Inhabited

/-- What one cell may be compared as. -/
inductive CK where
  | int | str | bool
  deriving Inhabited, DecidableEq

inductive VOp where
  | mv | pick
  | bin (op : BinOp)
  | beq (neg : Bool)
  | un (op : UnOp)
  | conv (k : IntKind)
  | ext (i : Nat)
  | field (off sz : Nat) (ag : Bool)
  | faddr (off : Nat)
  | iaddr (sz : Nat)
  | index
  | build (zero : List PV) (places : List (Nat × Nat))
  | bslice (sz : Nat)
  | loadE (sz : Nat) (ag : Bool)
  | slice (str : Bool) (sz : Nat) (lo hi mx : Bool)
  | len | lenS | nilchk
  | mn | mx
  | mkfn (g : Nat)
  | veq (cs : List CK) (neg : Bool)
  | sliceH (sz : Nat) (lo hi : Bool)
  deriving Inhabited

inductive AK where
  | v (o : VOp)
  | loadL (key off sz : Nat) (ag : Bool)
  | storeL (key off sz : Nat)
  | alloc (key : Nat) (zero : List PV)
  | box (key sz : Nat)
  | loadS (sz : Nat) (ag : Bool)
  | storeS (sz : Nat)
  | boxS (sz : Nat)
  | allocS (zero : List PV)
  | makeS (sz bytes : Nat) (ag : Bool) (zero : List PV)
  | append (sz bytes : Nat)
  | appendS (sz bytes : Nat) (ag : Bool)
  | makeM
  | lookM (c : CK) (ok : Bool) (zero : PV)
  | putM (c : CK)
  | clone (sz bytes : Nat)
  | clearS (sz : Nat) (zero : List PV)
  | callP (g : Nat)
  | callPS (g : Nat)
  | callI (g : Nat) (own : List Nat)
  | callQ (g : Nat)
  | callV
  deriving Inhabited

structure AOp where
  dst : Option Nat
  guard : Option (Nat × Bool)
  args : List AOpd
  op : AK
  deriving Inhabited

inductive ACode where
  | skip
  | reg (ops : List AOp) (live : List Nat)
  | seq (a b : ACode)
  | cond (c : AOpd) (a b : ACode)
  | block (id : Nat) (b : ACode)
  | loop (live : List Nat) (b : ACode)
  | exit (id : Nat)
  | ret
  | back (f : AOpd) (gb pi px sz : Nat) (ag : Bool) (live : List Nat) (x y : ACode)
  | frz (ts : List Nat)
  deriving Inhabited

inductive ARes where
  | t (n : Nat)
  | c (key sz : Nat) (ag : Bool)
  deriving Inhabited

structure AFunc where
  nparams : Nat
  ntmps : Nat
  results : List ARes
  body : ACode
  prim : Option (List PV → Option (List PV)) := none
  ks : Bool := false
  deriving Inhabited

/-! ### Finite maps -/

def look {α : Type} : List (Nat × α) → Nat → Option α
  | [], _ => none
  | (k, v) :: r, t => if k = t then some v else look r t

def putL {α : Type} : List (Nat × α) → Nat → α → List (Nat × α)
  | [], t, u => [(t, u)]
  | (k, v) :: r, t, u => if k = t then (k, u) :: r else (k, v) :: putL r t u

structure St where
  env : List (Nat × AV)
  mem : List (Nat × List AV)
  sh : Sh
  toks : Toks
  deriving Inhabited

/-! ### Helpers on values -/

def cellsP : PV → List PV
  | .agg cs => cs
  | p => [p]

def cellsA : AV → List AV
  | .agg cs => cs
  | .pv (.agg cs) => cs.map .pv
  | v => [v]

/-- May be handed to a callee. -/
def passB : AV → Bool
  | .pv _ | .clp _ | .sptr .. | .sarr .. | .nilp | .mref _ | .mapc _ => true
  | .fn _ cap => passL cap
  | .agg cs => passL cs
  | _ => false
where passL : List AV → Bool
  | [] => true
  | v :: r => passB v && passL r

/-- One cell that may lie in memory. -/
def leafB : AV → Bool
  | .pv (.agg _) => false
  | .pv _ | .clp _ | .sptr .. | .sarr .. | .nilp | .mref _ | .mapc _ => true
  | .fn g cap => passB (.fn g cap)
  | .own .. => true
  | _ => false

/-- One cell that may lie in shared memory. -/
def leafS (v : AV) : Bool := leafB v

/-- Nothing private and no token within. -/
def flatB : AV → Bool
  | .own .. | .lptr .. => false
  | .agg cs => flatL cs
  | .tup cs => flatL cs
  | .fn _ cap => flatL cap
  | _ => true
where flatL : List AV → Bool
  | [] => true
  | v :: r => flatB v && flatL r

/-- So, but for slices with room of their own. -/
def flatO : AV → Bool
  | .own .. => true
  | v => flatB v

def flatOL : List AV → Bool
  | [] => true
  | v :: r => flatO v && flatOL r

def frz0 : AV → Option PV
  | .pv p => some p
  | .clp l => some (.lst l)
  | .own l _ => some (.lst l)
  | _ => none

def leafP : PV → Bool
  | .agg _ => false
  | _ => true

def chunk (sz : Nat) : Nat → List PV → List (List PV)
  | 0, _ => []
  | n + 1, l => l.take sz :: chunk sz n (l.drop sz)

def frzL : List AV → Option (List PV)
  | [] => some []
  | v :: r => match frz0 v, frzL r with
    | some p, some ps => some (p :: ps)
    | _, _ => none

/-- The array with its cells frozen: its elements. -/
def arrEls (sz : Nat) (ag : Bool) (n : Nat) (cells : List PV) : Option (List PV) :=
  if ag then some ((chunk sz n cells).map .agg)
  else if sz = 1 then some cells else none

def mapB : List AV → Bool
  | .mapc _ :: _ => true
  | _ => false

def frzLeaf (sh : Sh) : AV → Option PV
  | .sarr b sz n ag => match sh[b]? with
    | some (some cells) => if cells.length = n * sz then ((frzL cells).bind (arrEls sz ag n)).map .lst
      else if mapB cells = false ∧ n * sz ≤ cells.length then ((frzL (cells.take (n * sz))).bind (arrEls sz ag n)).map .lst else none
    | _ => none
  | v => frz0 v

def frzLs (sh : Sh) : List AV → Option (List PV)
  | [] => some []
  | v :: r => if leafB v = true then
      match frzLeaf sh v, frzLs sh r with
      | some p, some ps => some (p :: ps)
      | _, _ => none
    else none

def frz (sh : Sh) : AV → Option PV
  | .agg cs => (frzLs sh cs).map .agg
  | v => frzLeaf sh v

def frzAll (sh : Sh) : List AV → Option (List PV)
  | [] => some []
  | v :: r => match frz sh v, frzAll sh r with
    | some p, some ps => some (p :: ps)
    | _, _ => none

/-- The shared arrays in a value: they must not be written any more once it is frozen. -/
def arrs : AV → List Nat
  | .sarr b _ _ _ => [b]
  | .agg cs => cs.flatMap fun | .sarr b _ _ _ => [b] | _ => []
  | _ => []

def kill (sh : Sh) (l : List Nat) : Sh := l.foldl (fun s b => s.set b none) sh

def killAll (sh : Sh) (vs : List AV) : Sh := kill sh (vs.flatMap arrs)

/-- References to shared memory below n only. -/
def refsLt (n : Nat) : AV → Bool
  | .un | .pv _ | .clp _ | .own .. | .nilp | .eptr _ | .mapc _ => true
  | .sptr b _ | .sarr b _ _ _ | .mref b => decide (b < n)
  | .fn _ cap => refsLtL n cap
  | .agg cs => refsLtL n cs
  | _ => false
where refsLtL (n : Nat) : List AV → Bool
  | [] => true
  | v :: r => refsLt n v && refsLtL n r

/-! ### Maps and comparisons of structs -/

/-- Two keys, or two cells: the same, or not, or not of this kind. -/
def keyEq : CK → PV → PV → Option Bool
  | .int, .int k a, .int k' b => if k = k' then some (a == b) else none
  | .str, .str a, .str b => some (a == b)
  | .bool, .bool a, .bool b => some (a == b)
  | _, _, _ => none

def eqCells : List CK → List PV → List PV → Option Bool
  | [], [], [] => some true
  | c :: cs, p :: ps, q :: qs => match keyEq c p q with
    | some true => eqCells cs ps qs
    | some false => if ps.length = cs.length ∧ qs.length = cs.length then some false else none
    | none => none
  | _, _, _ => none

/-- What a map holds for a key. -/
def findKV (c : CK) : List (PV × PV) → PV → Option (Option PV)
  | [], _ => some none
  | (k', v) :: r, k => match keyEq c k k' with
    | some true => some (some v)
    | some false => findKV c r k
    | none => none

def putKV (c : CK) : List (PV × PV) → PV → PV → Option (List (PV × PV))
  | [], k, p => some [(k, p)]
  | (k', v) :: r, k, p => match keyEq c k k' with
    | some true => some ((k, p) :: r)
    | some false => (putKV c r k p).map ((k', v) :: ·)
    | none => none

/-- What a look into a map gives. -/
def lookRes (ok : Bool) (zero : PV) (r : Option PV) : AV := if ok then .tup [.pv (r.getD zero), .pv (.bool r.isSome)] else .pv (r.getD zero)

/-! ### Pure operations -/

def evBin (op : BinOp) : AV → AV → Option AV
  | .pv (.int k a), .pv (.int k' b) =>
    if k = k' ∨ op = .shl ∨ op = .shr then
      match op with
      | .add => some (.pv (.int k (k.wrap (a + b))))
      | .sub => some (.pv (.int k (k.wrap (a - b))))
      | .mul => some (.pv (.int k (k.wrap (a * b))))
      | .quo => if b = 0 then none else some (.pv (.int k (k.wrap (a.tdiv b))))
      | .rem => if b = 0 then none else some (.pv (.int k (a.tmod b)))
      | .eql => some (.pv (.bool (a == b)))
      | .neq => some (.pv (.bool (a != b)))
      | .lss => some (.pv (.bool (decide (a < b))))
      | .leq => some (.pv (.bool (decide (a ≤ b))))
      | .gtr => some (.pv (.bool (decide (a > b))))
      | .geq => some (.pv (.bool (decide (a ≥ b))))
      | .and => some (.pv (.int k (k.wrap (BitVec.ofInt k.bits a &&& BitVec.ofInt k.bits b).toNat)))
      | .shl => if b < 0 then none else some (.pv (.int k (k.wrap (a * 2 ^ (min b.toNat k.bits)))))
      | .shr => if b < 0 then none else some (.pv (.int k (a.fdiv (2 ^ (min b.toNat k.bits)))))
      | _ => none
    else none
  | .pv (.str a), .pv (.str b) =>
    match op with
    | .add => if a.length + b.length ≤ 9223372036854775807 then some (.pv (.str (a ++ b))) else none
    | .eql => some (.pv (.bool (a == b)))
    | .neq => some (.pv (.bool (!(a == b))))
    | .lss => some (.pv (.bool (bytesLt a b)))
    | .gtr => some (.pv (.bool (!(bytesLt a b || a == b))))
    | .leq => some (.pv (.bool (bytesLt a b || a == b)))
    | .geq => some (.pv (.bool (!bytesLt a b)))
    | _ => none
  | _, _ => none
where bytesLt : List UInt8 → List UInt8 → Bool
  | _, [] => false
  | [], _ :: _ => true
  | a :: x, b :: y => a < b || (a == b && bytesLt x y)

def evUn (op : UnOp) : AV → Option AV
  | .pv (.bool b) => match op with | .not => some (.pv (.bool !b)) | _ => none
  | .pv (.int k n) => match op with | .neg => some (.pv (.int k (k.wrap (0 - n)))) | _ => none
  | _ => none

def elsOf : AV → Option (List PV)
  | .pv (.lst l) => some l
  | .clp l => some l
  | .own l _ => some l
  | _ => none

def headSz (sz : Nat) : List PV → Bool
  | [] => true
  | p :: _ => (cellsP p).length == sz

def setRange (cells : List AV) (off : Nat) (vs : List AV) : List AV := cells.take off ++ vs ++ cells.drop (off + vs.length)

/-- Parts laid over the zero value's cells. -/
def fillA (cells : List AV) : List (Nat × Nat) → List AV → Option (List AV)
  | [], [] => some cells
  | (off, sz) :: ps, v :: vs =>
    if (cellsA v).length = sz ∧ off + sz ≤ cells.length ∧ (cellsA v).all leafB = true then fillA (setRange cells off (cellsA v)) ps vs else none
  | _, _ => none

/-- A value out of cells. -/
def ofCells (ag : Bool) (sz : Nat) (cs : List AV) (off : Nat) : Option AV :=
  if off + sz ≤ cs.length then
    if ag then some (.agg ((cs.drop off).take sz))
    else if sz = 1 then cs[off]? else none
  else none

def ofCellsP (ag : Bool) (sz : Nat) (cs : List PV) : Option AV :=
  if sz ≤ cs.length then
    if ag then some (.pv (.agg (cs.take sz)))
    else if sz = 1 then (cs[0]?).map .pv else none
  else none

def intOf : AV → Option Int
  | .pv (.int _ n) => some n
  | _ => none

def evBounds (lo hi mx : Bool) (n : Nat) (rest : List AV) : Option (Int × Int × Option Int) :=
  match lo, hi, mx, rest with
  | false, false, false, [] => some (0, n, none)
  | true, false, false, [.pv (.int _ l)] => some (l, n, none)
  | false, true, false, [.pv (.int _ h)] => some (0, h, none)
  | true, true, false, [.pv (.int _ l), .pv (.int _ h)] => some (l, h, none)
  | false, true, true, [.pv (.int _ h), .pv (.int _ m)] => some (0, h, some m)
  | true, true, true, [.pv (.int _ l), .pv (.int _ h), .pv (.int _ m)] => some (l, h, some m)
  | _, _, _, _ => none

def evSlice (str : Bool) (sz : Nat) (lo hi mx : Bool) : List AV → Option AV
  | x :: rest => if str then
      match x with
      | .pv (.str s) => match evBounds lo hi mx s.length rest with
        | some (l, h, none) => if 0 ≤ l ∧ l ≤ h ∧ h ≤ s.length then some (.pv (.str ((s.take h.toNat).drop l.toNat))) else none
        | _ => none
      | _ => none
    else match elsOf x with
      | some els => match evBounds lo hi mx els.length rest with
        | some (l, h, m) => if 0 ≤ l ∧ l ≤ h ∧ h ≤ els.length ∧ (l = 0 ∨ headSz sz els = true) then
            match m with
            | some m => if m = h then some (.clp ((els.take h.toNat).drop l.toNat)) else none
            | none => some (.pv (.lst ((els.take h.toNat).drop l.toNat)))
          else none
        | none => none
      | none => none
  | [] => none

/-- A part of an array that may be written: its beginning, or a part that is only cleared. -/
def evSliceH (sz : Nat) (lo hi : Bool) : List AV → Option AV
  | .sarr b z n ag :: rest => if z = sz then
      match evBounds lo hi false n rest with
      | some (l, h, none) => if 0 ≤ l ∧ l ≤ h ∧ h ≤ n then some (if l = 0 then .sarr b z h.toNat ag else .ssub b (l.toNat * sz) (h.toNat - l.toNat)) else none
      | _ => none
    else none
  | _ => none

/-- What may be cleared: the block's number, the first cell, how many elements. -/
def subOf (sz : Nat) : AV → Option (Nat × Nat × Nat)
  | .sarr b z n _ => if z = sz then some (b, 0, n) else none
  | .ssub b off n => some (b, off, n)
  | _ => none

def clearR (sz : Nat) (zero : List PV) (sh : Sh) : Option (Nat × Nat × Nat) → Option Sh
  | some (b, off, n) => match sh[b]? with
    | some (some cells) => if mapB cells = false ∧ off + n * sz ≤ cells.length ∧ zero.length = sz then some (sh.set b (some (setRange cells off (List.replicate n (zero.map .pv)).flatten))) else none
    | _ => none
  | none => none

def evV : VOp → List AV → Option AV
  | .mv, [x] => some x
  | .pick, [.pv (.bool c), a, b] => some (if c then a else b)
  | .bin op, [a, b] => evBin op a b
  | .beq neg, [.pv (.bool a), .pv (.bool b)] => some (.pv (.bool (if neg then !(a == b) else (a == b))))
  | .un op, [a] => evUn op a
  | .conv k, [.pv (.int _ n)] => some (.pv (.int k (k.wrap n)))
  | .ext i, [.tup vs] => vs[i]?
  | .field off sz ag, [x] => match x with
    | .agg cs => ofCells ag sz cs off
    | .pv (.agg cs) => ofCellsP ag sz (cs.drop off)
    | _ => none
  | .faddr off, [x] => match x with
    | .lptr d o => some (.lptr d (o + off))
    | .sptr b o => some (.sptr b (o + off))
    | .eptr cs => some (.eptr (cs.drop off))
    | _ => none
  | .iaddr sz, [x, .pv (.int _ i)] =>
    if i < 0 then none else
    match x with
    | .sarr b sz' n _ => if sz = sz' ∧ i.toNat < n then some (.sptr b (i.toNat * sz)) else none
    | x => match elsOf x with
      | some els => match els[i.toNat]? with
        | some el => if (cellsP el).length = sz then some (.eptr (cellsP el)) else none
        | none => none
      | none => none
  | .index, [.pv (.str s), .pv (.int _ i)] => if i < 0 then none else (s[i.toNat]?).map fun b => .pv (.int .u8 b.toNat)
  | .build zero places, vs => (fillA (zero.map zeroCell) places vs).map .agg
  | .bslice sz, vs => (frzAll [] vs).bind fun els => if els.all (fun e => (cellsP e).length == sz) then some (.clp els) else none
  | .loadE sz ag, [.eptr cs] => ofCellsP ag sz cs
  | .slice str sz lo hi mx, vs => evSlice str sz lo hi mx vs
  | .sliceH sz lo hi, vs => evSliceH sz lo hi vs
  | .lenS, [.pv (.str s)] => some (.pv (.int .i64 s.length))
  | .len, [x] => match x with
    | .sarr _ _ n _ => some (.pv (.int .i64 n))
    | x => (elsOf x).map fun l => .pv (.int .i64 l.length)
  | .nilchk, [x] => match x with
    | .lptr .. | .sptr .. | .eptr _ | .fn .. => some x
    | _ => none
  | .mn, [.pv (.int k x), .pv (.int k' y)] => if k = k' then some (.pv (.int k (if y < x then y else x))) else none
  | .mx, [.pv (.int k x), .pv (.int k' y)] => if k = k' then some (.pv (.int k (if y > x then y else x))) else none
  | .mkfn g, cap => some (.fn g cap)
  | .veq cs neg, [x, y] => match frz [] x, frz [] y with
    | some (.agg ps), some (.agg qs) => (eqCells cs ps qs).map fun b => .pv (.bool (if neg then !b else b))
    | _, _ => none
  | _, _ => none
where zeroCell : PV → AV
  | .lst [] => .clp []
  | p => .pv p

/-! ### Operations with memory -/

structure Out where
  val : AV
  cells : Option (List AV)
  sh : Sh
  toks : Toks

/-- The calls: what a function gives for pure data; what it gives for any arguments with the shared memory. -/
structure Orc where
  p : Nat → List PV → Option (List PV)
  i : Nat → List AV → Sh → Toks → Option (List AV × Sh × Toks)

def resP : List PV → AV
  | [r] => .pv r
  | rs => .tup (rs.map .pv)

def resA : List AV → AV
  | [r] => r
  | rs => .tup rs

def argOf (v : AV) : AV := match frz [] v with | some p => .pv p | none => v

def AK.key : AK → Option Nat
  | .loadL k _ _ _ | .storeL k _ _ | .alloc k _ | .box k _ => some k
  | _ => none

def execAppend (sz bytes : Nat) (s x : AV) (toks : Toks) : Option (AV × Toks) :=
  match elsOf x with
  | none => none
  | some xs => if headSz sz xs = true then
    match s with
    | .clp l => if xs.isEmpty = true then some (.clp l, toks) else if headSz sz l = true ∧ (l.length + xs.length) * bytes ≤ 140737488355328 then
        some (.own (l ++ xs) toks.length, toks ++ [(l ++ xs).length]) else none
    | .own l τ => if toks[τ]? = some l.length ∧ headSz sz l = true ∧ (l.length + xs.length) * bytes ≤ 140737488355328 then
        some (.own (l ++ xs) τ, toks.set τ (l ++ xs).length) else none
    | _ => none
    else none

/-- Onto nothing: an array that may be written. -/
def app0 (sz bytes : Nat) (ag : Bool) (s : AV) (xs : List PV) (sh : Sh) : Option (AV × Sh) :=
  if xs.isEmpty = true then some (s, sh) else if xs.length * bytes ≤ 140737488355328 then some (.sarr sh.length sz xs.length ag, sh ++ [some ((xs.flatMap cellsP).map .pv)]) else none

/-- Onto an array that may be written: it gets a new number. -/
def appS (sz bytes : Nat) (ag : Bool) (s : AV) (xs : List PV) (sh : Sh) (toks : Toks) : Option (AV × Sh) :=
  match s with
  | .clp [] => app0 sz bytes ag s xs sh
  | .own [] τ => if toks[τ]? = some 0 then app0 sz bytes ag s xs sh else none
  | .sarr b z n g => match sh[b]? with
    | some (some cells) => if z = sz ∧ g = ag ∧ mapB cells = false ∧ n * sz ≤ cells.length ∧ (n + xs.length) * bytes ≤ 140737488355328 then
        if xs.isEmpty = true then some (.sarr b sz n ag, sh) else some (.sarr sh.length sz (n + xs.length) ag, sh.set b none ++ [some (cells.take (n * sz) ++ (xs.flatMap cellsP).map .pv)])
      else none
    | _ => none
  | _ => none

/-- A cell of a struct. -/
def normC (old ts : Toks) : AV → AV × Toks × Toks
  | .own l τ => if old[τ]? = some l.length then (.own l ts.length, old.set τ (l.length + 1), ts ++ [l.length]) else (.pv (.lst l), old, ts)
  | v => (v, old, ts)

def normCs (old ts : Toks) : List AV → List AV × Toks × Toks
  | [] => ([], old, ts)
  | v :: r => ((normC old ts v).1 :: (normCs (normC old ts v).2.1 (normC old ts v).2.2 r).1, (normCs (normC old ts v).2.1 (normC old ts v).2.2 r).2)

/-- The head of a loop: each slice that is live and has its spare room to itself gets a token anew, in order. -/
def normV (old ts : Toks) : AV → AV × Toks × Toks
  | .own l τ => if old[τ]? = some l.length then (.own l ts.length, old.set τ (l.length + 1), ts ++ [l.length]) else (.pv (.lst l), old, ts)
  | .clp l => (.own l ts.length, old, ts ++ [l.length])
  | .agg cs => if flatB.flatL cs = true then (.agg cs, old, ts) else (.agg (normCs old ts cs).1, (normCs old ts cs).2.1, (normCs old ts cs).2.2)
  | v => (v, old, ts)

def normL (old ts : Toks) : List AV → List AV × Toks × Toks
  | [] => ([], old, ts)
  | v :: r => ((normV old ts v).1 :: (normL (normV old ts v).2.1 (normV old ts v).2.2 r).1, (normL (normV old ts v).2.1 (normV old ts v).2.2 r).2)

def normS (old ts : Toks) : Sh → Sh × Toks × Toks
  | [] => ([], old, ts)
  | none :: r => (none :: (normS old ts r).1, (normS old ts r).2)
  | some cs :: r => (some (normL old ts cs).1 :: (normS (normL old ts cs).2.1 (normL old ts cs).2.2 r).1, (normS (normL old ts cs).2.1 (normL old ts cs).2.2 r).2)

/-- Handing over values and shared memory: the tokens within get new names. -/
def giveN (toks : Toks) (xs : List AV) (sh : Sh) : List AV × Sh × Toks × Toks :=
  ((normL toks [] xs).1, (normS (normL toks [] xs).2.1 (normL toks [] xs).2.2 sh).1, (normS (normL toks [] xs).2.1 (normL toks [] xs).2.2 sh).2.1, (normS (normL toks [] xs).2.1 (normL toks [] xs).2.2 sh).2.2)

/-- A cell that may be handed over. -/
def passC : AV → Bool
  | .own .. => true
  | v => passB v

def passOL : List AV → Bool
  | [] => true
  | v :: r => passC v && passOL r

/-- May be handed over, with its spare room if it has that to itself. -/
def passO : AV → Bool
  | .own .. => true
  | .agg cs => passOL cs
  | v => passB v

def shiftC (n : Nat) : AV → AV
  | .own l τ => .own l (τ + n)
  | v => v

def shiftV (n : Nat) : AV → AV
  | .own l τ => .own l (τ + n)
  | .agg cs => if flatB.flatL cs = true then .agg cs else .agg (cs.map (shiftC n))
  | v => v

def shiftS (n : Nat) (sh : Sh) : Sh := sh.map fun o => o.map fun cs => cs.map (shiftV n)

def argsOf (own : List Nat) : Nat → List AV → List AV
  | _, [] => []
  | i, v :: r => (if own.contains i then v else argOf v) :: argsOf own (i + 1) r

def execCall (orc : Orc) (g : Nat) (own : List Nat) (vals : List AV) (sh : Sh) (toks : Toks) : Option (AV × Sh × Toks) :=
  if (argsOf own 0 vals).all passO = true then
    (orc.i g (giveN toks (argsOf own 0 vals) sh).1 (giveN toks (argsOf own 0 vals) sh).2.1 (giveN toks (argsOf own 0 vals) sh).2.2.2).map fun (rs, sh', ts) =>
      (resA (rs.map (shiftV toks.length)), shiftS toks.length sh', (giveN toks (argsOf own 0 vals) sh).2.2.1 ++ ts)
  else none

/-- What goes into shared memory: frozen where it can be, but for a bare slice with room of its own or none. -/
def shCells (v : AV) : List AV := match v with
  | .clp l => [.clp l]
  | .own l τ => [.own l τ]
  | v => match frz [] v with | some p => cellsA (.pv p) | none => cellsA v

def exec (orc : Orc) (op : AK) (vals : List AV) (cells : Option (List AV)) (sh : Sh) (toks : Toks) : Option Out :=
  match op, vals with
  | .v o, vals => (evV o vals).map fun x => ⟨x, none, sh, toks⟩
  | .loadL key off sz ag, [.lptr d o] => if d = key ∧ o = off then
      match cells with
      | some cs => (ofCells ag sz cs off).map fun x => ⟨x, none, sh, toks⟩
      | none => none
    else none
  | .storeL key off sz, [.lptr d o, v] => if d = key ∧ o = off ∧ (cellsA v).length = sz ∧ (cellsA v).all leafB = true then
      match cells with
      | some cs => if off + sz ≤ cs.length then some ⟨.un, some (setRange cs off (cellsA v)), sh, toks⟩ else none
      | none => none
    else none
  | .alloc key zero, [] => match cells with
    | none => some ⟨.lptr key 0, some (zero.map evV.zeroCell), sh, toks⟩
    | some _ => none
  | .box key sz, [v] => match cells with
    | none => if (cellsA v).length = sz ∧ (cellsA v).all leafB = true then some ⟨.lptr key 0, some (cellsA v), sh, toks⟩ else none
    | some _ => none
  | .loadS sz ag, [p] => match p with
    | .eptr cs => (ofCellsP ag sz cs).map fun x => ⟨x, none, sh, toks⟩
    | .sptr b off => match sh[b]? with
      | some (some cs) => if mapB cs = true then none else (ofCells ag sz cs off).map fun x => ⟨x, none, sh, toks⟩
      | _ => none
    | _ => none
  | .storeS sz, [.sptr b off, v] => match sh[b]? with
    | some (some cs) =>
      let vs := shCells v
      if mapB cs = false ∧ vs.length = sz ∧ off + sz ≤ cs.length ∧ vs.all leafS = true ∧ vs.all (refsLt (b + 1)) = true then
        some ⟨.un, none, sh.set b (some (setRange cs off vs)), toks⟩ else none
    | _ => none
  | .boxS sz, [v] =>
    let vs := shCells v
    if vs.length = sz ∧ vs.all leafS = true ∧ vs.all (refsLt sh.length) = true then
      some ⟨.sptr sh.length 0, none, sh ++ [some vs], toks⟩ else none
  | .allocS zero, [] => some ⟨.sptr sh.length 0, none, sh ++ [some (zero.map evV.zeroCell)], toks⟩
  | .makeS sz bytes ag zero, [.pv (.int _ n), .pv (.int _ n')] =>
    if n = n' ∧ 0 ≤ n ∧ n ≤ 9223372036854775807 ∧ n * bytes ≤ 140737488355328 ∧ zero.length = sz then
      some ⟨.sarr sh.length sz n.toNat ag, none, sh ++ [some ((List.replicate n.toNat (zero.map .pv)).flatten)], toks⟩ else none
  | .append sz bytes, [s, x] => (execAppend sz bytes s x toks).map fun (v, ts) => ⟨v, none, sh, ts⟩
  | .appendS sz bytes ag, [s, x] => match elsOf x with
    | some xs => if headSz sz xs = true then (appS sz bytes ag s xs sh toks).map fun (v, sh') => ⟨v, none, sh', toks⟩ else none
    | none => none
  | .clone sz bytes, [x] => (execAppend sz bytes (.clp []) x toks).map fun (v, ts) => ⟨v, none, sh, ts⟩
  | .clearS sz zero, [x] => (clearR sz zero sh (subOf sz x)).map fun sh' => ⟨.tup [], none, sh', toks⟩
  | .makeM, [] => some ⟨.mref sh.length, none, sh ++ [some [.mapc []]], toks⟩
  | .lookM c ok zero, [m, k] => match m, k with
    | .mref s, .pv k => match sh[s]? with
      | some (some [.mapc kvs]) => (findKV c kvs k).map fun r => ⟨lookRes ok zero r, none, sh, toks⟩
      | _ => none
    | _, _ => none
  | .putM c, [m, k, v] => match m, k with
    | .mref s, .pv k => match sh[s]?, frz [] v with
      | some (some [.mapc kvs]), some p => (putKV c kvs k p).map fun kvs' => ⟨.un, none, sh.set s (some [.mapc kvs']), toks⟩
      | _, _ => none
    | _, _ => none
  | .callP g, vals => match frzAll [] vals with
    | some pvs => (orc.p g pvs).map fun rs => ⟨resP rs, none, sh, toks⟩
    | none => none
  | .callPS g, vals => match frzAll sh vals with
    | some pvs => (orc.p g pvs).map fun rs => ⟨resP rs, none, killAll sh vals, toks⟩
    | none => none
  | .callI g own, vals => (execCall orc g own vals sh toks).map fun (v, sh', ts) => ⟨v, none, sh', ts⟩
  | .callQ g, vals => match frzAll [] vals with
    | some pvs => match orc.i g (pvs.map .pv) [] [] with
      | some (rs, [], ts) => some ⟨resA (rs.map (shiftV toks.length)), none, sh, toks ++ ts⟩
      | _ => none
    | none => none
  | .callV, f :: vals => match f with
    | .fn g cap => (execCall orc g [] (vals ++ cap) sh toks).map fun (v, sh', ts) => ⟨v, none, sh', ts⟩
    | _ => none
  | _, _ => none

/-! ### Regions -/

def evOpd (env : List (Nat × AV)) : AOpd → Option AV
  | .t n => look env n
  | .c v => some v

def evOpds (env : List (Nat × AV)) : List AOpd → Option (List AV)
  | [] => some []
  | x :: r => match evOpd env x, evOpds env r with
    | some v, some vs => some (v :: vs)
    | _, _ => none

def wantedA (env : List (Nat × AV)) : Option (Nat × Bool) → Option Bool
  | none => some true
  | some (t, b) => match look env t with
    | some (.pv (.bool c)) => some (c == b)
    | some .un => some false
    | _ => none

def putD (env : List (Nat × AV)) : Option Nat → AV → List (Nat × AV)
  | some d, v => putL env d v
  | none, _ => env

def putC (mem : List (Nat × List AV)) : Option Nat → Option (List AV) → List (Nat × List AV)
  | some k, some cs => putL mem k cs
  | _, _ => mem

def evOp (orc : Orc) (o : AOp) (st : St) : Option St :=
  match wantedA st.env o.guard with
  | none => none
  | some false => some { st with env := putD st.env o.dst .un }
  | some true =>
    match evOpds st.env o.args with
    | none => none
    | some vals =>
      match exec orc o.op vals (o.op.key.bind (look st.mem)) st.sh st.toks with
      | none => none
      | some out => some { env := putD st.env o.dst out.val, mem := putC st.mem o.op.key out.cells, sh := out.sh, toks := out.toks }

def evOps (orc : Orc) : List AOp → St → Option St
  | [], st => some st
  | o :: r, st => match evOp orc o st with
    | none => none
    | some st' => evOps orc r st'

/-- A value kept: a private address only with its memory. -/
def keepB (live : List Nat) : AV → Bool
  | .lptr d _ => live.contains d
  | .own .. => true
  | .agg cs => flatOL cs
  | v => flatB v

def restrictEnv (live : List Nat) (env : List (Nat × AV)) : List Nat → List (Nat × AV)
  | [] => []
  | t :: r => match look env t with
    | some v => if keepB live v = true then (t, v) :: restrictEnv live env r else restrictEnv live env r
    | none => restrictEnv live env r

def restrictMem (mem : List (Nat × List AV)) : List Nat → List (Nat × List AV)
  | [] => []
  | t :: r => match look mem t with
    | some v => (t, v) :: restrictMem mem r
    | none => restrictMem mem r

def restrict (live : List Nat) (st : St) : St :=
  { st with env := restrictEnv live st.env live, mem := restrictMem st.mem live }

def normE (old ts : Toks) : List (Nat × AV) → List (Nat × AV) × Toks × Toks
  | [] => ([], old, ts)
  | (t, v) :: r => ((t, (normV old ts v).1) :: (normE (normV old ts v).2.1 (normV old ts v).2.2 r).1, (normE (normV old ts v).2.1 (normV old ts v).2.2 r).2)

def normM (old ts : Toks) : List (Nat × List AV) → List (Nat × List AV) × Toks × Toks
  | [] => ([], old, ts)
  | (t, v) :: r => ((t, (normL old ts v).1) :: (normM (normL old ts v).2.1 (normL old ts v).2.2 r).1, (normM (normL old ts v).2.1 (normL old ts v).2.2 r).2)

def norm (st : St) : St :=
  { env := (normE st.toks [] st.env).1,
    mem := (normM (normE st.toks [] st.env).2.1 (normE st.toks [] st.env).2.2 st.mem).1,
    sh := (normS (normM (normE st.toks [] st.env).2.1 (normE st.toks [] st.env).2.2 st.mem).2.1 (normM (normE st.toks [] st.env).2.1 (normE st.toks [] st.env).2.2 st.mem).2.2 st.sh).1,
    toks := (normS (normM (normE st.toks [] st.env).2.1 (normE st.toks [] st.env).2.2 st.mem).2.1 (normM (normE st.toks [] st.env).2.1 (normE st.toks [] st.env).2.2 st.mem).2.2 st.sh).2.2 }

inductive AExit where
  | normal | ret | exit (id : Nat)
  deriving Inhabited, DecidableEq

def loopN (f : St → Option (AExit × St)) (pre : St → St) : Nat → St → Option (AExit × St)
  | 0, _ => none
  | n + 1, st => match f (pre st) with
    | some (.normal, st') => loopN f pre n st'
    | r => r

/-- An element as a load gives it. -/
def elAV (sz : Nat) (ag : Bool) (el : PV) : Option AV := if (cellsP el).length = sz then ofCellsP ag sz (cellsP el) else none

/-- The rounds of a range over a slice backward: each begins with what was at the loop's entry and the two variables. -/
def backN (f : St → Option (AExit × St)) (live : List Nat) (pi px sz : Nat) (ag : Bool) (env : List (Nat × AV)) : List (PV × Nat) → St → Option (AExit × St)
  | [], st => some (.normal, { st with env := env })
  | (el, i) :: r, st => match elAV sz ag el with
    | none => none
    | some v => match f (norm (restrict live { st with env := putL (putL env pi (.pv (.int .i64 i))) px v })) with
      | some (.normal, st') => backN f live pi px sz ag env r st'
      | some (e, st') => some (e, { st' with env := env })
      | none => none

def andThen (f g : St → Option (AExit × St)) (st : St) : Option (AExit × St) := match f st with
  | some (.normal, st') => g st'
  | _ => none

/-- What a round may look at of the frame. -/
def backEnv (live : List Nat) (env : List (Nat × AV)) : List (Nat × AV) := (restrictEnv live env live).filter fun p => flatB p.2

def backWith (f : St → Option (AExit × St)) (v : Option AV) (gb pi px sz : Nat) (ag : Bool) (live : List Nat) (st : St) : Option (AExit × St) :=
  match v with
  | some (.fn g [.sptr s 0]) => if g = gb then
      match st.sh[s]? with
      | some (some [.pv (.lst l)]) => if l.length < 4611686018427387904 then backN f live pi px sz ag (backEnv live st.env) l.zipIdx.reverse { st with sh := kill st.sh [s] } else none
      | _ => none
    else none
  | _ => none

/-- The arrays in private memory are written no more. -/
def frzM : AV → St → St
  | .lptr d 0, st => match look st.mem d with
    | some cs => match frzLs st.sh cs with
      | some ps => { st with mem := putL st.mem d (ps.map .pv), sh := killAll st.sh [.agg cs] }
      | none => st
    | none => st
  | _, st => st

/-- These are written no more: from now on they are lists. -/
def frzT : List Nat → St → St
  | [], st => st
  | t :: r, st => match look st.env t with
    | some v => match frz st.sh v with
      | some p => frzT r { st with env := putL st.env t (.pv p), sh := killAll st.sh [v] }
      | none => frzT r (frzM v st)
    | none => frzT r st

def evC (orc : Orc) (k : Nat) : ACode → St → Option (AExit × St)
  | .skip, st => some (.normal, st)
  | .reg ops live, st => match evOps orc ops st with
    | some st' => some (.normal, restrict live st')
    | none => none
  | .seq a b, st => match evC orc k a st with
    | some (.normal, st') => evC orc k b st'
    | r => r
  | .cond c a b, st => match evOpd st.env c with
    | some (.pv (.bool t)) => if t then evC orc k a st else evC orc k b st
    | _ => none
  | .block id b, st => match evC orc k b st with
    | some (.exit id', st') => if id' = id then some (.normal, st') else some (.exit id', st')
    | r => r
  | .loop live b, st => loopN (evC orc k b) (fun s => norm (restrict live s)) k st
  | .exit id, st => some (.exit id, st)
  | .ret, st => some (.ret, st)
  | .back c gb pi px sz ag live x y, st => backWith (andThen (evC orc k x) (evC orc k y)) (evOpd st.env c) gb pi px sz ag live st
  | .frz ts, st => some (.normal, frzT ts st)

/-! ### Functions -/

def enterEnv : Nat → List AV → List (Nat × AV)
  | _, [] => []
  | i, v :: r => (i, v) :: enterEnv (i + 1) r

def evRes (st : St) : ARes → Option AV
  | .t n => look st.env n
  | .c key sz ag => match look st.env key with
    | some (.lptr d 0) => match look st.mem key with
      | some cs => if d = key then ofCells ag sz cs 0 else none
      | none => none
    | some (.sptr s 0) => match st.sh[s]? with
      | some (some cs) => if mapB cs = true then none else ofCells ag sz cs 0
      | _ => none
    | _ => none

def evResL (st : St) : List ARes → Option (List AV)
  | [] => some []
  | r :: rs => match evRes st r, evResL st rs with
    | some v, some vs => some (v :: vs)
    | _, _ => none

/-- A result that goes out: frozen where it can be. -/
def outOf (sh : Sh) (v : AV) : AV := match frz sh v with | some p => .pv p | none => v

/-- So, but that an empty slice without room stays what it is. -/
def outL (sh : Sh) (v : AV) : AV := match v with
  | .clp l => .clp l
  | v => if leafB v = true then outOf sh v else v

def outK (sh : Sh) (v : AV) : AV := match v with
  | .clp l => .clp l
  | .own l τ => .own l τ
  | .agg cs => .agg (cs.map (outL sh))
  | v => outOf sh v

/-- The results as they go out: with ks as they are. -/
def outAll (keep ks : Bool) (sh : Sh) (vs : List AV) : List AV := if keep then (if ks then vs else vs.map (outK sh)) else vs.map (outOf sh)

/-- The shared memory behind that. -/
def shOut (keep ks : Bool) (sh : Sh) (vs : List AV) : Sh := if keep && ks then sh else killAll sh vs

def callBody (orc : Orc) (k : Nat) (keep : Bool) (af : AFunc) (args : List AV) (sh : Sh) (ts : Toks) : Option (List AV × Sh × Toks) :=
  match evC orc k af.body { env := enterEnv 0 args, mem := [], sh, toks := ts } with
  | some (e, st) =>
    if e = .ret ∨ e = .normal then
      match evResL st af.results with
      | some vs =>
        let rs := outAll keep af.ks st.sh vs
        let sh' := if rs.all (refsLt sh.length) = true then (shOut keep af.ks st.sh vs).take sh.length else shOut keep af.ks st.sh vs
        if rs.all passO = true then some ((giveN st.toks rs sh').1, (giveN st.toks rs sh').2.1, (giveN st.toks rs sh').2.2.2) else none
      | none => none
    else none
  | none => none

def frzOut : List AV → Option (List PV)
  | [] => some []
  | .pv p :: r => (frzOut r).map (p :: ·)
  | _ => none

/-- n levels of calls. -/
def run (AP : Nat → Option AFunc) (k : Nat) : Nat → Orc
  | 0 => { p := fun _ _ => none, i := fun _ _ _ _ => none }
  | n + 1 =>
    { p := fun g pvs => match AP g with
        | some af => match af.prim with
          | some f => f pvs
          | none => if pvs.length = af.nparams ∧ pvs.length ≤ af.ntmps then
              match callBody (run AP k n) k false af (pvs.map .pv) [] [] with
              | some (rs, _) => frzOut rs
              | none => none
            else none
        | none => none
      i := fun g args sh ts => match AP g with
        | some af => if args.length ≤ af.ntmps then callBody (run AP k n) k true af args sh ts else none
        | none => none }

end Go.Ab
