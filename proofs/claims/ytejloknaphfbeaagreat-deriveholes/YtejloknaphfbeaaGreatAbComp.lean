import Derived.Calls
import Derived.Test.YtejloknaphfbeaaGreatAbDefs
/-
  From the loaded program's code to slim code: types resolved, functions under their lasting numbers. 'compF' is what the kernel holds a function's slim code against.
-/
set_option linter.unusedVariables false
set_option linter.unusedSimpArgs false
namespace Go.Ab

/-- What a program of ours notes of a function: which temporaries are private addresses (temporary, box, offset), which addresses are shared, which functions are called with the shared memory, which calls freeze arrays, what lives behind a region (by its number), and at the head of a loop (by its first region's number). -/
structure Ann where
  priv : List (Nat × Nat × Nat)
  shd : List Nat
  ps : List Nat
  live : List (Nat × List Nat)
  loops : List (Nat × List Nat)
  site : List Nat
  own : List (Nat × List Nat)
  backs : List (Nat × Nat) := []
  ks : Bool := false
  q : List Nat := []
  hot : List Nat := []
  fz : List (Nat × List Nat) := []

/-- The lasting number of each function of the program, and whether it is called with the shared memory. -/
structure Names where
  g : List (Nat × Nat)
  shf : List Nat
  bk : List (Nat × Nat × Bool) := []
  cl : List (Nat × Nat × Nat) := []

def Names.of (ρ : Names) (f : Nat) : Option Nat := look ρ.g f

def szOf (P : Program) (t : TypeId) : Option Nat := (P.info? t).map (·.size)
def bytesAt (P : Program) (t : TypeId) : Option Nat := (P.info? t).map (·.bytes)
def aggOf (P : Program) (t : TypeId) : Option Bool := (P.underlying t).map fun | .struct _ | .array .. => true | _ => false

/-- A constant, or a cell of a zero value, as pure data ('lst []': nil). -/
def constP : Value → Option PV
  | .bool b => some (.bool b)
  | .int k n => some (.int k n)
  | .string s => some (.str s.data.toList)
  | .slice none 0 0 => some (.lst [])
  | _ => none

def constA (v : Value) : Option AV :=
  match v with
  | .slice none 0 0 => some (.clp [])
  | .pointer none => some .nilp
  | .nilFunc => some .nilp
  | v => (constP v).map .pv

def mapO {α β : Type} (f : α → Option β) : List α → Option (List β)
  | [] => some []
  | x :: r => match f x, mapO f r with
    | some y, some ys => some (y :: ys)
    | _, _ => none

def zerosOf (P : Program) (t : TypeId) : Option (List PV) :=
  match (P.info? t).bind (·.zero) with
  | some z => mapO constP z.cells.toList
  | none => none

def compOpd (ρ : Names) : Operand → Option AOpd
  | .tmp t => some (.t t)
  | .const v => (constA v).map .c
  | .func f => (ρ.of f).map fun g => .c (.fn g [])
  | .global _ => none

def elemOf? (P : Program) (t : TypeId) : Option TypeId := match P.underlying t with | some (.slice e) => some e | _ => none

def fieldOf? (P : Program) (t : TypeId) (f : Nat) : Option Field := match P.underlying t with | some (.struct fs) => fs[f]? | _ => none

/-- What a value of one cell is compared as. -/
def kindOf (P : Program) (t : TypeId) : Option CK := if szOf P t = some 1 then match P.underlying t with
  | some (.int _) => some .int
  | some .string => some .str
  | some .bool => some .bool
  | _ => none
  else none

/-- A struct of fields that are one cell each. -/
def plainKinds (P : Program) : Nat → List Field → Option (List CK)
  | _, [] => some []
  | i, f :: r => if f.name ≠ "_" ∧ f.offset = i then match kindOf P f.type, plainKinds P (i + 1) r with
    | some c, some cs => some (c :: cs)
    | _, _ => none
    else none

/-- A type's zero value as one value. -/
def zeroOf (P : Program) (t : TypeId) : Option PV := match (P.info? t).bind (·.zero) with
  | some (.agg cs) => (mapO constP cs.toList).map .agg
  | some v => constP v
  | none => none

/-- Of which kind a comparison's operands may be. -/
def compBin (P : Program) (op : BinOp) (t : TypeId) : Option VOp :=
  match P.underlying t with
  | some (.int _) | some .string => some (.bin op)
  | some .bool => if op = .eql then some (.beq false) else if op = .neq then some (.beq true) else none
  | some (.struct fs) => if P.stoodInHeld t = false ∧ P.eqGuardType P.depth t = false then match plainKinds P 0 fs.toList with
      | some cs => if op = .eql then some (.veq cs false) else if op = .neq then some (.veq cs true) else none
      | none => none
    else none
  | _ => none

def fieldsOf (P : Program) (t : TypeId) : Option (List (Nat × Nat)) :=
  match P.underlying t with
  | some (.struct fs) => mapO (fun f => (szOf P f.type).map fun s => (f.offset, s)) fs.toList
  | _ => none

def placesOf (P : Program) (t : TypeId) (is : List Nat) : Option (List (Nat × Nat)) :=
  match fieldsOf P t with
  | some all => mapO (fun i => all[i]?) is
  | none => none

/-- The parts of a slice's literal are its elements, in order, each once. -/
def inOrder : Nat → List (Nat × Operand) → Bool
  | _, [] => true
  | i, (j, _) :: r => i == j && inOrder (i + 1) r

def compK (P : Program) (ρ : Names) (A : Ann) (dst : Option Nat) : Op → Option (AK × List Operand)
  | .move x | .assign x => some (.v .mv, [x])
  | .pick c a b => some (.v .pick, [c, a, b])
  | .binOp op t x y _ => (compBin P op t).map fun o => (.v o, [x, y])
  | .unOp op _ x => some (.v (.un op), [x])
  | .convert s d x => match P.underlying s, P.underlying d with
    | some (.int _), some (.int k) => some (.v (.conv k), [x])
    | _, _ => none
  | .extract x i => some (.v (.ext i), [x])
  | .field t x f => match fieldOf? P t f with
    | some fd => match szOf P fd.type, aggOf P fd.type with
      | some sz, some ag => some (.v (.field fd.offset sz ag), [x])
      | _, _ => none
    | none => none
  | .fieldAddr t x f => match fieldOf? P t f with
    | some fd => match szOf P fd.type with
      | some s => if s = 0 then none else some (.v (.faddr fd.offset), [x])
      | none => none
    | none => none
  | .indexAddr t x i => match elemOf? P t with
    | some e => (szOf P e).map fun sz => (.v (.iaddr sz), [x, i])
    | none => none
  | .index t x i => match P.underlying t with
    | some .string => some (.v .index, [x, i])
    | _ => none
  | .build t ps => match P.underlying t with
    | some (.struct _) => match zerosOf P t, placesOf P t (ps.toList.map (·.1)) with
      | some z, some pl => some (.v (.build z pl), ps.toList.map (·.2))
      | _, _ => none
    | _ => none
  | .buildSlice t n ps => match elemOf? P t with
    | some e => match szOf P e, zerosOf P e with
      | some sz, some _ => if ps.size = n ∧ inOrder 0 ps.toList = true ∧ 0 < sz ∧ n * sz ≤ 16777216 then some (.v (.bslice sz), ps.toList.map (·.2)) else none
      | _, _ => none
    | none => none
  | .load t x => match szOf P t, aggOf P t with
    | some sz, some ag => match x with
      | .tmp tx => match look A.priv tx with
        | some (k, o) => some (.loadL k o sz ag, [x])
        | none => if A.shd.contains tx then some (.loadS sz ag, [x]) else some (.v (.loadE sz ag), [x])
      | _ => none
    | _, _ => none
  | .store t x v => match szOf P t, x with
    | some sz, .tmp tx => match look A.priv tx with
      | some (k, o) => some (.storeL k o sz, [x, v])
      | none => some (.storeS sz, [x, v])
    | _, _ => none
  | .alloc t => match zerosOf P t, dst with
    | some z, some d => match look A.priv d with
      | some (k, 0) => if k = d then some (.alloc d z, []) else none
      | some _ => none
      | none => some (.allocS z, [])
    | _, _ => none
  | .box t x => match szOf P t, dst with
    | some sz, some d => match look A.priv d with
      | some (k, 0) => if k = d then some (.box d sz, [x]) else none
      | some _ => none
      | none => some (.boxS sz, [x])
    | _, _ => none
  | .makeMap _ r => if r.isNone = true then some (.makeM, []) else none
  | .lookup t x i ok => match P.underlying t with
    | some (.map k e) => match kindOf P k, zeroOf P e with
      | some c, some z => some (.lookM c ok z, [x, i])
      | _, _ => none
    | _ => none
  | .mapUpdate t m i x | .insert t m i x => match P.underlying t with
    | some (.map k _) => (kindOf P k).map fun c => (.putM c, [m, i, x])
    | _ => none
  | .nilCheck x => some (.v .nilchk, [x])
  | .makeFunc fn first cap => match fn with
    | .func f => if first.size = 0 then (ρ.of f).map fun g => (.v (.mkfn g), cap.toList) else none
    | _ => none
  | .makeSlice t l c => match elemOf? P t with
    | some e => match szOf P e, bytesAt P e, aggOf P e, zerosOf P e with
      | some sz, some by_, some ag, some z => if z.length = sz ∧ 0 < sz then some (.makeS sz by_ ag z, [l, c]) else none
      | _, _, _, _ => none
    | none => none
  | .slice t x lo hi mx => match P.underlying t with
    | some (.slice e) => if mx.isSome = false ∧ (dst.map (A.hot.contains ·)).getD false = true then (szOf P e).map fun sz => (.v (.sliceH sz lo.isSome hi.isSome), x :: (lo.toList ++ hi.toList ++ mx.toList))
      else (szOf P e).map fun sz => (.v (.slice false sz lo.isSome hi.isSome mx.isSome), x :: (lo.toList ++ hi.toList ++ mx.toList))
    | some .string => if mx.isSome then none else some (.v (.slice true 0 lo.isSome hi.isSome false), x :: (lo.toList ++ hi.toList ++ mx.toList))
    | _ => none
  | .call c => match c.callee with
    | .builtin .len => match c.args.toList, (c.argTypes[0]?).bind P.underlying with
      | [x], some (.slice _) => some (.v .len, [x])
      | [x], some .string => some (.v .lenS, [x])
      | _, _ => none
    | .builtin .min => match c.args.toList with
      | [x, y] => some (.v .mn, [x, y])
      | _ => none
    | .builtin .max => match c.args.toList with
      | [x, y] => some (.v .mx, [x, y])
      | _ => none
    | .builtin .append => match c.args.toList, (c.argTypes[0]?).bind (elemOf? P), (c.argTypes[1]?).bind (elemOf? P) with
      | [x, y], some e, some _ => match szOf P e, bytesAt P e, zerosOf P e with
        | some sz, some by_, some z => if z.length = sz ∧ 0 < sz ∧ 0 < by_ then
            if (dst.map (A.hot.contains ·)).getD false then (aggOf P e).map fun ag => (.appendS sz by_ ag, [x, y]) else some (.append sz by_, [x, y])
          else none
        | _, _, _ => none
      | _, _, _ => none
    | .builtin .clear => match c.args.toList, (c.argTypes[0]?).bind (elemOf? P) with
      | [x], some e => match szOf P e, zerosOf P e with
        | some sz, some z => if z.length = sz ∧ 0 < sz then some (.clearS sz z, [x]) else none
        | _, _ => none
      | _, _ => none
    | .value (.func f) => match ρ.of f with
      | some g => match look ρ.cl g with
        | some (sz, by_) => if c.args.size = 1 then some (.clone sz by_, c.args.toList) else none
        | none => if (dst.map (A.q.contains ·)).getD false then some (.callQ g, c.args.toList)
        else if ρ.shf.contains g || (dst.map (A.site.contains ·)).getD false then some (.callI g ((dst.bind (look A.own)).getD []), c.args.toList)
        else if (dst.map (A.ps.contains ·)).getD false then some (.callPS g, c.args.toList) else some (.callP g, c.args.toList)
      | none => none
    | .value (.tmp t) => some (.callV, .tmp t :: c.args.toList)
    | _ => none
  | _ => none

def compOp (P : Program) (ρ : Names) (A : Ann) (N : Nat) (ops : Array Oper) (o : Oper) : Option AOp :=
  match compK P ρ A o.dst o.op with
  | some (k, args) => match mapO (compOpd ρ) args with
    | some as =>
      if (o.dst.map (fun d => decide (d < N))).getD true = true then
        match o.guard with
        | none => some { dst := o.dst, guard := none, args := as, op := k }
        | some (j, b) => match (ops[j]?).bind (·.dst) with
          | some t => some { dst := o.dst, guard := some (t, b), args := as, op := k }
          | none => none
      else none
    | none => none
  | none => none

/-! ### A region that draws its order -/

/-- What an operation looks at. -/
def AOp.looks (o : AOp) : List Nat :=
  (o.args.filterMap fun | .t n => some n | _ => none) ++ (match o.guard with | some (t, _) => [t] | none => [])

def AK.touchS : AK → Bool
  | .loadS .. | .storeS _ | .boxS _ | .allocS _ | .makeS .. | .callPS _ | .callI .. | .callV | .makeM | .lookM .. | .putM _ | .appendS .. | .clearS .. => true
  | _ => false

def AK.readS : AK → Bool
  | .loadS .. | .lookM .. => true
  | _ => false

def AK.touchT : AK → Bool
  | .append .. | .appendS .. | .clone .. | .callI .. | .callQ _ | .callV => true
  | _ => false

def AK.writesK : AK → Bool
  | .storeL .. | .alloc .. | .box .. => true
  | _ => false

def indep (x y : AOp) : Bool :=
  (match x.dst with | some d => !(y.looks).contains d && y.dst != some d | none => true) &&
  (match y.dst with | some d => !(x.looks).contains d | none => true) &&
  (!(x.op.touchS && y.op.touchS) || (x.op.readS && y.op.readS)) && !(x.op.touchT && y.op.touchT) &&
  (match x.op.key, y.op.key with
   | some a, some b => a != b || !(x.op.writesK || y.op.writesK)
   | _, _ => true)

/-- For each operation the set (as a number's bits) of those before it by the edges, however far. -/
def masks : List Oper → List Nat → List Nat
  | [], acc => acc
  | o :: r, acc => masks r (acc ++ [o.after.toList.foldl (fun s e => if Region.binds .any e then s ||| 2 ^ e.on ||| acc.getD e.on 0 else s) 0])

def pairsOk (ms : List Nat) (i : Nat) (x : AOp) : Nat → List AOp → Bool
  | _, [] => true
  | j, y :: r => ((ms.getD j 0).testBit i || indep x y) && pairsOk ms i x (j + 1) r

def allPairs (ms : List Nat) : Nat → List AOp → Bool
  | _, [] => true
  | i, x :: r => pairsOk ms i x (i + 1) r && allPairs ms (i + 1) r

def edgesDown : Nat → List Oper → Bool
  | _, [] => true
  | i, o :: r => o.after.toList.all (fun e => !Region.binds .any e || decide (e.on < i)) && edgesDown (i + 1) r

def drawOk (ops : List Oper) (as : List AOp) : Bool := edgesDown 0 ops && allPairs (masks ops []) 0 as

def firstReg : Code → Option Nat
  | .region id _ _ => some id
  | .seq a b | .cond _ a b => match firstReg a with | some i => some i | none => firstReg b
  | .block _ c | .loop c | .scope c => firstReg c
  | _ => none

def ACode.noBack : ACode → Bool
  | .seq a b | .cond _ a b => a.noBack && b.noBack
  | .block _ b | .loop _ b => b.noBack
  | .back .. => false
  | _ => true

/-- Ahead of a region: what is written no more. -/
def withFrz (o : Option (List Nat)) (c : ACode) : ACode := match o with
  | some ts => .seq (.frz ts) c
  | none => c

def compC (P : Program) (ρ : Names) (A : Ann) (N : Nat) : Code → Option ACode
  | .skip => some .skip
  | .region id ops draw => match mapO (compOp P ρ A N ops) ops.toList with
    | some as => if draw then (if drawOk ops.toList as then some (withFrz (look A.fz id) (.reg as ((look A.live id).getD []))) else none) else some (withFrz (look A.fz id) (.reg as ((look A.live id).getD [])))
    | none => none
  | .seq a b => match compC P ρ A N a, compC P ρ A N b with
    | some x, some y => some (.seq x y)
    | _, _ => none
  | .cond c a b => match compOpd ρ c, compC P ρ A N a, compC P ρ A N b with
    | some c, some x, some y => some (.cond c x y)
    | _, _, _ => none
  | .block id b => (compC P ρ A N b).map (.block id)
  | .loop b => (compC P ρ A N b).map (.loop (((firstReg b).bind (look A.loops)).getD []))
  | .exit id => some (.exit id)
  | .ret => some .ret
  | .rangeFunc (.tmp t) ps a b => match ps.toList, look A.backs t with
    | [pi, px], some gb => match look ρ.bk gb, compC P ρ A N a, compC P ρ A N b with
      | some (sz, ag), some x, some y => if x.noBack = true ∧ y.noBack = true ∧ pi < N ∧ px < N then some (.back (.t t) gb pi px sz ag (((firstReg a).bind (look A.loops)).getD []) x y) else none
      | _, _, _ => none
    | _, _ => none
  | _ => none

def compR (P : Program) : ResultVar → Option ARes
  | .tmp t => some (.t t)
  | .cell a t => match szOf P t, aggOf P t with
    | some sz, some ag => some (.c a sz ag)
    | _, _ => none

def compF (P : Program) (ρ : Names) (A : Ann) (fn : Func) : Option AFunc :=
  match fn.body, mapO (compR P) fn.results.toList with
  | some b, some rs => if fn.params.size + fn.nfree ≤ fn.ntmps ∧ fn.name != "runtime.NumGoroutine" then
      (compC P ρ A fn.ntmps b).map fun c => { nparams := fn.params.size, ntmps := fn.ntmps, results := rs, body := c, ks := A.ks } else none
  | _, _ => none

end Go.Ab
