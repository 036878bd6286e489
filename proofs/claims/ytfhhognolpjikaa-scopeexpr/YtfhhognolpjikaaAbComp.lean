import Derived.Test.YtfhhognolpjikaaAbDefs
import Derived.Calls
/-
  From the loaded program's code to slim code: types resolved, functions under their lasting numbers. 'compF' is what the kernel holds a function's slim code against.
-/
set_option linter.unusedVariables false
set_option linter.unusedSimpArgs false
set_option maxRecDepth 100000
set_option maxHeartbeats 8000000
namespace Go.Ab
structure ki where
 km:List (Nat×Nat×Nat)
 EU:List Nat
 ps:List Nat
 live:List (Nat×List Nat)
 loops:List (Nat×List Nat)
 site:List Nat
 own:List (Nat×List Nat)
 w7:List (Nat×Nat):=[]
 ks:Bool:=false
 q:List Nat:=[]
 H_:List Nat:=[]
 fz:List (Nat×List Nat):=[]
 dup:List (Nat×Nat):=[]
structure Names where
 g:List (Nat×Nat)
 Il:List Nat
 bk:List (Nat×Nat×Bool):=[]
 cl:List (Nat×Nat×Nat):=[]
def Names.of (ρ:Names) (f:Nat):Option Nat:=look ρ.g f
def cD (P:Program) (t:TypeId):Option Nat:=(P.info? t).map (·.size)
def ei (P:Program) (t:TypeId):Option Nat:=(P.info? t).map (·.bytes)
def eV (P:Program) (t:TypeId):Option Bool:=(P.underlying t).map fun | .struct _ | .array ..=>true | _=>false
def cW:Value→Option PV
 | .bool b=>some (.bool b)
 | .int k n=>some (.int k n)
 | .string s=>some (.str s.data.toList)
 | .slice none 0 0=>some (.aI [])
 | _=>none
def tr (v:Value):Option AV:=
 match v with
 | .slice none 0 0=>some (.bR [])
 | .pointer none=>some .cM
 | .nilFunc=>some .cM
 | v=>(cW v).map .pv
def cX {α β:Type} (f:α→Option β):List α→Option (List β)
 | []=>some []
 | x::r=>match f x,cX f r with
   | some y,some ys=>some (y::ys)
   | _,_=>none
def cd (P:Program) (t:TypeId):Option (List PV):=
 match (P.info? t).bind (·.zero) with
 | some z=>cX cW z.cells.toList
 | none=>none
def fZ (ρ:Names):Operand→Option d3
 | .tmp t=>some (.t t)
 | .const v=>(tr v).map .c
 | .func f=>(ρ.of f).map fun g=>.c (.fn g [])
 | .global _=>none
def ej (P:Program) (t:TypeId):Option TypeId:=match P.underlying t with | some (.slice e)=>some e | _=>none
def gp (P:Program) (t:TypeId) (f:Nat):Option Field:=match P.underlying t with | some (.struct fs)=>fs[f]? | _=>none
def eW (P:Program) (t:TypeId):Option CK:=if cD P t=some 1 then match P.underlying t with
 | some (.int _)=>some .int
 | some .string=>some .str
 | some .bool=>some .bool
 | _=>none
 else none
def fm (P:Program):Nat→List Field→Option (List CK)
 | _,[]=>some []
 | i,f::r=>if f.name ≠ "_"∧f.offset=i then match eW P f.type,fm P (i+1) r with
   | some c,some cs=>some (c::cs)
   | _,_=>none
   else none
def zeroOf (P:Program) (t:TypeId):Option PV:=match (P.info? t).bind (·.zero) with
 | some (.agg cs)=>(cX cW cs.toList).map .agg
 | some v=>cW v
 | none=>none
def w8 (P:Program) (op:BinOp) (t:TypeId):Option AH:=
 match P.underlying t with
 | some (.int _) | some .string=>some (.bin op)
 | some .bool=>if op=.eql then some (.beq false) else if op=.neq then some (.beq true) else none
 | some (.struct fs)=>if P.stoodInHeld t=false∧P.eqGuardType P.depth t=false then match fm P 0 fs.toList with
     | some cs=>if op=.eql then some (.ES cs false) else if op=.neq then some (.ES cs true) else none
     | none=>none
   else none
 | _=>none
def fieldsOf (P:Program) (t:TypeId):Option (List (Nat×Nat)):=
 match P.underlying t with
 | some (.struct fs)=>cX (fun f=>(cD P f.type).map fun s=>(f.offset,s)) fs.toList
 | _=>none
def placesOf (P:Program) (t:TypeId) (is:List Nat):Option (List (Nat×Nat)):=
 match fieldsOf P t with
 | some all=>cX (fun i=>all[i]?) is
 | none=>none
def my:Nat→List (Nat×Operand)→Bool
 | _,[]=>true
 | i,(j,_)::r=>i == j && my (i+1) r
def bp (P:Program) (ρ:Names) (A:ki) (dst:Option Nat):Op→Option (AK×List Operand)
 | .move x | .assign x=>some (.v .mv,[x])
 | .pick c a b=>some (.v .pick,[c,a,b])
 | .binOp op t x y _=>(w8 P op t).map fun o=>(.v o,[x,y])
 | .unOp op _ x=>some (.v (.un op),[x])
 | .convert s d x=>match P.underlying s,P.underlying d with
   | some (.int _),some (.int k)=>some (.v (.conv k),[x])
   | _,_=>none
 | .extract x i=>some (.v (.ext i),[x])
 | .field t x f=>match gp P t f with
   | some fd=>match cD P fd.type,eV P fd.type with
     | some sz,some ag=>some (.v (.field fd.offset sz ag),[x])
     | _,_=>none
   | none=>none
 | .fieldAddr t x f=>match gp P t f with
   | some fd=>match cD P fd.type with
     | some s=>if s=0 then none else some (.v (.b_ fd.offset),[x])
     | none=>none
   | none=>none
 | .indexAddr t x i=>match ej P t with
   | some e=>(cD P e).map fun sz=>(.v (.aH sz),[x,i])
   | none=>none
 | .index t x i=>match P.underlying t with
   | some .string=>some (.v .index,[x,i])
   | _=>none
 | .build t ps=>match P.underlying t with
   | some (.struct _)=>match cd P t,placesOf P t (ps.toList.map (·.1)) with
     | some z,some pl=>some (.v (.build z pl),ps.toList.map (·.2))
     | _,_=>none
   | _=>none
 | .buildSlice t n ps=>match ej P t with
   | some e=>match cD P e,cd P e with
     | some sz,some _=>if ps.size=n∧my 0 ps.toList=true∧0<sz∧n*sz≤16777216 then some (.v (.a6 sz),ps.toList.map (·.2)) else none
     | _,_=>none
   | none=>none
 | .load t x=>match cD P t,eV P t with
   | some sz,some ag=>match x with
     | .tmp tx=>match look A.km tx with
       | some (k,o)=>some (.de k o sz ag,[x])
       | none=>if A.EU.contains tx then some (.aR sz ag,[x]) else some (.v (.aS sz ag),[x])
     | _=>none
   | _,_=>none
 | .store t x v=>match cD P t,x with
   | some sz,.tmp tx=>match look A.km tx with
     | some (k,o)=>some (.d4 k o sz,[x,v])
     | none=>some (.cz sz,[x,v])
   | _,_=>none
 | .alloc t=>match cd P t,dst with
   | some z,some d=>match look A.km d with
     | some (k,0)=>if k=d then some (.alloc d z,[]) else none
     | some _=>none
     | none=>some (.gl z,[])
   | _,_=>none
 | .box t x=>match cD P t,dst with
   | some sz,some d=>match look A.km d with
     | some (k,0)=>if k=d then some (.box d sz,[x]) else none
     | some _=>none
     | none=>some (.kX sz,[x])
   | _,_=>none
 | .makeMap _ r=>if r.isNone=true then some (.kj,[]) else none
 | .lookup t x i ok=>match P.underlying t with
   | some (.map k e)=>match eW P k,zeroOf P e with
     | some c,some z=>some (.hH c ok z,[x,i])
     | _,_=>none
   | _=>none
 | .mapUpdate t m i x | .insert t m i x=>match P.underlying t with
   | some (.map k _)=>(eW P k).map fun c=>(.mG c,[m,i,x])
   | _=>none
 | .nilCheck x=>some (.v .aQ,[x])
 | .makeFunc fn first cap=>match fn with
   | .func f=>if first.size=0 then (ρ.of f).map fun g=>(.v (.AL g),cap.toList) else none
   | _=>none
 | .makeSlice t l c=>match ej P t with
   | some e=>match cD P e,ei P e,eV P e,cd P e with
     | some sz,some by_,some ag,some z=>if z.length=sz∧0<sz then some (.jI sz by_ ag z,[l,c]) else none
     | _,_,_,_=>none
   | none=>none
 | .slice t x lo hi mx=>match P.underlying t with
   | some (.slice e)=>if mx.isSome=false∧(dst.map (A.H_.contains ·)).getD false=true then (cD P e).map fun sz=>(.v (.kW sz lo.isSome hi.isSome),x::(lo.toList++hi.toList++mx.toList))
     else (cD P e).map fun sz=>(.v (.slice false sz lo.isSome hi.isSome mx.isSome),x::(lo.toList++hi.toList++mx.toList))
   | some .string=>if mx.isSome then none else some (.v (.slice true 0 lo.isSome hi.isSome false),x::(lo.toList++hi.toList++mx.toList))
   | _=>none
 | .call c=>match c.callee with
   | .builtin .len=>match c.args.toList,(c.argTypes[0]?).bind P.underlying with
     | [x],some (.slice _)=>some (.v .len,[x])
     | [x],some .string=>some (.v .il,[x])
     | _,_=>none
   | .builtin .min=>match c.args.toList with
     | [x,y]=>some (.v .mn,[x,y])
     | _=>none
   | .builtin .max=>match c.args.toList with
     | [x,y]=>some (.v .mx,[x,y])
     | _=>none
   | .builtin .append=>match c.args.toList,(c.argTypes[0]?).bind (ej P),(c.argTypes[1]?).bind (ej P) with
     | [x,y],some e,some _=>match cD P e,ei P e,cd P e with
       | some sz,some by_,some z=>if z.length=sz∧0<sz∧0<by_ then
           if (dst.map (A.H_.contains ·)).getD false then (eV P e).map fun ag=>(.cI sz by_ ag,[x,y]) else match dst.bind (look A.dup) with
             | some u=>some (.eg sz by_,[x,y,.tmp u])
             | none=>some (.append sz by_,[x,y])
         else none
       | _,_,_=>none
     | _,_,_=>none
   | .builtin .clear=>match c.args.toList,(c.argTypes[0]?).bind (ej P) with
     | [x],some e=>match cD P e,cd P e with
       | some sz,some z=>if z.length=sz∧0<sz then some (.fR sz z,[x]) else none
       | _,_=>none
     | _,_=>none
   | .builtin .copy=>match c.args.toList,(c.argTypes[0]?).bind (ej P),(c.argTypes[1]?).bind (ej P) with
     | [x,y],some e,some _=>match cD P e with
       | some sz=>some (.iP sz,[x,y])
       | none=>none
     | _,_,_=>none
   | .value (.func f)=>match ρ.of f with
     | some g=>match look ρ.cl g with
       | some (sz,by_)=>if c.args.size=1 then some (.clone sz by_,c.args.toList) else none
       | none=>if (dst.map (A.q.contains ·)).getD false then some (.hP g,c.args.toList)
       else if ρ.Il.contains g || (dst.map (A.site.contains ·)).getD false then some (.aA g ((dst.bind (look A.own)).getD []),c.args.toList)
       else if (dst.map (A.ps.contains ·)).getD false then some (.eI g,c.args.toList) else some (.aB g,c.args.toList)
     | none=>none
   | .value (.tmp t)=>some (.eB,.tmp t::c.args.toList)
   | _=>none
 | _=>none
def eA (P:Program) (ρ:Names) (A:ki) (N:Nat) (ops:Array Oper) (o:Oper):Option dt:=
 match bp P ρ A o.dst o.op with
 | some (k,args)=>match cX (fZ ρ) args with
   | some as=>
     if (o.dst.map (fun d=>decide (d<N))).getD true=true then
       match o.guard with
       | none=>some { dst:=o.dst,guard:=none,args:=as,op:=k }
       | some (j,b)=>match (ops[j]?).bind (·.dst) with
         | some t=>some { dst:=o.dst,guard:=some (t,b),args:=as,op:=k }
         | none=>none
     else none
   | none=>none
 | none=>none
def dt.looks (o:dt):List Nat:=
 (o.args.filterMap fun | .t n=>some n | _=>none)++(match o.guard with | some (t,_)=>[t] | none=>[])
def AK.fU:AK→Bool
 | .aR .. | .cz _ | .kX _ | .gl _ | .jI .. | .eI _ | .aA .. | .eB | .kj | .hH .. | .mG _ | .cI .. | .fR .. | .iP _=>true
 | _=>false
def AK.oq:AK→Bool
 | .aR .. | .hH ..=>true
 | _=>false
def AK.eL:AK→Bool
 | .append .. | .cI .. | .eg .. | .clone .. | .aA .. | .hP _ | .eB=>true
 | _=>false
def AK.f_:AK→Bool
 | .d4 .. | .alloc .. | .box ..=>true
 | _=>false
def indep (x y:dt):Bool:=
 (match x.dst with | some d=>!(y.looks).contains d && y.dst != some d | none=>true) &&
 (match y.dst with | some d=>!(x.looks).contains d | none=>true) &&
 (!(x.op.fU && y.op.fU) || (x.op.oq && y.op.oq)) && !(x.op.eL && y.op.eL) &&
 (match x.op.key,y.op.key with
  | some a,some b=>a != b || !(x.op.f_ || y.op.f_)
  | _,_=>true)
def iV:List Oper→List Nat→List Nat
 | [],acc=>acc
 | o::r,acc=>iV r (acc++[o.after.toList.foldl (fun s e=>if Region.binds .any e then s ||| 2 ^ e.on ||| acc.getD e.on 0 else s) 0])
def mz (ms:List Nat) (i:Nat) (x:dt):Nat→List dt→Bool
 | _,[]=>true
 | j,y::r=>((ms.getD j 0).testBit i || indep x y) && mz ms i x (j+1) r
def iW (ms:List Nat):Nat→List dt→Bool
 | _,[]=>true
 | i,x::r=>mz ms i x (i+1) r && iW ms (i+1) r
def fo:Nat→List Oper→Bool
 | _,[]=>true
 | i,o::r=>o.after.toList.all (fun e=>!Region.binds .any e || decide (e.on<i)) && fo (i+1) r
def pa (ops:List Oper) (as:List dt):Bool:=fo 0 ops && iW (iV ops []) 0 as
def gr:Code→Option Nat
 | .region id _ _=>some id
 | .seq a b | .cond _ a b=>match gr a with | some i=>some i | none=>gr b
 | .block _ c | .loop c | .scope c=>gr c
 | _=>none
def aw.dM:aw→Bool
 | .seq a b | .cond _ a b=>a.dM && b.dM
 | .block _ b | .loop _ b=>b.dM
 | .back ..=>false
 | _=>true
def kn (o:Option (List Nat)) (c:aw):aw:=match o with
 | some ts=>.seq (.eM ts) c
 | none=>c
def dY (P:Program) (ρ:Names) (A:ki) (N:Nat):Code→Option aw
 | .skip=>some .skip
 | .region id ops draw=>match cX (eA P ρ A N ops) ops.toList with
   | some as=>if draw then (if pa ops.toList as then some (kn (look A.fz id) (.ah as ((look A.live id).getD []))) else none) else some (kn (look A.fz id) (.ah as ((look A.live id).getD [])))
   | none=>none
 | .seq a b=>match dY P ρ A N a,dY P ρ A N b with
   | some x,some y=>some (.seq x y)
   | _,_=>none
 | .cond c a b=>match fZ ρ c,dY P ρ A N a,dY P ρ A N b with
   | some c,some x,some y=>some (.cond c x y)
   | _,_,_=>none
 | .block id b=>(dY P ρ A N b).map (.block id)
 | .loop b=>(dY P ρ A N b).map (.loop (((gr b).bind (look A.loops)).getD []))
 | .exit id=>some (.exit id)
 | .ret=>some .ret
 | .rangeFunc (.tmp t) ps a b=>match ps.toList,look A.w7 t with
   | [pi,px],some gb=>match look ρ.bk gb,dY P ρ A N a,dY P ρ A N b with
     | some (sz,ag),some x,some y=>if x.dM=true∧y.dM=true∧pi<N∧px<N then some (.back (.t t) gb pi px sz ag (((gr a).bind (look A.loops)).getD []) x y) else none
     | _,_,_=>none
   | _,_=>none
 | _=>none
def w9 (P:Program):ResultVar→Option mH
 | .tmp t=>some (.t t)
 | .cell a t=>match cD P t,eV P t with
   | some sz,some ag=>some (.c a sz ag)
   | _,_=>none
def mN (P:Program) (ρ:Names) (A:ki) (fn:Func):Option aC:=
 match fn.body,cX (w9 P) fn.results.toList with
 | some b,some rs=>if fn.params.size+fn.nfree≤fn.ntmps∧fn.name != "runtime.NumGoroutine" then
     (dY P ρ A fn.ntmps b).map fun c=>{ nparams:=fn.params.size,ntmps:=fn.ntmps,results:=rs,body:=c,ks:=A.ks } else none
 | _,_=>none
end Go.Ab
