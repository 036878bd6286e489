import Derived.Test.YtcjggpmnbcfedaaDoorAbDefs
import Derived.Calls
/-
  From the loaded program's code to slim code: types resolved, functions under their lasting numbers. 'compF' is what the kernel holds a function's slim code against.
-/
set_option linter.unusedVariables false
set_option linter.unusedSimpArgs false
set_option maxRecDepth 100000
set_option maxHeartbeats 8000000
namespace Go.Ab
structure jL where
 jR:List (Nat×Nat×Nat)
 DE:List Nat
 ps:List Nat
 live:List (Nat×List Nat)
 loops:List (Nat×List Nat)
 site:List Nat
 own:List (Nat×List Nat)
 v9:List (Nat×Nat):=[]
 ks:Bool:=false
 q:List Nat:=[]
 Gj:List Nat:=[]
 fz:List (Nat×List Nat):=[]
 dup:List (Nat×Nat):=[]
 ro:List Nat:=[]
structure Names where
 g:List (Nat×Nat)
 Gt:List Nat
 bk:List (Nat×Nat×Bool):=[]
 cl:List (Nat×Nat×Nat):=[]
def Names.of (ρ:Names) (f:Nat):Option Nat:=look ρ.g f
def cu (P:Program) (t:TypeId):Option Nat:=(P.info? t).map (·.size)
def dR (P:Program) (t:TypeId):Option Nat:=(P.info? t).map (·.bytes)
def er (P:Program) (t:TypeId):Option Bool:=(P.underlying t).map fun | .struct _ | .array ..=>true | _=>false
def cJ:Value→Option PV
 | .bool b=>some (.bool b)
 | .int k n=>some (.int k n)
 | .string s=>some (.str s.data.toList)
 | .slice none 0 0=>some (.a8 [])
 | _=>none
def sA (v:Value):Option AV:=
 match v with
 | .slice none 0 0=>some (.cg [])
 | .pointer none=>some .cz
 | .nilFunc=>some .cz
 | v=>(cJ v).map .pv
def cK {α β:Type} (f:α→Option β):List α→Option (List β)
 | []=>some []
 | x::r=>match f x,cK f r with
   | some y,some ys=>some (y::ys)
   | _,_=>none
def bU (P:Program) (t:TypeId):Option (List PV):=
 match (P.info? t).bind (·.zero) with
 | some z=>cK cJ z.cells.toList
 | none=>none
def fb (ρ:Names):Operand→Option dD
 | .tmp t=>some (.t t)
 | .const v=>(sA v).map .c
 | .func f=>(ρ.of f).map fun g=>.c (.fn g [])
 | .global _=>none
def dS (P:Program) (t:TypeId):Option TypeId:=match P.underlying t with | some (.slice e)=>some e | _=>none
def fD (P:Program) (t:TypeId) (f:Nat):Option Field:=match P.underlying t with | some (.struct fs)=>fs[f]? | _=>none
def eu (P:Program) (t:TypeId):Option CK:=if cu P t=some 1 then match P.underlying t with
 | some (.int _)=>some .int
 | some .string=>some .str
 | some .bool=>some .bool
 | _=>none
 else none
def eL (P:Program):Nat→List Field→Option (List CK)
 | _,[]=>some []
 | i,f::r=>if f.name ≠ "_"∧f.offset=i then match eu P f.type,eL P (i+1) r with
   | some c,some cs=>some (c::cs)
   | _,_=>none
   else none
def zeroOf (P:Program) (t:TypeId):Option PV:=match (P.info? t).bind (·.zero) with
 | some (.agg cs)=>(cK cJ cs.toList).map .agg
 | some v=>cJ v
 | none=>none
def v_ (P:Program) (op:BinOp) (t:TypeId):Option zM:=
 match P.underlying t with
 | some (.int _) | some .string=>some (.bin op)
 | some .bool=>if op=.eql then some (.beq false) else if op=.neq then some (.beq true) else none
 | some (.struct fs)=>if P.stoodInHeld t=false∧P.eqGuardType P.depth t=false then match eL P 0 fs.toList with
     | some cs=>if op=.eql then some (.EZ cs false) else if op=.neq then some (.EZ cs true) else none
     | none=>none
   else none
 | _=>none
def fieldsOf (P:Program) (t:TypeId):Option (List (Nat×Nat)):=
 match P.underlying t with
 | some (.struct fs)=>cK (fun f=>(cu P f.type).map fun s=>(f.offset,s)) fs.toList
 | _=>none
def placesOf (P:Program) (t:TypeId) (is:List Nat):Option (List (Nat×Nat)):=
 match fieldsOf P t with
 | some all=>cK (fun i=>all[i]?) is
 | none=>none
def lR:Nat→List (Nat×Operand)→Bool
 | _,[]=>true
 | i,(j,_)::r=>i == j && lR (i+1) r
def a9 (P:Program) (ρ:Names) (A:jL) (dst:Option Nat):Op→Option (AK×List Operand)
 | .move x | .assign x=>some (.v .mv,[x])
 | .pick c a b=>some (.v .pick,[c,a,b])
 | .binOp op t x y _=>(v_ P op t).map fun o=>(.v o,[x,y])
 | .unOp op _ x=>some (.v (.un op),[x])
 | .convert s d x=>match P.underlying s,P.underlying d with
   | some (.int _),some (.int k)=>some (.v (.conv k),[x])
   | some (.slice e),some .string=>match P.underlying e with
     | some (.int .u8)=>some (.v .b2s,[x])
     | _=>none
   | _,_=>none
 | .extract x i=>some (.v (.ext i),[x])
 | .field t x f=>match fD P t f with
   | some fd=>match cu P fd.type,er P fd.type with
     | some sz,some ag=>some (.v (.field fd.offset sz ag),[x])
     | _,_=>none
   | none=>none
 | .fieldAddr t x f=>match fD P t f with
   | some fd=>match cu P fd.type with
     | some s=>if s=0 then none else some (.v (.bE fd.offset),[x])
     | none=>none
   | none=>none
 | .indexAddr t x i=>match dS P t with
   | some e=>(cu P e).map fun sz=>(.v (.aO sz),[x,i])
   | none=>none
 | .index t x i=>match P.underlying t with
   | some .string=>some (.v .index,[x,i])
   | _=>none
 | .build t ps=>match P.underlying t with
   | some (.struct _)=>match bU P t,placesOf P t (ps.toList.map (·.1)) with
     | some z,some pl=>some (.v (.build z pl),ps.toList.map (·.2))
     | _,_=>none
   | _=>none
 | .buildSlice t n ps=>match dS P t with
   | some e=>match cu P e,bU P e with
     | some sz,some _=>if ps.size=n∧lR 0 ps.toList=true∧0<sz∧n*sz≤16777216 then some (.v (.bf sz),ps.toList.map (·.2)) else none
     | _,_=>none
   | none=>none
 | .load t x=>match cu P t,er P t with
   | some sz,some ag=>match x with
     | .tmp tx=>match look A.jR tx with
       | some (k,o)=>some (.cD k o sz ag,[x])
       | none=>if A.DE.contains tx then some (.aJ sz ag,[x]) else some (.v (.aR sz ag),[x])
     | _=>none
   | _,_=>none
 | .store t x v=>match cu P t,x with
   | some sz,.tmp tx=>match look A.jR tx with
     | some (k,o)=>some (.ee k o sz,[x,v])
     | none=>some (.dE sz,[x,v])
   | _,_=>none
 | .alloc t=>match bU P t,dst with
   | some z,some d=>match look A.jR d with
     | some (k,0)=>if k=d then some (.alloc d z,[]) else none
     | some _=>none
     | none=>some (.gz z,[])
   | _,_=>none
 | .box t x=>match cu P t,dst with
   | some sz,some d=>match look A.jR d with
     | some (k,0)=>if k=d then some (.box d sz,[x]) else none
     | some _=>none
     | none=>some (.kr sz,[x])
   | _,_=>none
 | .makeMap _ r=>if r.isNone=true then some (.jN,[]) else none
 | .lookup t x i ok=>match P.underlying t with
   | some (.map k e)=>match eu P k,zeroOf P e with
     | some c,some z=>some (.gF c ok z,[x,i])
     | _,_=>none
   | _=>none
 | .mapUpdate t m i x | .insert t m i x=>match P.underlying t with
   | some (.map k _)=>(eu P k).map fun c=>(.lX c,[m,i,x])
   | _=>none
 | .nilCheck x=>some (.v .aI,[x])
 | .makeFunc fn first cap=>match fn with
   | .func f=>if first.size=0 then (ρ.of f).map fun g=>(.v (.Ch g),cap.toList) else none
   | _=>none
 | .makeSlice t l c=>match dS P t with
   | some e=>match cu P e,dR P e,er P e,bU P e with
     | some sz,some by_,some ag,some z=>if z.length=sz∧0<sz then some (.iw sz by_ ag z,[l,c]) else none
     | _,_,_,_=>none
   | none=>none
 | .slice t x lo hi mx=>match P.underlying t with
   | some (.slice e)=>if mx.isSome=false∧(dst.map (A.Gj.contains ·)).getD false=true then (cu P e).map fun sz=>(.v (.sw sz lo.isSome hi.isSome),x::(lo.toList++hi.toList++mx.toList))
     else (cu P e).map fun sz=>(.v (.slice false sz lo.isSome hi.isSome mx.isSome),x::(lo.toList++hi.toList++mx.toList))
   | some .string=>if mx.isSome then none else some (.v (.slice true 0 lo.isSome hi.isSome false),x::(lo.toList++hi.toList++mx.toList))
   | _=>none
 | .call c=>match c.callee with
   | .builtin .len=>match c.args.toList,(c.argTypes[0]?).bind P.underlying with
     | [x],some (.slice _)=>some (.v .len,[x])
     | [x],some .string=>some (.v .gP,[x])
     | _,_=>none
   | .builtin .min=>match c.args.toList with
     | [x,y]=>some (.v .mn,[x,y])
     | _=>none
   | .builtin .max=>match c.args.toList with
     | [x,y]=>some (.v .mx,[x,y])
     | _=>none
   | .builtin .append=>match c.args.toList,(c.argTypes[0]?).bind (dS P),(c.argTypes[1]?).bind (dS P) with
     | [x,y],some e,some _=>match cu P e,dR P e,bU P e with
       | some sz,some by_,some z=>if z.length=sz∧0<sz∧0<by_ then
           if (dst.map (A.Gj.contains ·)).getD false then (er P e).map fun ag=>(.di sz by_ ag,[x,y]) else match dst.bind (look A.dup) with
             | some u=>some (.d9 sz by_,[x,y,.tmp u])
             | none=>some (.append sz by_,[x,y])
         else none
       | _,_,_=>none
     | _,_,_=>none
   | .builtin .clear=>match c.args.toList,(c.argTypes[0]?).bind (dS P) with
     | [x],some e=>match cu P e,bU P e with
       | some sz,some z=>if z.length=sz∧0<sz then some (.ft sz z,[x]) else none
       | _,_=>none
     | _,_=>none
   | .builtin .copy=>match c.args.toList,(c.argTypes[0]?).bind (dS P),(c.argTypes[1]?).bind (dS P) with
     | [x,y],some e,some _=>match cu P e with
       | some sz=>some (.ij sz,[x,y])
       | none=>none
     | _,_,_=>none
   | .value (.func f)=>match ρ.of f with
     | some g=>match look ρ.cl g with
       | some (sz,by_)=>if c.args.size=1 then some (.clone sz by_,c.args.toList) else none
       | none=>if (dst.map (A.q.contains ·)).getD false then some (.gG g,c.args.toList)
       else if ρ.Gt.contains g || (dst.map (A.site.contains ·)).getD false then some (.az g ((dst.bind (look A.own)).getD []),c.args.toList)
       else if (dst.map (A.ps.contains ·)).getD false then some (.eK g,c.args.toList) else some (.aA g,c.args.toList)
     | none=>none
   | .value (.tmp t)=>if (dst.map (A.ro.contains ·)).getD false=true then some (.b_,.tmp t::c.args.toList) else some (.gf,.tmp t::c.args.toList)
   | _=>none
 | _=>none
def d3 (P:Program) (ρ:Names) (A:jL) (N:Nat) (ops:Array Oper) (o:Oper):Option dd:=
 match a9 P ρ A o.dst o.op with
 | some (k,args)=>match cK (fb ρ) args with
   | some as=>
     if (o.dst.map (fun d=>decide (d<N))).getD true=true then
       match o.guard with
       | none=>some { dst:=o.dst,guard:=none,args:=as,op:=k }
       | some (j,b)=>match (ops[j]?).bind (·.dst) with
         | some t=>some { dst:=o.dst,guard:=some (t,b),args:=as,op:=k }
         | none=>none
     else none
   | none=>none
 | none=>none
def dd.looks (o:dd):List Nat:=
 (o.args.filterMap fun | .t n=>some n | _=>none)++(match o.guard with | some (t,_)=>[t] | none=>[])
def AK.e6:AK→Bool
 | .aJ .. | .dE _ | .kr _ | .gz _ | .iw .. | .eK _ | .az .. | .gf | .b_ | .jN | .gF .. | .lX _ | .di .. | .ft .. | .ij _=>true
 | _=>false
def AK.nD:AK→Bool
 | .aJ .. | .gF .. | .b_=>true
 | _=>false
def AK.d4:AK→Bool
 | .append .. | .di .. | .d9 .. | .clone .. | .az .. | .gG _ | .gf | .b_=>true
 | _=>false
def AK.fc:AK→Bool
 | .ee .. | .alloc .. | .box ..=>true
 | _=>false
def indep (x y:dd):Bool:=
 (match x.dst with | some d=>!(y.looks).contains d && y.dst != some d | none=>true) &&
 (match y.dst with | some d=>!(x.looks).contains d | none=>true) &&
 (!(x.op.e6 && y.op.e6) || (x.op.nD && y.op.nD)) && !(x.op.d4 && y.op.d4) &&
 (match x.op.key,y.op.key with
  | some a,some b=>a != b || !(x.op.fc || y.op.fc)
  | _,_=>true)
def iz:List Oper→List Nat→List Nat
 | [],acc=>acc
 | o::r,acc=>iz r (acc++[o.after.toList.foldl (fun s e=>if Region.binds .any e then s ||| 2 ^ e.on ||| acc.getD e.on 0 else s) 0])
def lS (ms:List Nat) (i:Nat) (x:dd):Nat→List dd→Bool
 | _,[]=>true
 | j,y::r=>((ms.getD j 0).testBit i || indep x y) && lS ms i x (j+1) r
def iA (ms:List Nat):Nat→List dd→Bool
 | _,[]=>true
 | i,x::r=>lS ms i x (i+1) r && iA ms (i+1) r
def eM:Nat→List Oper→Bool
 | _,[]=>true
 | i,o::r=>o.after.toList.all (fun e=>!Region.binds .any e || decide (e.on<i)) && eM (i+1) r
def oq (ops:List Oper) (as:List dd):Bool:=eM 0 ops && iA (iz ops []) 0 as
def fE:Code→Option Nat
 | .region id _ _=>some id
 | .seq a b | .cond _ a b=>match fE a with | some i=>some i | none=>fE b
 | .block _ c | .loop c | .scope c=>fE c
 | _=>none
def aE.dk:aE→Bool
 | .seq a b | .cond _ a b=>a.dk && b.dk
 | .block _ b | .loop _ b=>b.dk
 | .back ..=>false
 | _=>true
def jS (o:Option (List Nat)) (c:aE):aE:=match o with
 | some ts=>.seq (.eF ts) c
 | none=>c
def dB (P:Program) (ρ:Names) (A:jL) (N:Nat):Code→Option aE
 | .skip=>some .skip
 | .region id ops draw=>match cK (d3 P ρ A N ops) ops.toList with
   | some as=>if draw then (if oq ops.toList as then some (jS (look A.fz id) (.aq as ((look A.live id).getD []))) else none) else some (jS (look A.fz id) (.aq as ((look A.live id).getD [])))
   | none=>none
 | .seq a b=>match dB P ρ A N a,dB P ρ A N b with
   | some x,some y=>some (.seq x y)
   | _,_=>none
 | .cond c a b=>match fb ρ c,dB P ρ A N a,dB P ρ A N b with
   | some c,some x,some y=>some (.cond c x y)
   | _,_,_=>none
 | .block id b=>(dB P ρ A N b).map (.block id)
 | .loop b=>(dB P ρ A N b).map (.loop (((fE b).bind (look A.loops)).getD []))
 | .exit id=>some (.exit id)
 | .ret=>some .ret
 | .rangeFunc (.tmp t) ps a b=>match ps.toList,look A.v9 t with
   | [pi,px],some gb=>match look ρ.bk gb,dB P ρ A N a,dB P ρ A N b with
     | some (sz,ag),some x,some y=>if x.dk=true∧y.dk=true∧pi<N∧px<N then some (.back (.t t) gb pi px sz ag (((fE a).bind (look A.loops)).getD []) x y) else none
     | _,_,_=>none
   | _,_=>none
 | _=>none
def wa (P:Program):ResultVar→Option lY
 | .tmp t=>some (.t t)
 | .cell a t=>match cu P t,er P t with
   | some sz,some ag=>some (.c a sz ag)
   | _,_=>none
def l5 (P:Program) (ρ:Names) (A:jL) (fn:Func):Option aB:=
 match fn.body,cK (wa P) fn.results.toList with
 | some b,some rs=>if fn.params.size+fn.nfree≤fn.ntmps∧fn.name != "runtime.NumGoroutine" then
     (dB P ρ A fn.ntmps b).map fun c=>{ nparams:=fn.params.size,ntmps:=fn.ntmps,results:=rs,body:=c,ks:=A.ks } else none
 | _,_=>none
end Go.Ab
