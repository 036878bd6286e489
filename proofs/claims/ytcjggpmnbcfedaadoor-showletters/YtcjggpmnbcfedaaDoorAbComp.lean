import Derived.Test.YtcjggpmnbcfedaaDoorAbDefs
import Derived.Calls
/-
  From the loaded program's code to slim code: types resolved, functions under their lasting numbers. 'compF' is what the kernel holds a function's slim code against.
-/
set_option linter.unusedVariables false
set_option linter.unusedSimpArgs false
set_option linter.unnecessarySimpa false
set_option maxRecDepth 100000
set_option maxHeartbeats 8000000
namespace Go.Ab
structure hO where
 gW:List (Nat×Nat×Nat)
 Ai:List Nat
 ps:List Nat
 live:List (Nat×List Nat)
 loops:List (Nat×List Nat)
 site:List Nat
 own:List (Nat×List Nat)
 tL:List (Nat×Nat):=[]
 ks:Bool:=false
 q:List Nat:=[]
 B':List Nat:=[]
 fz:List (Nat×List Nat):=[]
 dup:List (Nat×Nat):=[]
 ro:List Nat:=[]
 Ca:List (Nat×List (Nat×Nat)):=[]
 gZ:List (Nat×List (Nat×Nat×Bool)):=[]
 pr:List (Nat×List (Nat×Nat×Nat)):=[]
 cut:List (Nat×Nat×List Nat×List Nat):=[]
 fs:List (Nat×List Nat):=[]
 kp:List Nat:=[]
def hO.at (A:hO) (id:Nat):hO:=match look A.pr id with
 | some l=>{ A with gW:=l++A.gW }
 | none=>A
structure Names where
 g:List (Nat×Nat)
 CD:List Nat
 bk:List (Nat×Nat×Bool):=[]
 cl:List (Nat×Nat×Nat):=[]
 hP:Nat→Option (Array Value):=fun _=>none
def Names.of (ρ:Names) (f:Nat):Option Nat:=look ρ.g f
def bt (P:Program) (t:TypeId):Option Nat:=(P.info? t).map (·.size)
def cD (P:Program) (t:TypeId):Option Nat:=(P.info? t).map (·.bytes)
def dE (P:Program) (t:TypeId):Option Bool:=(P.underlying t).map fun | .struct _ | .array ..=>true | _=>false
def bW:Value→Option PV
 | .bool b=>some (.bool b)
 | .int k n=>some (.int k n)
 | .string s=>some (.str s.data.toList)
 | .slice none 0 0=>some (.bz [])
 | _=>none
def qZ (v:Value):Option AV:=
 match v with
 | .slice none 0 0=>some (.cw [])
 | .pointer none=>some .gm
 | .nilFunc=>some .gm
 | v=>(bW v).map .pv
def bu {α β:Type} (f:α→Option β):List α→Option (List β)
 | []=>some []
 | x::r=>match f x,bu f r with
   | some y,some ys=>some (y::ys)
   | _,_=>none
def bc (P:Program) (t:TypeId):Option (List PV):=
 match (P.info? t).bind (·.zero) with
 | some z=>bu bW z.cells.toList
 | none=>none
def eE (ρ:Names):Operand→Option c_
 | .tmp t=>some (.t t)
 | .const v=>(qZ v).map .c
 | .func f=>(ρ.of f).map fun g=>.c (.fn g [])
 | .global _=>none
def cV (P:Program) (t:TypeId):Option TypeId:=match P.underlying t with | some (.slice e)=>some e | _=>none
def eR (P:Program) (t:TypeId) (f:Nat):Option Field:=match P.underlying t with | some (.struct fs)=>fs[f]? | _=>none
def dN (P:Program) (t:TypeId):Option CK:=if bt P t=some 1 then match P.underlying t with
 | some (.int _)=>some .int
 | some .string=>some .str
 | some .bool=>some .bool
 | _=>none
 else none
def d5 (P:Program):Nat→List Field→Option (List CK)
 | _,[]=>some []
 | i,f::r=>if f.name ≠ "_"∧f.offset=i then match dN P f.type,d5 P (i+1) r with
   | some c,some cs=>some (c::cs)
   | _,_=>none
   else none
def zeroOf (P:Program) (t:TypeId):Option PV:=match (P.info? t).bind (·.zero) with
 | some (.agg cs)=>(bu bW cs.toList).map .agg
 | some v=>bW v
 | none=>none
def tM (P:Program) (op:BinOp) (t:TypeId):Option mi:=
 match P.underlying t with
 | some (.int _) | some .string=>some (.bin op)
 | some .bool=>if op=.eql then some (.beq false) else if op=.neq then some (.beq true) else none
 | some (.struct fs)=>if P.stoodInHeld t=false∧P.eqGuardType P.depth t=false then match d5 P 0 fs.toList with
     | some cs=>if op=.eql then some (.Bv cs false) else if op=.neq then some (.Bv cs true) else none
     | none=>none
   else none
 | _=>none
def fieldsOf (P:Program) (t:TypeId):Option (List (Nat×Nat)):=
 match P.underlying t with
 | some (.struct fs)=>bu (fun f=>(bt P f.type).map fun s=>(f.offset,s)) fs.toList
 | _=>none
def placesOf (P:Program) (t:TypeId) (is:List Nat):Option (List (Nat×Nat)):=
 match fieldsOf P t with
 | some all=>bu (fun i=>all[i]?) is
 | none=>none
def kL:Nat→List (Nat×Operand)→Bool
 | _,[]=>true
 | i,(j,_)::r=>i == j && kL (i+1) r
def aG (P:Program) (ρ:Names) (A:hO) (dst:Option Nat):Op→Option (AK×List Operand)
 | .move x | .assign x=>some (.v .mv,[x])
 | .pick c a b=>some (.v .pick,[c,a,b])
 | .binOp op t x y _=>(tM P op t).map fun o=>(.v o,[x,y])
 | .unOp op _ x=>some (.v (.un op),[x])
 | .convert s d x=>match P.underlying s,P.underlying d with
   | some (.int _),some (.int k)=>some (.v (.conv k),[x])
   | some (.slice e),some .string=>match P.underlying e with
     | some (.int .u8)=>some (.v .b2s,[x])
     | _=>none
   | _,_=>none
 | .extract x i=>some (.v (.ext i),[x])
 | .field t x f=>match eR P t f with
   | some fd=>match bt P fd.type,dE P fd.type with
     | some sz,some ag=>some (.v (.field fd.offset sz ag),[x])
     | _,_=>none
   | none=>none
 | .fieldAddr t x f=>match eR P t f with
   | some fd=>match bt P fd.type with
     | some s=>if s=0 then none else some (.v (.ga fd.offset),[x])
     | none=>none
   | none=>none
 | .indexAddr t x i=>match cV P t with
   | some e=>(bt P e).map fun sz=>(.v (.ed sz),[x,i])
   | none=>none
 | .index t x i=>match P.underlying t with
   | some .string=>some (.v .index,[x,i])
   | _=>none
 | .build t ps=>match P.underlying t with
   | some (.struct _)=>match bc P t,placesOf P t (ps.toList.map (·.1)) with
     | some z,some pl=>some (.v (.build z pl),ps.toList.map (·.2))
     | _,_=>none
   | _=>none
 | .buildSlice t n ps=>match cV P t with
   | some e=>match bt P e,bc P e with
     | some sz,some _=>if ps.size=n∧kL 0 ps.toList=true∧0<sz∧n*sz≤16777216 then some (.v (.d3 sz),ps.toList.map (·.2)) else none
     | _,_=>none
   | none=>none
 | .load t x=>match bt P t,dE P t with
   | some sz,some ag=>match x with
     | .tmp tx=>match look A.gW tx with
       | some (k,o)=>some (.dv k o sz ag,[x])
       | none=>if A.Ai.contains tx then some (.ck sz ag,[x]) else some (.v (.eC sz ag),[x])
     | _=>none
   | _,_=>none
 | .store t x v=>match bt P t,x with
   | some sz,.tmp tx=>match look A.gW tx with
     | some (k,o)=>some (.dL k o sz,[x,v])
     | none=>if A.kp.contains tx=true then some (.gn sz,[x,v]) else some (.d4 sz,[x,v])
   | _,_=>none
 | .alloc t=>match bc P t,dst with
   | some z,some d=>match look A.gW d with
     | some (k,0)=>if k=d then some (.alloc d z,[]) else none
     | some _=>none
     | none=>some (.fR z,[])
   | _,_=>none
 | .box t x=>match bt P t,dst with
   | some sz,some d=>match look A.gW d with
     | some (k,0)=>if k=d then some (.box d sz,[x]) else none
     | some _=>none
     | none=>if A.kp.contains d=true then some (.nq sz,[x]) else some (.kV sz,[x])
   | _,_=>none
 | .makeMap _ r=>if r.isNone=true then some (.jc,[]) else none
 | .lookup t x i ok=>match P.underlying t with
   | some (.map k e)=>match dN P k,zeroOf P e with
     | some c,some z=>some (.gf c ok z,[x,i])
     | _,_=>none
   | _=>none
 | .mapUpdate t m i x | .insert t m i x=>match P.underlying t with
   | some (.map k _)=>(dN P k).map fun c=>(.kW c,[m,i,x])
   | _=>none
 | .nilCheck x=>some (.v .kU,[x])
 | .makeFunc fn first cap=>match fn with
   | .func f=>if first.size=0 then (ρ.of f).map fun g=>(.v (.AA g),cap.toList) else none
   | _=>none
 | .makeSlice t l c=>match cV P t with
   | some e=>match bt P e,cD P e,dE P e,bc P e with
     | some sz,some by_,some ag,some z=>if z.length=sz∧0<sz then match dst.bind (look A.gW),dst with
         | some (k,0),some d=>if k=d then some (.fp d sz by_ z,[l,c]) else none
         | some _,_=>none
         | none,_=>some (.gO sz by_ ag z,[l,c])
       else none
     | _,_,_,_=>none
   | none=>none
 | .slice t x lo hi mx=>match P.underlying t with
   | some (.slice e)=>if mx.isSome=false∧(dst.map (A.B'.contains ·)).getD false=true then (bt P e).map fun sz=>(.v (.qU sz lo.isSome hi.isSome),x::(lo.toList++hi.toList++mx.toList))
     else (bt P e).map fun sz=>(.v (.slice false sz lo.isSome hi.isSome mx.isSome),x::(lo.toList++hi.toList++mx.toList))
   | some .string=>if mx.isSome then none else some (.v (.slice true 0 lo.isSome hi.isSome false),x::(lo.toList++hi.toList++mx.toList))
   | _=>none
 | .call c=>match c.callee with
   | .builtin .len=>match c.args.toList,(c.argTypes[0]?).bind P.underlying with
     | [x],some (.slice _)=>some (.v .len,[x])
     | [x],some .string=>some (.v .wT,[x])
     | _,_=>none
   | .builtin .min=>match c.args.toList with
     | [x,y]=>some (.v .mn,[x,y])
     | _=>none
   | .builtin .max=>match c.args.toList with
     | [x,y]=>some (.v .mx,[x,y])
     | _=>none
   | .builtin .append=>match c.args.toList,(c.argTypes[0]?).bind (cV P),(c.argTypes[1]?).bind (cV P) with
     | [x,y],some e,some _=>match bt P e,cD P e,bc P e with
       | some sz,some by_,some z=>if z.length=sz∧0<sz∧0<by_ then
           if (dst.map (A.B'.contains ·)).getD false then (dE P e).map fun ag=>(.cS sz by_ ag,[x,y]) else match dst.bind (look A.dup) with
             | some u=>some (.dz sz by_,[x,y,.tmp u])
             | none=>some (.append sz by_,[x,y])
         else none
       | _,_,_=>none
     | _,_,_=>none
   | .builtin .clear=>match c.args.toList,(c.argTypes[0]?).bind (cV P) with
     | [x],some e=>match bt P e,bc P e with
       | some sz,some z=>if z.length=sz∧0<sz then some (.eM sz z,[x]) else none
       | _,_=>none
     | _,_=>none
   | .builtin .copy=>match c.args.toList,(c.argTypes[0]?).bind (cV P),(c.argTypes[1]?).bind (cV P) with
     | [x,y],some e,some _=>match bt P e with
       | some sz=>some (.gP sz,[x,y])
       | none=>none
     | _,_,_=>none
   | .value (.func f)=>match ρ.of f with
     | some g=>match look ρ.cl g with
       | some (sz,by_)=>if c.args.size=1 then
           (if (dst.map (A.B'.contains ·)).getD false=true then match (c.argTypes[0]?).bind (cV P) with
             | some e=>(dE P e).map fun ag=>(.gp sz by_ ag,c.args.toList)
             | none=>none
           else some (.clone sz by_,c.args.toList)) else none
       | none=>if (dst.map (A.q.contains ·)).getD false then some (.gY g,c.args.toList)
       else if ρ.CD.contains g || (dst.map (A.site.contains ·)).getD false then some (.gQ g ((dst.bind (look A.own)).getD []),c.args.toList)
       else if (dst.map (A.ps.contains ·)).getD false then some (.eo g,c.args.toList) else some (.aQ g,c.args.toList)
     | none=>none
   | .value (.tmp t)=>if (dst.map (A.ro.contains ·)).getD false=true then some (.bP,.tmp t::c.args.toList) else some (.fq,.tmp t::c.args.toList)
   | _=>none
 | _=>none
def dh (P:Program) (ρ:Names) (A:hO) (N:Nat) (ops:Array Oper) (o:Oper):Option bN:=
 match aG P ρ A o.dst o.op with
 | some (k,args)=>match bu (eE ρ) args with
   | some as=>
     if (o.dst.map (fun d=>decide (d<N))).getD true=true then
       match o.guard with
       | none=>some { dst:=o.dst,guard:=none,args:=as,op:=k }
       | some (j,b)=>match (ops[j]?).bind (·.dst) with
         | some t=>some { dst:=o.dst,guard:=some (t,b),args:=as,op:=k }
         | none=>none
     else none
   | none=>none
 | none=>none
def bN.looks (o:bN):List Nat:=
 (o.args.filterMap fun | .t n=>some n | _=>none)++(match o.guard with | some (t,_)=>[t] | none=>[])
def AK.eu:AK→Bool
 | .ck .. | .d4 _ | .gn _ | .kV _ | .nq _ | .fR _ | .gO .. | .eo _ | .gQ .. | .fq | .bP | .jc | .gf .. | .kW _ | .cS .. | .gp .. | .eM .. | .gP _=>true
 | _=>false
def AK.mN:AK→Bool
 | .ck .. | .gf .. | .bP=>true
 | _=>false
def AK.dr:AK→Bool
 | .append .. | .cS .. | .dz .. | .clone .. | .gQ .. | .gY _ | .fq | .bP=>true
 | _=>false
def AK.d_:AK→Bool
 | .dL .. | .alloc .. | .box .. | .fp ..=>true
 | _=>false
def indep (x y:bN):Bool:=
 (match x.dst with | some d=>!(y.looks).contains d && y.dst != some d | none=>true) &&
 (match y.dst with | some d=>!(x.looks).contains d | none=>true) &&
 (!(x.op.eu && y.op.eu) || (x.op.mN && y.op.mN)) && !(x.op.dr && y.op.dr) &&
 (match x.op.key,y.op.key with
  | some a,some b=>a != b || !(x.op.d_ || y.op.d_)
  | _,_=>true)
def bN.addr (o:bN):Option Nat:=match o.op,o.args with
 | .ck ..,.t a::_ | .d4 _,.t a::_=>some a
 | _,_=>none
def oO (ds:List (Nat×Nat)) (x y:bN):Bool:=
 (match x.dst with | some d=>!(y.looks).contains d && y.dst != some d | none=>true) &&
 (match y.dst with | some d=>!(x.looks).contains d | none=>true) &&
 (match x.addr,y.addr with
  | some a,some b=>ds.contains (a,b)
  | _,_=>false)
def nu:List bN→Bool
 | []=>true
 | x::r=>(match x.addr with | some a=>(x::r).all (fun o=>o.dst != some a) | none=>true) && nu r
def hU:List Oper→List Nat→List Nat
 | [],acc=>acc
 | o::r,acc=>hU r (acc++[o.after.toList.foldl (fun s e=>if Region.binds .any e then s ||| 2 ^ e.on ||| acc.getD e.on 0 else s) 0])
def kM (ds:List (Nat×Nat)) (ms:List Nat) (i:Nat) (x:bN):Nat→List bN→Bool
 | _,[]=>true
 | j,y::r=>((ms.getD j 0).testBit i || indep x y || oO ds x y) && kM ds ms i x (j+1) r
def hZ (ds:List (Nat×Nat)) (ms:List Nat):Nat→List bN→Bool
 | _,[]=>true
 | i,x::r=>kM ds ms i x (i+1) r && hZ ds ms (i+1) r
def d6:Nat→List Oper→Bool
 | _,[]=>true
 | i,o::r=>o.after.toList.all (fun e=>!Region.binds .any e || decide (e.on<i)) && d6 (i+1) r
def nv (ds:List (Nat×Nat)) (ops:List Oper) (as:List bN):Bool:=d6 0 ops && (hZ ds (hU ops []) 0 as && nu as)
def eS:Code→Option Nat
 | .region id _ _=>some id
 | .seq a b | .cond _ a b=>match eS a with | some i=>some i | none=>eS b
 | .block _ c | .loop c | .scope c=>eS c
 | _=>none
def aR.cL:aR→Bool
 | .seq a b | .cond _ a b=>a.cL && b.cL
 | .block _ b | .loop _ b=>b.cL
 | .back ..=>false
 | _=>true
def fw (o:Option (List Nat)) (c:aR):aR:=match o with
 | some ts=>.seq (.gX ts) c
 | none=>c
def kN (o:Option (List Nat)) (c:aR):aR:=match o with
 | some ts=>.seq (.Bq ts) c
 | none=>c
def q7 (o:Option (Nat×List Nat×List Nat)) (as:List bN) (live:List Nat):aR:=match o with
 | some (k,l,ts)=>.seq (.iL (as.take k) l) (.seq (.ix ts) (.iL (as.drop k) live))
 | none=>.iL as live
def behind (ds:Option (List (Nat×Nat))) (ps:Option (List (Nat×Nat×Bool))) (c:aR):aR:=
 let c1:=match ds with
   | some ds=>.seq c (.AB ds)
   | none=>c
 match ps with
 | some ps=>.seq c1 (.gZ ps)
 | none=>c1
def cW (P:Program) (ρ:Names) (A:hO) (N:Nat):Code→Option aR
 | .skip=>some .skip
 | .region id ops draw=>match bu (dh P ρ (A.at id) N ops) ops.toList with
   | some as=>if draw then (if nv ((look A.Ca id).getD []) ops.toList as then some (fw (look A.fz id) (behind (look A.Ca id) (look A.gZ id) (.iL as ((look A.live id).getD [])))) else none)
     else match look A.cut id with
       | some q=>some (kN (look A.fs id) (fw (look A.fz id) (q7 (some q) as ((look A.live id).getD []))))
       | none=>some (kN (look A.fs id) (fw (look A.fz id) (behind (look A.Ca id) (look A.gZ id) (.iL as ((look A.live id).getD [])))))
   | none=>none
 | .seq a b=>match cW P ρ A N a,cW P ρ A N b with
   | some x,some y=>some (.seq x y)
   | _,_=>none
 | .cond c a b=>match eE ρ c,cW P ρ A N a,cW P ρ A N b with
   | some c,some x,some y=>some (.cond c x y)
   | _,_,_=>none
 | .block id b=>(cW P ρ A N b).map (.block id)
 | .loop b=>(cW P ρ A N b).map (.loop (((eS b).bind (look A.loops)).getD []))
 | .exit id=>some (.exit id)
 | .ret=>some .ret
 | .rangeFunc (.tmp t) ps a b=>match ps.toList,look A.tL t with
   | [pi,px],some gb=>match look ρ.bk gb,cW P ρ A N a,cW P ρ A N b with
     | some (sz,ag),some x,some y=>if x.cL=true∧y.cL=true∧pi<N∧px<N then some (.back (.t t) gb pi px sz ag (((eS a).bind (look A.loops)).getD []) x y) else none
     | _,_,_=>none
   | _,_=>none
 | _=>none
def tN (P:Program):ResultVar→Option mj
 | .tmp t=>some (.t t)
 | .cell a t=>match bt P t,dE P t with
   | some sz,some ag=>some (.c a sz ag)
   | _,_=>none
def lg (P:Program) (ρ:Names) (A:hO) (fn:Func):Option aK:=
 match fn.body,bu (tN P) fn.results.toList with
 | some b,some rs=>if fn.params.size+fn.nfree≤fn.ntmps∧fn.name != "runtime.NumGoroutine" then
     (cW P ρ A fn.ntmps b).map fun c=>{ nparams:=fn.params.size,ntmps:=fn.ntmps,results:=rs,body:=c,ks:=A.ks } else none
 | _,_=>none
end Go.Ab
