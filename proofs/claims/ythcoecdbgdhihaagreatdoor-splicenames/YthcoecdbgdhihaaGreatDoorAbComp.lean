import Derived.Test.YthcoecdbgdhihaaGreatDoorAbDefs
import Derived.Calls
/-
  From the loaded program's code to slim code: types resolved, functions under their lasting numbers. 'compF' is what the kernel holds a function's slim code against.
-/
set_option linter.unusedVariables false
set_option linter.unusedSimpArgs false
set_option linter.unnecessarySimpa false
set_option maxRecDepth 100000
set_option maxHeartbeats 8000000
namespace Go.Ab
structure lf where
 kT:List (Nat×Nat×Nat)
 Lz:List Nat
 ps:List Nat
 live:List (Nat×List Nat)
 loops:List (Nat×List Nat)
 site:List Nat
 own:List (Nat×List Nat)
 Gy:List (Nat×Nat):=[]
 ks:Bool:=false
 q:List Nat:=[]
 QE:List Nat:=[]
 fz:List (Nat×List Nat):=[]
 dup:List (Nat×Nat):=[]
 ro:List Nat:=[]
 QF:List (Nat×List (Nat×Nat)):=[]
 lb:List (Nat×List (Nat×Nat×Bool)):=[]
 pr:List (Nat×List (Nat×Nat×Nat)):=[]
 cut:List (Nat×Nat×List Nat×List Nat):=[]
 fs:List (Nat×List Nat):=[]
 kp:List Nat:=[]
def lf.at (A:lf) (id:Nat):lf:=match look A.pr id with
 | some l=>{ A with kT:=l++A.kT }
 | none=>A
structure Names where
 g:List (Nat×Nat)
 Rl:List Nat
 bk:List (Nat×Nat×Bool):=[]
 cl:List (Nat×Nat×Nat):=[]
 jS:Nat→Option (Array Value):=fun _=>none
def Names.of (ρ:Names) (f:Nat):Option Nat:=look ρ.g f
def cW (P:Program) (t:TypeId):Option Nat:=(P.info? t).map (·.size)
def eX (P:Program) (t:TypeId):Option Nat:=(P.info? t).map (·.bytes)
def fQ (P:Program) (t:TypeId):Option Bool:=(P.underlying t).map fun | .struct _ | .array ..=>true | _=>false
def d0:Value→Option PV
 | .bool b=>some (.bool b)
 | .int k n=>some (.int k n)
 | .string s=>some (.str s.data.toList)
 | .slice none 0 0=>some (.aI [])
 | _=>none
def zN (v:Value):Option AV:=
 match v with
 | .slice none 0 0=>some (.bM [])
 | .pointer none=>some .jN
 | .nilFunc=>some .jN
 | v=>(d0 v).map .pv
def cL {α β:Type} (f:α→Option β):List α→Option (List β)
 | []=>some []
 | x::r=>match f x,cL f r with
   | some y,some ys=>some (y::ys)
   | _,_=>none
def cT (P:Program) (t:TypeId):Option (List PV):=
 match (P.info? t).bind (·.zero) with
 | some z=>cL d0 z.cells.toList
 | none=>none
def iM (ρ:Names):Operand→Option e8
 | .tmp t=>some (.t t)
 | .const v=>(zN v).map .c
 | .func f=>(ρ.of f).map fun g=>.c (.fn g [])
 | .global _=>none
def eY (P:Program) (t:TypeId):Option TypeId:=match P.underlying t with | some (.slice e)=>some e | _=>none
def gg (P:Program) (t:TypeId) (f:Nat):Option Field:=match P.underlying t with | some (.struct fs)=>fs[f]? | _=>none
def oB (P:Program) (t:TypeId):Option CK:=if cW P t=some 1 then match P.underlying t with
 | some (.int _)=>some .int
 | some .string=>some .str
 | some .bool=>some .bool
 | _=>none
 else none
def hU (P:Program):Nat→List Field→Option (List CK)
 | _,[]=>some []
 | i,f::r=>if f.name ≠ "_"∧f.offset=i then match oB P f.type,hU P (i+1) r with
   | some c,some cs=>some (c::cs)
   | _,_=>none
   else none
def zeroOf (P:Program) (t:TypeId):Option PV:=match (P.info? t).bind (·.zero) with
 | some (.agg cs)=>(cL d0 cs.toList).map .agg
 | some v=>d0 v
 | none=>none
def Cs (P:Program) (op:BinOp) (t:TypeId):Option s9:=
 match P.underlying t with
 | some (.int _) | some .string=>some (.bin op)
 | some .bool=>if op=.eql then some (.beq false) else if op=.neq then some (.beq true) else none
 | some (.struct fs)=>if P.stoodInHeld t=false∧P.eqGuardType P.depth t=false then match hU P 0 fs.toList with
     | some cs=>if op=.eql then some (.Ob cs false) else if op=.neq then some (.Ob cs true) else none
     | none=>none
   else none
 | _=>none
def fieldsOf (P:Program) (t:TypeId):Option (List (Nat×Nat)):=
 match P.underlying t with
 | some (.struct fs)=>cL (fun f=>(cW P f.type).map fun s=>(f.offset,s)) fs.toList
 | _=>none
def placesOf (P:Program) (t:TypeId) (is:List Nat):Option (List (Nat×Nat)):=
 match fieldsOf P t with
 | some all=>cL (fun i=>all[i]?) is
 | none=>none
def qk:Nat→List (Nat×Operand)→Bool
 | _,[]=>true
 | i,(j,_)::r=>i == j && qk (i+1) r
def cm (P:Program) (ρ:Names) (A:lf) (dst:Option Nat):Op→Option (AK×List Operand)
 | .move x | .assign x=>some (.v .mv,[x])
 | .pick c a b=>some (.v .pick,[c,a,b])
 | .binOp op t x y _=>(Cs P op t).map fun o=>(.v o,[x,y])
 | .unOp op _ x=>some (.v (.un op),[x])
 | .convert s d x=>match P.underlying s,P.underlying d with
   | some (.int _),some (.int k)=>some (.v (.conv k),[x])
   | some (.slice e),some .string=>match P.underlying e with
     | some (.int .u8)=>some (.v .b2s,[x])
     | _=>none
   | _,_=>none
 | .extract x i=>some (.v (.ext i),[x])
 | .field t x f=>match gg P t f with
   | some fd=>match cW P fd.type,fQ P fd.type with
     | some sz,some ag=>some (.v (.field fd.offset sz ag),[x])
     | _,_=>none
   | none=>none
 | .fieldAddr t x f=>match gg P t f with
   | some fd=>match cW P fd.type with
     | some s=>if s=0 then none else some (.v (.aS fd.offset),[x])
     | none=>none
   | none=>none
 | .indexAddr t x i=>match eY P t with
   | some e=>(cW P e).map fun sz=>(.v (.aA sz),[x,i])
   | none=>none
 | .index t x i=>match P.underlying t with
   | some .string=>some (.v .index,[x,i])
   | _=>none
 | .build t ps=>match P.underlying t with
   | some (.struct _)=>match cT P t,placesOf P t (ps.toList.map (·.1)) with
     | some z,some pl=>some (.v (.build z pl),ps.toList.map (·.2))
     | _,_=>none
   | _=>none
 | .buildSlice t n ps=>match eY P t with
   | some e=>match cW P e,cT P e with
     | some sz,some _=>if ps.size=n∧qk 0 ps.toList=true∧0<sz∧n*sz≤16777216 then some (.v (.aT sz),ps.toList.map (·.2)) else none
     | _,_=>none
   | none=>none
 | .load t x=>match cW P t,fQ P t with
   | some sz,some ag=>match x with
     | .tmp tx=>match look A.kT tx with
       | some (k,o)=>some (.aU k o sz ag,[x])
       | none=>if A.Lz.contains tx then some (.bg sz ag,[x]) else some (.v (.bG sz ag),[x])
     | _=>none
   | _,_=>none
 | .store t x v=>match cW P t,x with
   | some sz,.tmp tx=>match look A.kT tx with
     | some (k,o)=>some (.cV k o sz,[x,v])
     | none=>if A.kp.contains tx=true then some (.uT sz,[x,v]) else some (.cd sz,[x,v])
   | _,_=>none
 | .alloc t=>match cT P t,dst with
   | some z,some d=>match look A.kT d with
     | some (k,0)=>if k=d then some (.alloc d z,[]) else none
     | some _=>none
     | none=>some (.iX z,[])
   | _,_=>none
 | .box t x=>match cW P t,dst with
   | some sz,some d=>match look A.kT d with
     | some (k,0)=>if k=d then some (.box d sz,[x]) else none
     | some _=>none
     | none=>if A.kp.contains d=true then some (.JE sz,[x]) else some (.mz sz,[x])
   | _,_=>none
 | .makeMap _ r=>if r.isNone=true then some (.Cq,[]) else none
 | .lookup t x i ok=>match P.underlying t with
   | some (.map k e)=>match oB P k,zeroOf P e with
     | some c,some z=>some (.qM c ok z,[x,i])
     | _,_=>none
   | _=>none
 | .mapUpdate t m i x | .insert t m i x=>match P.underlying t with
   | some (.map k _)=>(oB P k).map fun c=>(.JF c,[m,i,x])
   | _=>none
 | .nilCheck x=>some (.v .bo,[x])
 | .makeFunc fn first cap=>match fn with
   | .func f=>if first.size=0 then (ρ.of f).map fun g=>(.v (.Dp g),cap.toList) else none
   | _=>none
 | .makeSlice t l c=>match eY P t with
   | some e=>match cW P e,eX P e,fQ P e,cT P e with
     | some sz,some by_,some ag,some z=>if z.length=sz∧0<sz then match dst.bind (look A.kT),dst with
         | some (k,0),some d=>if k=d then some (.iY d sz by_ z,[l,c]) else none
         | some _,_=>none
         | none,_=>some (.ir sz by_ ag z,[l,c])
       else none
     | _,_,_,_=>none
   | none=>none
 | .slice t x lo hi mx=>match P.underlying t with
   | some (.slice e)=>if mx.isSome=false∧(dst.map (A.QE.contains ·)).getD false=true then (cW P e).map fun sz=>(.v (.qL sz lo.isSome hi.isSome),x::(lo.toList++hi.toList++mx.toList))
     else (cW P e).map fun sz=>(.v (.slice false sz lo.isSome hi.isSome mx.isSome),x::(lo.toList++hi.toList++mx.toList))
   | some .string=>if mx.isSome then none else some (.v (.slice true 0 lo.isSome hi.isSome false),x::(lo.toList++hi.toList++mx.toList))
   | _=>none
 | .call c=>match c.callee with
   | .builtin .len=>match c.args.toList,(c.argTypes[0]?).bind P.underlying with
     | [x],some (.slice _)=>some (.v .len,[x])
     | [x],some .string=>some (.v .jn,[x])
     | _,_=>none
   | .builtin .min=>match c.args.toList with
     | [x,y]=>some (.v .mn,[x,y])
     | _=>none
   | .builtin .max=>match c.args.toList with
     | [x,y]=>some (.v .mx,[x,y])
     | _=>none
   | .builtin .append=>match c.args.toList,(c.argTypes[0]?).bind (eY P),(c.argTypes[1]?).bind (eY P) with
     | [x,y],some e,some _=>match cW P e,eX P e,cT P e with
       | some sz,some by_,some z=>if z.length=sz∧0<sz∧0<by_ then
           if (dst.map (A.QE.contains ·)).getD false then (fQ P e).map fun ag=>(.dd sz by_ ag,[x,y]) else match dst.bind (look A.dup) with
             | some u=>some (.np sz by_,[x,y,.tmp u])
             | none=>some (.append sz by_,[x,y])
         else none
       | _,_,_=>none
     | _,_,_=>none
   | .builtin .clear=>match c.args.toList,(c.argTypes[0]?).bind (eY P) with
     | [x],some e=>match cW P e,cT P e with
       | some sz,some z=>if z.length=sz∧0<sz then some (.gK sz z,[x]) else none
       | _,_=>none
     | _,_=>none
   | .builtin .copy=>match c.args.toList,(c.argTypes[0]?).bind (eY P),(c.argTypes[1]?).bind (eY P) with
     | [x,y],some e,some _=>match cW P e with
       | some sz=>some (.jq sz,[x,y])
       | none=>none
     | _,_,_=>none
   | .value (.func f)=>match ρ.of f with
     | some g=>match look ρ.cl g with
       | some (sz,by_)=>if c.args.size=1 then
           (if (dst.map (A.QE.contains ·)).getD false=true then match (c.argTypes[0]?).bind (eY P) with
             | some e=>(fQ P e).map fun ag=>(.gJ sz by_ ag,c.args.toList)
             | none=>none
           else some (.clone sz by_,c.args.toList)) else none
       | none=>if (dst.map (A.q.contains ·)).getD false then some (.lg g,c.args.toList)
       else if ρ.Rl.contains g || (dst.map (A.site.contains ·)).getD false then some (.aJ g ((dst.bind (look A.own)).getD []),c.args.toList)
       else if (dst.map (A.ps.contains ·)).getD false then some (.dN g,c.args.toList) else some (.aq g,c.args.toList)
     | none=>none
   | .value (.tmp t)=>if (dst.map (A.ro.contains ·)).getD false=true then some (.dE,.tmp t::c.args.toList) else some (.eV,.tmp t::c.args.toList)
   | _=>none
 | _=>none
def db (P:Program) (ρ:Names) (A:lf) (N:Nat) (ops:Array Oper) (o:Oper):Option dv:=
 match cm P ρ A o.dst o.op with
 | some (k,args)=>match cL (iM ρ) args with
   | some as=>
     if (o.dst.map (fun d=>decide (d<N))).getD true=true then
       match o.guard with
       | none=>some { dst:=o.dst,guard:=none,args:=as,op:=k }
       | some (j,b)=>match (ops[j]?).bind (·.dst) with
         | some t=>some { dst:=o.dst,guard:=some (t,b),args:=as,op:=k }
         | none=>none
     else none
   | none=>none
 | none=>none
def dv.looks (o:dv):List Nat:=
 (o.args.filterMap fun | .t n=>some n | _=>none)++(match o.guard with | some (t,_)=>[t] | none=>[])
def AK.iF:AK→Bool
 | .bg .. | .cd _ | .uT _ | .mz _ | .JE _ | .iX _ | .ir .. | .dN _ | .aJ .. | .eV | .dE | .Cq | .qM .. | .JF _ | .dd .. | .gJ .. | .gK .. | .jq _=>true
 | _=>false
def AK.tQ:AK→Bool
 | .bg .. | .qM .. | .dE=>true
 | _=>false
def AK.gw:AK→Bool
 | .append .. | .dd .. | .np .. | .clone .. | .aJ .. | .lg _ | .eV | .dE=>true
 | _=>false
def AK.ik:AK→Bool
 | .cV .. | .alloc .. | .box .. | .iY ..=>true
 | _=>false
def indep (x y:dv):Bool:=
 (match x.dst with | some d=>!(y.looks).contains d && y.dst != some d | none=>true) &&
 (match y.dst with | some d=>!(x.looks).contains d | none=>true) &&
 (!(x.op.iF && y.op.iF) || (x.op.tQ && y.op.tQ)) && !(x.op.gw && y.op.gw) &&
 (match x.op.key,y.op.key with
  | some a,some b=>a != b || !(x.op.ik || y.op.ik)
  | _,_=>true)
def dv.addr (o:dv):Option Nat:=match o.op,o.args with
 | .bg ..,.t a::_ | .cd _,.t a::_=>some a
 | _,_=>none
def wO (ds:List (Nat×Nat)) (x y:dv):Bool:=
 (match x.dst with | some d=>!(y.looks).contains d && y.dst != some d | none=>true) &&
 (match y.dst with | some d=>!(x.looks).contains d | none=>true) &&
 (match x.addr,y.addr with
  | some a,some b=>ds.contains (a,b)
  | _,_=>false)
def uU:List dv→Bool
 | []=>true
 | x::r=>(match x.addr with | some a=>(x::r).all (fun o=>o.dst != some a) | none=>true) && uU r
def lp:List Oper→List Nat→List Nat
 | [],acc=>acc
 | o::r,acc=>lp r (acc++[o.after.toList.foldl (fun s e=>if Region.binds .any e then s ||| 2 ^ e.on ||| acc.getD e.on 0 else s) 0])
def ql (ds:List (Nat×Nat)) (ms:List Nat) (i:Nat) (x:dv):Nat→List dv→Bool
 | _,[]=>true
 | j,y::r=>((ms.getD j 0).testBit i || indep x y || wO ds x y) && ql ds ms i x (j+1) r
def lq (ds:List (Nat×Nat)) (ms:List Nat):Nat→List dv→Bool
 | _,[]=>true
 | i,x::r=>ql ds ms i x (i+1) r && lq ds ms (i+1) r
def hZ:Nat→List Oper→Bool
 | _,[]=>true
 | i,o::r=>o.after.toList.all (fun e=>!Region.binds .any e || decide (e.on<i)) && hZ (i+1) r
def uV (ds:List (Nat×Nat)) (ops:List Oper) (as:List dv):Bool:=hZ 0 ops && (lq ds (lp ops []) 0 as && uU as)
def jT:Code→Option Nat
 | .region id _ _=>some id
 | .seq a b | .cond _ a b=>match jT a with | some i=>some i | none=>jT b
 | .block _ c | .loop c | .scope c=>jT c
 | _=>none
def au.f_:au→Bool
 | .seq a b | .cond _ a b=>a.f_ && b.f_
 | .block _ b | .loop _ b=>b.f_
 | .back ..=>false
 | _=>true
def js (o:Option (List Nat)) (c:au):au:=match o with
 | some ts=>.seq (.dR ts) c
 | none=>c
def qm (o:Option (List Nat)) (c:au):au:=match o with
 | some ts=>.seq (.Mo ts) c
 | none=>c
def zP (o:Option (Nat×List Nat×List Nat)) (as:List dv) (live:List Nat):au:=match o with
 | some (k,l,ts)=>.seq (.bl (as.take k) l) (.seq (.lh ts) (.bl (as.drop k) live))
 | none=>.bl as live
def behind (ds:Option (List (Nat×Nat))) (ps:Option (List (Nat×Nat×Bool))) (c:au):au:=
 let c1:=match ds with
   | some ds=>.seq c (.Mn ds)
   | none=>c
 match ps with
 | some ps=>.seq c1 (.lb ps)
 | none=>c1
def gh (P:Program) (ρ:Names) (A:lf) (N:Nat):Code→Option au
 | .skip=>some .skip
 | .region id ops draw=>match cL (db P ρ (A.at id) N ops) ops.toList with
   | some as=>if draw then (if uV ((look A.QF id).getD []) ops.toList as then some (js (look A.fz id) (behind (look A.QF id) (look A.lb id) (.bl as ((look A.live id).getD [])))) else none)
     else match look A.cut id with
       | some q=>some (qm (look A.fs id) (js (look A.fz id) (zP (some q) as ((look A.live id).getD []))))
       | none=>some (qm (look A.fs id) (js (look A.fz id) (behind (look A.QF id) (look A.lb id) (.bl as ((look A.live id).getD [])))))
   | none=>none
 | .seq a b=>match gh P ρ A N a,gh P ρ A N b with
   | some x,some y=>some (.seq x y)
   | _,_=>none
 | .cond c a b=>match iM ρ c,gh P ρ A N a,gh P ρ A N b with
   | some c,some x,some y=>some (.cond c x y)
   | _,_,_=>none
 | .block id b=>(gh P ρ A N b).map (.block id)
 | .loop b=>(gh P ρ A N b).map (.loop (((jT b).bind (look A.loops)).getD []))
 | .exit id=>some (.exit id)
 | .ret=>some .ret
 | _=>none
def Ct (P:Program):ResultVar→Option qN
 | .tmp t=>some (.t t)
 | .cell a t=>match cW P t,fQ P t with
   | some sz,some ag=>some (.c a sz ag)
   | _,_=>none
def pk (P:Program) (ρ:Names) (A:lf) (fn:Func):Option aD:=
 match fn.body,cL (Ct P) fn.results.toList with
 | some b,some rs=>if fn.params.size+fn.nfree≤fn.ntmps∧fn.name != "runtime.NumGoroutine" then
     (gh P ρ A fn.ntmps b).map fun c=>{ nparams:=fn.params.size,ntmps:=fn.ntmps,results:=rs,body:=c,ks:=A.ks } else none
 | _,_=>none
end Go.Ab
