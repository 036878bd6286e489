import Derived.Test.YthcoecdbgdhihaaGreatDoorAbDefs
import Derived.Calls
/-
  From the loaded program's code to slim code: types resolved, functions under their lasting numbers. 'compF' is what the kernel holds a function's slim code against.
-/
set_option linter.unusedVariables false
set_option linter.unusedSimpArgs false
set_option linter.unnecessarySimpa false
set_option maxRecDepth 100000
set_option maxHeartbeats 8000000
namespace Go.Ab
structure kS where
 kK:List (Nat×Nat×Nat)
 KD:List Nat
 ps:List Nat
 live:List (Nat×List Nat)
 loops:List (Nat×List Nat)
 site:List Nat
 own:List (Nat×List Nat)
 FR:List (Nat×Nat):=[]
 ks:Bool:=false
 q:List Nat:=[]
 Pw:List Nat:=[]
 fz:List (Nat×List Nat):=[]
 dup:List (Nat×Nat):=[]
 ro:List Nat:=[]
 Px:List (Nat×List (Nat×Nat)):=[]
 kR:List (Nat×List (Nat×Nat×Bool)):=[]
 pr:List (Nat×List (Nat×Nat×Nat)):=[]
 cut:List (Nat×Nat×List Nat×List Nat):=[]
 fs:List (Nat×List Nat):=[]
 kp:List Nat:=[]
def kS.at (A:kS) (id:Nat):kS:=match look A.pr id with
 | some l=>{ A with kK:=l++A.kK }
 | none=>A
structure Names where
 g:List (Nat×Nat)
 Qf:List Nat
 bk:List (Nat×Nat×Bool):=[]
 cl:List (Nat×Nat×Nat):=[]
 jM:Nat→Option (Array Value):=fun _=>none
def Names.of (ρ:Names) (f:Nat):Option Nat:=look ρ.g f
def cT (P:Program) (t:TypeId):Option Nat:=(P.info? t).map (·.size)
def eR (P:Program) (t:TypeId):Option Nat:=(P.info? t).map (·.bytes)
def fC (P:Program) (t:TypeId):Option Bool:=(P.underlying t).map fun | .struct _ | .array ..=>true | _=>false
def dW:Value→Option PV
 | .bool b=>some (.bool b)
 | .int k n=>some (.int k n)
 | .string s=>some (.str s.data.toList)
 | .slice none 0 0=>some (.aJ [])
 | _=>none
def zb (v:Value):Option AV:=
 match v with
 | .slice none 0 0=>some (.bN [])
 | .pointer none=>some .jI
 | .nilFunc=>some .jI
 | v=>(dW v).map .pv
def cK {α β:Type} (f:α→Option β):List α→Option (List β)
 | []=>some []
 | x::r=>match f x,cK f r with
   | some y,some ys=>some (y::ys)
   | _,_=>none
def cP (P:Program) (t:TypeId):Option (List PV):=
 match (P.info? t).bind (·.zero) with
 | some z=>cK dW z.cells.toList
 | none=>none
def iI (ρ:Names):Operand→Option eU
 | .tmp t=>some (.t t)
 | .const v=>(zb v).map .c
 | .func f=>(ρ.of f).map fun g=>.c (.fn g [])
 | .global _=>none
def eS (P:Program) (t:TypeId):Option TypeId:=match P.underlying t with | some (.slice e)=>some e | _=>none
def fW (P:Program) (t:TypeId) (f:Nat):Option Field:=match P.underlying t with | some (.struct fs)=>fs[f]? | _=>none
def nW (P:Program) (t:TypeId):Option CK:=if cT P t=some 1 then match P.underlying t with
 | some (.int _)=>some .int
 | some .string=>some .str
 | some .bool=>some .bool
 | _=>none
 else none
def gX (P:Program):Nat→List Field→Option (List CK)
 | _,[]=>some []
 | i,f::r=>if f.name ≠ "_"∧f.offset=i then match nW P f.type,gX P (i+1) r with
   | some c,some cs=>some (c::cs)
   | _,_=>none
   else none
def zeroOf (P:Program) (t:TypeId):Option PV:=match (P.info? t).bind (·.zero) with
 | some (.agg cs)=>(cK dW cs.toList).map .agg
 | some v=>dW v
 | none=>none
def BV (P:Program) (op:BinOp) (t:TypeId):Option sH:=
 match P.underlying t with
 | some (.int _) | some .string=>some (.bin op)
 | some .bool=>if op=.eql then some (.beq false) else if op=.neq then some (.beq true) else none
 | some (.struct fs)=>if P.stoodInHeld t=false∧P.eqGuardType P.depth t=false then match gX P 0 fs.toList with
     | some cs=>if op=.eql then some (.Nc cs false) else if op=.neq then some (.Nc cs true) else none
     | none=>none
   else none
 | _=>none
def fieldsOf (P:Program) (t:TypeId):Option (List (Nat×Nat)):=
 match P.underlying t with
 | some (.struct fs)=>cK (fun f=>(cT P f.type).map fun s=>(f.offset,s)) fs.toList
 | _=>none
def placesOf (P:Program) (t:TypeId) (is:List Nat):Option (List (Nat×Nat)):=
 match fieldsOf P t with
 | some all=>cK (fun i=>all[i]?) is
 | none=>none
def pX:Nat→List (Nat×Operand)→Bool
 | _,[]=>true
 | i,(j,_)::r=>i == j && pX (i+1) r
def ck (P:Program) (ρ:Names) (A:kS) (dst:Option Nat):Op→Option (AK×List Operand)
 | .move x | .assign x=>some (.v .mv,[x])
 | .pick c a b=>some (.v .pick,[c,a,b])
 | .binOp op t x y _=>(BV P op t).map fun o=>(.v o,[x,y])
 | .unOp op _ x=>some (.v (.un op),[x])
 | .convert s d x=>match P.underlying s,P.underlying d with
   | some (.int _),some (.int k)=>some (.v (.conv k),[x])
   | some (.slice e),some .string=>match P.underlying e with
     | some (.int .u8)=>some (.v .b2s,[x])
     | _=>none
   | _,_=>none
 | .extract x i=>some (.v (.ext i),[x])
 | .field t x f=>match fW P t f with
   | some fd=>match cT P fd.type,fC P fd.type with
     | some sz,some ag=>some (.v (.field fd.offset sz ag),[x])
     | _,_=>none
   | none=>none
 | .fieldAddr t x f=>match fW P t f with
   | some fd=>match cT P fd.type with
     | some s=>if s=0 then none else some (.v (.aR fd.offset),[x])
     | none=>none
   | none=>none
 | .indexAddr t x i=>match eS P t with
   | some e=>(cT P e).map fun sz=>(.v (.aB sz),[x,i])
   | none=>none
 | .index t x i=>match P.underlying t with
   | some .string=>some (.v .index,[x,i])
   | _=>none
 | .build t ps=>match P.underlying t with
   | some (.struct _)=>match cP P t,placesOf P t (ps.toList.map (·.1)) with
     | some z,some pl=>some (.v (.build z pl),ps.toList.map (·.2))
     | _,_=>none
   | _=>none
 | .buildSlice t n ps=>match eS P t with
   | some e=>match cT P e,cP P e with
     | some sz,some _=>if ps.size=n∧pX 0 ps.toList=true∧0<sz∧n*sz≤16777216 then some (.v (.aU sz),ps.toList.map (·.2)) else none
     | _,_=>none
   | none=>none
 | .load t x=>match cT P t,fC P t with
   | some sz,some ag=>match x with
     | .tmp tx=>match look A.kK tx with
       | some (k,o)=>some (.aS k o sz ag,[x])
       | none=>if A.KD.contains tx then some (.bf sz ag,[x]) else some (.v (.bF sz ag),[x])
     | _=>none
   | _,_=>none
 | .store t x v=>match cT P t,x with
   | some sz,.tmp tx=>match look A.kK tx with
     | some (k,o)=>some (.cR k o sz,[x,v])
     | none=>if A.kp.contains tx=true then some (.ux sz,[x,v]) else some (.cb sz,[x,v])
   | _,_=>none
 | .alloc t=>match cP P t,dst with
   | some z,some d=>match look A.kK d with
     | some (k,0)=>if k=d then some (.alloc d z,[]) else none
     | some _=>none
     | none=>some (.iT z,[])
   | _,_=>none
 | .box t x=>match cT P t,dst with
   | some sz,some d=>match look A.kK d with
     | some (k,0)=>if k=d then some (.box d sz,[x]) else none
     | some _=>none
     | none=>if A.kp.contains d=true then some (.IN sz,[x]) else some (.me sz,[x])
   | _,_=>none
 | .makeMap _ r=>if r.isNone=true then some (.BT,[]) else none
 | .lookup t x i ok=>match P.underlying t with
   | some (.map k e)=>match nW P k,zeroOf P e with
     | some c,some z=>some (.qu c ok z,[x,i])
     | _,_=>none
   | _=>none
 | .mapUpdate t m i x | .insert t m i x=>match P.underlying t with
   | some (.map k _)=>(nW P k).map fun c=>(.IP c,[m,i,x])
   | _=>none
 | .nilCheck x=>some (.v .bm,[x])
 | .makeFunc fn first cap=>match fn with
   | .func f=>if first.size=0 then (ρ.of f).map fun g=>(.v (.FM g),cap.toList) else none
   | _=>none
 | .makeSlice t l c=>match eS P t with
   | some e=>match cT P e,eR P e,fC P e,cP P e with
     | some sz,some by_,some ag,some z=>if z.length=sz∧0<sz then match dst.bind (look A.kK),dst with
         | some (k,0),some d=>if k=d then some (.iU d sz by_ z,[l,c]) else none
         | some _,_=>none
         | none,_=>some (.ik sz by_ ag z,[l,c])
       else none
     | _,_,_,_=>none
   | none=>none
 | .slice t x lo hi mx=>match P.underlying t with
   | some (.slice e)=>if mx.isSome=false∧(dst.map (A.Pw.contains ·)).getD false=true then (cT P e).map fun sz=>(.v (.qt sz lo.isSome hi.isSome),x::(lo.toList++hi.toList++mx.toList))
     else (cT P e).map fun sz=>(.v (.slice false sz lo.isSome hi.isSome mx.isSome),x::(lo.toList++hi.toList++mx.toList))
   | some .string=>if mx.isSome then none else some (.v (.slice true 0 lo.isSome hi.isSome false),x::(lo.toList++hi.toList++mx.toList))
   | _=>none
 | .call c=>match c.callee with
   | .builtin .len=>match c.args.toList,(c.argTypes[0]?).bind P.underlying with
     | [x],some (.slice _)=>some (.v .len,[x])
     | [x],some .string=>some (.v .ji,[x])
     | _,_=>none
   | .builtin .min=>match c.args.toList with
     | [x,y]=>some (.v .mn,[x,y])
     | _=>none
   | .builtin .max=>match c.args.toList with
     | [x,y]=>some (.v .mx,[x,y])
     | _=>none
   | .builtin .append=>match c.args.toList,(c.argTypes[0]?).bind (eS P),(c.argTypes[1]?).bind (eS P) with
     | [x,y],some e,some _=>match cT P e,eR P e,cP P e with
       | some sz,some by_,some z=>if z.length=sz∧0<sz∧0<by_ then
           if (dst.map (A.Pw.contains ·)).getD false then (fC P e).map fun ag=>(.db sz by_ ag,[x,y]) else match dst.bind (look A.dup) with
             | some u=>some (.m5 sz by_,[x,y,.tmp u])
             | none=>some (.append sz by_,[x,y])
         else none
       | _,_,_=>none
     | _,_,_=>none
   | .builtin .clear=>match c.args.toList,(c.argTypes[0]?).bind (eS P) with
     | [x],some e=>match cT P e,cP P e with
       | some sz,some z=>if z.length=sz∧0<sz then some (.iA sz z,[x]) else none
       | _,_=>none
     | _,_=>none
   | .builtin .copy=>match c.args.toList,(c.argTypes[0]?).bind (eS P),(c.argTypes[1]?).bind (eS P) with
     | [x,y],some e,some _=>match cT P e with
       | some sz=>some (.jk sz,[x,y])
       | none=>none
     | _,_,_=>none
   | .value (.func f)=>match ρ.of f with
     | some g=>match look ρ.cl g with
       | some (sz,by_)=>if c.args.size=1 then
           (if (dst.map (A.Pw.contains ·)).getD false=true then match (c.argTypes[0]?).bind (eS P) with
             | some e=>(fC P e).map fun ag=>(.gF sz by_ ag,c.args.toList)
             | none=>none
           else some (.clone sz by_,c.args.toList)) else none
       | none=>if (dst.map (A.q.contains ·)).getD false then some (.kT g,c.args.toList)
       else if ρ.Qf.contains g || (dst.map (A.site.contains ·)).getD false then some (.aI g ((dst.bind (look A.own)).getD []),c.args.toList)
       else if (dst.map (A.ps.contains ·)).getD false then some (.dK g,c.args.toList) else some (.aq g,c.args.toList)
     | none=>none
   | .value (.tmp t)=>if (dst.map (A.ro.contains ·)).getD false=true then some (.dw,.tmp t::c.args.toList) else some (.fU,.tmp t::c.args.toList)
   | _=>none
 | _=>none
def c_ (P:Program) (ρ:Names) (A:kS) (N:Nat) (ops:Array Oper) (o:Oper):Option dq:=
 match ck P ρ A o.dst o.op with
 | some (k,args)=>match cK (iI ρ) args with
   | some as=>
     if (o.dst.map (fun d=>decide (d<N))).getD true=true then
       match o.guard with
       | none=>some { dst:=o.dst,guard:=none,args:=as,op:=k }
       | some (j,b)=>match (ops[j]?).bind (·.dst) with
         | some t=>some { dst:=o.dst,guard:=some (t,b),args:=as,op:=k }
         | none=>none
     else none
   | none=>none
 | none=>none
def dq.looks (o:dq):List Nat:=
 (o.args.filterMap fun | .t n=>some n | _=>none)++(match o.guard with | some (t,_)=>[t] | none=>[])
def AK.iC:AK→Bool
 | .bf .. | .cb _ | .ux _ | .me _ | .IN _ | .iT _ | .ik .. | .dK _ | .aI .. | .fU | .dw | .BT | .qu .. | .IP _ | .db .. | .gF .. | .iA .. | .jk _=>true
 | _=>false
def AK.th:AK→Bool
 | .bf .. | .qu .. | .dw=>true
 | _=>false
def AK.gm:AK→Bool
 | .append .. | .db .. | .m5 .. | .clone .. | .aI .. | .kT _ | .fU | .dw=>true
 | _=>false
def AK.ic:AK→Bool
 | .cR .. | .alloc .. | .box .. | .iU ..=>true
 | _=>false
def indep (x y:dq):Bool:=
 (match x.dst with | some d=>!(y.looks).contains d && y.dst != some d | none=>true) &&
 (match y.dst with | some d=>!(x.looks).contains d | none=>true) &&
 (!(x.op.iC && y.op.iC) || (x.op.th && y.op.th)) && !(x.op.gm && y.op.gm) &&
 (match x.op.key,y.op.key with
  | some a,some b=>a != b || !(x.op.ic || y.op.ic)
  | _,_=>true)
def dq.addr (o:dq):Option Nat:=match o.op,o.args with
 | .bf ..,.t a::_ | .cb _,.t a::_=>some a
 | _,_=>none
def wc (ds:List (Nat×Nat)) (x y:dq):Bool:=
 (match x.dst with | some d=>!(y.looks).contains d && y.dst != some d | none=>true) &&
 (match y.dst with | some d=>!(x.looks).contains d | none=>true) &&
 (match x.addr,y.addr with
  | some a,some b=>ds.contains (a,b)
  | _,_=>false)
def uy:List dq→Bool
 | []=>true
 | x::r=>(match x.addr with | some a=>(x::r).all (fun o=>o.dst != some a) | none=>true) && uy r
def kY:List Oper→List Nat→List Nat
 | [],acc=>acc
 | o::r,acc=>kY r (acc++[o.after.toList.foldl (fun s e=>if Region.binds .any e then s ||| 2 ^ e.on ||| acc.getD e.on 0 else s) 0])
def pY (ds:List (Nat×Nat)) (ms:List Nat) (i:Nat) (x:dq):Nat→List dq→Bool
 | _,[]=>true
 | j,y::r=>((ms.getD j 0).testBit i || indep x y || wc ds x y) && pY ds ms i x (j+1) r
def kZ (ds:List (Nat×Nat)) (ms:List Nat):Nat→List dq→Bool
 | _,[]=>true
 | i,x::r=>pY ds ms i x (i+1) r && kZ ds ms (i+1) r
def gY:Nat→List Oper→Bool
 | _,[]=>true
 | i,o::r=>o.after.toList.all (fun e=>!Region.binds .any e || decide (e.on<i)) && gY (i+1) r
def uz (ds:List (Nat×Nat)) (ops:List Oper) (as:List dq):Bool:=gY 0 ops && (kZ ds (kY ops []) 0 as && uy as)
def jN:Code→Option Nat
 | .region id _ _=>some id
 | .seq a b | .cond _ a b=>match jN a with | some i=>some i | none=>jN b
 | .block _ c | .loop c | .scope c=>jN c
 | _=>none
def au.fM:au→Bool
 | .seq a b | .cond _ a b=>a.fM && b.fM
 | .block _ b | .loop _ b=>b.fM
 | .back ..=>false
 | _=>true
def jm (o:Option (List Nat)) (c:au):au:=match o with
 | some ts=>.seq (.dO ts) c
 | none=>c
def pZ (o:Option (List Nat)) (c:au):au:=match o with
 | some ts=>.seq (.Lv ts) c
 | none=>c
def zc (o:Option (Nat×List Nat×List Nat)) (as:List dq) (live:List Nat):au:=match o with
 | some (k,l,ts)=>.seq (.bn (as.take k) l) (.seq (.kU ts) (.bn (as.drop k) live))
 | none=>.bn as live
def behind (ds:Option (List (Nat×Nat))) (ps:Option (List (Nat×Nat×Bool))) (c:au):au:=
 let c1:=match ds with
   | some ds=>.seq c (.Lu ds)
   | none=>c
 match ps with
 | some ps=>.seq c1 (.kR ps)
 | none=>c1
def fY (P:Program) (ρ:Names) (A:kS) (N:Nat):Code→Option au
 | .skip=>some .skip
 | .region id ops draw=>match cK (c_ P ρ (A.at id) N ops) ops.toList with
   | some as=>if draw then (if uz ((look A.Px id).getD []) ops.toList as then some (jm (look A.fz id) (behind (look A.Px id) (look A.kR id) (.bn as ((look A.live id).getD [])))) else none)
     else match look A.cut id with
       | some q=>some (pZ (look A.fs id) (jm (look A.fz id) (zc (some q) as ((look A.live id).getD []))))
       | none=>some (pZ (look A.fs id) (jm (look A.fz id) (behind (look A.Px id) (look A.kR id) (.bn as ((look A.live id).getD [])))))
   | none=>none
 | .seq a b=>match fY P ρ A N a,fY P ρ A N b with
   | some x,some y=>some (.seq x y)
   | _,_=>none
 | .cond c a b=>match iI ρ c,fY P ρ A N a,fY P ρ A N b with
   | some c,some x,some y=>some (.cond c x y)
   | _,_,_=>none
 | .block id b=>(fY P ρ A N b).map (.block id)
 | .loop b=>(fY P ρ A N b).map (.loop (((jN b).bind (look A.loops)).getD []))
 | .exit id=>some (.exit id)
 | .ret=>some .ret
 | _=>none
def BW (P:Program):ResultVar→Option qv
 | .tmp t=>some (.t t)
 | .cell a t=>match cT P t,fC P t with
   | some sz,some ag=>some (.c a sz ag)
   | _,_=>none
def oS (P:Program) (ρ:Names) (A:kS) (fn:Func):Option aD:=
 match fn.body,cK (BW P) fn.results.toList with
 | some b,some rs=>if fn.params.size+fn.nfree≤fn.ntmps∧fn.name != "runtime.NumGoroutine" then
     (fY P ρ A fn.ntmps b).map fun c=>{ nparams:=fn.params.size,ntmps:=fn.ntmps,results:=rs,body:=c,ks:=A.ks } else none
 | _,_=>none
end Go.Ab
