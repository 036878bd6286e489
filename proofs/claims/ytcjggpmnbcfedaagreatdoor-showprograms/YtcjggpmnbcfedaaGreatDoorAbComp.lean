import Derived.Test.YtcjggpmnbcfedaaGreatDoorAbDefs
import Derived.Calls
/-
  From the loaded program's code to slim code: types resolved, functions under their lasting numbers. 'compF' is what the kernel holds a function's slim code against.
-/
set_option linter.unusedVariables false
set_option linter.unusedSimpArgs false
set_option linter.unnecessarySimpa false
set_option maxRecDepth 100000
set_option maxHeartbeats 8000000
namespace Go.Ab
structure lJ where
 lK:List (Nat×Nat×Nat)
 ON:List Nat
 ps:List Nat
 live:List (Nat×List Nat)
 loops:List (Nat×List Nat)
 site:List Nat
 own:List (Nat×List Nat)
 Eg:List (Nat×Nat):=[]
 ks:Bool:=false
 q:List Nat:=[]
 Tt:List Nat:=[]
 fz:List (Nat×List Nat):=[]
 dup:List (Nat×Nat):=[]
 ro:List Nat:=[]
 Tu:List (Nat×List (Nat×Nat)):=[]
 lS:List (Nat×List (Nat×Nat×Bool)):=[]
 pr:List (Nat×List (Nat×Nat×Nat)):=[]
 cut:List (Nat×Nat×List Nat×List Nat):=[]
 fs:List (Nat×List Nat):=[]
 kp:List Nat:=[]
def lJ.at (A:lJ) (id:Nat):lJ:=match look A.pr id with
 | some l=>{ A with lK:=l++A.lK }
 | none=>A
structure Names where
 g:List (Nat×Nat)
 Ut:List Nat
 bk:List (Nat×Nat×Bool):=[]
 cl:List (Nat×Nat×Nat):=[]
def Names.of (ρ:Names) (f:Nat):Option Nat:=look ρ.g f
def cR (P:Program) (t:TypeId):Option Nat:=(P.info? t).map (·.size)
def eD (P:Program) (t:TypeId):Option Nat:=(P.info? t).map (·.bytes)
def gj (P:Program) (t:TypeId):Option Bool:=(P.underlying t).map fun | .struct _ | .array ..=>true | _=>false
def dZ:Value→Option PV
 | .bool b=>some (.bool b)
 | .int k n=>some (.int k n)
 | .string s=>some (.str s.data.toList)
 | .slice none 0 0=>some (.aE [])
 | _=>none
def A6 (v:Value):Option AV:=
 match v with
 | .slice none 0 0=>some (.bJ [])
 | .pointer none=>some .dS
 | .nilFunc=>some .dS
 | v=>(dZ v).map .pv
def cH {α β:Type} (f:α→Option β):List α→Option (List β)
 | []=>some []
 | x::r=>match f x,cH f r with
   | some y,some ys=>some (y::ys)
   | _,_=>none
def cO (P:Program) (t:TypeId):Option (List PV):=
 match (P.info? t).bind (·.zero) with
 | some z=>cH dZ z.cells.toList
 | none=>none
def ja (ρ:Names):Operand→Option fF
 | .tmp t=>some (.t t)
 | .const v=>(A6 v).map .c
 | .func f=>(ρ.of f).map fun g=>.c (.fn g [])
 | .global _=>none
def fq (P:Program) (t:TypeId):Option TypeId:=match P.underlying t with | some (.slice e)=>some e | _=>none
def gw (P:Program) (t:TypeId) (f:Nat):Option Field:=match P.underlying t with | some (.struct fs)=>fs[f]? | _=>none
def gY (P:Program) (t:TypeId):Option CK:=if cR P t=some 1 then match P.underlying t with
 | some (.int _)=>some .int
 | some .string=>some .str
 | some .bool=>some .bool
 | _=>none
 else none
def iy (P:Program):Nat→List Field→Option (List CK)
 | _,[]=>some []
 | i,f::r=>if f.name ≠ "_"∧f.offset=i then match gY P f.type,iy P (i+1) r with
   | some c,some cs=>some (c::cs)
   | _,_=>none
   else none
def zeroOf (P:Program) (t:TypeId):Option PV:=match (P.info? t).bind (·.zero) with
 | some (.agg cs)=>(cH dZ cs.toList).map .agg
 | some v=>dZ v
 | none=>none
def Eh (P:Program) (op:BinOp) (t:TypeId):Option ua:=
 match P.underlying t with
 | some (.int _) | some .string=>some (.bin op)
 | some .bool=>if op=.eql then some (.beq false) else if op=.neq then some (.beq true) else none
 | some (.struct fs)=>if P.stoodInHeld t=false∧P.eqGuardType P.depth t=false then match iy P 0 fs.toList with
     | some cs=>if op=.eql then some (.Rd cs false) else if op=.neq then some (.Rd cs true) else none
     | none=>none
   else none
 | _=>none
def fieldsOf (P:Program) (t:TypeId):Option (List (Nat×Nat)):=
 match P.underlying t with
 | some (.struct fs)=>cH (fun f=>(cR P f.type).map fun s=>(f.offset,s)) fs.toList
 | _=>none
def placesOf (P:Program) (t:TypeId) (is:List Nat):Option (List (Nat×Nat)):=
 match fieldsOf P t with
 | some all=>cH (fun i=>all[i]?) is
 | none=>none
def rj:Nat→List (Nat×Operand)→Bool
 | _,[]=>true
 | i,(j,_)::r=>i == j && rj (i+1) r
def bH (P:Program) (ρ:Names) (A:lJ) (dst:Option Nat):Op→Option (AK×List Operand)
 | .move x | .assign x=>some (.v .mv,[x])
 | .pick c a b=>some (.v .pick,[c,a,b])
 | .binOp op t x y _=>(Eh P op t).map fun o=>(.v o,[x,y])
 | .unOp op _ x=>some (.v (.un op),[x])
 | .convert s d x=>match P.underlying s,P.underlying d with
   | some (.int _),some (.int k)=>some (.v (.conv k),[x])
   | some (.slice e),some .string=>match P.underlying e with
     | some (.int .u8)=>some (.v .b2s,[x])
     | _=>none
   | _,_=>none
 | .extract x i=>some (.v (.ext i),[x])
 | .field t x f=>match gw P t f with
   | some fd=>match cR P fd.type,gj P fd.type with
     | some sz,some ag=>some (.v (.field fd.offset sz ag),[x])
     | _,_=>none
   | none=>none
 | .fieldAddr t x f=>match gw P t f with
   | some fd=>match cR P fd.type with
     | some s=>if s=0 then none else some (.v (.bp fd.offset),[x])
     | none=>none
   | none=>none
 | .indexAddr t x i=>match fq P t with
   | some e=>(cR P e).map fun sz=>(.v (.aC sz),[x,i])
   | none=>none
 | .index t x i=>match P.underlying t with
   | some .string=>some (.v .index,[x,i])
   | _=>none
 | .build t ps=>match P.underlying t with
   | some (.struct _)=>match cO P t,placesOf P t (ps.toList.map (·.1)) with
     | some z,some pl=>some (.v (.build z pl),ps.toList.map (·.2))
     | _,_=>none
   | _=>none
 | .buildSlice t n ps=>match fq P t with
   | some e=>match cR P e,cO P e with
     | some sz,some _=>if ps.size=n∧rj 0 ps.toList=true∧0<sz∧n*sz≤16777216 then some (.v (.aR sz),ps.toList.map (·.2)) else none
     | _,_=>none
   | none=>none
 | .load t x=>match cR P t,gj P t with
   | some sz,some ag=>match x with
     | .tmp tx=>match look A.lK tx with
       | some (k,o)=>some (.bh k o sz ag,[x])
       | none=>if A.ON.contains tx then some (.bf sz ag,[x]) else some (.v (.bL sz ag),[x])
     | _=>none
   | _,_=>none
 | .store t x v=>match cR P t,x with
   | some sz,.tmp tx=>match look A.lK tx with
     | some (k,o)=>some (.cY k o sz,[x,v])
     | none=>if A.kp.contains tx=true then some (.kG sz,[x,v]) else some (.cZ sz,[x,v])
   | _,_=>none
 | .alloc t=>match cO P t,dst with
   | some z,some d=>match look A.lK d with
     | some (k,0)=>if k=d then some (.alloc d z,[]) else none
     | some _=>none
     | none=>some (.jX z,[])
   | _,_=>none
 | .box t x=>match cR P t,dst with
   | some sz,some d=>match look A.lK d with
     | some (k,0)=>if k=d then some (.box d sz,[x]) else none
     | some _=>none
     | none=>if A.kp.contains d=true then some (.vW sz,[x]) else some (.nA sz,[x])
   | _,_=>none
 | .makeMap _ r=>if r.isNone=true then some (.ot,[]) else none
 | .lookup t x i ok=>match P.underlying t with
   | some (.map k e)=>match gY P k,zeroOf P e with
     | some c,some z=>some (.ku c ok z,[x,i])
     | _,_=>none
   | _=>none
 | .mapUpdate t m i x | .insert t m i x=>match P.underlying t with
   | some (.map k _)=>(gY P k).map fun c=>(.rR c,[m,i,x])
   | _=>none
 | .nilCheck x=>some (.v .bj,[x])
 | .makeFunc fn first cap=>match fn with
   | .func f=>if first.size=0 then (ρ.of f).map fun g=>(.v (.MH g),cap.toList) else none
   | _=>none
 | .makeSlice t l c=>match fq P t with
   | some e=>match cR P e,eD P e,gj P e,cO P e with
     | some sz,some by_,some ag,some z=>if z.length=sz∧0<sz then match dst.bind (look A.lK),dst with
         | some (k,0),some d=>if k=d then some (.kr d sz by_ z,[l,c]) else none
         | some _,_=>none
         | none,_=>some (.iY sz by_ ag z,[l,c])
       else none
     | _,_,_,_=>none
   | none=>none
 | .slice t x lo hi mx=>match P.underlying t with
   | some (.slice e)=>if mx.isSome=false∧(dst.map (A.Tt.contains ·)).getD false=true then (cR P e).map fun sz=>(.v (.A3 sz lo.isSome hi.isSome),x::(lo.toList++hi.toList++mx.toList))
     else (cR P e).map fun sz=>(.v (.slice false sz lo.isSome hi.isSome mx.isSome),x::(lo.toList++hi.toList++mx.toList))
   | some .string=>if mx.isSome then none else some (.v (.slice true 0 lo.isSome hi.isSome false),x::(lo.toList++hi.toList++mx.toList))
   | _=>none
 | .call c=>match c.callee with
   | .builtin .len=>match c.args.toList,(c.argTypes[0]?).bind P.underlying with
     | [x],some (.slice _)=>some (.v .len,[x])
     | [x],some .string=>some (.v .kq,[x])
     | _,_=>none
   | .builtin .min=>match c.args.toList with
     | [x,y]=>some (.v .mn,[x,y])
     | _=>none
   | .builtin .max=>match c.args.toList with
     | [x,y]=>some (.v .mx,[x,y])
     | _=>none
   | .builtin .append=>match c.args.toList,(c.argTypes[0]?).bind (fq P),(c.argTypes[1]?).bind (fq P) with
     | [x,y],some e,some _=>match cR P e,eD P e,cO P e with
       | some sz,some by_,some z=>if z.length=sz∧0<sz∧0<by_ then
           if (dst.map (A.Tt.contains ·)).getD false then (gj P e).map fun ag=>(.dH sz by_ ag,[x,y]) else match dst.bind (look A.dup) with
             | some u=>some (.gW sz by_,[x,y,.tmp u])
             | none=>some (.append sz by_,[x,y])
         else none
       | _,_,_=>none
     | _,_,_=>none
   | .builtin .clear=>match c.args.toList,(c.argTypes[0]?).bind (fq P) with
     | [x],some e=>match cR P e,cO P e with
       | some sz,some z=>if z.length=sz∧0<sz then some (.jY sz z,[x]) else none
       | _,_=>none
     | _,_=>none
   | .builtin .copy=>match c.args.toList,(c.argTypes[0]?).bind (fq P),(c.argTypes[1]?).bind (fq P) with
     | [x,y],some e,some _=>match cR P e with
       | some sz=>some (.lR sz,[x,y])
       | none=>none
     | _,_,_=>none
   | .value (.func f)=>match ρ.of f with
     | some g=>match look ρ.cl g with
       | some (sz,by_)=>if c.args.size=1 then
           (if (dst.map (A.Tt.contains ·)).getD false=true then match (c.argTypes[0]?).bind (fq P) with
             | some e=>(gj P e).map fun ag=>(.lQ sz by_ ag,c.args.toList)
             | none=>none
           else some (.clone sz by_,c.args.toList)) else none
       | none=>if (dst.map (A.q.contains ·)).getD false then some (.lA g,c.args.toList)
       else if ρ.Ut.contains g || (dst.map (A.site.contains ·)).getD false then some (.aF g ((dst.bind (look A.own)).getD []),c.args.toList)
       else if (dst.map (A.ps.contains ·)).getD false then some (.d7 g,c.args.toList) else some (.aq g,c.args.toList)
     | none=>none
   | .value (.tmp t)=>if (dst.map (A.ro.contains ·)).getD false=true then some (.dw,.tmp t::c.args.toList) else some (.jG,.tmp t::c.args.toList)
   | _=>none
 | _=>none
def dm (P:Program) (ρ:Names) (A:lJ) (N:Nat) (ops:Array Oper) (o:Oper):Option dK:=
 match bH P ρ A o.dst o.op with
 | some (k,args)=>match cH (ja ρ) args with
   | some as=>
     if (o.dst.map (fun d=>decide (d<N))).getD true=true then
       match o.guard with
       | none=>some { dst:=o.dst,guard:=none,args:=as,op:=k }
       | some (j,b)=>match (ops[j]?).bind (·.dst) with
         | some t=>some { dst:=o.dst,guard:=some (t,b),args:=as,op:=k }
         | none=>none
     else none
   | none=>none
 | none=>none
def dK.looks (o:dK):List Nat:=
 (o.args.filterMap fun | .t n=>some n | _=>none)++(match o.guard with | some (t,_)=>[t] | none=>[])
def AK.iS:AK→Bool
 | .bf .. | .cZ _ | .kG _ | .nA _ | .vW _ | .jX _ | .iY .. | .d7 _ | .aF .. | .jG | .dw | .ot | .ku .. | .rR _ | .dH .. | .lQ .. | .jY .. | .lR _=>true
 | _=>false
def AK.uF:AK→Bool
 | .bf .. | .ku .. | .dw=>true
 | _=>false
def AK.gr:AK→Bool
 | .append .. | .dH .. | .gW .. | .clone .. | .aF .. | .lA _ | .jG | .dw=>true
 | _=>false
def AK.iF:AK→Bool
 | .cY .. | .alloc .. | .box .. | .kr ..=>true
 | _=>false
def indep (x y:dK):Bool:=
 (match x.dst with | some d=>!(y.looks).contains d && y.dst != some d | none=>true) &&
 (match y.dst with | some d=>!(x.looks).contains d | none=>true) &&
 (!(x.op.iS && y.op.iS) || (x.op.uF && y.op.uF)) && !(x.op.gr && y.op.gr) &&
 (match x.op.key,y.op.key with
  | some a,some b=>a != b || !(x.op.iF || y.op.iF)
  | _,_=>true)
def dK.addr (o:dK):Option Nat:=match o.op,o.args with
 | .bf ..,.t a::_ | .cZ _,.t a::_=>some a
 | _,_=>none
def xU (ds:List (Nat×Nat)) (x y:dK):Bool:=
 (match x.dst with | some d=>!(y.looks).contains d && y.dst != some d | none=>true) &&
 (match y.dst with | some d=>!(x.looks).contains d | none=>true) &&
 (match x.addr,y.addr with
  | some a,some b=>ds.contains (a,b)
  | _,_=>false)
def vX:List dK→Bool
 | []=>true
 | x::r=>(match x.addr with | some a=>(x::r).all (fun o=>o.dst != some a) | none=>true) && vX r
def lV:List Oper→List Nat→List Nat
 | [],acc=>acc
 | o::r,acc=>lV r (acc++[o.after.toList.foldl (fun s e=>if Region.binds .any e then s ||| 2 ^ e.on ||| acc.getD e.on 0 else s) 0])
def rm (ds:List (Nat×Nat)) (ms:List Nat) (i:Nat) (x:dK):Nat→List dK→Bool
 | _,[]=>true
 | j,y::r=>((ms.getD j 0).testBit i || indep x y || xU ds x y) && rm ds ms i x (j+1) r
def lW (ds:List (Nat×Nat)) (ms:List Nat):Nat→List dK→Bool
 | _,[]=>true
 | i,x::r=>rm ds ms i x (i+1) r && lW ds ms (i+1) r
def iz:Nat→List Oper→Bool
 | _,[]=>true
 | i,o::r=>o.after.toList.all (fun e=>!Region.binds .any e || decide (e.on<i)) && iz (i+1) r
def vY (ds:List (Nat×Nat)) (ops:List Oper) (as:List dK):Bool:=iz 0 ops && (lW ds (lV ops []) 0 as && vX as)
def jm:Code→Option Nat
 | .region id _ _=>some id
 | .seq a b | .cond _ a b=>match jm a with | some i=>some i | none=>jm b
 | .block _ c | .loop c | .scope c=>jm c
 | _=>none
def aA.eQ:aA→Bool
 | .seq a b | .cond _ a b=>a.eQ && b.eQ
 | .block _ b | .loop _ b=>b.eQ
 | .back ..=>false
 | _=>true
def jJ (o:Option (List Nat)) (c:aA):aA:=match o with
 | some ts=>.seq (.dL ts) c
 | none=>c
def rn (o:Option (List Nat)) (c:aA):aA:=match o with
 | some ts=>.seq (.QQ ts) c
 | none=>c
def A7 (o:Option (Nat×List Nat×List Nat)) (as:List dK) (live:List Nat):aA:=match o with
 | some (k,l,ts)=>.seq (.bw (as.take k) l) (.seq (.mF ts) (.bw (as.drop k) live))
 | none=>.bw as live
def behind (ds:Option (List (Nat×Nat))) (ps:Option (List (Nat×Nat×Bool))) (c:aA):aA:=
 let c1:=match ds with
   | some ds=>.seq c (.PB ds)
   | none=>c
 match ps with
 | some ps=>.seq c1 (.lS ps)
 | none=>c1
def fu (P:Program) (ρ:Names) (A:lJ) (N:Nat):Code→Option aA
 | .skip=>some .skip
 | .region id ops draw=>match cH (dm P ρ (A.at id) N ops) ops.toList with
   | some as=>if draw then (if vY ((look A.Tu id).getD []) ops.toList as then some (jJ (look A.fz id) (behind (look A.Tu id) (look A.lS id) (.bw as ((look A.live id).getD [])))) else none)
     else match look A.cut id with
       | some q=>some (rn (look A.fs id) (jJ (look A.fz id) (A7 (some q) as ((look A.live id).getD []))))
       | none=>some (rn (look A.fs id) (jJ (look A.fz id) (behind (look A.Tu id) (look A.lS id) (.bw as ((look A.live id).getD [])))))
   | none=>none
 | .seq a b=>match fu P ρ A N a,fu P ρ A N b with
   | some x,some y=>some (.seq x y)
   | _,_=>none
 | .cond c a b=>match ja ρ c,fu P ρ A N a,fu P ρ A N b with
   | some c,some x,some y=>some (.cond c x y)
   | _,_,_=>none
 | .block id b=>(fu P ρ A N b).map (.block id)
 | .loop b=>(fu P ρ A N b).map (.loop (((jm b).bind (look A.loops)).getD []))
 | .exit id=>some (.exit id)
 | .ret=>some .ret
 | .rangeFunc (.tmp t) ps a b=>match ps.toList,look A.Eg t with
   | [pi,px],some gb=>match look ρ.bk gb,fu P ρ A N a,fu P ρ A N b with
     | some (sz,ag),some x,some y=>if x.eQ=true∧y.eQ=true∧pi<N∧px<N then some (.back (.t t) gb pi px sz ag (((jm a).bind (look A.loops)).getD []) x y) else none
     | _,_,_=>none
   | _,_=>none
 | _=>none
def Ei (P:Program):ResultVar→Option rS
 | .tmp t=>some (.t t)
 | .cell a t=>match cR P t,gj P t with
   | some sz,some ag=>some (.c a sz ag)
   | _,_=>none
def qk (P:Program) (ρ:Names) (A:lJ) (fn:Func):Option aD:=
 match fn.body,cH (Ei P) fn.results.toList with
 | some b,some rs=>if fn.params.size+fn.nfree≤fn.ntmps∧fn.name != "runtime.NumGoroutine" then
     (fu P ρ A fn.ntmps b).map fun c=>{ nparams:=fn.params.size,ntmps:=fn.ntmps,results:=rs,body:=c,ks:=A.ks } else none
 | _,_=>none
end Go.Ab
