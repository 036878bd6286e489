import Derived.Test.YtfhhognolpjikaaGreatAbDefs
import Derived.Calls
/-
  From the loaded program's code to slim code: types resolved, functions under their lasting numbers. 'compF' is what the kernel holds a function's slim code against.
-/
set_option linter.unusedVariables false
set_option linter.unusedSimpArgs false
set_option maxRecDepth 100000
set_option maxHeartbeats 8000000
namespace Go.Ab
structure nD where
 mF:List (Nat×Nat×Nat)
 LZ:List Nat
 ps:List Nat
 live:List (Nat×List Nat)
 loops:List (Nat×List Nat)
 site:List Nat
 own:List (Nat×List Nat)
 BR:List (Nat×Nat):=[]
 ks:Bool:=false
 q:List Nat:=[]
 QY:List Nat:=[]
 fz:List (Nat×List Nat):=[]
structure Names where
 g:List (Nat×Nat)
 Re:List Nat
 bk:List (Nat×Nat×Bool):=[]
 cl:List (Nat×Nat×Nat):=[]
def Names.of (ρ:Names) (f:Nat):Option Nat:=look ρ.g f
def dD (P:Program) (t:TypeId):Option Nat:=(P.info? t).map (·.size)
def fY (P:Program) (t:TypeId):Option Nat:=(P.info? t).map (·.bytes)
def fZ (P:Program) (t:TypeId):Option Bool:=(P.underlying t).map fun | .struct _ | .array ..=>true | _=>false
def dv:Value→Option PV
 | .bool b=>some (.bool b)
 | .int k n=>some (.int k n)
 | .string s=>some (.str s.data.toList)
 | .slice none 0 0=>some (.aD [])
 | _=>none
def yx (v:Value):Option AV:=
 match v with
 | .slice none 0 0=>some (.bB [])
 | .pointer none=>some .dk
 | .nilFunc=>some .dk
 | v=>(dv v).map .pv
def dw {α β:Type} (f:α→Option β):List α→Option (List β)
 | []=>some []
 | x::r=>match f x,dw f r with
   | some y,some ys=>some (y::ys)
   | _,_=>none
def db (P:Program) (t:TypeId):Option (List PV):=
 match (P.info? t).bind (·.zero) with
 | some z=>dw dv z.cells.toList
 | none=>none
def ig (ρ:Names):Operand→Option eH
 | .tmp t=>some (.t t)
 | .const v=>(yx v).map .c
 | .func f=>(ρ.of f).map fun g=>.c (.fn g [])
 | .global _=>none
def f_ (P:Program) (t:TypeId):Option TypeId:=match P.underlying t with | some (.slice e)=>some e | _=>none
def iA (P:Program) (t:TypeId) (f:Nat):Option Field:=match P.underlying t with | some (.struct fs)=>fs[f]? | _=>none
def ga (P:Program) (t:TypeId):Option CK:=if dD P t=some 1 then match P.underlying t with
 | some (.int _)=>some .int
 | some .string=>some .str
 | some .bool=>some .bool
 | _=>none
 else none
def gJ (P:Program):Nat→List Field→Option (List CK)
 | _,[]=>some []
 | i,f::r=>if f.name ≠ "_"∧f.offset=i then match ga P f.type,gJ P (i+1) r with
   | some c,some cs=>some (c::cs)
   | _,_=>none
   else none
def zeroOf (P:Program) (t:TypeId):Option PV:=match (P.info? t).bind (·.zero) with
 | some (.agg cs)=>(dw dv cs.toList).map .agg
 | some v=>dv v
 | none=>none
def BS (P:Program) (op:BinOp) (t:TypeId):Option Gc:=
 match P.underlying t with
 | some (.int _) | some .string=>some (.bin op)
 | some .bool=>if op=.eql then some (.beq false) else if op=.neq then some (.beq true) else none
 | some (.struct fs)=>if P.stoodInHeld t=false∧P.eqGuardType P.depth t=false then match gJ P 0 fs.toList with
     | some cs=>if op=.eql then some (.Oy cs false) else if op=.neq then some (.Oy cs true) else none
     | none=>none
   else none
 | _=>none
def fieldsOf (P:Program) (t:TypeId):Option (List (Nat×Nat)):=
 match P.underlying t with
 | some (.struct fs)=>dw (fun f=>(dD P f.type).map fun s=>(f.offset,s)) fs.toList
 | _=>none
def placesOf (P:Program) (t:TypeId) (is:List Nat):Option (List (Nat×Nat)):=
 match fieldsOf P t with
 | some all=>dw (fun i=>all[i]?) is
 | none=>none
def pF:Nat→List (Nat×Operand)→Bool
 | _,[]=>true
 | i,(j,_)::r=>i == j && pF (i+1) r
def bY (P:Program) (ρ:Names) (A:nD) (dst:Option Nat):Op→Option (AK×List Operand)
 | .move x | .assign x=>some (.v .mv,[x])
 | .pick c a b=>some (.v .pick,[c,a,b])
 | .binOp op t x y _=>(BS P op t).map fun o=>(.v o,[x,y])
 | .unOp op _ x=>some (.v (.un op),[x])
 | .convert s d x=>match P.underlying s,P.underlying d with
   | some (.int _),some (.int k)=>some (.v (.conv k),[x])
   | _,_=>none
 | .extract x i=>some (.v (.ext i),[x])
 | .field t x f=>match iA P t f with
   | some fd=>match dD P fd.type,fZ P fd.type with
     | some sz,some ag=>some (.v (.field fd.offset sz ag),[x])
     | _,_=>none
   | none=>none
 | .fieldAddr t x f=>match iA P t f with
   | some fd=>match dD P fd.type with
     | some s=>if s=0 then none else some (.v (.bh fd.offset),[x])
     | none=>none
   | none=>none
 | .indexAddr t x i=>match f_ P t with
   | some e=>(dD P e).map fun sz=>(.v (.aE sz),[x,i])
   | none=>none
 | .index t x i=>match P.underlying t with
   | some .string=>some (.v .index,[x,i])
   | _=>none
 | .build t ps=>match P.underlying t with
   | some (.struct _)=>match db P t,placesOf P t (ps.toList.map (·.1)) with
     | some z,some pl=>some (.v (.build z pl),ps.toList.map (·.2))
     | _,_=>none
   | _=>none
 | .buildSlice t n ps=>match f_ P t with
   | some e=>match dD P e,db P e with
     | some sz,some _=>if ps.size=n∧pF 0 ps.toList=true∧0<sz∧n*sz≤16777216 then some (.v (.aT sz),ps.toList.map (·.2)) else none
     | _,_=>none
   | none=>none
 | .load t x=>match dD P t,fZ P t with
   | some sz,some ag=>match x with
     | .tmp tx=>match look A.mF tx with
       | some (k,o)=>some (.bj k o sz ag,[x])
       | none=>if A.LZ.contains tx then some (.aZ sz ag,[x]) else some (.v (.aN sz ag),[x])
     | _=>none
   | _,_=>none
 | .store t x v=>match dD P t,x with
   | some sz,.tmp tx=>match look A.mF tx with
     | some (k,o)=>some (.cT k o sz,[x,v])
     | none=>some (.cU sz,[x,v])
   | _,_=>none
 | .alloc t=>match db P t,dst with
   | some z,some d=>match look A.mF d with
     | some (k,0)=>if k=d then some (.alloc d z,[]) else none
     | some _=>none
     | none=>some (.hH z,[])
   | _,_=>none
 | .box t x=>match dD P t,dst with
   | some sz,some d=>match look A.mF d with
     | some (k,0)=>if k=d then some (.box d sz,[x]) else none
     | some _=>none
     | none=>some (.lS sz,[x])
   | _,_=>none
 | .makeMap _ r=>if r.isNone=true then some (.ki,[]) else none
 | .lookup t x i ok=>match P.underlying t with
   | some (.map k e)=>match ga P k,zeroOf P e with
     | some c,some z=>some (.ix c ok z,[x,i])
     | _,_=>none
   | _=>none
 | .mapUpdate t m i x | .insert t m i x=>match P.underlying t with
   | some (.map k _)=>(ga P k).map fun c=>(.mC c,[m,i,x])
   | _=>none
 | .nilCheck x=>some (.v .aY,[x])
 | .makeFunc fn first cap=>match fn with
   | .func f=>if first.size=0 then (ρ.of f).map fun g=>(.v (.CG g),cap.toList) else none
   | _=>none
 | .makeSlice t l c=>match f_ P t with
   | some e=>match dD P e,fY P e,fZ P e,db P e with
     | some sz,some by_,some ag,some z=>if z.length=sz∧0<sz then some (.jg sz by_ ag z,[l,c]) else none
     | _,_,_,_=>none
   | none=>none
 | .slice t x lo hi mx=>match P.underlying t with
   | some (.slice e)=>if mx.isSome=false∧(dst.map (A.QY.contains ·)).getD false=true then (dD P e).map fun sz=>(.v (.p6 sz lo.isSome hi.isSome),x::(lo.toList++hi.toList++mx.toList))
     else (dD P e).map fun sz=>(.v (.slice false sz lo.isSome hi.isSome mx.isSome),x::(lo.toList++hi.toList++mx.toList))
   | some .string=>if mx.isSome then none else some (.v (.slice true 0 lo.isSome hi.isSome false),x::(lo.toList++hi.toList++mx.toList))
   | _=>none
 | .call c=>match c.callee with
   | .builtin .len=>match c.args.toList,(c.argTypes[0]?).bind P.underlying with
     | [x],some (.slice _)=>some (.v .len,[x])
     | [x],some .string=>some (.v .jx,[x])
     | _,_=>none
   | .builtin .min=>match c.args.toList with
     | [x,y]=>some (.v .mn,[x,y])
     | _=>none
   | .builtin .max=>match c.args.toList with
     | [x,y]=>some (.v .mx,[x,y])
     | _=>none
   | .builtin .append=>match c.args.toList,(c.argTypes[0]?).bind (f_ P),(c.argTypes[1]?).bind (f_ P) with
     | [x,y],some e,some _=>match dD P e,fY P e,db P e with
       | some sz,some by_,some z=>if z.length=sz∧0<sz∧0<by_ then
           if (dst.map (A.QY.contains ·)).getD false then (fZ P e).map fun ag=>(.c_ sz by_ ag,[x,y]) else some (.append sz by_,[x,y])
         else none
       | _,_,_=>none
     | _,_,_=>none
   | .builtin .clear=>match c.args.toList,(c.argTypes[0]?).bind (f_ P) with
     | [x],some e=>match dD P e,db P e with
       | some sz,some z=>if z.length=sz∧0<sz then some (.fR sz z,[x]) else none
       | _,_=>none
     | _,_=>none
   | .value (.func f)=>match ρ.of f with
     | some g=>match look ρ.cl g with
       | some (sz,by_)=>if c.args.size=1 then some (.clone sz by_,c.args.toList) else none
       | none=>if (dst.map (A.q.contains ·)).getD false then some (.jh g,c.args.toList)
       else if ρ.Re.contains g || (dst.map (A.site.contains ·)).getD false then some (.aI g ((dst.bind (look A.own)).getD []),c.args.toList)
       else if (dst.map (A.ps.contains ·)).getD false then some (.dW g,c.args.toList) else some (.aB g,c.args.toList)
     | none=>none
   | .value (.tmp t)=>some (.eK,.tmp t::c.args.toList)
   | _=>none
 | _=>none
def fo (P:Program) (ρ:Names) (A:nD) (N:Nat) (ops:Array Oper) (o:Oper):Option dV:=
 match bY P ρ A o.dst o.op with
 | some (k,args)=>match dw (ig ρ) args with
   | some as=>
     if (o.dst.map (fun d=>decide (d<N))).getD true=true then
       match o.guard with
       | none=>some { dst:=o.dst,guard:=none,args:=as,op:=k }
       | some (j,b)=>match (ops[j]?).bind (·.dst) with
         | some t=>some { dst:=o.dst,guard:=some (t,b),args:=as,op:=k }
         | none=>none
     else none
   | none=>none
 | none=>none
def dV.looks (o:dV):List Nat:=
 (o.args.filterMap fun | .t n=>some n | _=>none)++(match o.guard with | some (t,_)=>[t] | none=>[])
def AK.iB:AK→Bool
 | .aZ .. | .cU _ | .lS _ | .hH _ | .jg .. | .dW _ | .aI .. | .eK | .ki | .ix .. | .mC _ | .c_ .. | .fR ..=>true
 | _=>false
def AK.sr:AK→Bool
 | .aZ .. | .ix ..=>true
 | _=>false
def AK.gf:AK→Bool
 | .append .. | .c_ .. | .clone .. | .aI .. | .jh _ | .eK=>true
 | _=>false
def AK.ij:AK→Bool
 | .cT .. | .alloc .. | .box ..=>true
 | _=>false
def indep (x y:dV):Bool:=
 (match x.dst with | some d=>!(y.looks).contains d && y.dst != some d | none=>true) &&
 (match y.dst with | some d=>!(x.looks).contains d | none=>true) &&
 (!(x.op.iB && y.op.iB) || (x.op.sr && y.op.sr)) && !(x.op.gf && y.op.gf) &&
 (match x.op.key,y.op.key with
  | some a,some b=>a != b || !(x.op.ij || y.op.ij)
  | _,_=>true)
def km:List Oper→List Nat→List Nat
 | [],acc=>acc
 | o::r,acc=>km r (acc++[o.after.toList.foldl (fun s e=>if Region.binds .any e then s ||| 2 ^ e.on ||| acc.getD e.on 0 else s) 0])
def pG (ms:List Nat) (i:Nat) (x:dV):Nat→List dV→Bool
 | _,[]=>true
 | j,y::r=>((ms.getD j 0).testBit i || indep x y) && pG ms i x (j+1) r
def ko (ms:List Nat):Nat→List dV→Bool
 | _,[]=>true
 | i,x::r=>pG ms i x (i+1) r && ko ms (i+1) r
def gK:Nat→List Oper→Bool
 | _,[]=>true
 | i,o::r=>o.after.toList.all (fun e=>!Region.binds .any e || decide (e.on<i)) && gK (i+1) r
def tE (ops:List Oper) (as:List dV):Bool:=gK 0 ops && ko (km ops []) 0 as
def iC:Code→Option Nat
 | .region id _ _=>some id
 | .seq a b | .cond _ a b=>match iC a with | some i=>some i | none=>iC b
 | .block _ c | .loop c | .scope c=>iC c
 | _=>none
def aw.ee:aw→Bool
 | .seq a b | .cond _ a b=>a.ee && b.ee
 | .block _ b | .loop _ b=>b.ee
 | .back ..=>false
 | _=>true
def mG (o:Option (List Nat)) (c:aw):aw:=match o with
 | some ts=>.seq (.de ts) c
 | none=>c
def eG (P:Program) (ρ:Names) (A:nD) (N:Nat):Code→Option aw
 | .skip=>some .skip
 | .region id ops draw=>match dw (fo P ρ A N ops) ops.toList with
   | some as=>if draw then (if tE ops.toList as then some (mG (look A.fz id) (.ae as ((look A.live id).getD []))) else none) else some (mG (look A.fz id) (.ae as ((look A.live id).getD [])))
   | none=>none
 | .seq a b=>match eG P ρ A N a,eG P ρ A N b with
   | some x,some y=>some (.seq x y)
   | _,_=>none
 | .cond c a b=>match ig ρ c,eG P ρ A N a,eG P ρ A N b with
   | some c,some x,some y=>some (.cond c x y)
   | _,_,_=>none
 | .block id b=>(eG P ρ A N b).map (.block id)
 | .loop b=>(eG P ρ A N b).map (.loop (((iC b).bind (look A.loops)).getD []))
 | .exit id=>some (.exit id)
 | .ret=>some .ret
 | .rangeFunc (.tmp t) ps a b=>match ps.toList,look A.BR t with
   | [pi,px],some gb=>match look ρ.bk gb,eG P ρ A N a,eG P ρ A N b with
     | some (sz,ag),some x,some y=>if x.ee=true∧y.ee=true∧pi<N∧px<N then some (.back (.t t) gb pi px sz ag (((iC a).bind (look A.loops)).getD []) x y) else none
     | _,_,_=>none
   | _,_=>none
 | _=>none
def BT (P:Program):ResultVar→Option p7
 | .tmp t=>some (.t t)
 | .cell a t=>match dD P t,fZ P t with
   | some sz,some ag=>some (.c a sz ag)
   | _,_=>none
def qb (P:Program) (ρ:Names) (A:nD) (fn:Func):Option aH:=
 match fn.body,dw (BT P) fn.results.toList with
 | some b,some rs=>if fn.params.size+fn.nfree≤fn.ntmps∧fn.name != "runtime.NumGoroutine" then
     (eG P ρ A fn.ntmps b).map fun c=>{ nparams:=fn.params.size,ntmps:=fn.ntmps,results:=rs,body:=c,ks:=A.ks } else none
 | _,_=>none
end Go.Ab
