import Derived.Test.YtfhhognolpjikaaGreatAbDefs
import Derived.Calls
/-
  From the loaded program's code to slim code: types resolved, functions under their lasting numbers. 'compF' is what the kernel holds a function's slim code against.
-/
set_option linter.unusedVariables false
set_option linter.unusedSimpArgs false
set_option maxRecDepth 100000
set_option maxHeartbeats 8000000
namespace Go.Ab
structure nO where
 mP:List (Nat×Nat×Nat)
 LH:List Nat
 ps:List Nat
 live:List (Nat×List Nat)
 loops:List (Nat×List Nat)
 site:List Nat
 own:List (Nat×List Nat)
 BU:List (Nat×Nat):=[]
 ks:Bool:=false
 q:List Nat:=[]
 QO:List Nat:=[]
 fz:List (Nat×List Nat):=[]
structure Names where
 g:List (Nat×Nat)
 Q7:List Nat
 bk:List (Nat×Nat×Bool):=[]
 cl:List (Nat×Nat×Nat):=[]
def Names.of (ρ:Names) (f:Nat):Option Nat:=look ρ.g f
def dM (P:Program) (t:TypeId):Option Nat:=(P.info? t).map (·.size)
def gh (P:Program) (t:TypeId):Option Nat:=(P.info? t).map (·.bytes)
def gi (P:Program) (t:TypeId):Option Bool:=(P.underlying t).map fun | .struct _ | .array ..=>true | _=>false
def dH:Value→Option PV
 | .bool b=>some (.bool b)
 | .int k n=>some (.int k n)
 | .string s=>some (.str s.data.toList)
 | .slice none 0 0=>some (.aD [])
 | _=>none
def yB (v:Value):Option AV:=
 match v with
 | .slice none 0 0=>some (.bD [])
 | .pointer none=>some .dw
 | .nilFunc=>some .dw
 | v=>(dH v).map .pv
def dI {α β:Type} (f:α→Option β):List α→Option (List β)
 | []=>some []
 | x::r=>match f x,dI f r with
   | some y,some ys=>some (y::ys)
   | _,_=>none
def dj (P:Program) (t:TypeId):Option (List PV):=
 match (P.info? t).bind (·.zero) with
 | some z=>dI dH z.cells.toList
 | none=>none
def im (ρ:Names):Operand→Option eL
 | .tmp t=>some (.t t)
 | .const v=>(yB v).map .c
 | .func f=>(ρ.of f).map fun g=>.c (.fn g [])
 | .global _=>none
def gj (P:Program) (t:TypeId):Option TypeId:=match P.underlying t with | some (.slice e)=>some e | _=>none
def iE (P:Program) (t:TypeId) (f:Nat):Option Field:=match P.underlying t with | some (.struct fs)=>fs[f]? | _=>none
def gk (P:Program) (t:TypeId):Option CK:=if dM P t=some 1 then match P.underlying t with
 | some (.int _)=>some .int
 | some .string=>some .str
 | some .bool=>some .bool
 | _=>none
 else none
def gL (P:Program):Nat→List Field→Option (List CK)
 | _,[]=>some []
 | i,f::r=>if f.name ≠ "_"∧f.offset=i then match gk P f.type,gL P (i+1) r with
   | some c,some cs=>some (c::cs)
   | _,_=>none
   else none
def zeroOf (P:Program) (t:TypeId):Option PV:=match (P.info? t).bind (·.zero) with
 | some (.agg cs)=>(dI dH cs.toList).map .agg
 | some v=>dH v
 | none=>none
def BV (P:Program) (op:BinOp) (t:TypeId):Option FY:=
 match P.underlying t with
 | some (.int _) | some .string=>some (.bin op)
 | some .bool=>if op=.eql then some (.beq false) else if op=.neq then some (.beq true) else none
 | some (.struct fs)=>if P.stoodInHeld t=false∧P.eqGuardType P.depth t=false then match gL P 0 fs.toList with
     | some cs=>if op=.eql then some (.MJ cs false) else if op=.neq then some (.MJ cs true) else none
     | none=>none
   else none
 | _=>none
def fieldsOf (P:Program) (t:TypeId):Option (List (Nat×Nat)):=
 match P.underlying t with
 | some (.struct fs)=>dI (fun f=>(dM P f.type).map fun s=>(f.offset,s)) fs.toList
 | _=>none
def placesOf (P:Program) (t:TypeId) (is:List Nat):Option (List (Nat×Nat)):=
 match fieldsOf P t with
 | some all=>dI (fun i=>all[i]?) is
 | none=>none
def pQ:Nat→List (Nat×Operand)→Bool
 | _,[]=>true
 | i,(j,_)::r=>i == j && pQ (i+1) r
def cb (P:Program) (ρ:Names) (A:nO) (dst:Option Nat):Op→Option (AK×List Operand)
 | .move x | .assign x=>some (.v .mv,[x])
 | .pick c a b=>some (.v .pick,[c,a,b])
 | .binOp op t x y _=>(BV P op t).map fun o=>(.v o,[x,y])
 | .unOp op _ x=>some (.v (.un op),[x])
 | .convert s d x=>match P.underlying s,P.underlying d with
   | some (.int _),some (.int k)=>some (.v (.conv k),[x])
   | _,_=>none
 | .extract x i=>some (.v (.ext i),[x])
 | .field t x f=>match iE P t f with
   | some fd=>match dM P fd.type,gi P fd.type with
     | some sz,some ag=>some (.v (.field fd.offset sz ag),[x])
     | _,_=>none
   | none=>none
 | .fieldAddr t x f=>match iE P t f with
   | some fd=>match dM P fd.type with
     | some s=>if s=0 then none else some (.v (.bh fd.offset),[x])
     | none=>none
   | none=>none
 | .indexAddr t x i=>match gj P t with
   | some e=>(dM P e).map fun sz=>(.v (.aC sz),[x,i])
   | none=>none
 | .index t x i=>match P.underlying t with
   | some .string=>some (.v .index,[x,i])
   | _=>none
 | .build t ps=>match P.underlying t with
   | some (.struct _)=>match dj P t,placesOf P t (ps.toList.map (·.1)) with
     | some z,some pl=>some (.v (.build z pl),ps.toList.map (·.2))
     | _,_=>none
   | _=>none
 | .buildSlice t n ps=>match gj P t with
   | some e=>match dM P e,dj P e with
     | some sz,some _=>if ps.size=n∧pQ 0 ps.toList=true∧0<sz∧n*sz≤16777216 then some (.v (.aT sz),ps.toList.map (·.2)) else none
     | _,_=>none
   | none=>none
 | .load t x=>match dM P t,gi P t with
   | some sz,some ag=>match x with
     | .tmp tx=>match look A.mP tx with
       | some (k,o)=>some (.bl k o sz ag,[x])
       | none=>if A.LH.contains tx then some (.a6 sz ag,[x]) else some (.v (.aK sz ag),[x])
     | _=>none
   | _,_=>none
 | .store t x v=>match dM P t,x with
   | some sz,.tmp tx=>match look A.mP tx with
     | some (k,o)=>some (.dc k o sz,[x,v])
     | none=>some (.cz sz,[x,v])
   | _,_=>none
 | .alloc t=>match dj P t,dst with
   | some z,some d=>match look A.mP d with
     | some (k,0)=>if k=d then some (.alloc d z,[]) else none
     | some _=>none
     | none=>some (.ia z,[])
   | _,_=>none
 | .box t x=>match dM P t,dst with
   | some sz,some d=>match look A.mP d with
     | some (k,0)=>if k=d then some (.box d sz,[x]) else none
     | some _=>none
     | none=>some (.l4 sz,[x])
   | _,_=>none
 | .makeMap _ r=>if r.isNone=true then some (.ko,[]) else none
 | .lookup t x i ok=>match P.underlying t with
   | some (.map k e)=>match gk P k,zeroOf P e with
     | some c,some z=>some (.iB c ok z,[x,i])
     | _,_=>none
   | _=>none
 | .mapUpdate t m i x | .insert t m i x=>match P.underlying t with
   | some (.map k _)=>(gk P k).map fun c=>(.mM c,[m,i,x])
   | _=>none
 | .nilCheck x=>some (.v .a9,[x])
 | .makeFunc fn first cap=>match fn with
   | .func f=>if first.size=0 then (ρ.of f).map fun g=>(.v (.CF g),cap.toList) else none
   | _=>none
 | .makeSlice t l c=>match gj P t with
   | some e=>match dM P e,gh P e,gi P e,dj P e with
     | some sz,some by_,some ag,some z=>if z.length=sz∧0<sz then some (.jm sz by_ ag z,[l,c]) else none
     | _,_,_,_=>none
   | none=>none
 | .slice t x lo hi mx=>match P.underlying t with
   | some (.slice e)=>if mx.isSome=false∧(dst.map (A.QO.contains ·)).getD false=true then (dM P e).map fun sz=>(.v (.qe sz lo.isSome hi.isSome),x::(lo.toList++hi.toList++mx.toList))
     else (dM P e).map fun sz=>(.v (.slice false sz lo.isSome hi.isSome mx.isSome),x::(lo.toList++hi.toList++mx.toList))
   | some .string=>if mx.isSome then none else some (.v (.slice true 0 lo.isSome hi.isSome false),x::(lo.toList++hi.toList++mx.toList))
   | _=>none
 | .call c=>match c.callee with
   | .builtin .len=>match c.args.toList,(c.argTypes[0]?).bind P.underlying with
     | [x],some (.slice _)=>some (.v .len,[x])
     | [x],some .string=>some (.v .jB,[x])
     | _,_=>none
   | .builtin .min=>match c.args.toList with
     | [x,y]=>some (.v .mn,[x,y])
     | _=>none
   | .builtin .max=>match c.args.toList with
     | [x,y]=>some (.v .mx,[x,y])
     | _=>none
   | .builtin .append=>match c.args.toList,(c.argTypes[0]?).bind (gj P),(c.argTypes[1]?).bind (gj P) with
     | [x,y],some e,some _=>match dM P e,gh P e,dj P e with
       | some sz,some by_,some z=>if z.length=sz∧0<sz∧0<by_ then
           if (dst.map (A.QO.contains ·)).getD false then (gi P e).map fun ag=>(.cZ sz by_ ag,[x,y]) else some (.append sz by_,[x,y])
         else none
       | _,_,_=>none
     | _,_,_=>none
   | .builtin .clear=>match c.args.toList,(c.argTypes[0]?).bind (gj P) with
     | [x],some e=>match dM P e,dj P e with
       | some sz,some z=>if z.length=sz∧0<sz then some (.ib sz z,[x]) else none
       | _,_=>none
     | _,_=>none
   | .value (.func f)=>match ρ.of f with
     | some g=>match look ρ.cl g with
       | some (sz,by_)=>if c.args.size=1 then some (.clone sz by_,c.args.toList) else none
       | none=>if (dst.map (A.q.contains ·)).getD false then some (.jn g,c.args.toList)
       else if ρ.Q7.contains g || (dst.map (A.site.contains ·)).getD false then some (.aL g ((dst.bind (look A.own)).getD []),c.args.toList)
       else if (dst.map (A.ps.contains ·)).getD false then some (.dG g,c.args.toList) else some (.aA g,c.args.toList)
     | none=>none
   | .value (.tmp t)=>some (.ff,.tmp t::c.args.toList)
   | _=>none
 | _=>none
def fu (P:Program) (ρ:Names) (A:nO) (N:Nat) (ops:Array Oper) (o:Oper):Option d4:=
 match cb P ρ A o.dst o.op with
 | some (k,args)=>match dI (im ρ) args with
   | some as=>
     if (o.dst.map (fun d=>decide (d<N))).getD true=true then
       match o.guard with
       | none=>some { dst:=o.dst,guard:=none,args:=as,op:=k }
       | some (j,b)=>match (ops[j]?).bind (·.dst) with
         | some t=>some { dst:=o.dst,guard:=some (t,b),args:=as,op:=k }
         | none=>none
     else none
   | none=>none
 | none=>none
def d4.looks (o:d4):List Nat:=
 (o.args.filterMap fun | .t n=>some n | _=>none)++(match o.guard with | some (t,_)=>[t] | none=>[])
def AK.iF:AK→Bool
 | .a6 .. | .cz _ | .l4 _ | .ia _ | .jm .. | .dG _ | .aL .. | .ff | .ko | .iB .. | .mM _ | .cZ .. | .ib ..=>true
 | _=>false
def AK.sE:AK→Bool
 | .a6 .. | .iB ..=>true
 | _=>false
def AK.gm:AK→Bool
 | .append .. | .cZ .. | .clone .. | .aL .. | .jn _ | .ff=>true
 | _=>false
def AK.iq:AK→Bool
 | .dc .. | .alloc .. | .box ..=>true
 | _=>false
def indep (x y:d4):Bool:=
 (match x.dst with | some d=>!(y.looks).contains d && y.dst != some d | none=>true) &&
 (match y.dst with | some d=>!(x.looks).contains d | none=>true) &&
 (!(x.op.iF && y.op.iF) || (x.op.sE && y.op.sE)) && !(x.op.gm && y.op.gm) &&
 (match x.op.key,y.op.key with
  | some a,some b=>a != b || !(x.op.iq || y.op.iq)
  | _,_=>true)
def kq:List Oper→List Nat→List Nat
 | [],acc=>acc
 | o::r,acc=>kq r (acc++[o.after.toList.foldl (fun s e=>if Region.binds .any e then s ||| 2 ^ e.on ||| acc.getD e.on 0 else s) 0])
def pR (ms:List Nat) (i:Nat) (x:d4):Nat→List d4→Bool
 | _,[]=>true
 | j,y::r=>((ms.getD j 0).testBit i || indep x y) && pR ms i x (j+1) r
def kr (ms:List Nat):Nat→List d4→Bool
 | _,[]=>true
 | i,x::r=>pR ms i x (i+1) r && kr ms (i+1) r
def gM:Nat→List Oper→Bool
 | _,[]=>true
 | i,o::r=>o.after.toList.all (fun e=>!Region.binds .any e || decide (e.on<i)) && gM (i+1) r
def tL (ops:List Oper) (as:List d4):Bool:=gM 0 ops && kr (kq ops []) 0 as
def iG:Code→Option Nat
 | .region id _ _=>some id
 | .seq a b | .cond _ a b=>match iG a with | some i=>some i | none=>iG b
 | .block _ c | .loop c | .scope c=>iG c
 | _=>none
def aw.er:aw→Bool
 | .seq a b | .cond _ a b=>a.er && b.er
 | .block _ b | .loop _ b=>b.er
 | .back ..=>false
 | _=>true
def mQ (o:Option (List Nat)) (c:aw):aw:=match o with
 | some ts=>.seq (.c_ ts) c
 | none=>c
def eK (P:Program) (ρ:Names) (A:nO) (N:Nat):Code→Option aw
 | .skip=>some .skip
 | .region id ops draw=>match dI (fu P ρ A N ops) ops.toList with
   | some as=>if draw then (if tL ops.toList as then some (mQ (look A.fz id) (.ae as ((look A.live id).getD []))) else none) else some (mQ (look A.fz id) (.ae as ((look A.live id).getD [])))
   | none=>none
 | .seq a b=>match eK P ρ A N a,eK P ρ A N b with
   | some x,some y=>some (.seq x y)
   | _,_=>none
 | .cond c a b=>match im ρ c,eK P ρ A N a,eK P ρ A N b with
   | some c,some x,some y=>some (.cond c x y)
   | _,_,_=>none
 | .block id b=>(eK P ρ A N b).map (.block id)
 | .loop b=>(eK P ρ A N b).map (.loop (((iG b).bind (look A.loops)).getD []))
 | .exit id=>some (.exit id)
 | .ret=>some .ret
 | .rangeFunc (.tmp t) ps a b=>match ps.toList,look A.BU t with
   | [pi,px],some gb=>match look ρ.bk gb,eK P ρ A N a,eK P ρ A N b with
     | some (sz,ag),some x,some y=>if x.er=true∧y.er=true∧pi<N∧px<N then some (.back (.t t) gb pi px sz ag (((iG a).bind (look A.loops)).getD []) x y) else none
     | _,_,_=>none
   | _,_=>none
 | _=>none
def BW (P:Program):ResultVar→Option qf
 | .tmp t=>some (.t t)
 | .cell a t=>match dM P t,gi P t with
   | some sz,some ag=>some (.c a sz ag)
   | _,_=>none
def qk (P:Program) (ρ:Names) (A:nO) (fn:Func):Option aJ:=
 match fn.body,dI (BW P) fn.results.toList with
 | some b,some rs=>if fn.params.size+fn.nfree≤fn.ntmps∧fn.name != "runtime.NumGoroutine" then
     (eK P ρ A fn.ntmps b).map fun c=>{ nparams:=fn.params.size,ntmps:=fn.ntmps,results:=rs,body:=c,ks:=A.ks } else none
 | _,_=>none
end Go.Ab
