import GoSem.Core.Value
import GoSem.Core.Ast
import GoSem.Core.View
import Derived.Calls
import Derived.Laws.World
import Derived.Laws.Sem
import Derived.Below
import Derived.Laws.Cells
import Derived.Laws.CopyRow
import Derived.Laws.Entries
import Derived.Laws.Strings
import Derived.Laws.IdiomStrings
import Derived.Laws.Tables
import Derived.RangeFuncRecord
/-
  The abstract machine: pure data, abstract values, slim code, and an evaluator with fuel. Nothing here mentions a program.
  What an abstract value says of a value of the model: relations over what is known of memory for good.
  From the loaded program's code to slim code: types resolved, functions under their lasting numbers. 'compF' is what the kernel holds a function's slim code against.
  The relation between an abstract state and a state of the model.
  Operations on values alone: what the slim operation gives is what the model's gives.
  Parts, places, memory that is only read.
  Literals, cuts, and the rest of the operations on values.
  Slices' literals and cuts; the operations on values, all together.
  Cuts of slices and strings; the operations on values, all together.
  The operations on values, all together.
  Operations with memory.
  append.
  append, run.
  The operations with memory that call nothing.
  append onto arrays that may still be written.
  The builtin copy: elements over the head of an array that may be written.
  What an operation Si compiled from, and what its run looked at.
  Each operation that calls nothing.
  Calls: the contracts of the callees, and what they Jf the caller.
-/
set_option linter.unusedVariables false
set_option linter.unusedSimpArgs false
set_option linter.unnecessarySimpa false
set_option maxRecDepth 100000
set_option maxHeartbeats 8000000
namespace Go.Ab
inductive PV where
 |bool (b:Bool)
 |int (k:IntKind) (n:Int)
 |str (s:List UInt8)
 |agg (cs:List PV)
 |au (els:List PV)
 deriving Inhabited
inductive AV where
 |un
 |pv (p:PV)
 |dB (els:List PV)
 |own (els:List PV) (tok:Nat)
 |agg (cs:List AV)
 |qx (vs:List AV)
 |az (d off:Nat)
 |aW (b off:Nat)
 |fH (cs:List PV)
 |aP (b sz len:Nat) (ag:Bool)
 |fn (g:Nat) (cap:List AV)
 |jT
 |jU (s:Nat)
 |fJ (kvs:List (PV×PV))
 |pJ (b off n:Nat)
 |jt (d n:Nat)
 deriving Inhabited
abbrev Sh:=List (Option (List AV))
abbrev aG:=List Nat
inductive eJ where
 |t (n:Nat)
 |c (v:AV)
 deriving Inhabited
inductive CK where
 |int|str|bool
 deriving Inhabited,DecidableEq
inductive MY where
 |mv|pick
 |bin (op:BinOp)
 |beq (neg:Bool)
 |un (op:UnOp)
 |conv (k:IntKind)
 |ext (i:Nat)
 |field (off sz:Nat) (ag:Bool)
 |gP (off:Nat)
 |d3 (sz:Nat)
 |index
 |build (zero:List PV) (places:List (Nat×Nat))
 |d4 (sz:Nat)
 |fh (sz:Nat) (ag:Bool)
 |slice (str:Bool) (sz:Nat) (lo hi mx:Bool)
 |len|BI|pK
 |mn|mx
 |FH (g:Nat)
 |Wz (cs:List CK) (neg:Bool)
 |sq (sz:Nat) (lo hi:Bool)
 |b2s
 deriving Inhabited
inductive AK where
 |v (o:MY)
 |bX (key off sz:Nat) (ag:Bool)
 |bB (key off sz:Nat)
 |alloc (key:Nat) (zero:List PV)
 |box (key sz:Nat)
 |dU (sz:Nat) (ag:Bool)
 |fo (sz:Nat)
 |wE (sz:Nat)
 |oq (sz:Nat)
 |MZ (sz:Nat)
 |iX (zero:List PV)
 |iY (sz bytes:Nat) (ag:Bool) (zero:List PV)
 |ik (key sz bytes:Nat) (zero:List PV)
 |append (sz bytes:Nat)
 |dC (sz bytes:Nat) (ag:Bool)
 |ot (sz bytes:Nat)
 |Ew
 |sr (c:CK) (ok:Bool) (zero:PV)
 |M0 (c:CK)
 |clone (sz bytes:Nat)
 |gr (sz bytes:Nat) (ag:Bool)
 |gv (sz:Nat) (zero:List PV)
 |jx (sz:Nat)
 |aJ (g:Nat)
 |en (g:Nat)
 |bz (g:Nat) (own:List Nat)
 |lH (g:Nat)
 |fm
 |eU
 deriving Inhabited
structure dI where
 dst:Option Nat
 guard:Option (Nat×Bool)
 args:List eJ
 op:AK
 deriving Inhabited
inductive aq where
 |skip
 |iA (ops:List dI) (live:List Nat)
 |seq (a b:aq)
 |cond (c:eJ) (a b:aq)
 |block (id:Nat) (b:aq)
 |loop (live:List Nat) (b:aq)
 |exit (id:Nat)
 |ret
 |back (f:eJ) (gb pi px sz:Nat) (ag:Bool) (live:List Nat) (x y:aq)
 |dv (ts:List Nat)
 |Pb (ds:List (Nat×Nat))
 |lA (ps:List (Nat×Nat×Bool))
 |lG (ts:List Nat)
 |Pc (ts:List Nat)
 deriving Inhabited
inductive pL where
 |t (n:Nat)
 |c (key sz:Nat) (ag:Bool)
 deriving Inhabited
structure Prim where
 f:(Nat→List PV→Option (List PV))→List PV→Option (List PV)
 fin:∀o x r,f o x=some r→∃l:List (Nat×List PV×List PV),(∀c∈l,o c.1 c.2.1=some c.2.2)∧∀o',(∀c∈l,o' c.1 c.2.1=some c.2.2)→f o' x=some r
def Prim.pure(f:List PV→Option (List PV)):Prim:=⟨fun _=>f,fun _ _ _ h=>⟨[],by simp,fun _ _=>h⟩⟩
theorem Prim.mono(p:Prim){a b:Nat→List PV→Option (List PV)}(h:∀g x r,a g x=some r→b g x=some r){x:List PV}{r:List PV}(e:p.f a x=some r):p.f b x=some r:=by
 obtain⟨l,h1,h2⟩:=p.fin a x r e;exact h2 b fun c hc=>h _ _ _ (h1 c hc)
structure aA where
 nparams:Nat
 ntmps:Nat
 results:List pL
 body:aq
 pM:Option Prim:=none
 ks:Bool:=false
 deriving Inhabited
def look{α:Type}:List (Nat×α)→Nat→Option α
 |[],_=>none
 |(k,v)::r,t=>if k=t then some v else look r t
def cW{α:Type}:List (Nat×α)→Nat→α→List (Nat×α)
 |[],t,u=>[(t,u)]
 |(k,v)::r,t,u=>if k=t then (k,u)::r else (k,v)::cW r t u
structure St where
 env:List (Nat×AV)
 mem:List (Nat×List AV)
 sh:Sh
 aa:aG
 deriving Inhabited
def aX:PV→List PV
 | .agg cs=>cs
 |p=>[p]
def a_:AV→List AV
 | .agg cs=>cs
 | .pv (.agg cs)=>cs.map .pv
 |v=>[v]
def bL:AV→Bool
 | .pv _| .dB _| .aW ..| .aP ..| .jT| .jU _| .fJ _=>true
 | .fn _ cap=>iI cap
 | .agg cs=>iI cs
 |_=>false
where iI:List AV→Bool
 |[]=>true
 |v::r=>bL v && iI r
def aT:AV→Bool
 | .pv (.agg _)=>false
 | .pv _| .dB _| .aW ..| .aP ..| .jT| .jU _| .fJ _=>true
 | .fn g cap=>bL (.fn g cap)
 | .own ..=>true
 |_=>false
def cL(v:AV):Bool:=aT v
def bD:AV→Bool
 | .own ..| .az ..| .jt ..=>false
 | .agg cs=>d5 cs
 | .qx cs=>d5 cs
 | .fn _ cap=>d5 cap
 |_=>true
where d5:List AV→Bool
 |[]=>true
 |v::r=>bD v && d5 r
def jy:AV→Bool
 | .own ..=>true
 |v=>bD v
def fp:List AV→Bool
 |[]=>true
 |v::r=>jy v && fp r
def kx:AV→Option PV
 | .pv p=>some p
 | .dB l=>some (.au l)
 | .own l _=>some (.au l)
 |_=>none
def c_:PV→Bool
 | .agg _=>false
 |_=>true
def chunk(sz:Nat):Nat→List PV→List (List PV)
 |0,_=>[]
 |n+1,l=>l.take sz::chunk sz n (l.drop sz)
def eh:List AV→Option (List PV)
 |[]=>some []
 |v::r=>match kx v,eh r with
   |some p,some ps=>some (p::ps)
   |_,_=>none
def dK(sz:Nat)(ag:Bool)(n:Nat)(cells:List PV):Option (List PV):=
 if ag then some ((chunk sz n cells).map .agg)
 else if sz=1 then some cells else none
def bU:List AV→Bool
 | .fJ _::_=>true
 |_=>false
def dD(sh:Sh):AV→Option PV
 | .aP b sz n ag=>match sh[b]? with
   |some (some cells)=>if cells.length=n*sz then ((eh cells).bind (dK sz ag n)).map .au
     else if bU cells=false∧n*sz≤cells.length then ((eh (cells.take (n*sz))).bind (dK sz ag n)).map .au else none
   |_=>none
 |v=>kx v
def b_(sh:Sh):List AV→Option (List PV)
 |[]=>some []
 |v::r=>if aT v=true then
     match dD sh v,b_ sh r with
     |some p,some ps=>some (p::ps)
     |_,_=>none
   else none
def dv(sh:Sh):AV→Option PV
 | .agg cs=>(b_ sh cs).map .agg
 |v=>dD sh v
def cY(sh:Sh):List AV→Option (List PV)
 |[]=>some []
 |v::r=>match dv sh v,cY sh r with
   |some p,some ps=>some (p::ps)
   |_,_=>none
def ei:AV→List Nat
 | .aP b _ _ _=>[b]
 | .agg cs=>cs.flatMap fun| .aP b _ _ _=>[b]|_=>[]
 |_=>[]
def kill(sh:Sh)(l:List Nat):Sh:=l.foldl (fun s b=>s.set b none) sh
def cy(sh:Sh)(vs:List AV):Sh:=kill sh (vs.flatMap ei)
def aK(n:Nat):AV→Bool
 | .un| .pv _| .dB _| .own ..| .jT| .fH _| .fJ _=>true
 | .aW b _| .aP b _ _ _| .jU b=>decide (b<n)
 | .fn _ cap=>cz n cap
 | .agg cs=>cz n cs
 |_=>false
where cz (n:Nat):List AV→Bool
 |[]=>true
 |v::r=>aK n v && cz n r
def Jg:CK→PV→PV→Option Bool
 | .int,.int k a,.int k' b=>if k=k' then some (a == b) else none
 | .str,.str a,.str b=>some (a == b)
 | .bool,.bool a,.bool b=>some (a == b)
 |_,_,_=>none
def Ey:List CK→List PV→List PV→Option Bool
 |[],[],[]=>some true
 |c::cs,p::ps,q::qs=>match Jg c p q with
   |some true=>Ey cs ps qs
   |some false=>if ps.length=cs.length∧qs.length=cs.length then some false else none
   |none=>none
 |_,_,_=>none
def Qg(c:CK):List (PV×PV)→PV→Option (Option PV)
 |[],_=>some none
 |(k',v)::r,k=>match Jg c k k' with
   |some true=>some (some v)
   |some false=>Qg c r k
   |none=>none
def Jh(c:CK):List (PV×PV)→PV→PV→Option (List (PV×PV))
 |[],k,p=>some [(k,p)]
 |(k',v)::r,k,p=>match Jg c k k' with
   |some true=>some ((k,p)::r)
   |some false=>(Jh c r k p).map ((k',v)::·)
   |none=>none
def U8(ok:Bool)(zero:PV)(r:Option PV):AV:=if ok then .qx [.pv (r.getD zero),.pv (.bool r.isSome)] else .pv (r.getD zero)
def cA(op:BinOp):AV→AV→Option AV
 | .pv (.int k a),.pv (.int k' b)=>
   if k=k'∨op=.shl∨op=.shr then
     match op with
     | .add=>some (.pv (.int k (k.wrap (a+b))))
     | .sub=>some (.pv (.int k (k.wrap (a-b))))
     | .mul=>some (.pv (.int k (k.wrap (a*b))))
     | .quo=>if b=0 then none else some (.pv (.int k (k.wrap (a.tdiv b))))
     | .rem=>if b=0 then none else some (.pv (.int k (a.tmod b)))
     | .eql=>some (.pv (.bool (a == b)))
     | .neq=>some (.pv (.bool (a != b)))
     | .lss=>some (.pv (.bool (decide (a<b))))
     | .leq=>some (.pv (.bool (decide (a≤b))))
     | .gtr=>some (.pv (.bool (decide (a > b))))
     | .geq=>some (.pv (.bool (decide (a≥b))))
     | .and=>some (.pv (.int k (k.wrap (BitVec.ofInt k.bits a &&& BitVec.ofInt k.bits b).toNat)))
     | .shl=>if b<0 then none else some (.pv (.int k (k.wrap (a*2 ^ (min b.toNat k.bits)))))
     | .shr=>if b<0 then none else some (.pv (.int k (a.fdiv (2 ^ (min b.toNat k.bits)))))
     |_=>none
   else none
 | .pv (.str a),.pv (.str b)=>
   match op with
   | .add=>if a.length+b.length≤9223372036854775807 then some (.pv (.str (a++b))) else none
   | .eql=>some (.pv (.bool (a == b)))
   | .neq=>some (.pv (.bool (!(a == b))))
   | .lss=>some (.pv (.bool (dZ a b)))
   | .gtr=>some (.pv (.bool (!(dZ a b || a == b))))
   | .leq=>some (.pv (.bool (dZ a b || a == b)))
   | .geq=>some (.pv (.bool (!dZ a b)))
   |_=>none
 |_,_=>none
where dZ:List UInt8→List UInt8→Bool
 |_,[]=>false
 |[],_::_=>true
 |a::x,b::y=>a<b || (a == b && dZ x y)
def Sj(op:UnOp):AV→Option AV
 | .pv (.bool b)=>match op with| .not=>some (.pv (.bool !b))|_=>none
 | .pv (.int k n)=>match op with| .neg=>some (.pv (.int k (k.wrap (0-n))))|_=>none
 |_=>none
def cH:AV→Option (List PV)
 | .pv (.au l)=>some l
 | .dB l=>some l
 | .own l _=>some l
 |_=>none
def bf(sz:Nat):List PV→Bool
 |[]=>true
 |p::_=>(aX p).length == sz
def aQ(cells:List AV)(off:Nat)(vs:List AV):List AV:=cells.take off++vs++cells.drop (off+vs.length)
def lg(cells:List AV):List (Nat×Nat)→List AV→Option (List AV)
 |[],[]=>some cells
 |(off,sz)::ps,v::vs=>
   if (a_ v).length=sz∧off+sz≤cells.length∧(a_ v).all aT=true then lg (aQ cells off (a_ v)) ps vs else none
 |_,_=>none
def bQ(ag:Bool)(sz:Nat)(cs:List AV)(off:Nat):Option AV:=
 if off+sz≤cs.length then
   if ag then some (.agg ((cs.drop off).take sz))
   else if sz=1 then cs[off]? else none
 else none
def cM(ag:Bool)(sz:Nat)(cs:List PV):Option AV:=
 if sz≤cs.length then
   if ag then some (.pv (.agg (cs.take sz)))
   else if sz=1 then (cs[0]?).map .pv else none
 else none
def ez(lo hi mx:Bool)(n:Nat)(rest:List AV):Option (Int×Int×Option Int):=
 match lo,hi,mx,rest with
 |false,false,false,[]=>some (0,n,none)
 |true,false,false,[.pv (.int _ l)]=>some (l,n,none)
 |false,true,false,[.pv (.int _ h)]=>some (0,h,none)
 |true,true,false,[.pv (.int _ l),.pv (.int _ h)]=>some (l,h,none)
 |false,true,true,[.pv (.int _ h),.pv (.int _ m)]=>some (0,h,some m)
 |true,true,true,[.pv (.int _ l),.pv (.int _ h),.pv (.int _ m)]=>some (l,h,some m)
 |_,_,_,_=>none
def dE(str:Bool)(sz:Nat)(lo hi mx:Bool):List AV→Option AV
 |x::rest=>if str then
     match x with
     | .pv (.str s)=>match ez lo hi mx s.length rest with
       |some (l,h,none)=>if 0≤l∧l≤h∧h≤s.length then some (.pv (.str ((s.take h.toNat).drop l.toNat))) else none
       |_=>none
     |_=>none
   else match cH x with
     |some els=>match ez lo hi mx els.length rest with
       |some (l,h,m)=>if 0≤l∧l≤h∧h≤els.length∧(l=0∨bf sz els=true) then
           match m with
           |some m=>if m=h then some (.dB ((els.take h.toNat).drop l.toNat)) else none
           |none=>some (.pv (.au ((els.take h.toNat).drop l.toNat)))
         else none
       |none=>none
     |none=>none
 |[]=>none
def jV(sz:Nat)(lo hi:Bool):List AV→Option AV
 | .aP b z n ag::rest=>if z=sz then
     match ez lo hi false n rest with
     |some (l,h,none)=>if 0≤l∧l≤h∧h≤n then some (if l=0 then .aP b z h.toNat ag else .pJ b (l.toNat*sz) (h.toNat-l.toNat)) else none
     |_=>none
   else none
 |_=>none
def ss(sz:Nat):AV→Option (Nat×Nat×Nat)
 | .aP b z n _=>if z=sz then some (b,0,n) else none
 | .pJ b off n=>some (b,off,n)
 |_=>none
def nv(sz:Nat)(zero:List PV)(sh:Sh):Option (Nat×Nat×Nat)→Option Sh
 |some (b,off,n)=>match sh[b]? with
   |some (some cells)=>if bU cells=false∧off+n*sz≤cells.length∧zero.length=sz then some (sh.set b (some (aQ cells off (List.replicate n (zero.map .pv)).flatten))) else none
   |_=>none
 |none=>none
def ou(sz:Nat)(sh:Sh)(xs:List PV):AV→Option (Nat×Sh)
 | .aP b z n _=>match sh[b]? with
   |some (some cells)=>if z=sz∧bf sz xs=true∧bU cells=false∧n*sz≤cells.length then
       some (min xs.length n,sh.set b (some (aQ cells 0 (((xs.take n).flatMap aX).map .pv)))) else none
   |_=>none
 |_=>none
def fq:List PV→Option (List UInt8)
 |[]=>some []
 | .int .u8 n::r=>if 0≤n∧n<256 then (fq r).map (UInt8.ofNat n.toNat::·) else none
 |_=>none
def bA:MY→List AV→Option AV
 | .mv,[x]=>some x
 | .pick,[.pv (.bool c),a,b]=>some (if c then a else b)
 | .bin op,[a,b]=>cA op a b
 | .beq neg,[.pv (.bool a),.pv (.bool b)]=>some (.pv (.bool (if neg then !(a == b) else (a == b))))
 | .un op,[a]=>Sj op a
 | .conv k,[.pv (.int _ n)]=>some (.pv (.int k (k.wrap n)))
 | .ext i,[.qx vs]=>vs[i]?
 | .field off sz ag,[x]=>match x with
   | .agg cs=>bQ ag sz cs off
   | .pv (.agg cs)=>cM ag sz (cs.drop off)
   |_=>none
 | .gP off,[x]=>match x with
   | .az d o=>some (.az d (o+off))
   | .aW b o=>some (.aW b (o+off))
   | .fH cs=>some (.fH (cs.drop off))
   |_=>none
 | .d3 sz,[x,.pv (.int _ i)]=>
   if i<0 then none else
   match x with
   | .aP b sz' n _=>if sz=sz'∧i.toNat<n then some (.aW b (i.toNat*sz)) else none
   |x=>match cH x with
     |some els=>match els[i.toNat]? with
       |some el=>if (aX el).length=sz then some (.fH (aX el)) else none
       |none=>none
     |none=>none
 | .index,[.pv (.str s),.pv (.int _ i)]=>if i<0 then none else (s[i.toNat]?).map fun b=>.pv (.int .u8 b.toNat)
 | .build zero places,vs=>(lg (zero.map zeroCell) places vs).map .agg
 | .d4 sz,vs=>(cY [] vs).bind fun els=>if els.all (fun e=>(aX e).length == sz) then some (.dB els) else none
 | .fh sz ag,[.fH cs]=>cM ag sz cs
 | .slice str sz lo hi mx,vs=>dE str sz lo hi mx vs
 | .sq sz lo hi,vs=>jV sz lo hi vs
 | .BI,[.pv (.str s)]=>some (.pv (.int .i64 s.length))
 | .len,[x]=>match x with
   | .aP _ _ n _=>some (.pv (.int .i64 n))
   |x=>(cH x).map fun l=>.pv (.int .i64 l.length)
 | .pK,[x]=>match x with
   | .az ..| .aW ..| .fH _| .fn ..=>some x
   |_=>none
 | .mn,[.pv (.int k x),.pv (.int k' y)]=>if k=k' then some (.pv (.int k (if y<x then y else x))) else none
 | .mx,[.pv (.int k x),.pv (.int k' y)]=>if k=k' then some (.pv (.int k (if y > x then y else x))) else none
 | .FH g,cap=>some (.fn g cap)
 | .b2s,[x]=>((cH x).bind fq).map fun s=>.pv (.str s)
 | .Wz cs neg,[x,y]=>match dv [] x,dv [] y with
   |some (.agg ps),some (.agg qs)=>(Ey cs ps qs).map fun b=>.pv (.bool (if neg then !b else b))
   |_,_=>none
 |_,_=>none
where zeroCell:PV→AV
 | .au []=>.dB []
 |p=>.pv p
structure Out where
 val:AV
 cells:Option (List AV)
 sh:Sh
 aa:aG
structure dX where
 p:Nat→List PV→Option (List PV)
 i:Nat→List AV→Sh→aG→Option (List AV×Sh×aG)
def su:List PV→AV
 |[r]=>.pv r
 |rs=>.qx (rs.map .pv)
def sv:List AV→AV
 |[r]=>r
 |rs=>.qx rs
def lh(v:AV):AV:=match dv [] v with|some p=>.pv p|none=>v
def AK.key:AK→Option Nat
 | .bX k _ _ _| .bB k _ _| .alloc k _| .box k _| .ik k _ _ _=>some k
 |_=>none
def bR(sz bytes:Nat)(s x:AV)(aa:aG):Option (AV×aG):=
 match cH x with
 |none=>none
 |some xs=>if bf sz xs=true then
   match s with
   | .dB l=>if xs.isEmpty=true then some (.dB l,aa) else if bf sz l=true∧(l.length+xs.length)*bytes≤140737488355328 then
       some (.own (l++xs) aa.length,aa++[(l++xs).length]) else none
   | .own l τ=>if aa[τ]?=some l.length∧bf sz l=true∧(l.length+xs.length)*bytes≤140737488355328 then
       some (.own (l++xs) τ,aa.set τ (l++xs).length) else none
   |_=>none
   else none
def yB:List PV→List PV→Bool
 |[],[]=>true
 | .str a::r,.str b::q=>(a == b) && yB r q
 |_,_=>false
def Sk(sz bytes:Nat)(xs:List PV)(s e:AV)(aa:aG):Option PV:=
 match s,e with
 | .own l τ,.own m σ=>if τ=σ∧aa[τ]?=some m.length∧m.length=l.length+xs.length∧bf 1 l=true∧bf 1 xs=true∧sz=1 ∧
     yB (m.drop l.length) xs=true∧xs.isEmpty=false∧m.length*bytes≤140737488355328 then some (.au (l++xs)) else none
 |_,_=>none
def rn(sz bytes:Nat)(ag:Bool)(s:AV)(xs:List PV)(sh:Sh):Option (AV×Sh):=
 if xs.isEmpty=true then some (s,sh) else if xs.length*bytes≤140737488355328 then some (.aP sh.length sz xs.length ag,sh++[some ((xs.flatMap aX).map .pv)]) else none
def rq(sz bytes:Nat)(ag:Bool)(s:AV)(xs:List PV)(sh:Sh)(aa:aG):Option (AV×Sh):=
 match s with
 | .dB []=>rn sz bytes ag s xs sh
 | .own [] τ=>if aa[τ]?=some 0 then rn sz bytes ag s xs sh else none
 | .aP b z n g=>match sh[b]? with
   |some (some cells)=>if z=sz∧g=ag∧bU cells=false∧n*sz≤cells.length∧(n+xs.length)*bytes≤140737488355328 then
       if xs.isEmpty=true then some (.aP b sz n ag,sh) else some (.aP sh.length sz (n+xs.length) ag,sh.set b none++[some (cells.take (n*sz)++(xs.flatMap aX).map .pv)])
     else none
   |_=>none
 |_=>none
def fu(o:Option Bool)(sz bytes:Nat)(x:AV)(sh:Sh)(aa:aG):Option (AV×Sh×aG):=match o with
 |none=>(bR sz bytes (.dB []) x aa).map fun (v,ts)=>(v,sh,ts)
 |some ag=>match cH x with
   |some xs=>if bf sz xs=true then (rn sz bytes ag (.dB []) xs sh).map fun (v,sh')=>(v,sh',aa) else none
   |none=>none
def ek(aI ts:aG):AV→AV×aG×aG
 | .own l τ=>if aI[τ]?=some l.length then (.own l ts.length,aI.set τ (l.length+1),ts++[l.length]) else (.pv (.au l),aI,ts)
 |v=>(v,aI,ts)
def cB(aI ts:aG):List AV→List AV×aG×aG
 |[]=>([],aI,ts)
 |v::r=>((ek aI ts v).1::(cB (ek aI ts v).2.1 (ek aI ts v).2.2 r).1,(cB (ek aI ts v).2.1 (ek aI ts v).2.2 r).2)
def bE(aI ts:aG):AV→AV×aG×aG
 | .own l τ=>if aI[τ]?=some l.length then (.own l ts.length,aI.set τ (l.length+1),ts++[l.length]) else (.pv (.au l),aI,ts)
 | .dB l=>(.own l ts.length,aI,ts++[l.length])
 | .agg cs=>if bD.d5 cs=true then (.agg cs,aI,ts) else (.agg (cB aI ts cs).1,(cB aI ts cs).2.1,(cB aI ts cs).2.2)
 |v=>(v,aI,ts)
def bj(aI ts:aG):List AV→List AV×aG×aG
 |[]=>([],aI,ts)
 |v::r=>((bE aI ts v).1::(bj (bE aI ts v).2.1 (bE aI ts v).2.2 r).1,(bj (bE aI ts v).2.1 (bE aI ts v).2.2 r).2)
def a9(aI ts:aG):Sh→Sh×aG×aG
 |[]=>([],aI,ts)
 |none::r=>(none::(a9 aI ts r).1,(a9 aI ts r).2)
 |some cs::r=>(some (bj aI ts cs).1::(a9 (bj aI ts cs).2.1 (bj aI ts cs).2.2 r).1,(a9 (bj aI ts cs).2.1 (bj aI ts cs).2.2 r).2)
def cQ(aa:aG)(xs:List AV)(sh:Sh):List AV×Sh×aG×aG:=
 ((bj aa [] xs).1,(a9 (bj aa [] xs).2.1 (bj aa [] xs).2.2 sh).1,(a9 (bj aa [] xs).2.1 (bj aa [] xs).2.2 sh).2.1,(a9 (bj aa [] xs).2.1 (bj aa [] xs).2.2 sh).2.2)
def jW:AV→Bool
 | .own ..=>true
 |v=>bL v
def eV:List AV→Bool
 |[]=>true
 |v::r=>jW v && eV r
def bI:AV→Bool
 | .own ..=>true
 | .agg cs=>eV cs
 |v=>bL v
def iZ(n:Nat):AV→AV
 | .own l τ=>.own l (τ+n)
 |v=>v
def cZ(n:Nat):AV→AV
 | .own l τ=>.own l (τ+n)
 | .agg cs=>if bD.d5 cs=true then .agg cs else .agg (cs.map (iZ n))
 |v=>v
def d6(n:Nat)(sh:Sh):Sh:=sh.map fun o=>o.map fun cs=>cs.map (cZ n)
def dP(own:List Nat):Nat→List AV→List AV
 |_,[]=>[]
 |i,v::r=>(if own.contains i then v else lh v)::dP own (i+1) r
def dM(orc:dX)(g:Nat)(own:List Nat)(vals:List AV)(sh:Sh)(aa:aG):Option (AV×Sh×aG):=
 if (dP own 0 vals).all bI=true then
   (orc.i g (cQ aa (dP own 0 vals) sh).1 (cQ aa (dP own 0 vals) sh).2.1 (cQ aa (dP own 0 vals) sh).2.2.2).map fun (rs,sh',ts)=>
     (sv (rs.map (cZ aa.length)),d6 aa.length sh',(cQ aa (dP own 0 vals) sh).2.2.1++ts)
 else none
def cr(v:AV):List AV:=match v with
 | .dB l=>[.dB l]
 | .own l τ=>[.own l τ]
 |v=>match dv [] v with|some p=>a_ (.pv p)|none=>a_ v
mutual
def na:PV→PV→Bool
 | .bool a,.bool b=>a == b
 | .int k a,.int l b=>decide (k=l) && (a == b)
 | .str a,.str b=>a == b
 | .agg a,.agg b=>oz a b
 | .au a,.au b=>oz a b
 |_,_=>false
def oz:List PV→List PV→Bool
 |[],[]=>true
 |a::r,b::q=>na a b && oz r q
 |_,_=>false
end
def Sn:AV→AV→Bool
 | .pv a,.pv b=>na a b
 |_,_=>false
def FI:List AV→List AV→Bool
 |[],[]=>true
 |a::r,b::q=>Sn a b && FI r q
 |_,_=>false
def ru:Sh→Sh→Bool
 |[],[]=>true
 |none::r,none::q=>ru r q
 |some a::r,some b::q=>FI a b && ru r q
 |_,_=>false
def Vx(sh:Sh):AV×Sh×aG→Option Out
 |(v,sh',ts)=>if ru sh' sh=true then some ⟨v,none,sh,ts⟩ else none
def exec(orc:dX)(op:AK)(vals:List AV)(cells:Option (List AV))(sh:Sh)(aa:aG):Option Out:=
 match op,vals with
 | .v o,vals=>(bA o vals).map fun x=>⟨x,none,sh,aa⟩
 | .bX key off sz ag,[.az d o]=>if d=key∧o=off then
     match cells with
     |some cs=>(bQ ag sz cs off).map fun x=>⟨x,none,sh,aa⟩
     |none=>none
   else none
 | .bB key off sz,[.az d o,v]=>if d=key∧o=off∧(a_ v).length=sz∧(a_ v).all aT=true then
     match cells with
     |some cs=>if off+sz≤cs.length then some ⟨.un,some (aQ cs off (a_ v)),sh,aa⟩ else none
     |none=>none
   else none
 | .alloc key zero,[]=>match cells with
   |none=>some ⟨.az key 0,some (zero.map bA.zeroCell),sh,aa⟩
   |some _=>none
 | .box key sz,[v]=>match cells with
   |none=>if (a_ v).length=sz∧(a_ v).all aT=true then some ⟨.az key 0,some (a_ v),sh,aa⟩ else none
   |some _=>none
 | .dU sz ag,[p]=>match p with
   | .fH cs=>(cM ag sz cs).map fun x=>⟨x,none,sh,aa⟩
   | .aW b off=>match sh[b]? with
     |some (some cs)=>if bU cs=true then none else (bQ ag sz cs off).map fun x=>⟨x,none,sh,aa⟩
     |_=>none
   |_=>none
 | .fo sz,[.aW b off,v]=>match sh[b]? with
   |some (some cs)=>
     let vs:=cr v
     if bU cs=false∧vs.length=sz∧off+sz≤cs.length∧vs.all cL=true∧vs.all (aK (b+1))=true then
       some ⟨.un,none,sh.set b (some (aQ cs off vs)),aa⟩ else none
   |_=>none
 | .oq sz,[v]=>
   let vs:=cr v
   if vs.length=sz∧vs.all cL=true∧vs.all (aK sh.length)=true then
     some ⟨.aW sh.length 0,none,sh++[some vs],aa⟩ else none
 | .iX zero,[]=>some ⟨.aW sh.length 0,none,sh++[some (zero.map bA.zeroCell)],aa⟩
 | .iY sz bytes ag zero,[.pv (.int _ n),.pv (.int _ n')]=>
   if n=n'∧0≤n∧n≤9223372036854775807∧n*bytes≤140737488355328∧zero.length=sz then
     some ⟨.aP sh.length sz n.toNat ag,none,sh++[some ((List.replicate n.toNat (zero.map .pv)).flatten)],aa⟩ else none
 | .ik key sz bytes zero,[.pv (.int _ n),.pv (.int _ n')]=>match cells with
   |none=>if n=n'∧0≤n∧n≤9223372036854775807∧n*bytes≤140737488355328∧zero.length=sz then
       some ⟨.jt key n.toNat,some ((List.replicate n.toNat (zero.map .pv)).flatten),sh,aa⟩ else none
   |some _=>none
 | .append sz bytes,[s,x]=>(bR sz bytes s x aa).map fun (v,ts)=>⟨v,none,sh,ts⟩
 | .dC sz bytes ag,[s,x]=>match cH x with
   |some xs=>if bf sz xs=true then (rq sz bytes ag s xs sh aa).map fun (v,sh')=>⟨v,none,sh',aa⟩ else none
   |none=>none
 | .clone sz bytes,[x]=>(bR sz bytes (.dB []) x aa).map fun (v,ts)=>⟨v,none,sh,ts⟩
 | .gr sz bytes ag,[x]=>(fu (some ag) sz bytes x sh aa).map fun (v,sh',ts)=>⟨v,none,sh',ts⟩
 | .gv sz zero,[x]=>(nv sz zero sh (ss sz x)).map fun sh'=>⟨.qx [],none,sh',aa⟩
 | .jx sz,[x,y]=>match cH y with
   |some xs=>(ou sz sh xs x).map fun (k,sh')=>⟨.pv (.int .i64 (k:Int)),none,sh',aa⟩
   |none=>none
 | .aJ g,vals=>match cY [] vals with
   |some cV=>(orc.p g cV).map fun rs=>⟨su rs,none,sh,aa⟩
   |none=>none
 | .en g,vals=>match cY sh vals with
   |some cV=>(orc.p g cV).map fun rs=>⟨su rs,none,cy sh vals,aa⟩
   |none=>none
 | .bz g own,vals=>(dM orc g own vals sh aa).map fun (v,sh',ts)=>⟨v,none,sh',ts⟩
 | .lH g,vals=>match cY [] vals with
   |some cV=>match orc.i g (cV.map .pv) [] [] with
     |some (rs,[],ts)=>some ⟨sv (rs.map (cZ aa.length)),none,sh,aa++ts⟩
     |_=>none
   |none=>none
 | .eU,f::vals=>match f with
   | .fn g cap=>(dM orc g [] (vals++cap) sh aa).bind (Vx sh)
   |_=>none
 | .fm,f::vals=>match f with
   | .fn g cap=>(dM orc g [] (vals++cap) sh aa).map fun (v,sh',ts)=>⟨v,none,sh',ts⟩
   |_=>none
 |_,_=>none
def gQ(env:List (Nat×AV)):eJ→Option AV
 | .t n=>look env n
 | .c v=>some v
def dQ(env:List (Nat×AV)):List eJ→Option (List AV)
 |[]=>some []
 |x::r=>match gQ env x,dQ env r with
   |some v,some vs=>some (v::vs)
   |_,_=>none
def fc(env:List (Nat×AV)):Option (Nat×Bool)→Option Bool
 |none=>some true
 |some (t,b)=>match look env t with
   |some (.pv (.bool c))=>some (c == b)
   |some .un=>some false
   |_=>none
def fy(env:List (Nat×AV)):Option Nat→AV→List (Nat×AV)
 |some d,v=>cW env d v
 |none,_=>env
def eR(mem:List (Nat×List AV)):Option Nat→Option (List AV)→List (Nat×List AV)
 |some k,some cs=>cW mem k cs
 |_,_=>mem
def dN(orc:dX)(o:dI)(st:St):Option St:=
 match fc st.env o.guard with
 |none=>none
 |some false=>some { st with env:=fy st.env o.dst .un }
 |some true=>
   match dQ st.env o.args with
   |none=>none
   |some vals=>
     match exec orc o.op vals (o.op.key.bind (look st.mem)) st.sh st.aa with
     |none=>none
     |some out=>some { env:=fy st.env o.dst out.val,mem:=eR st.mem o.op.key out.cells,sh:=out.sh,aa:=out.aa }
def bo(orc:dX):List dI→St→Option St
 |[],st=>some st
 |o::r,st=>match dN orc o st with
   |none=>none
   |some st'=>bo orc r st'
def dV(live:List Nat):AV→Bool
 | .az d _=>live.contains d
 | .jt d _=>live.contains d
 | .own ..=>true
 | .agg cs=>fp cs
 |v=>bD v
def bC(live:List Nat)(env:List (Nat×AV)):List Nat→List (Nat×AV)
 |[]=>[]
 |t::r=>match look env t with
   |some v=>if dV live v=true then (t,v)::bC live env r else bC live env r
   |none=>bC live env r
def bF(mem:List (Nat×List AV)):List Nat→List (Nat×List AV)
 |[]=>[]
 |t::r=>match look mem t with
   |some v=>(t,v)::bF mem r
   |none=>bF mem r
def restrict(live:List Nat)(st:St):St:=
 { st with env:=bC live st.env live,mem:=bF st.mem live }
def da(aI ts:aG):List (Nat×AV)→List (Nat×AV)×aG×aG
 |[]=>([],aI,ts)
 |(t,v)::r=>((t,(bE aI ts v).1)::(da (bE aI ts v).2.1 (bE aI ts v).2.2 r).1,(da (bE aI ts v).2.1 (bE aI ts v).2.2 r).2)
def eW(aI ts:aG):List (Nat×List AV)→List (Nat×List AV)×aG×aG
 |[]=>([],aI,ts)
 |(t,v)::r=>((t,(bj aI ts v).1)::(eW (bj aI ts v).2.1 (bj aI ts v).2.2 r).1,(eW (bj aI ts v).2.1 (bj aI ts v).2.2 r).2)
def norm(st:St):St:=
 { env:=(da st.aa [] st.env).1,
   mem:=(eW (da st.aa [] st.env).2.1 (da st.aa [] st.env).2.2 st.mem).1,
   sh:=(a9 (eW (da st.aa [] st.env).2.1 (da st.aa [] st.env).2.2 st.mem).2.1 (eW (da st.aa [] st.env).2.1 (da st.aa [] st.env).2.2 st.mem).2.2 st.sh).1,
   aa:=(a9 (eW (da st.aa [] st.env).2.1 (da st.aa [] st.env).2.2 st.mem).2.1 (eW (da st.aa [] st.env).2.1 (da st.aa [] st.env).2.2 st.mem).2.2 st.sh).2.2 }
inductive bg where
 |normal|ret|exit (id:Nat)
 deriving Inhabited,DecidableEq
def eX(f:St→Option (bg×St))(pre:St→St):Nat→St→Option (bg×St)
 |0,_=>none
 |n+1,st=>match f (pre st) with
   |some (.normal,st')=>eX f pre n st'
   |r=>r
def Qh(sz:Nat)(ag:Bool)(el:PV):Option AV:=if (aX el).length=sz then cM ag sz (aX el) else none
def qy(f:St→Option (bg×St))(live:List Nat)(pi px sz:Nat)(ag:Bool)(env:List (Nat×AV)):List (PV×Nat)→St→Option (bg×St)
 |[],st=>some (.normal,{ st with env:=env })
 |(el,i)::r,st=>match Qh sz ag el with
   |none=>none
   |some v=>match f (norm (restrict live { st with env:=cW (cW env pi (.pv (.int .i64 i))) px v })) with
     |some (.normal,st')=>qy f live pi px sz ag env r st'
     |some (e,st')=>some (e,{ st' with env:=env })
     |none=>none
def andThen(f g:St→Option (bg×St))(st:St):Option (bg×St):=match f st with
 |some (.normal,st')=>g st'
 |_=>none
def M1(live:List Nat)(env:List (Nat×AV)):List (Nat×AV):=(bC live env live).filter fun p=>bD p.2
def lI(f:St→Option (bg×St))(v:Option AV)(gb pi px sz:Nat)(ag:Bool)(live:List Nat)(st:St):Option (bg×St):=
 match v with
 |some (.fn g [.aW s 0])=>if g=gb then
     match st.sh[s]? with
     |some (some [.pv (.au l)])=>if l.length<4611686018427387904 then qy f live pi px sz ag (M1 live st.env) l.zipIdx.reverse { st with sh:=kill st.sh [s] } else none
     |_=>none
   else none
 |_=>none
def BJ:AV→St→St
 | .az d 0,st=>match look st.mem d with
   |some cs=>match b_ st.sh cs with
     |some ps=>{ st with mem:=cW st.mem d (ps.map .pv),sh:=cy st.sh [.agg cs] }
     |none=>st
   |none=>st
 |_,st=>st
def nb:List Nat→St→St
 |[],st=>st
 |t::r,st=>match look st.env t with
   |some v=>match dv st.sh v with
     |some p=>nb r { st with env:=cW st.env t (.pv p),sh:=cy st.sh [v] }
     |none=>nb r (BJ v st)
   |none=>nb r st
def apart:Option AV→Option AV→Bool
 |some (.aW b _),some (.aW b' _)=>b != b'
 |_,_=>false
def iB(env:List (Nat×AV)):List (Nat×Nat)→Bool
 |[]=>true
 |(a,b)::r=>apart (look env a) (look env b) && iB env r
def yC(d s sz n:Nat)(ag:Bool):AV→Option AV
 | .az d' o=>some (if d'=d then .aW s o else .az d' o)
 | .jt d' m=>if d'=d then (if m*sz≤n then some (.aP s sz m ag) else none) else some (.jt d' m)
 |v=>if dV [] v=true then some v else none
def ry(d s sz n:Nat)(ag:Bool)(env:List (Nat×AV)):List Nat→List (Nat×AV)
 |[]=>[]
 |t::r=>match (look env t).bind (yC d s sz n ag) with
   |some v=>(t,v)::ry d s sz n ag env r
   |none=>ry d s sz n ag env r
def rz{α:Type}(d:Nat):List (Nat×α)→List (Nat×α)
 |[]=>[]
 |(k,v)::r=>if k=d then rz d r else (k,v)::rz d r
def FJ(d sz:Nat)(ag:Bool)(st:St):St:=match look st.mem d with
 |some cells=>if cells.all cL=true∧cells.all (aK (st.sh.length+1))=true then
     { st with env:=ry d st.sh.length sz cells.length ag st.env (st.env.map (·.1)),mem:=rz d st.mem,sh:=st.sh++[some cells] } else st
 |none=>st
def wF:List (Nat×Nat×Bool)→St→St
 |[],st=>st
 |(d,sz,ag)::r,st=>wF r (FJ d sz ag st)
def nc(b b':Nat):List Nat→List (Nat×AV)→List (Nat×AV)
 |[],env=>env
 |t::r,env=>match look env t with
   |some (.aP s z n ag)=>if s=b then nc b b' r (cW env t (.aP b' z n ag)) else nc b b' r env
   |_=>nc b b' r env
def BK:List Nat→St→St
 |[],st=>st
 |t::r,st=>match look st.env t with
   |some (.aP b _ _ _)=>match st.sh[b]? with
     |some (some cells)=>if bU cells=false then { st with env:=nc b st.sh.length (t::r) st.env,sh:=st.sh.set b none++[some cells] } else st
     |_=>st
   |_=>st
def i_:List Nat→St→St
 |[],st=>st
 |t::r,st=>match look st.env t with
   |some (.aP b _ _ _)=>match st.sh[b]? with
     |some (some cells)=>if bU cells=false∧(ei (.agg cells)).contains b=false then
         match b_ st.sh cells with
         |some ps=>i_ r { st with sh:=(cy st.sh [.agg cells]).set b (some (ps.map .pv)) }
         |none=>i_ r st
       else i_ r st
     |_=>i_ r st
   |_=>i_ r st
def cK(orc:dX)(k:Nat):aq→St→Option (bg×St)
 | .skip,st=>some (.normal,st)
 | .iA ops live,st=>match bo orc ops st with
   |some st'=>some (.normal,restrict live st')
   |none=>none
 | .seq a b,st=>match cK orc k a st with
   |some (.normal,st')=>cK orc k b st'
   |r=>r
 | .cond c a b,st=>match gQ st.env c with
   |some (.pv (.bool t))=>if t then cK orc k a st else cK orc k b st
   |_=>none
 | .block id b,st=>match cK orc k b st with
   |some (.exit id',st')=>if id'=id then some (.normal,st') else some (.exit id',st')
   |r=>r
 | .loop live b,st=>eX (cK orc k b) (fun s=>norm (restrict live s)) k st
 | .exit id,st=>some (.exit id,st)
 | .ret,st=>some (.ret,st)
 | .back c gb pi px sz ag live x y,st=>lI (andThen (cK orc k x) (cK orc k y)) (gQ st.env c) gb pi px sz ag live st
 | .dv ts,st=>some (.normal,nb ts st)
 | .Pb ds,st=>if iB st.env ds=true then some (.normal,st) else none
 | .lA ps,st=>some (.normal,wF ps st)
 | .lG ts,st=>some (.normal,BK ts st)
 | .Pc ts,st=>some (.normal,i_ ts st)
def bY:Nat→List AV→List (Nat×AV)
 |_,[]=>[]
 |i,v::r=>(i,v)::bY (i+1) r
def qz(st:St):pL→Option AV
 | .t n=>look st.env n
 | .c key sz ag=>match look st.env key with
   |some (.az d 0)=>match look st.mem key with
     |some cs=>if d=key then bQ ag sz cs 0 else none
     |none=>none
   |some (.aW s 0)=>match st.sh[s]? with
     |some (some cs)=>if bU cs=true then none else bQ ag sz cs 0
     |_=>none
   |_=>none
def d7(st:St):List pL→Option (List AV)
 |[]=>some []
 |r::rs=>match qz st r,d7 st rs with
   |some v,some vs=>some (v::vs)
   |_,_=>none
def sA(sh:Sh)(v:AV):AV:=match dv sh v with|some p=>.pv p|none=>v
def uI(sh:Sh)(v:AV):AV:=match v with
 | .dB l=>.dB l
 |v=>if aT v=true then sA sh v else v
def BL(sh:Sh)(v:AV):AV:=match v with
 | .dB l=>.dB l
 | .own l τ=>.own l τ
 | .agg cs=>.agg (cs.map (uI sh))
 |v=>sA sh v
def cm(aU ks:Bool)(sh:Sh)(vs:List AV):List AV:=if aU then (if ks then vs else vs.map (BL sh)) else vs.map (sA sh)
def eM(aU ks:Bool)(sh:Sh)(vs:List AV):Sh:=if aU && ks then sh else cy sh vs
def bZ(orc:dX)(k:Nat)(aU:Bool)(af:aA)(args:List AV)(sh:Sh)(ts:aG):Option (List AV×Sh×aG):=
 match cK orc k af.body { env:=bY 0 args,mem:=[],sh,aa:=ts } with
 |some (e,st)=>
   if e=.ret∨e=.normal then
     match d7 st af.results with
     |some vs=>
       let rs:=cm aU af.ks st.sh vs
       let sh':=if rs.all (aK sh.length)=true then (eM aU af.ks st.sh vs).take sh.length else eM aU af.ks st.sh vs
       if rs.all bI=true then some ((cQ st.aa rs sh').1,(cQ st.aa rs sh').2.1,(cQ st.aa rs sh').2.2.2) else none
     |none=>none
   else none
 |none=>none
def fC:List AV→Option (List PV)
 |[]=>some []
 | .pv p::r=>(fC r).map (p::·)
 |_=>none
def run(AP:Nat→Option aA)(k:Nat):Nat→dX
 |0=>{ p:=fun _ _=>none,i:=fun _ _ _ _=>none }
 |n+1=>
   { p:=fun g cV=>match AP g with
       |some af=>match af.pM with
         |some f=>f.f (run AP k n).p cV
         |none=>if cV.length=af.nparams∧cV.length≤af.ntmps then
             match bZ (run AP k n) k false af (cV.map .pv) [] [] with
             |some (rs,_)=>fC rs
             |none=>none
           else none
       |none=>none
     i:=fun g args sh ts=>match AP g with
       |some af=>if args.length≤af.ntmps then bZ (run AP k n) k true af args sh ts else none
       |none=>none }
theorem M3{a b c:Prop}(h:a∨b)(f:b→c):a∨c:=h.elim .inl fun x=>.inr (f x)
abbrev bl:=Nat→Nat→Option Value
def At(K:bl)(b o:Nat)(vs:List Value):Prop:=∀j v,vs[j]?=some v→K b (o+j)=some v
mutual
def R(K:bl)(top:Bool):PV→List Value→Prop
 | .bool b,vs=>vs=[.bool b]
 | .int k n,vs=>vs=[.int k n]
 | .str s,vs=>vs=[.string ⟨s.toArray⟩]
 | .agg cs,vs=>top=true∧dF K cs vs
 | .au els,vs=>∃base len cap,vs=[.slice base len cap]∧len≤cap∧els.length=len∧(els=[]∨∃b o sz,base=some ⟨b,o,none⟩∧Row K b o sz els)
def dF(K:bl):List PV→List Value→Prop
 |[],vs=>vs=[]
 |c::cs,vs=>∃v r,vs=v::r∧R K false c [v]∧dF K cs r
def Row(K:bl)(b o sz:Nat):List PV→Prop
 |[]=>True
 |el::r=>(∃vs,vs.length=sz∧At K b o vs∧R K true el vs)∧Row K b (o+sz) sz r
end
def Rel(K:bl):PV→Value→Prop
 | .agg cs,v=>∃vs:List Value,v=.agg vs.toArray∧dF K cs vs
 |p,v=>R K false p [v]
def ja(K:bl):List PV→List Value→Prop
 |[],vs=>vs=[]
 |c::cs,vs=>∃v r,vs=v::r∧Rel K c v∧ja K cs r
def bl.le(K K':bl):Prop:=∀b o v,K b o=some v→K' b o=some v
theorem bl.le_refl(K:bl):K.le K:=fun _ _ _ h=>h
theorem bl.le_trans{a b c:bl}(h:a.le b)(k:b.le c):a.le c:=fun x y z w=>k x y z (h x y z w)
theorem At.mono{K K':bl}(h:K.le K'){b o:Nat}{vs:List Value}(ha:At K b o vs):At K' b o vs:=fun j v hj=>h _ _ _ (ha j v hj)
mutual
theorem R.mono{K K':bl}(h:K.le K'):∀(p:PV) (top:Bool) (vs:List Value),R K top p vs→R K' top p vs
 | .bool _,_,_,hr=>by simpa only[R] using hr
 | .int _ _,_,_,hr=>by simpa only[R] using hr
 | .str _,_,_,hr=>by simpa only[R] using hr
 | .agg cs,_,vs,hr=>by
   simp only[R]at hr⊢;exact⟨hr.1,dF.mono h cs vs hr.2⟩
 | .au els,_,vs,hr=>by
   simp only[R]at hr⊢;obtain⟨base,len,cap,e1,e0,e2,e3⟩:=hr;refine⟨base,len,cap,e1,e0,e2,M3 e3 ?_⟩
   rintro⟨b,o,sz,e4,e5⟩
   exact⟨b,o,sz,e4,Row.mono h els b o sz e5⟩
theorem dF.mono{K K':bl}(h:K.le K'):∀(cs:List PV) (vs:List Value),dF K cs vs→dF K' cs vs
 |[],_,hr=>by simpa only[dF] using hr
 |c::cs,vs,hr=>by
   simp only[dF]at hr⊢;obtain⟨v,r,e1,e2,e3⟩:=hr;exact⟨v,r,e1,R.mono h c false [v] e2,dF.mono h cs r e3⟩
theorem Row.mono{K K':bl}(h:K.le K'):∀(els:List PV) (b o sz:Nat),Row K b o sz els→Row K' b o sz els
 |[],_,_,_,_=>by simp only[Row]
 |el::r,b,o,sz,hr=>by
   simp only[Row]at hr⊢;obtain⟨⟨vs,e1,e2,e3⟩,e4⟩:=hr;exact⟨⟨vs,e1,e2.mono h,R.mono h el true vs e3⟩,Row.mono h r b (o+sz) sz e4⟩
end
theorem Rel.mono{K K':bl}(h:K.le K'){p:PV}{v:Value}(hr:Rel K p v):Rel K' p v:=by
 cases p with
 |agg cs=>obtain⟨vs,e1,e2⟩:=hr;exact⟨vs,e1,dF.mono h _ _ e2⟩
 |_=>exact R.mono h _ _ _ hr
theorem ja.mono{K K':bl}(h:K.le K'):∀{cs:List PV} {vs:List Value},ja K cs vs→ja K' cs vs
 |[],_,hr=>hr
 |_::_,_,⟨v,r,e1,e2,e3⟩=>⟨v,r,e1,e2.mono h,ja.mono h e3⟩
theorem dF.length{K:bl}:∀{cs:List PV} {vs:List Value},dF K cs vs→vs.length=cs.length
 |[],_,hr=>by simp only[dF]at hr;simp[hr]
 |_::cs,_,hr=>by
   simp only[dF]at hr;obtain⟨v,r,rfl,_,e3⟩:=hr;simp[dF.length e3]
theorem ja.length{K:bl}:∀{cs:List PV} {vs:List Value},ja K cs vs→vs.length=cs.length
 |[],_,hr=>by cases hr;rfl
 |_::_,_,⟨v,r,rfl,_,e3⟩=>by simp[ja.length e3]
theorem R.length{K:bl}{p:PV}{vs:List Value}(h:R K true p vs):vs.length=(aX p).length:=by
 cases p with
 |agg cs=>simp only[R]at h;simp[aX,h.2.length]
 |au els=>simp only[R]at h;obtain⟨b,l,c,rfl,_⟩:=h;rfl
 |_=>simp only[R]at h;subst h;rfl
theorem R.cells{K:bl}{p:PV}{vs:List Value}(h:R K true p vs):dF K (aX p) vs:=by
 cases p with
 |agg cs=>simp only[R]at h;exact h.2
 |au els=>
   have h':=h;simp only[R]at h;obtain⟨b,l,c,rfl,e⟩:=h;simp only[aX,dF];exact⟨_,[],rfl,by simp only[R];exact⟨b,l,c,rfl,e⟩,rfl⟩
 |_=>simp only[R]at h;subst h;simp[aX,dF,R]
theorem R.top{K:bl}{p:PV}{vs:List Value}(h:R K false p vs):R K true p vs:=by
 cases p with
 |agg cs=>simp[R]at h
 |_=>simp only[R]at h⊢;exact h
theorem dF.get{K:bl}:∀{cs:List PV} {vs:List Value},dF K cs vs→∀{j:Nat} {c:PV},cs[j]?=some c→∃v,vs[j]?=some v∧R K false c [v]
 |[],_,_,j,c,hc=>by simp at hc
 |c0::cs,vs,h,j,c,hc=>by
   simp only[dF]at h;obtain⟨v,r,rfl,e2,e3⟩:=h;cases j with
   |zero=>simp at hc;subst hc;exact⟨v,by simp,e2⟩
   |succ j=>simpa using dF.get e3 (by simpa using hc)
theorem dF.drop{K:bl}:∀(n:Nat) {cs:List PV} {vs:List Value},dF K cs vs→dF K (cs.drop n) (vs.drop n)
 |0,_,_,h=>by simpa using h
 |n+1,[],_,h=>by simp only[dF]at h;subst h;simp[dF]
 |n+1,_::cs,_,h=>by
   simp only[dF]at h;obtain⟨v,r,rfl,_,e3⟩:=h;simpa using dF.drop n e3
theorem dF.take{K:bl}:∀(n:Nat) {cs:List PV} {vs:List Value},dF K cs vs→dF K (cs.take n) (vs.take n)
 |0,_,_,_=>by simp[dF]
 |n+1,[],_,h=>by simp only[dF]at h;subst h;simp[dF]
 |n+1,_::cs,_,h=>by
   simp only[dF]at h;obtain⟨v,r,rfl,e2,e3⟩:=h;simp only[List.take_succ_cons,dF];exact⟨v,_,rfl,e2,dF.take n e3⟩
theorem dF.append{K:bl}:∀{cs:List PV} {vs:List Value} {ds:List PV} {us:List Value},dF K cs vs→dF K ds us→dF K (cs++ds) (vs++us)
 |[],_,_,_,h,k=>by simp only[dF]at h;subst h;simpa using k
 |_::cs,_,_,_,h,k=>by
   simp only[dF]at h;obtain⟨v,r,rfl,e2,e3⟩:=h;simp only[List.cons_append,dF];exact⟨v,_,rfl,e2,dF.append e3 k⟩
theorem Row.get{K:bl}:∀{els:List PV} {b o sz:Nat},Row K b o sz els→∀{i:Nat} {el:PV},els[i]?=some el →
   ∃vs,vs.length=sz∧At K b (o+i*sz) vs∧R K true el vs
 |[],_,_,_,_,i,el,h=>by simp at h
 |e0::r,b,o,sz,hr,i,el,h=>by
   simp only[Row]at hr;obtain⟨e1,e2⟩:=hr;cases i with
   |zero=>simp at h;subst h;simpa using e1
   |succ i=>
     obtain⟨vs,h1,h2,h3⟩:=Row.get e2 (i:=i) (by simpa using h);exact⟨vs,h1,by rw[show o+(i+1)*sz=o+sz+i*sz from by rw[Nat.add_mul];omega];exact h2,h3⟩
theorem dF.one{K:bl}:∀{cs:List PV} {vs:List Value},dF K cs vs→∀u∈vs,u.oneCell'=true
 |[],_,h,u,hu=>by simp only[dF]at h;subst h;simp at hu
 |c::cs,_,h,u,hu=>by
   simp only[dF]at h;obtain⟨v,r,rfl,e2,e3⟩:=h;simp only[List.mem_cons]at hu;rcases hu with rfl|hu
   · cases c with
     |agg _=>simp[R]at e2
     |au _=>simp only[R]at e2;obtain⟨b,l,c,e,_⟩:=e2;simp at e;subst e;rfl
     |_=>simp[R]at e2;subst e2;rfl
   ·exact dF.one e3 u hu
theorem Row.flat{K:bl}:∀{els:List PV} {b o sz:Nat},Row K b o sz els →
   ∃vss:List Value,vss.length=els.length*sz∧At K b o vss∧(∀(K':bl) (b' o':Nat),K.le K'→At K' b' o' vss→Row K' b' o' sz els)∧∀u∈vss,u.oneCell'=true
 |[],b,o,sz,_=>⟨[],by simp,by intro j v h;simp at h,by intros;simp only[Row],by simp⟩
 |el::r,b,o,sz,hr=>by
   simp only[Row]at hr;obtain⟨⟨vs,h1,h2,h3⟩,h4⟩:=hr;obtain⟨vss,g1,g2,g3,g4⟩:=Row.flat h4;refine⟨vs++vss,by simp[h1,g1,Nat.add_mul];omega,?_,?_,?_⟩
   · intro j v hj;rw[List.getElem?_append]at hj;split at hj
     ·exact h2 j v hj
     · have:=g2 _ v hj;rw[h1]at this
       rwa [show o+sz+(j-sz)=o+j from by omega]at this
   · intro K' b' o' hle ha;simp only[Row];refine⟨⟨vs,h1,?_,R.mono hle _ _ _ h3⟩,?_⟩
     ·intro j v hj;exact ha j v (by rw[List.getElem?_append_left];exact hj;exact (List.getElem?_eq_some_iff.1 hj).1)
     · refine g3 K' b' (o'+sz) hle ?_;intro j v hj;have:=ha (sz+j) v (by rw[List.getElem?_append_right (by omega),h1];simpa using hj)
       rwa [show o'+sz+j=o'+(sz+j) from by omega]
   · intro u hu;simp only[List.mem_append]at hu;rcases hu with hu|hu
     ·exact dF.one h3.cells u hu
     ·exact g4 u hu
theorem Row.append{K:bl}:∀{els:List PV} {b o sz:Nat} {els':List PV},Row K b o sz els→Row K b (o+els.length*sz) sz els'→Row K b o sz (els++els')
 |[],_,_,_,_,_,k=>by simpa using k
 |el::r,b,o,sz,els',h,k=>by
   simp only[Row,List.cons_append]at h⊢;refine⟨h.1,Row.append h.2 ?_⟩;rw[show o+sz+r.length*sz=o+(el::r).length*sz from by simp[Nat.add_mul];omega];exact k
theorem Row.drop{K:bl}:∀(n:Nat) {els:List PV} {b o sz:Nat},Row K b o sz els→Row K b (o+n*sz) sz (els.drop n)
 |0,_,_,_,_,h=>by simpa using h
 |n+1,[],_,_,_,_=>by simp only[List.drop_nil,Row]
 |n+1,el::r,b,o,sz,h=>by
   simp only[Row]at h;simp only[List.drop_succ_cons];rw[show o+(n+1)*sz=o+sz+n*sz from by rw[Nat.add_mul];omega];exact Row.drop n h.2
theorem Row.take{K:bl}:∀(n:Nat) {els:List PV} {b o sz:Nat},Row K b o sz els→Row K b o sz (els.take n)
 |0,_,_,_,_,_=>by simp only[List.take_zero,Row]
 |n+1,[],_,_,_,_=>by simp only[List.take_nil,Row]
 |n+1,el::r,b,o,sz,h=>by
   simp only[Row]at h;simp only[List.take_succ_cons,Row];exact⟨h.1,Row.take n h.2⟩
theorem Row.sz{K:bl}{els:List PV}{b o sz s:Nat}(h:Row K b o sz els)(hs:bf s els=true)(hne:els≠[]):s=sz:=by
 cases els with
 |nil=>exact absurd rfl hne
 |cons el r=>
   simp only[Row]at h;obtain⟨⟨vs,h1,_,h3⟩,_⟩:=h;have:=h3.length;simp[bf]at hs;omega
def Pd(K:bl)(els:List PV)(base:Option Addr)(len:Nat):Prop:=
 els.length=len∧(els=[]∨∃b o sz,base=some ⟨b,o,none⟩∧Row K b o sz els)
theorem Pd.mono{K K':bl}(h:K.le K'){els:List PV}{base:Option Addr}{len:Nat}(hr:Pd K els base len):Pd K' els base len:=
 ⟨hr.1,M3 hr.2 fun⟨b,o,sz,e,r⟩=>⟨b,o,sz,e,Row.mono h _ _ _ _ r⟩⟩
theorem ca{K:bl}{els:List PV}{v:Value}:Rel K (.au els) v↔∃base len cap,v=.slice base len cap∧len≤cap∧Pd K els base len:=by
 simp only[Rel,R,Pd];constructor
 ·rintro⟨b,l,c,e,h⟩;exact⟨b,l,c,by simpa using e,h⟩
 ·rintro⟨b,l,c,e,h⟩;exact⟨b,l,c,by simpa using e,h⟩
theorem Ji{K:bl}{p:PV}{v:Value}(h:c_ p=true):Rel K p v↔R K false p [v]:=by
 cases p with
 |agg cs=>simp[c_]at h
 |_=>exact Iff.rfl
theorem Rel.RQ{K:bl}{p:PV}{v:Value}(h:R K false p [v]):Rel K p v:=by
 cases p with
 |agg cs=>simp[R]at h
 |_=>exact h
structure jS where
 lB:List (Nat×Nat×Nat)
 Pe:List Nat
 ps:List Nat
 live:List (Nat×List Nat)
 loops:List (Nat×List Nat)
 site:List Nat
 own:List (Nat×List Nat)
 Jj:List (Nat×Nat):=[]
 ks:Bool:=false
 q:List Nat:=[]
 Vy:List Nat:=[]
 fz:List (Nat×List Nat):=[]
 dup:List (Nat×Nat):=[]
 ro:List Nat:=[]
 Vz:List (Nat×List (Nat×Nat)):=[]
 lA:List (Nat×List (Nat×Nat×Bool)):=[]
 pr:List (Nat×List (Nat×Nat×Nat)):=[]
 cut:List (Nat×Nat×List Nat×List Nat):=[]
 fs:List (Nat×List Nat):=[]
 kp:List Nat:=[]
def jS.at(A:jS)(id:Nat):jS:=match look A.pr id with
 |some l=>{ A with lB:=l++A.lB }
 |none=>A
structure Names where
 g:List (Nat×Nat)
 WA:List Nat
 bk:List (Nat×Nat×Bool):=[]
 cl:List (Nat×Nat×Nat):=[]
 jX:Nat→Option (Array Value):=fun _=>none
def Names.of(ρ:Names)(f:Nat):Option Nat:=look ρ.g f
def cC(P:Program)(t:TypeId):Option Nat:=(P.info? t).map (·.size)
def eN(P:Program)(t:TypeId):Option Nat:=(P.info? t).map (·.bytes)
def gR(P:Program)(t:TypeId):Option Bool:=(P.underlying t).map fun| .struct _| .array ..=>true|_=>false
def dw:Value→Option PV
 | .bool b=>some (.bool b)
 | .int k n=>some (.int k n)
 | .string s=>some (.str s.data.toList)
 | .slice none 0 0=>some (.au [])
 |_=>none
def BM(v:Value):Option AV:=
 match v with
 | .slice none 0 0=>some (.dB [])
 | .pointer none=>some .jT
 | .nilFunc=>some .jT
 |v=>(dw v).map .pv
def cd{α β:Type}(f:α→Option β):List α→Option (List β)
 |[]=>some []
 |x::r=>match f x,cd f r with
   |some y,some ys=>some (y::ys)
   |_,_=>none
def ct(P:Program)(t:TypeId):Option (List PV):=
 match (P.info? t).bind (·.zero) with
 |some z=>cd dw z.cells.toList
 |none=>none
def iJ(ρ:Names):Operand→Option eJ
 | .tmp t=>some (.t t)
 | .const v=>(BM v).map .c
 | .func f=>(ρ.of f).map fun g=>.c (.fn g [])
 | .global _=>none
def eO(P:Program)(t:TypeId):Option TypeId:=match P.underlying t with|some (.slice e)=>some e|_=>none
def fK(P:Program)(t:TypeId)(f:Nat):Option Field:=match P.underlying t with|some (.struct fs)=>fs[f]?|_=>none
def BN(P:Program)(t:TypeId):Option CK:=if cC P t=some 1 then match P.underlying t with
 |some (.int _)=>some .int
 |some .string=>some .str
 |some .bool=>some .bool
 |_=>none
 else none
def BO(P:Program):Nat→List Field→Option (List CK)
 |_,[]=>some []
 | i,f::r=>if f.name ≠ "_"∧f.offset=i then match BN P f.type,BO P (i+1) r with
   |some c,some cs=>some (c::cs)
   |_,_=>none
   else none
def zeroOf(P:Program)(t:TypeId):Option PV:=match (P.info? t).bind (·.zero) with
 |some (.agg cs)=>(cd dw cs.toList).map .agg
 |some v=>dw v
 |none=>none
def Ez(P:Program)(op:BinOp)(t:TypeId):Option MY:=
 match P.underlying t with
 |some (.int _)|some .string=>some (.bin op)
 |some .bool=>if op=.eql then some (.beq false) else if op=.neq then some (.beq true) else none
 |_=>none
def fieldsOf(P:Program)(t:TypeId):Option (List (Nat×Nat)):=
 match P.underlying t with
 |some (.struct fs)=>cd (fun f=>(cC P f.type).map fun s=>(f.offset,s)) fs.toList
 |_=>none
def placesOf(P:Program)(t:TypeId)(is:List Nat):Option (List (Nat×Nat)):=
 match fieldsOf P t with
 |some all=>cd (fun i=>all[i]?) is
 |none=>none
def rL:Nat→List (Nat×Operand)→Bool
 |_,[]=>true
 |i,(j,_)::r=>i == j && rL (i+1) r
def bG(P:Program)(ρ:Names)(A:jS)(dst:Option Nat):Op→Option (AK×List Operand)
 | .move x| .assign x=>some (.v .mv,[x])
 | .pick c a b=>some (.v .pick,[c,a,b])
 | .binOp op t x y _=>(Ez P op t).map fun o=>(.v o,[x,y])
 | .unOp op _ x=>some (.v (.un op),[x])
 | .convert s d x=>match P.underlying s,P.underlying d with
   |some (.int _),some (.int k)=>some (.v (.conv k),[x])
   |some (.slice e),some .string=>match P.underlying e with
     |some (.int .u8)=>some (.v .b2s,[x])
     |_=>none
   |_,_=>none
 | .extract x i=>some (.v (.ext i),[x])
 | .field t x f=>match fK P t f with
   |some fd=>match cC P fd.type,gR P fd.type with
     |some sz,some ag=>some (.v (.field fd.offset sz ag),[x])
     |_,_=>none
   |none=>none
 | .fieldAddr t x f=>match fK P t f with
   |some fd=>match cC P fd.type with
     |some s=>if s=0 then none else some (.v (.gP fd.offset),[x])
     |none=>none
   |none=>none
 | .indexAddr t x i=>match eO P t with
   |some e=>(cC P e).map fun sz=>(.v (.d3 sz),[x,i])
   |none=>none
 | .index t x i=>match P.underlying t with
   |some .string=>some (.v .index,[x,i])
   |_=>none
 | .build t ps=>match P.underlying t with
   |some (.struct _)=>match ct P t,placesOf P t (ps.toList.map (·.1)) with
     |some z,some pl=>some (.v (.build z pl),ps.toList.map (·.2))
     |_,_=>none
   |_=>none
 | .buildSlice t n ps=>match eO P t with
   |some e=>match cC P e,ct P e with
     |some sz,some _=>if ps.size=n∧rL 0 ps.toList=true∧0<sz∧n*sz≤16777216 then some (.v (.d4 sz),ps.toList.map (·.2)) else none
     |_,_=>none
   |none=>none
 | .load t x=>match cC P t,gR P t with
   |some sz,some ag=>match x with
     | .tmp tx=>match look A.lB tx with
       |some (k,o)=>some (.bX k o sz ag,[x])
       |none=>if A.Pe.contains tx then some (.dU sz ag,[x]) else some (.v (.fh sz ag),[x])
     |_=>none
   |_,_=>none
 | .store t x v=>match cC P t,x with
   |some sz,.tmp tx=>match look A.lB tx with
     |some (k,o)=>some (.bB k o sz,[x,v])
     |none=>if A.kp.contains tx=true then some (.wE sz,[x,v]) else some (.fo sz,[x,v])
   |_,_=>none
 | .alloc t=>match ct P t,dst with
   |some z,some d=>match look A.lB d with
     |some (k,0)=>if k=d then some (.alloc d z,[]) else none
     |some _=>none
     |none=>some (.iX z,[])
   |_,_=>none
 | .box t x=>match cC P t,dst with
   |some sz,some d=>match look A.lB d with
     |some (k,0)=>if k=d then some (.box d sz,[x]) else none
     |some _=>none
     |none=>if A.kp.contains d=true then some (.MZ sz,[x]) else some (.oq sz,[x])
   |_,_=>none
 | .makeMap _ r=>if r.isNone=true then some (.Ew,[]) else none
 | .lookup t x i ok=>match P.underlying t with
   |some (.map k e)=>match BN P k,zeroOf P e with
     |some c,some z=>some (.sr c ok z,[x,i])
     |_,_=>none
   |_=>none
 | .mapUpdate t m i x| .insert t m i x=>match P.underlying t with
   |some (.map k _)=>(BN P k).map fun c=>(.M0 c,[m,i,x])
   |_=>none
 | .nilCheck x=>some (.v .pK,[x])
 | .makeFunc fn first cap=>match fn with
   | .func f=>if first.size=0 then (ρ.of f).map fun g=>(.v (.FH g),cap.toList) else none
   |_=>none
 | .makeSlice t l c=>match eO P t with
   |some e=>match cC P e,eN P e,gR P e,ct P e with
     |some sz,some by_,some ag,some z=>if z.length=sz∧0<sz then match dst.bind (look A.lB),dst with
         |some (k,0),some d=>if k=d then some (.ik d sz by_ z,[l,c]) else none
         |some _,_=>none
         |none,_=>some (.iY sz by_ ag z,[l,c])
       else none
     |_,_,_,_=>none
   |none=>none
 | .slice t x lo hi mx=>match P.underlying t with
   |some (.slice e)=>if mx.isSome=false∧(dst.map (A.Vy.contains ·)).getD false=true then (cC P e).map fun sz=>(.v (.sq sz lo.isSome hi.isSome),x::(lo.toList++hi.toList++mx.toList))
     else (cC P e).map fun sz=>(.v (.slice false sz lo.isSome hi.isSome mx.isSome),x::(lo.toList++hi.toList++mx.toList))
   |some .string=>if mx.isSome then none else some (.v (.slice true 0 lo.isSome hi.isSome false),x::(lo.toList++hi.toList++mx.toList))
   |_=>none
 | .call c=>match c.callee with
   | .builtin .len=>match c.args.toList,(c.argTypes[0]?).bind P.underlying with
     |[x],some (.slice _)=>some (.v .len,[x])
     |[x],some .string=>some (.v .BI,[x])
     |_,_=>none
   | .builtin .min=>match c.args.toList with
     |[x,y]=>some (.v .mn,[x,y])
     |_=>none
   | .builtin .max=>match c.args.toList with
     |[x,y]=>some (.v .mx,[x,y])
     |_=>none
   | .builtin .append=>match c.args.toList,(c.argTypes[0]?).bind (eO P),(c.argTypes[1]?).bind (eO P) with
     |[x,y],some e,some _=>match cC P e,eN P e,ct P e with
       |some sz,some by_,some z=>if z.length=sz∧0<sz∧0<by_ then
           if (dst.map (A.Vy.contains ·)).getD false then (gR P e).map fun ag=>(.dC sz by_ ag,[x,y]) else match dst.bind (look A.dup) with
             |some u=>some (.ot sz by_,[x,y,.tmp u])
             |none=>some (.append sz by_,[x,y])
         else none
       |_,_,_=>none
     |_,_,_=>none
   | .builtin .clear=>match c.args.toList,(c.argTypes[0]?).bind (eO P) with
     |[x],some e=>match cC P e,ct P e with
       |some sz,some z=>if z.length=sz∧0<sz then some (.gv sz z,[x]) else none
       |_,_=>none
     |_,_=>none
   | .builtin .copy=>match c.args.toList,(c.argTypes[0]?).bind (eO P),(c.argTypes[1]?).bind (eO P) with
     |[x,y],some e,some _=>match cC P e with
       |some sz=>some (.jx sz,[x,y])
       |none=>none
     |_,_,_=>none
   | .value (.func f)=>match ρ.of f with
     |some g=>match look ρ.cl g with
       |some (sz,by_)=>if c.args.size=1 then
           (if (dst.map (A.Vy.contains ·)).getD false=true then match (c.argTypes[0]?).bind (eO P) with
             |some e=>(gR P e).map fun ag=>(.gr sz by_ ag,c.args.toList)
             |none=>none
           else some (.clone sz by_,c.args.toList)) else none
       |none=>if (dst.map (A.q.contains ·)).getD false then some (.lH g,c.args.toList)
       else if ρ.WA.contains g || (dst.map (A.site.contains ·)).getD false then some (.bz g ((dst.bind (look A.own)).getD []),c.args.toList)
       else if (dst.map (A.ps.contains ·)).getD false then some (.en g,c.args.toList) else some (.aJ g,c.args.toList)
     |none=>none
   | .value (.tmp t)=>if (dst.map (A.ro.contains ·)).getD false=true then some (.eU,.tmp t::c.args.toList) else some (.fm,.tmp t::c.args.toList)
   |_=>none
 |_=>none
def cI(P:Program)(ρ:Names)(A:jS)(N:Nat)(ops:Array Oper)(o:Oper):Option dI:=
 match bG P ρ A o.dst o.op with
 |some (k,args)=>match cd (iJ ρ) args with
   |some as=>
     if (o.dst.map (fun d=>decide (d<N))).getD true=true then
       match o.guard with
       |none=>some { dst:=o.dst,guard:=none,args:=as,op:=k }
       |some (j,b)=>match (ops[j]?).bind (·.dst) with
         |some t=>some { dst:=o.dst,guard:=some (t,b),args:=as,op:=k }
         |none=>none
     else none
   |none=>none
 |none=>none
def dI.looks(o:dI):List Nat:=
 (o.args.filterMap fun| .t n=>some n|_=>none)++(match o.guard with|some (t,_)=>[t]|none=>[])
def AK.iC:AK→Bool
 | .dU ..| .fo _| .wE _| .oq _| .MZ _| .iX _| .iY ..| .en _| .bz ..| .fm| .eU| .Ew| .sr ..| .M0 _| .dC ..| .gr ..| .gv ..| .jx _=>true
 |_=>false
def AK.ve:AK→Bool
 | .dU ..| .sr ..| .eU=>true
 |_=>false
def AK.f_:AK→Bool
 | .append ..| .dC ..| .ot ..| .clone ..| .bz ..| .lH _| .fm| .eU=>true
 |_=>false
def AK.ie:AK→Bool
 | .bB ..| .alloc ..| .box ..| .ik ..=>true
 |_=>false
def indep(x y:dI):Bool:=
 (match x.dst with|some d=>!(y.looks).contains d && y.dst != some d|none=>true) &&
 (match y.dst with|some d=>!(x.looks).contains d|none=>true) &&
 (!(x.op.iC && y.op.iC) || (x.op.ve && y.op.ve)) && !(x.op.f_ && y.op.f_) &&
 (match x.op.key,y.op.key with
  |some a,some b=>a != b || !(x.op.ie || y.op.ie)
  |_,_=>true)
def dI.addr(o:dI):Option Nat:=match o.op,o.args with
 | .dU ..,.t a::_| .fo _,.t a::_=>some a
 |_,_=>none
def yD(ds:List (Nat×Nat))(x y:dI):Bool:=
 (match x.dst with|some d=>!(y.looks).contains d && y.dst != some d|none=>true) &&
 (match y.dst with|some d=>!(x.looks).contains d|none=>true) &&
 (match x.addr,y.addr with
  |some a,some b=>ds.contains (a,b)
  |_,_=>false)
def wG:List dI→Bool
 |[]=>true
 |x::r=>(match x.addr with|some a=>(x::r).all (fun o=>o.dst != some a)|none=>true) && wG r
def lJ:List Oper→List Nat→List Nat
 |[],acc=>acc
 |o::r,acc=>lJ r (acc++[o.after.toList.foldl (fun s e=>if Region.binds .any e then s ||| 2 ^ e.on ||| acc.getD e.on 0 else s) 0])
def rM(ds:List (Nat×Nat))(ms:List Nat)(i:Nat)(x:dI):Nat→List dI→Bool
 |_,[]=>true
 |j,y::r=>((ms.getD j 0).testBit i || indep x y || yD ds x y) && rM ds ms i x (j+1) r
def lK(ds:List (Nat×Nat))(ms:List Nat):Nat→List dI→Bool
 |_,[]=>true
 |i,x::r=>rM ds ms i x (i+1) r && lK ds ms (i+1) r
def gU:Nat→List Oper→Bool
 |_,[]=>true
 |i,o::r=>o.after.toList.all (fun e=>!Region.binds .any e || decide (e.on<i)) && gU (i+1) r
def wH(ds:List (Nat×Nat))(ops:List Oper)(as:List dI):Bool:=gU 0 ops && (lK ds (lJ ops []) 0 as && wG as)
def jY:Code→Option Nat
 | .region id _ _=>some id
 | .seq a b| .cond _ a b=>match jY a with|some i=>some i|none=>jY b
 | .block _ c| .loop c| .scope c=>jY c
 |_=>none
def aq.fD:aq→Bool
 | .seq a b| .cond _ a b=>a.fD && b.fD
 | .block _ b| .loop _ b=>b.fD
 | .back ..=>false
 |_=>true
def jz(o:Option (List Nat))(c:aq):aq:=match o with
 |some ts=>.seq (.dv ts) c
 |none=>c
def rN(o:Option (List Nat))(c:aq):aq:=match o with
 |some ts=>.seq (.Pc ts) c
 |none=>c
def BP(o:Option (Nat×List Nat×List Nat))(as:List dI)(live:List Nat):aq:=match o with
 |some (k,l,ts)=>.seq (.iA (as.take k) l) (.seq (.lG ts) (.iA (as.drop k) live))
 |none=>.iA as live
def behind(ds:Option (List (Nat×Nat)))(ps:Option (List (Nat×Nat×Bool)))(c:aq):aq:=
 let c1:=match ds with
   |some ds=>.seq c (.Pb ds)
   |none=>c
 match ps with
 |some ps=>.seq c1 (.lA ps)
 |none=>c1
def fM(P:Program)(ρ:Names)(A:jS)(N:Nat):Code→Option aq
 | .skip=>some .skip
 | .region id ops draw=>match cd (cI P ρ (A.at id) N ops) ops.toList with
   |some as=>if draw then (if wH ((look A.Vz id).getD []) ops.toList as then some (jz (look A.fz id) (behind (look A.Vz id) (look A.lA id) (.iA as ((look A.live id).getD [])))) else none)
     else match look A.cut id with
       |some q=>some (rN (look A.fs id) (jz (look A.fz id) (BP (some q) as ((look A.live id).getD []))))
       |none=>some (rN (look A.fs id) (jz (look A.fz id) (behind (look A.Vz id) (look A.lA id) (.iA as ((look A.live id).getD [])))))
   |none=>none
 | .seq a b=>match fM P ρ A N a,fM P ρ A N b with
   |some x,some y=>some (.seq x y)
   |_,_=>none
 | .cond c a b=>match iJ ρ c,fM P ρ A N a,fM P ρ A N b with
   |some c,some x,some y=>some (.cond c x y)
   |_,_,_=>none
 | .block id b=>(fM P ρ A N b).map (.block id)
 | .loop b=>(fM P ρ A N b).map (.loop (((jY b).bind (look A.loops)).getD []))
 | .exit id=>some (.exit id)
 | .ret=>some .ret
 |_=>none
def EA(P:Program):ResultVar→Option pL
 | .tmp t=>some (.t t)
 | .cell a t=>match cC P t,gR P t with
   |some sz,some ag=>some (.c a sz ag)
   |_,_=>none
def oA(P:Program)(ρ:Names)(A:jS)(fn:Func):Option aA:=
 match fn.body,cd (EA P) fn.results.toList with
 | some b,some rs=>if fn.params.size+fn.nfree≤fn.ntmps∧fn.name != "runtime.NumGoroutine" then
     (fM P ρ A fn.ntmps b).map fun c=>{ nparams:=fn.params.size,ntmps:=fn.ntmps,results:=rs,body:=c,ks:=A.ks } else none
 |_,_=>none
inductive lL where
 |eg|lB (d:Nat)|shr (b:Nat)|tok (τ:Nat)
 deriving DecidableEq
structure Tk where
 base:Option Addr
 len:Nat
 cap:Nat
 sz:Nat
 own:Bool:=false
def Tk.val(t:Tk):Value:=.slice t.base t.len t.cap
def Tk.dead(t:Tk):Prop:=t.base=none∧0<t.len
def Tk.on(t t':Tk):Prop:=(t.dead→t'.dead)∧(t'.dead∨t.cap<t'.len∨(t'.base=t.base∧t'.cap=t.cap∧(t'=t∨t'.own=true)))
def Tk.Si(t:Tk)(v:Value):Prop:=t.dead∨∃base len cap,v=.slice base len cap∧(cap<t.len∨(base=t.base∧cap=t.cap∧(len=t.len∨t.own=true)))
theorem Tk.gw(t:Tk):t.on t:=⟨id,.inr (.inr ⟨rfl,rfl,.inl rfl⟩)⟩
theorem Tk.Jk{a b c:Tk}(h:a.on b)(k:b.on c)(hl:b.len≤c.len):a.on c:=by
 refine⟨fun d=>k.1 (h.1 d),?_⟩;rcases h.2 with d|hc|⟨e1,e2,e3⟩
 ·exact .inl (k.1 d)
 ·exact .inr (.inl (by omega))
 · rcases k.2 with d|hc|⟨f1,f2,f3⟩
   ·exact .inl d
   ·exact .inr (.inl (by omega))
   · refine .inr (.inr ⟨f1.trans e1,f2.trans e2,?_⟩);rcases f3 with rfl|f3
     ·exact e3
     ·exact .inr f3
theorem Tk.rO(t:Tk):t.Si t.val:=.inr ⟨_,_,_,rfl,.inr ⟨rfl,rfl,.inl rfl⟩⟩
theorem Tk.Qi{t t':Tk}{v:Value}(h:t.Si v)(k:t.on t')(hl:t.len≤t'.len):t'.Si v:=by
 rcases h with d|⟨base,len,cap,e,h⟩
 ·exact .inl (k.1 d)
 · rcases k.2 with d|hc|⟨e1,e2,e3⟩
   ·exact .inl d
   ·refine .inr ⟨base,len,cap,e,.inl ?_⟩;rcases h with h|⟨_,h,_⟩<;>omega
   · refine .inr ⟨base,len,cap,e,?_⟩;rcases h with h|⟨h1,h2,h3⟩
     ·exact .inl (by omega)
     · refine .inr ⟨h1.trans e1.symm,h2.trans e2.symm,?_⟩;rcases e3 with rfl|e3
       ·exact h3
       ·exact .inr e3
structure Gh where
 K:bl
 role:Nat→lL
 pm:Nat→Option Nat
 sm:Nat→Option (Nat×Nat)
 tk:Nat→Option Tk
structure bO where
 r:Nat→Nat→Prop
 jX:Nat→Option (Array Value)
mutual
def aB(ρ:bO)(G:Gh):AV→Value→Prop
 | .un,v=>v=undef
 | .pv p,v=>Rel G.K p v
 | .dB els,v=>∃base len,v=.slice base len len∧Pd G.K els base len
 | .own els τ,v=>∃t,G.tk τ=some t∧(els.length≤t.len∧t.Si v)∧Rel G.K (.au els) v ∧
     (els.length=t.len→v=t.val∧(els=[]∨∃b o,t.base=some ⟨b,o,none⟩∧Row G.K b o t.sz els))
 | .agg cs,v=>∃vs:List Value,v=.agg vs.toArray∧aw ρ G cs vs
 | .qx cs,v=>∃vs:List Value,v=.tuple vs.toArray∧aw ρ G cs vs
 | .az d off,v=>∃b,G.pm d=some b∧v=.pointer (some ⟨b,off,none⟩)
 | .aW s off,v=>∃b,G.sm s=some b∧v=.pointer (some ⟨b.1,off,none⟩)
 | .fH cs,v=>∃b o vs,v=.pointer (some ⟨b,o,none⟩)∧At G.K b o vs∧dF G.K cs vs
 | .aP s z n _,v=>∃b cap,G.sm s=some b∧v=.slice (some ⟨b.1,0,none⟩) n (n+cap)∧(n+cap)*z≤b.2
 | .fn g cap,v=>∃f vs,ρ.r g f∧v=.func (.func f) #[] (List.toArray vs)∧aw ρ G cap vs
 | .jT,v=>v=.pointer none∨v=.nilFunc
 | .jU s,v=>∃b,G.sm s=some b∧v=.map (some b.1)
 | .fJ _,_=>False
 | .jt d n,v=>∃b,G.pm d=some b∧v=.slice (some ⟨b,0,none⟩) n n
 | .pJ s off n,v=>∃b base cap,G.sm s=some b∧v=.slice base n cap∧(n=0∨base=some ⟨b.1,off,none⟩)
def aw(ρ:bO)(G:Gh):List AV→List Value→Prop
 |[],vs=>vs=[]
 |c::cs,vs=>∃v r,vs=v::r∧aB ρ G c v∧aw ρ G cs r
end
structure Gh.le(G G':Gh):Prop where
 K:G.K.le G'.K
 pm:∀d b,G.pm d=some b→G'.pm d=some b
 sm:∀d b,G.sm d=some b→G'.sm d=some b
 tk:∀τ t,G.tk τ=some t→∃t',G'.tk τ=some t'∧(t.len≤t'.len∧t.on t')∧(t.len=t'.len→t'=t)
theorem Gh.le_refl(G:Gh):G.le G:=⟨G.K.le_refl,fun _ _ h=>h,fun _ _ h=>h,fun _ t h=>⟨t,h,⟨Nat.le_refl _,t.gw⟩,fun _=>rfl⟩⟩
theorem Gh.le_trans{a b c:Gh}(h:a.le b)(k:b.le c):a.le c:=
 ⟨bl.le_trans h.K k.K,fun x y e=>k.pm _ _ (h.pm x y e),fun x y e=>k.sm _ _ (h.sm x y e),fun τ t e=>by
   obtain⟨t',e1,e2,e3⟩:=h.tk τ t e;obtain⟨t'',f1,f2,f3⟩:=k.tk τ t' e1
   exact⟨t'',f1,⟨Nat.le_trans e2.1 f2.1,Tk.Jk e2.2 f2.2 f2.1⟩,fun hl=>by
     have h1:t.len=t'.len:=Nat.le_antisymm e2.1 (hl ▸ f2.1);have h2:t'.len=t''.len:=h1 ▸ hl;rw[f3 h2,e3 h1]⟩⟩
section
variable {ρ:bO} {G G':Gh}
mutual
theorem aB.mono(h:G.le G'):∀{x:AV} {v:Value},aB ρ G x v→aB ρ G' x v
 | .un,_,hr=>by simpa only[aB] using hr
 | .pv p,_,hr=>by simp only[aB]at hr⊢;exact hr.mono h.K
 | .dB els,_,hr=>by
   simp only[aB]at hr⊢;obtain⟨b,l,e,r⟩:=hr;exact⟨b,l,e,r.mono h.K⟩
 | .own els τ,v,hr=>by
   simp only[aB]at hr⊢;obtain⟨t,e1,e2,e3,e4⟩:=hr;obtain⟨t',f1,f2,f3⟩:=h.tk τ t e1;refine⟨t',f1,⟨Nat.le_trans e2.1 f2.1,Tk.Qi e2.2 f2.2 f2.1⟩,e3.mono h.K,fun hl=>?_⟩;have h1:els.length=t.len:=Nat.le_antisymm e2.1 (hl ▸ f2.1);have h2:=f3 (h1 ▸ hl);subst h2;obtain⟨g1,g2⟩:=e4 h1;exact⟨g1,M3 g2 fun⟨b,o,e,r⟩=>⟨b,o,e,Row.mono h.K _ _ _ _ r⟩⟩
 | .agg cs,_,hr=>by
   simp only[aB]at hr⊢;obtain⟨vs,e,r⟩:=hr;exact⟨vs,e,aw.mono h r⟩
 | .qx cs,_,hr=>by
   simp only[aB]at hr⊢;obtain⟨vs,e,r⟩:=hr;exact⟨vs,e,aw.mono h r⟩
 | .az d off,_,hr=>by
   simp only[aB]at hr⊢;obtain⟨b,e,r⟩:=hr;exact⟨b,h.pm _ _ e,r⟩
 | .aW d off,_,hr=>by
   simp only[aB]at hr⊢;obtain⟨b,e,r⟩:=hr;exact⟨b,h.sm _ _ e,r⟩
 | .fH cs,_,hr=>by
   simp only[aB]at hr⊢;obtain⟨b,o,vs,e,f,r⟩:=hr;exact⟨b,o,vs,e,f.mono h.K,dF.mono h.K _ _ r⟩
 | .aP s _ n _,_,hr=>by
   simp only[aB]at hr⊢;obtain⟨b,c,e,r⟩:=hr;exact⟨b,c,h.sm _ _ e,r⟩
 | .fn g cap,_,hr=>by
   simp only[aB]at hr⊢;obtain⟨f,vs,e1,e2,r⟩:=hr;exact⟨f,vs,e1,e2,aw.mono h r⟩
 | .jT,_,hr=>by simpa only[aB] using hr
 | .jU s,_,hr=>by
   simp only[aB]at hr⊢;obtain⟨b,e,r⟩:=hr;exact⟨b,h.sm _ _ e,r⟩
 | .fJ _,_,hr=>by simp only[aB]at hr
 | .pJ s _ _,_,hr=>by
   simp only[aB]at hr⊢;obtain⟨b,x,c,e,r⟩:=hr;exact⟨b,x,c,h.sm _ _ e,r⟩
 | .jt d _,_,hr=>by
   simp only[aB]at hr⊢;obtain⟨b,e,r⟩:=hr;exact⟨b,h.pm _ _ e,r⟩
theorem aw.mono(h:G.le G'):∀{xs:List AV} {vs:List Value},aw ρ G xs vs→aw ρ G' xs vs
 |[],_,hr=>by simpa only[aw] using hr
 |_::_,_,hr=>by
   simp only[aw]at hr⊢;obtain⟨v,r,e,e1,e2⟩:=hr;exact⟨v,r,e,aB.mono h e1,aw.mono h e2⟩
end
theorem aw.length:∀{xs:List AV} {vs:List Value},aw ρ G xs vs→vs.length=xs.length
 |[],_,hr=>by simp only[aw]at hr;simp[hr]
 |_::_,_,hr=>by
   simp only[aw]at hr;obtain⟨v,r,rfl,_,e2⟩:=hr;simp[aw.length e2]
theorem aw.get:∀{xs:List AV} {vs:List Value},aw ρ G xs vs→∀{j:Nat} {x:AV},xs[j]?=some x→∃v,vs[j]?=some v∧aB ρ G x v
 |[],_,_,j,x,hc=>by simp at hc
 |x0::xs,_,hr,j,x,hc=>by
   simp only[aw]at hr;obtain⟨v,r,rfl,e1,e2⟩:=hr;cases j with
   |zero=>simp at hc;subst hc;exact⟨v,by simp,e1⟩
   |succ j=>simpa using aw.get e2 (by simpa using hc)
theorem aw.drop:∀(n:Nat) {xs:List AV} {vs:List Value},aw ρ G xs vs→aw ρ G (xs.drop n) (vs.drop n)
 |0,_,_,h=>by simpa using h
 |n+1,[],_,h=>by simp only[aw]at h;subst h;simp[aw]
 |n+1,_::cs,_,h=>by
   simp only[aw]at h;obtain⟨v,r,rfl,_,e3⟩:=h;simpa using aw.drop n e3
theorem aw.take:∀(n:Nat) {xs:List AV} {vs:List Value},aw ρ G xs vs→aw ρ G (xs.take n) (vs.take n)
 |0,_,_,_=>by simp[aw]
 |n+1,[],_,h=>by simp only[aw]at h;subst h;simp[aw]
 |n+1,_::cs,_,h=>by
   simp only[aw]at h;obtain⟨v,r,rfl,e2,e3⟩:=h;simp only[List.take_succ_cons,aw];exact⟨v,_,rfl,e2,aw.take n e3⟩
theorem aw.append:∀{xs:List AV} {vs:List Value} {ys:List AV} {us:List Value},aw ρ G xs vs→aw ρ G ys us→aw ρ G (xs++ys) (vs++us)
 |[],_,_,_,h,k=>by simp only[aw]at h;subst h;simpa using k
 |_::cs,_,_,_,h,k=>by
   simp only[aw]at h;obtain⟨v,r,rfl,e2,e3⟩:=h;simp only[List.cons_append,aw];exact⟨v,_,rfl,e2,aw.append e3 k⟩
theorem il:∀{cs:List PV} {vs:List Value},dF G.K cs vs→aw ρ G (cs.map .pv) vs
 |[],_,h=>by simp only[dF]at h;subst h;simp[aw]
 |_::cs,_,h=>by
   simp only[dF]at h;obtain⟨v,r,rfl,e2,e3⟩:=h;simp only[List.map_cons,aw];exact⟨v,r,rfl,by simp only[aB];exact Rel.RQ e2,il e3⟩
theorem fQ:∀{cs:List PV} {vs:List Value},ja G.K cs vs→aw ρ G (cs.map .pv) vs
 |[],_,h=>by cases h;simp[aw]
 |_::cs,_,⟨v,r,e1,e2,e3⟩=>by
   subst e1;simp only[List.map_cons,aw];exact⟨v,r,rfl,by simp only[aB];exact e2,fQ e3⟩
theorem aB.cells{x:AV}{v:Value}(h:aB ρ G x v)(hx:(a_ x).all aT=true):aw ρ G (a_ x) v.cells.toList:=by
 cases x with
 |agg cs=>simp only[aB]at h;obtain⟨vs,rfl,r⟩:=h;simpa[a_,Value.cells] using r
 |pv p=>
   cases p with
   |agg cs=>
     simp only[aB,Rel]at h;obtain⟨vs,rfl,r⟩:=h;simpa[a_,Value.cells] using il r
   |bool b=>have h':=h;simp only[aB,Rel,R]at h;simp at h;subst h;simp only[a_,Value.cells,aw];exact⟨_,[],rfl,h',rfl⟩
   |int k n=>have h':=h;simp only[aB,Rel,R]at h;simp at h;subst h;simp only[a_,Value.cells,aw];exact⟨_,[],rfl,h',rfl⟩
   |str s=>have h':=h;simp only[aB,Rel,R]at h;simp at h;subst h;simp only[a_,Value.cells,aw];exact⟨_,[],rfl,h',rfl⟩
   |au els=>
     have h':=h;simp only[aB]at h;obtain⟨b,l,c,rfl,_⟩:=ca.1 h;simp only[a_,Value.cells,aw];exact⟨_,[],rfl,h',rfl⟩
 |dB els=>
   have h':=h;simp only[aB]at h;obtain⟨b,l,rfl,_⟩:=h;simp only[a_,Value.cells,aw];exact⟨_,[],rfl,h',rfl⟩
 |own els τ=>
   have h':=h;simp only[aB]at h;obtain⟨t,_,_,h3,_⟩:=h;obtain⟨b,l,c,rfl,_⟩:=ca.1 h3;simp only[a_,Value.cells,aw];exact⟨_,[],rfl,h',rfl⟩
 |aW s o=>
   have h':=h;simp only[aB]at h;obtain⟨b,_,rfl⟩:=h;simp only[a_,Value.cells,aw];exact⟨_,[],rfl,h',rfl⟩
 |aP s z n ag=>
   have h':=h;simp only[aB]at h;obtain⟨b,c,_,rfl,_⟩:=h;simp only[a_,Value.cells,aw];exact⟨_,[],rfl,h',rfl⟩
 |fn g cap=>
   have h':=h;simp only[aB]at h;obtain⟨f,vs,_,rfl,_⟩:=h;simp only[a_,Value.cells,aw];exact⟨_,[],rfl,h',rfl⟩
 |jT=>
   have h':=h;simp only[aB]at h;rcases h with rfl|rfl
   ·simp only[a_,Value.cells,aw];exact⟨_,[],rfl,h',rfl⟩
   ·simp only[a_,Value.cells,aw];exact⟨_,[],rfl,h',rfl⟩
 |jU s=>
   have h':=h;simp only[aB]at h;obtain⟨b,_,rfl⟩:=h;simp only[a_,Value.cells,aw];exact⟨_,[],rfl,h',rfl⟩
 |fJ kvs=>simp only[aB]at h
 |_=>simp[a_,aT]at hx
end
structure U9(ρ:bO)(G:Gh)(w:World)(b:Nat)(r:lL)(cells:List AV):Prop where
 role:G.role b=r
 at_:∃c t,w.heap[b]?=some (.cells c t (0,0))∧aw ρ G cells c.toList
def pN(K:bl):List (PV×PV)→List MapEntry→Prop
 |[],es=>es=[]
 |(k,p)::r,es=>∃e es',es=e::es'∧Rel K k e.key∧Rel K p e.val∧pN K r es'
theorem pN.mono{K K':bl}(h:K.le K'):∀{kvs:List (PV×PV)} {es:List MapEntry},pN K kvs es→pN K' kvs es
 |[],_,hr=>hr
 |(_,_)::_,_,⟨e,es',e1,e3,e4,e5⟩=>⟨e,es',e1,e3.mono h,e4.mono h,pN.mono h e5⟩
def Holds(ρ:bO)(G:Gh)(o:Obj)(n:Nat)(cells:List AV):Prop:=
 (∃c t vs suf,o=.cells c t (0,0)∧c.size=n∧c.toList=vs++suf∧aw ρ G cells vs)∨∃es clock kvs,o=.map es clock∧cells=[.fJ kvs]∧pN G.K kvs es.toList
theorem Holds.full{ρ:bO}{G:Gh}{c:Array Value}{t:TypeId}{cells:List AV}(h:aw ρ G cells c.toList):Holds ρ G (.cells c t (0,0)) c.size cells:=
 .inl ⟨c,t,c.toList,[],rfl,rfl,by simp,h⟩
structure wI(ρ:bO)(G:Gh)(w:World)(b:Nat×Nat)(r:lL)(cells:List AV):Prop where
 role:G.role b.1=r
 at_:∃o,w.heap[b.1]?=some o∧Holds ρ G o b.2 cells
theorem Holds.to{ρ:bO}{G G':Gh}{o:Obj}{n:Nat}{cells cells':List AV}(h:Holds ρ G o n cells)(hK:G.K.le G'.K)(hm:∀kvs,cells=[.fJ kvs]→cells'=[.fJ kvs])
   (hc:∀vs,aw ρ G cells vs→aw ρ G' cells' vs):Holds ρ G' o n cells':=by
 rcases h with⟨c,t,vs,suf,e,e3,e4,r⟩|⟨es,cl,kvs,e,e2,r⟩
 ·exact .inl ⟨c,t,vs,suf,e,e3,e4,hc _ r⟩
 ·exact .inr ⟨es,cl,kvs,e,hm kvs e2,r.mono hK⟩
theorem Holds.mono{ρ:bO}{G G':Gh}{o:Obj}{n:Nat}{cells:List AV}(h:G.le G')(hh:Holds ρ G o n cells):Holds ρ G' o n cells:=
 hh.to h.K (fun _ e=>e) (fun _ r=>r.mono h)
structure So(ρ:bO)(G:Gh)(w:World)(b:Nat×Nat)(r:lL)(cells:List AV):Prop where
 role:G.role b.1=r
 at_:∃c t vs suf,w.heap[b.1]?=some (.cells c t (0,0))∧c.size=b.2∧c.toList=vs++suf∧aw ρ G cells vs
theorem wI.cells{ρ:bO}{G:Gh}{w:World}{b:Nat×Nat}{r:lL}{cells:List AV}(h:wI ρ G w b r cells)(hm:bU cells=false):So ρ G w b r cells:=by
 obtain⟨h1,o,h2,h3⟩:=h;rcases h3 with⟨c,t,vs,suf,rfl,h4,h5,h6⟩|⟨es,cl,kvs,rfl,rfl,_⟩
 ·exact⟨h1,c,t,vs,suf,h2,h4,h5,h6⟩
 ·simp[bU]at hm
theorem Qj{ρ:bO}{G:Gh}{cells:List AV}{vs:List Value}(h:aw ρ G cells vs):bU cells=false:=by
 cases cells with
 |nil=>rfl
 |cons c r=>
   cases c with
   |fJ kvs=>simp[aw,aB]at h
   |_=>rfl
structure Sp(G:Gh)(w:World)(τ:Nat)(t:Tk):Prop where
 cap:t.len≤t.cap
 zero:t.len=0→t.cap=0
 spare:t.len<t.cap∨t.own=true→∃b o c ty,t.base=some ⟨b,o,none⟩∧G.role b=.tok τ∧w.heap[b]?=some (.cells c ty (0,0)) ∧
   o+t.cap*t.sz≤c.size∧∀j v,G.K b j=some v→j<o+t.len*t.sz
structure Inv(ρ:bO)(G:Gh)(w:World)(mem:List (Nat×List AV))(sh:Sh)(aa:aG):Prop where
 known:∀b o v,G.K b o=some v→w.cell? ⟨b,o,none⟩=some v
 aZ:∀b o v,G.K b o=some v→G.role b=.eg∨∃τ,G.role b=.tok τ
 fresh:∀b,w.heap.size≤b→G.role b=.eg
 cR:∀d cells,look mem d=some cells→∃b,G.pm d=some b∧U9 ρ G w b (.lB d) cells∧cells.all aT=true
 gA:∀d b,G.pm d=some b→(look mem d).isSome=true
 di:∀s cells,sh[s]?=some (some cells)→∃b,G.sm s=some b∧wI ρ G w b (.shr s) cells∧cells.all cL=true∧cells.all (aK (s+1))=true
 eo:∀s b,G.sm s=some b→s<sh.length
 db:∀τ n,aa[τ]?=some n→∃t,G.tk τ=some t∧t.len=n∧Sp G w τ t
 eS:∀τ t,G.tk τ=some t→aa[τ]?=some t.len
 jX:∀b c,ρ.jX b=some c→G.role b=.eg∧∃t z,w.heap[b]?=some (.cells c t z)
structure lM(ρ:bO)(G:Gh)(N:Nat)(env:List (Nat×AV))(a:Act):Prop where
 size:a.tmps.size=N
 env:∀t x,look env t=some x→∃v,a.tmps[t]?=some v∧aB ρ G x v
def Marks(n0:Nat)(G:Gh)(a:Act)(w:World):Prop:=
 n0≤w.heap.size∧∃Ds:List Nat,a.defers=Ds.map (fun D=>{ target:=.collected D,args:=#[] })∧Ds.Nodup ∧
   ∀D∈Ds,n0≤D∧D<w.heap.size∧G.role D=.eg∧w.heap[D]?=some (.deferred (some []))
structure gK(ρ:bO)(n0 N:Nat)(G:Gh)(st:St)(a:Act)(w:World):Prop where
 env:lM ρ G N st.env a
 inv:Inv ρ G w st.mem st.sh st.aa
 marks:Marks n0 G a w
structure bJ(G:Gh)(w:World)(G':Gh)(w':World):Prop where
 size:w.heap.size≤w'.heap.size
 os:w'.os=w.os
 tape:w'.tape=w.tape
 output:w'.output=w.output
 K:G.K.le G'.K
 sm:∀s b,G.sm s=some b→G'.sm s=some b
 eg:∀b,b<w.heap.size→G.role b=.eg→G'.role b=.eg∧w'.heap[b]?=w.heap[b]?
 iD:∀b τ,b<w.heap.size→G.role b=.tok τ→G'.role b=.eg∨∃τ',G'.role b=.tok τ'
 gB:∀b o v,b<w.heap.size→G.role b=.eg→G'.K b o=some v→G.K b o=some v
theorem bJ.refl(G:Gh)(w:World):bJ G w G w:=
 ⟨Nat.le_refl _,rfl,rfl,rfl,G.K.le_refl,fun _ _ h=>h,fun _ _ h=>⟨h,rfl⟩,fun _ τ _ h=>.inr ⟨τ,h⟩,fun _ _ _ _ _ h=>h⟩
theorem bJ.trans{G₁ G₂ G₃:Gh}{w₁ w₂ w₃:World}(h:bJ G₁ w₁ G₂ w₂)(k:bJ G₂ w₂ G₃ w₃):bJ G₁ w₁ G₃ w₃ where
 size:=Nat.le_trans h.size k.size
 os:=k.os.trans h.os
 tape:=k.tape.trans h.tape
 output:=k.output.trans h.output
 K:=bl.le_trans h.K k.K
 sm:=fun s b e=>k.sm _ _ (h.sm s b e)
 eg:=fun b hb hr=>by
   obtain⟨h1,h2⟩:=h.eg b hb hr;obtain⟨k1,k2⟩:=k.eg b (Nat.lt_of_lt_of_le hb h.size) h1;exact⟨k1,k2.trans h2⟩
 iD:=fun b τ hb hr=>by
   rcases h.iD b τ hb hr with h1|⟨τ',h1⟩
   ·exact .inl (k.eg b (Nat.lt_of_lt_of_le hb h.size) h1).1
   ·exact k.iD b τ' (Nat.lt_of_lt_of_le hb h.size) h1
 gB:=fun b o v hb hr hk=>h.gB b o v hb hr (k.gB b o v (Nat.lt_of_lt_of_le hb h.size) (h.eg b hb hr).1 hk)
theorem Marks.qA{n0:Nat}{G G':Gh}{a a':Act}{w w':World}(h:Marks n0 G a w)(he:bJ G w G' w')(hd:a'.defers=a.defers):Marks n0 G' a' w':=by
 obtain⟨e0,Ds,e1,e2,e3⟩:=h;refine⟨Nat.le_trans e0 he.size,Ds,hd.trans e1,e2,fun D hD=>?_⟩;obtain⟨f0,f1,f2,f3⟩:=e3 D hD;obtain⟨g1,g2⟩:=he.eg D f1 f2;exact⟨f0,Nat.lt_of_lt_of_le f1 he.size,g1,g2.trans f3⟩
theorem Inv.gV{ρ:bO}{G G':Gh}{w w':World}{mem:List (Nat×List AV)}{sh:Sh}{aa:aG}(h:Inv ρ G w mem sh aa)(he:bJ G w G' w') :
   ∀b c,ρ.jX b=some c→G'.role b=.eg∧∃t z,w'.heap[b]?=some (.cells c t z):=fun b c hb=>by
 obtain⟨h1,t,z,h2⟩:=h.jX b c hb;obtain⟨k1,k2⟩:=he.eg b (Array.getElem?_eq_some_iff.1 h2).1 h1;exact⟨k1,t,z,k2.trans h2⟩
theorem bJ.drew(G:Gh)(w:World):bJ G w G w.drew:=
 ⟨Nat.le_refl _,rfl,rfl,rfl,G.K.le_refl,fun _ _ h=>h,fun _ _ h=>⟨h,rfl⟩,fun _ τ _ h=>.inr ⟨τ,h⟩,fun _ _ _ _ _ h=>h⟩
theorem Inv.drew{ρ:bO}{G:Gh}{w:World}{mem:List (Nat×List AV)}{sh:Sh}{aa:aG}(h:Inv ρ G w mem sh aa):Inv ρ G w.drew mem sh aa where
 known:=h.known
 aZ:=h.aZ
 fresh:=h.fresh
 cR:=fun d cells e=>by obtain⟨b,e1,e2,e3⟩:=h.cR d cells e;exact⟨b,e1,⟨e2.role,e2.at_⟩,e3⟩
 gA:=h.gA
 di:=fun d cells e=>by obtain⟨b,e1,e2,e3⟩:=h.di d cells e;exact⟨b,e1,⟨e2.role,e2.at_⟩,e3⟩
 eo:=h.eo
 db:=fun τ n e=>by obtain⟨t,e1,e2,e3⟩:=h.db τ n e;exact⟨t,e1,e2,⟨e3.cap,e3.zero,e3.spare⟩⟩
 eS:=h.eS
 jX:=h.jX
end Go.Ab
namespace Go.Ab
section
variable {P:Program} {ns:Names} {G:Gh} {w:World}
abbrev num(ns:Names):bO:=⟨fun g f=>ns.of f=some g,ns.jX⟩
theorem dc{t n:Nat}(h:cC P t=some n)(w:World):(sizeOf t).run P w=.ok n w:=by
 unfold cC at h;cases hi:P.info? t with
 |none=>simp[hi]at h
 |some i=>simp[hi]at h;simp[sizeOf,typeInfo,hi,h]
theorem lN{t n:Nat}(h:eN P t=some n)(w:World):∃i,P.info? t=some i∧i.bytes=n∧(typeInfo t).run P w=.ok i w:=by
 unfold eN at h;cases hi:P.info? t with
 |none=>simp[hi]at h
 |some i=>simp[hi]at h;exact⟨i,rfl,h,by simp[typeInfo,hi]⟩
theorem iS{t:Nat}{b:Bool}(h:gR P t=some b)(w:World):(isAgg t).run P w=.ok b w:=by
 unfold gR at h;cases hu:P.underlying t with
 |none=>simp[hu]at h
 |some d=>
   simp[hu]at h;simp only[isAgg,Sem.run_bind,run_underlying hu,Result.andThen_ok];cases d<;>simp_all
theorem ny{K:bl}{v:Value}{p:PV}(h:dw v=some p):R K false p [v]∧c_ p=true:=by
 cases v with
 |bool b=>simp[dw]at h;subst h;simp[R,c_]
 |int k n=>simp[dw]at h;subst h;simp[R,c_]
 |string s=>simp[dw]at h;subst h;simp[R,c_]
 |slice a l c=>
   cases a with
   |some a=>simp[dw]at h
   |none=>
     cases l with
     |succ l=>simp[dw]at h
     |zero=>
       cases c with
       |succ c=>simp[dw]at h
       |zero=>
         simp[dw]at h;subst h;refine⟨?_,rfl⟩;simp only[R];exact⟨none,0,0,rfl,Nat.le_refl _,rfl,by simp⟩
 |_=>simp[dw]at h
theorem BQ{v:Value}{x:AV}(h:BM v=some x):aB (num ns) G x v:=by
 unfold BM at h;split at h
 ·simp at h;subst h;simp only[aB];exact⟨none,0,rfl,rfl,.inl rfl⟩
 ·simp at h;subst h;simp[aB]
 ·simp at h;subst h;simp[aB]
 · cases hc:dw v with
   |none=>simp[hc]at h
   |some p=>simp[hc]at h;subst h;simp only[aB];exact Rel.RQ (ny hc).1
theorem EB{N:Nat}{env:List (Nat×AV)}{a:Act}(he:lM (num ns) G N env a){x:Operand}{ax:eJ}{v:AV}
   (hc:iJ ns x=some ax) (hv:gQ env ax=some v):aB (num ns) G v (a.eval x):=by
 cases x with
 |tmp t=>
   simp[iJ]at hc;subst hc;obtain⟨rv,h1,h2⟩:=he.env t v (by simpa[gQ] using hv);have:a.eval (.tmp t)=rv:=by simp[Act.eval,h1]
   rw[this];exact h2
 |const c=>
   simp only[iJ,Option.map_eq_some_iff]at hc;obtain⟨x,h1,rfl⟩:=hc;simp[gQ]at hv;subst hv;exact BQ h1
 |func f=>
   simp only[iJ,Option.map_eq_some_iff]at hc;obtain⟨g,h1,rfl⟩:=hc;simp[gQ]at hv;subst hv;simp only[aB];exact⟨f,[],h1,rfl,by simp[aw]⟩
 |global g=>simp[iJ]at hc
theorem yE{N:Nat}{env:List (Nat×AV)}{a:Act}(he:lM (num ns) G N env a):∀{xs:List Operand} {as:List eJ} {vs:List AV},
   cd (iJ ns) xs=some as→dQ env as=some vs→aw (num ns) G vs (xs.map a.eval)
 |[],as,vs,hc,hv=>by
   simp[cd]at hc;subst hc;simp[dQ]at hv;subst hv;simp[aw]
 |x::xs,as,vs,hc,hv=>by
   simp only[cd]at hc;split at hc
   · rename_i ax axs h1 h2;simp at hc;subst hc;simp only[dQ]at hv;split at hv
     ·rename_i v vs' g1 g2;simp at hv;subst hv;simp only[List.map_cons,aw];exact⟨_,_,rfl,EB he h1 g1,yE he h2 g2⟩
     ·simp at hv
   ·simp at hc
theorem toList_mk(l:List UInt8):(ByteArray.mk l.toArray).toList=l:=by
 rw[ByteArray.toList_eq]
theorem sB:∀(a b:List UInt8),cA.dZ a b=Op.bytesLess a b
 |_,[]=>by simp[cA.dZ,Op.bytesLess]
 |[],_::_=>by simp[cA.dZ,Op.bytesLess]
 |a::x,b::y=>by simp[cA.dZ,Op.bytesLess,sB x y]
theorem bV{K:bl}{k:IntKind}{n:Int}{v:Value}:Rel K (.int k n) v↔v=.int k n:=by simp[Rel,R]
theorem jb{K:bl}{b:Bool}{v:Value}:Rel K (.bool b) v↔v=.bool b:=by simp[Rel,R]
theorem mB{K:bl}{s:List UInt8}{v:Value}:Rel K (.str s) v↔v=.string ⟨s.toArray⟩:=by simp[Rel,R]
theorem dd{ρ:bO}{k:IntKind}{n:Int}:aB ρ G (.pv (.int k n)) (.int k n):=by simp only[aB];exact bV.2 rfl
theorem mC{ρ:bO}{b:Bool}:aB ρ G (.pv (.bool b)) (.bool b):=by simp only[aB];exact jb.2 rfl
theorem sD{ρ:bO}{s:List UInt8}:aB ρ G (.pv (.str s)) (.string ⟨s.toArray⟩):=by simp only[aB];exact mB.2 rfl
theorem qB{op:BinOp}{t:TypeId}{x y z:AV}{vx vy:Value}(hx:aB (num ns) G x vx)(hy:aB (num ns) G y vy)
   (h:cA op x y=some z) (ox oy:Operand):∃v,(do eqGuard op t ox oy vx vy;binOp op t vx vy:Sem Value).run P w=.ok v w∧aB (num ns) G z v:=by
 unfold cA at h;split at h
 · rename_i k a k' b;simp only[aB,bV]at hx hy;subst hx;subst hy;have hg:(eqGuard op t ox oy (.int k a) (.int k' b)).run P w=.ok () w:=by cases op<;>simp[eqGuard]
   simp only[Sem.run_bind,hg,Result.andThen_ok];split at h
   · rename_i hk;cases op<;>simp only[reduceCtorEq,or_false,or_self,or_true]at hk<;>simp at h;case add=>subst hk;subst h;exact⟨_,by simp[binOp,Op.intArith],dd⟩
     case sub=>subst hk;subst h;exact⟨_,by simp[binOp,Op.intArith],dd⟩
     case mul=>subst hk;subst h;exact⟨_,by simp[binOp,Op.intArith],dd⟩
     case quo=>subst hk;obtain⟨h1,h⟩:=h;subst h;exact⟨_,by simp[binOp,Op.intDiv,h1],dd⟩
     case rem=>subst hk;obtain⟨h1,h⟩:=h;subst h;exact⟨_,by simp[binOp,Op.intDiv,h1],dd⟩
     case and=>subst hk;subst h;exact⟨_,by simp[binOp,Op.intBits],dd⟩
     case shl=>obtain⟨h1,h⟩:=h;subst h;exact⟨_,by simp[binOp,Op.shift,Int.not_lt.2 h1],dd⟩
     case shr=>obtain⟨h1,h⟩:=h;subst h;exact⟨_,by simp[binOp,Op.shift,Int.not_lt.2 h1],dd⟩
     all_goals (subst hk;subst h;exact⟨_,by simp[binOp,Op.intCmp],mC⟩)
   ·simp at h
 · rename_i a b;simp only[aB,mB]at hx hy;subst hx;subst hy;have hg:(eqGuard op t ox oy (.string ⟨a.toArray⟩) (.string ⟨b.toArray⟩)).run P w=.ok () w:=by cases op<;>simp[eqGuard]
   simp only[Sem.run_bind,hg,Result.andThen_ok];cases op<;>simp at h
   case add=>
     obtain⟨h1,h⟩:=h;subst h
     have h2:¬((((ByteArray.mk a.toArray).size+(ByteArray.mk b.toArray).size:Nat):Int) > IntKind.i64.max):=by
       have e1:(ByteArray.mk a.toArray).size=a.length:=(by simp[ByteArray.size]);have e2:(ByteArray.mk b.toArray).size=b.length:=(by simp[ByteArray.size]);rw[e1,e2];have:IntKind.i64.max=9223372036854775807:=(by decide);rw[this];omega
     have h3:(ByteArray.mk a.toArray)++(ByteArray.mk b.toArray)=ByteArray.mk (a++b).toArray:=by
       apply ByteArray.ext;simp
     exact⟨_,by simp only[binOp,Op.stringOp,if_neg h2,h3];rfl,sD⟩
   all_goals (subst h;exact⟨_,by simp only[binOp,Op.stringOp,toList_mk,←sB,Sem.run_pure,Bool.not_or],mC⟩)
 ·simp at h
theorem run_equalIn_bool(d:Nat){t:TypeId}(hu:P.underlying t=some .bool)(a b:Bool):(Op.equalIn (d+1) t (.bool a) (.bool b)).run P w=.ok (a == b) w:=by
 simp only[Op.equalIn,Sem.run_bind,run_underlying hu,Result.andThen_ok,Sem.run_pure]
theorem run_equal_bool{t:TypeId}(hu:P.underlying t=some .bool)(a b:Bool):(Op.equal t (.bool a) (.bool b)).run P w=.ok (a == b) w:=
 run_equalIn_bool 9999 hu a b
theorem yF{op:BinOp}{t:TypeId}{neg:Bool}(hu:P.underlying t=some .bool)(hop:(op=.eql∧neg=false)∨(op=.neq∧neg=true))(a b:Bool)(ox oy:Operand) :
   (do eqGuard op t ox oy (.bool a) (.bool b);binOp op t (.bool a) (.bool b):Sem Value).run P w=.ok (.bool (if neg then !(a == b) else (a == b))) w:=by
 rcases hop with⟨rfl,rfl⟩|⟨rfl,rfl⟩
 ·have hg:(eqGuard .eql t ox oy (.bool a) (.bool b)).run P w=.ok () w:=(by simp[eqGuard]);simp only[Sem.run_bind,hg,Result.andThen_ok,binOp,run_equal_bool hu,Sem.run_pure];rfl
 ·have hg:(eqGuard .neq t ox oy (.bool a) (.bool b)).run P w=.ok () w:=(by simp[eqGuard]);simp only[Sem.run_bind,hg,Result.andThen_ok,binOp,run_equal_bool hu,Sem.run_pure];rfl
end
end Go.Ab
namespace Go.Ab
section
variable {P:Program} {ns:Names} {G:Gh} {w:World}
theorem Addr.d8(b o n:Nat):(⟨b,o,none⟩:Addr).add n=⟨b,o+n,none⟩:=by unfold Addr.add;split<;>simp_all
theorem qC(vs:List Value)(off sz:Nat):vs.toArray.extract off (off+sz)=((vs.drop off).take sz).toArray:=by
 simp[List.extract_toArray]
theorem BR{t off sz:Nat}{ag:Bool}{cs:List AV}{vs:List Value}{x:AV}(hsz:cC P t=some sz)(hag:gR P t=some ag)
   (h:bQ ag sz cs off=some x) (hr:aw (num ns) G cs vs) :
   ∃v,(part t vs.toArray off).run P w=.ok v w∧aB (num ns) G x v:=by
 unfold bQ at h;split at h
 · rename_i hle;cases ag with
   |true=>
     simp at h;subst h;refine⟨.agg (vs.toArray.extract off (off+sz)),?_,?_⟩
     ·simp only[part,Sem.run_bind,iS hag,Result.andThen_ok,if_true,dc hsz,Sem.run_pure]
     ·simp only[aB];exact⟨(vs.drop off).take sz,by rw[qC],(hr.drop off).take sz⟩
   |false=>
     simp at h;obtain⟨_,h⟩:=h;obtain⟨v,h1,h2⟩:=hr.get h;refine⟨v,?_,h2⟩;simp only[part,Sem.run_bind,iS hag,Result.andThen_ok,Bool.false_eq_true,if_false];simp[h1]
 ·simp at h
theorem yG{t off sz:Nat}{ag:Bool}{cs:List PV}{vs:List Value}{x:AV}(hsz:cC P t=some sz)(hag:gR P t=some ag)
   (h:cM ag sz (cs.drop off)=some x) (hr:dF G.K cs vs) :
   ∃v,(part t vs.toArray off).run P w=.ok v w∧aB (num ns) G x v:=by
 unfold cM at h;split at h
 · rename_i hle;cases ag with
   |true=>
     simp at h;subst h;refine⟨.agg (vs.toArray.extract off (off+sz)),?_,?_⟩
     ·simp only[part,Sem.run_bind,iS hag,Result.andThen_ok,if_true,dc hsz,Sem.run_pure]
     ·simp only[aB,Rel];exact⟨(vs.drop off).take sz,by rw[qC],dF.take sz (dF.drop off hr)⟩
   |false=>
     simp only[Bool.false_eq_true,if_false,Option.ite_none_right_eq_some,Option.map_eq_some_iff]at h;obtain⟨_,c,h,rfl⟩:=h;rw[List.getElem?_drop]at h;obtain⟨v,h1,h2⟩:=hr.get h;simp only[Nat.add_zero]at h1;refine⟨v,?_,by simp only[aB];exact Rel.RQ h2⟩;simp only[part,Sem.run_bind,iS hag,Result.andThen_ok,Bool.false_eq_true,if_false];simp[h1]
 ·simp at h
theorem jA{t sz:Nat}{ag:Bool}{b o:Nat}{vs:List Value}(hsz:cC P t=some sz)(hag:gR P t=some ag)
   (hc:∀j v,vs[j]?=some v→w.cell? ⟨b,o+j,none⟩=some v) (hl:sz≤vs.length) (h1:ag=false→sz=1) :
   (loadVar t ⟨b,o,none⟩).run P w=.ok (if ag then .agg (vs.take sz).toArray else vs.getD 0 undef) w:=by
 cases ag with
 |true=>
   have hlen:(vs.take sz).length=sz:=by simp;omega
   have:=run_loadCells_list (P:=P) w ⟨b,o,none⟩ (vs.take sz) (fun j v hj=>by
     rw[Addr.d8];rw[List.getElem?_take]at hj;split at hj
     ·exact hc j v hj
     ·simp at hj)
   rw[hlen]at this;simp only[loadVar,Sem.run_bind,iS hag,Result.andThen_ok,if_true,dc hsz,this,Sem.run_pure]
 |false=>
   have:=h1 rfl;subst this;cases vs with
   |nil=>simp at hl
   |cons v r=>
     have:=hc 0 v rfl;simp only[Nat.add_zero]at this;simp only[loadVar,Sem.run_bind,iS hag,Result.andThen_ok,Bool.false_eq_true,if_false,run_load,this];simp
theorem ni{t sz:Nat}{ag:Bool}{b o:Nat}{vs:List Value}{cs:List PV}{x:AV}(hsz:cC P t=some sz)(hag:gR P t=some ag)
   (h:cM ag sz cs=some x) (hr:dF G.K cs vs) (hc:∀j v,vs[j]?=some v→w.cell? ⟨b,o+j,none⟩=some v) :
   ∃v,(loadVar t ⟨b,o,none⟩).run P w=.ok v w∧aB (num ns) G x v:=by
 have hlen:=hr.length;unfold cM at h;split at h
 · rename_i hle;cases ag with
   |true=>
     simp at h;subst h;refine⟨_,jA hsz hag hc (by omega) (by simp),?_⟩;simp only[if_true,aB,Rel];exact⟨_,rfl,dF.take sz hr⟩
   |false=>
     simp only[Bool.false_eq_true,if_false,Option.ite_none_right_eq_some,Option.map_eq_some_iff]at h;obtain⟨h1,c,h,rfl⟩:=h;obtain⟨v,h3,h4⟩:=hr.get h;refine⟨_,jA hsz hag hc (by omega) (fun _=>h1),?_⟩;simp only[Bool.false_eq_true,if_false,aB];have:vs.getD 0 undef=v:=by simp[List.getD,h3]
     rw[this];exact Rel.RQ h4
 ·simp at h
theorem fe{t sz:Nat}{ag:Bool}{b off:Nat}{vs:List Value}{cs:List AV}{x:AV}(hsz:cC P t=some sz)(hag:gR P t=some ag)
   (h:bQ ag sz cs off=some x) (hr:aw (num ns) G cs vs) (hc:∀j v,vs[j]?=some v→w.cell? ⟨b,j,none⟩=some v) :
   ∃v,(loadVar t ⟨b,off,none⟩).run P w=.ok v w∧aB (num ns) G x v:=by
 have hlen:=hr.length
 have hc':∀j v,(vs.drop off)[j]?=some v→w.cell? ⟨b,off+j,none⟩=some v:=fun j v hj=>by
   rw[List.getElem?_drop]at hj;exact hc _ v hj
 unfold bQ at h;split at h
 · rename_i hle;cases ag with
   |true=>
     simp at h;subst h;refine⟨_,jA hsz hag hc' (by simp;omega) (by simp),?_⟩;simp only[if_true,aB];exact⟨_,rfl,aw.take sz (aw.drop off hr)⟩
   |false=>
     simp at h;obtain⟨h1,h⟩:=h;obtain⟨v,h3,h4⟩:=hr.get h;refine⟨_,jA hsz hag hc' (by simp;omega) (fun _=>h1),?_⟩;simp only[Bool.false_eq_true,if_false];have:(vs.drop off).getD 0 undef=v:=by simp[List.getD,List.getElem?_drop,h3]
     rw[this];exact h4
 ·simp at h
theorem fR{b:Nat}{c:Array Value}{t:TypeId}{fr:Nat×Nat}(h:w.heap[b]?=some (.cells c t fr)):∀j v,c.toList[j]?=some v→w.cell? ⟨b,j,none⟩=some v:=by
 intro j v hj;simp[World.cell?,h];simpa using hj
theorem oB{b:Nat}{c:Array Value}{t:TypeId}{fr:Nat×Nat}{vs suf:List Value}(h:w.heap[b]?=some (.cells c t fr))(hs:c.toList=vs++suf):∀j v,vs[j]?=some v→w.cell? ⟨b,j,none⟩=some v:=by
 intro j v hj;refine fR h j v ?_;rw[hs,List.getElem?_append_left (List.getElem?_eq_some_iff.1 hj).1];exact hj
theorem qD{t f:Nat}{fd:Field}(h:fK P t f=some fd):∃fs,P.underlying t=some (.struct fs)∧fs[f]?=some fd:=by
 unfold fK at h;split at h
 ·rename_i fs hu;exact⟨fs,hu,h⟩
 ·simp at h
theorem dx{t e:Nat}(h:eO P t=some e):P.underlying t=some (.slice e):=by
 unfold eO at h;split at h
 ·rename_i hu;simp at h;subst h;exact hu
 ·simp at h
theorem yH{t f sz:Nat}{ag:Bool}{fd:Field}{x y:AV}{v:Value}(hf:fK P t f=some fd)(hsz:cC P fd.type=some sz)(hag:gR P fd.type=some ag)
   (h:bA (.field fd.offset sz ag) [x]=some y) (hr:aB (num ns) G x v):∃u,(Instr.field t v f).run P w=.ok u w∧aB (num ns) G y u:=by
 obtain⟨fs,hu,hg⟩:=qD hf;simp only[bA]at h;split at h
 ·rename_i cs;simp only[aB]at hr;obtain⟨vs,rfl,hr⟩:=hr;obtain⟨u,h1,h2⟩:=BR (w:=w) hsz hag h hr;refine⟨u,?_,h2⟩;simp only[Instr.field,Sem.run_bind,run_underlying hu,Result.andThen_ok,hg,asAgg,Sem.run_pure,h1]
 ·rename_i cs;simp only[aB,Rel]at hr;obtain⟨vs,rfl,hr⟩:=hr;obtain⟨u,h1,h2⟩:=yG (ns:=ns) (w:=w) hsz hag h hr;refine⟨u,?_,h2⟩;simp only[Instr.field,Sem.run_bind,run_underlying hu,Result.andThen_ok,hg,asAgg,Sem.run_pure,h1]
 ·simp at h
theorem im{t f s:Nat}{fd:Field}(hf:fK P t f=some fd)(hsz:cC P fd.type=some s)(hs:s≠0)(b o:Nat) :
   (Instr.fieldAt t (.pointer (some ⟨b,o,none⟩)) f).run P w=.ok (.pointer (some ⟨b,o+fd.offset,none⟩)) w:=by
 obtain⟨fs,hu,hg⟩:=qD hf;simp only[Instr.fieldAt,Sem.run_bind,run_underlying hu,Result.andThen_ok,hg,Instr.sureAddr,Sem.run_pure,fieldPlace,dc hsz,hs,if_false,Addr.d8]
theorem yI{t f s:Nat}{fd:Field}{x y:AV}{v:Value}(hf:fK P t f=some fd)(hsz:cC P fd.type=some s)(hs:s≠0)
   (h:bA (.gP fd.offset) [x]=some y) (hr:aB (num ns) G x v):∃u,(Instr.fieldAt t v f).run P w=.ok u w∧aB (num ns) G y u:=by
 simp only[bA]at h;split at h
 ·simp at h;subst h;simp only[aB]at hr;obtain⟨b,e,rfl⟩:=hr;exact⟨_,im hf hsz hs _ _,by simp only[aB];exact⟨b,e,rfl⟩⟩
 ·simp at h;subst h;simp only[aB]at hr;obtain⟨b,e,rfl⟩:=hr;exact⟨_,im hf hsz hs _ _,by simp only[aB];exact⟨b,e,rfl⟩⟩
 · simp at h;subst h;simp only[aB]at hr;obtain⟨b,o,vs,rfl,h1,h2⟩:=hr;refine⟨_,im hf hsz hs _ _,?_⟩;simp only[aB];refine⟨b,_,vs.drop fd.offset,rfl,?_,dF.drop _ h2⟩;intro j u hj;rw[List.getElem?_drop]at hj;have:=h1 _ u hj
   rwa [Nat.add_assoc]
 ·simp at h
theorem qE{t e sz:Nat}{k:IntKind}{i:Int}{b o len cap:Nat}(he:eO P t=some e)(hsz:cC P e=some sz)(h0:0≤i)(hi:i.toNat<len) :
   (Instr.indexAt t (.slice (some ⟨b,o,none⟩) len cap) (.int k i)).run P w=.ok (.pointer (some ⟨b,o+i.toNat*sz,none⟩)) w:=by
 have hu:=dx he;have:(0≤i∧i<(len:Int)):=⟨h0,by omega⟩;simp only[Instr.indexAt,Sem.run_bind,asIntOf,Sem.run_pure,Result.andThen_ok,run_underlying hu];simp[this,dc hsz,Addr.d8]
theorem d9{x:AV}{v:Value}{els:List PV}(h:cH x=some els)(hr:aB (num ns) G x v):Rel G.K (.au els) v:=by
 unfold cH at h;split at h
 ·simp at h;subst h;simpa only[aB] using hr
 ·simp at h;subst h;simp only[aB]at hr;obtain⟨b,l,rfl,hr⟩:=hr;exact ca.2 ⟨b,l,l,rfl,Nat.le_refl _,hr⟩
 ·simp at h;subst h;simp only[aB]at hr;obtain⟨t,_,_,hr,_⟩:=hr;exact hr
 ·simp at h
theorem yJ{t e sz:Nat}{k:IntKind}{i:Int}{x y:AV}{v:Value}(he:eO P t=some e)(hsz:cC P e=some sz)
   (h:bA (.d3 sz) [x,.pv (.int k i)]=some y) (hr:aB (num ns) G x v) :
   ∃u,(Instr.indexAt t v (.int k i)).run P w=.ok u w∧aB (num ns) G y u:=by
 simp only[bA]at h;split at h
 ·simp at h
 · rename_i h0;split at h
   ·rename_i s sz' n ag;simp only[aB]at hr;obtain⟨b,c,e1,rfl,_⟩:=hr;simp only[Option.ite_none_right_eq_some,Option.some.injEq]at h;obtain⟨⟨h1,h2⟩,rfl⟩:=h;refine⟨_,qE he hsz (by omega) h2,?_⟩;simp only[aB];exact⟨b,e1,by simp⟩
   · rename_i x' _;split at h
     · rename_i els hels;have hr':=d9 hels hr;obtain⟨base,len,cap,rfl,_,hlen,hrow⟩:=ca.1 hr';split at h
       · rename_i el hel;simp only[Option.ite_none_right_eq_some,Option.some.injEq]at h;obtain⟨hl,rfl⟩:=h;have hlt:i.toNat<els.length:=(List.getElem?_eq_some_iff.1 hel).1;rcases hrow with hnil|⟨b,o,sz',rfl,hrow⟩
         ·subst hnil;simp at hlt
         · obtain⟨vs,g1,g2,g3⟩:=hrow.get hel;have:sz=sz':=by rw[←hl,←g3.length,g1]
           subst this;refine⟨_,qE he hsz (by omega) (by omega),?_⟩;simp only[aB];exact⟨b,_,vs,rfl,g2,g3.cells⟩
       ·simp at h
     ·simp at h
theorem yK{t:Nat}{k:IntKind}{i:Int}{s:List UInt8}{y:AV}(hu:P.underlying t=some .string)
   (h:bA .index [.pv (.str s),.pv (.int k i)]=some y) :
   ∃u,(Instr.index t (.string ⟨s.toArray⟩) (.int k i)).run P w=.ok u w∧aB (num ns) G y u:=by
 simp only[bA]at h;split at h
 ·simp at h
 · rename_i h0;simp only[Option.map_eq_some_iff]at h;obtain⟨b,h1,rfl⟩:=h;refine⟨_,?_,dd⟩
   have h2:(ByteArray.mk s.toArray)[i.toNat]?=some b:=by
     have hlt:=(List.getElem?_eq_some_iff.1 h1).1;rw[getElem?_pos (ByteArray.mk s.toArray) i.toNat (by simpa[ByteArray.size] using hlt)];have:=(List.getElem?_eq_some_iff.1 h1).2;simp only[Option.some.injEq];rw[←this];rfl
   simp only[Instr.index,Sem.run_bind,asIntOf,Sem.run_pure,Result.andThen_ok,run_underlying hu];have h3:0≤i:=by omega
   simp only[h3,if_true,h2,Sem.run_pure]
end
end Go.Ab
namespace Go.Ab
section
variable {P:Program} {ns:Names} {G:Gh} {w:World}
theorem gg{α β:Type}{f:α→Option β}:∀{l:List α} {r:List β},cd f l=some r→r.length=l.length
 |[],_,h=>by simp[cd]at h;subst h;rfl
 |x::l,r,h=>by
   simp only[cd]at h;split at h
   ·rename_i y ys h1 h2;simp at h;subst h;simp[gg h2]
   ·simp at h
theorem yL{α β:Type}{f:α→Option β}:∀{l:List α} {r:List β},cd f l=some r→∀{i:Nat} {x:α},l[i]?=some x→∃y,r[i]?=some y∧f x=some y
 |[],_,_,i,x,hx=>by simp at hx
 |a::l,r,h,i,x,hx=>by
   simp only[cd]at h;split at h
   · rename_i y ys h1 h2;simp at h;subst h;cases i with
     |zero=>simp at hx;subst hx;exact⟨y,by simp,h1⟩
     |succ i=>simpa using yL h2 (by simpa using hx)
   ·simp at h
theorem yM{α β:Type}{f:α→Sem β}{g:α→Option β}(hf:∀x y,g x=some y→(f x).run P w=.ok y w):∀{l:List α} {r:List β},
   cd g l=some r→(l.mapM f).run P w=.ok r w
 |[],_,h=>by simp[cd]at h;subst h;simp
 |x::l,r,h=>by
   simp only[cd]at h;split at h
   ·rename_i y ys h1 h2;simp at h;subst h;simp only[List.mapM_cons,Sem.run_bind,hf x y h1,Result.andThen_ok,yM hf h2,Sem.run_pure]
   ·simp at h
theorem gh{t:Nat}{z:List PV}(h:ct P t=some z):∃zv,(zeroValue t).run P w=.ok zv w∧cd dw zv.cells.toList=some z:=by
 unfold ct at h;split at h
 · rename_i zv hz;cases hi:P.info? t with
   |none=>simp[hi]at hz
   |some i=>
     simp[hi]at hz;exact⟨zv,by simp[zeroValue,typeInfo,hi,hz],h⟩
 ·simp at h
theorem wJ{ρ:bO}{v:Value}{p:PV}(h:dw v=some p):aB ρ G (bA.zeroCell p) v∧aT (bA.zeroCell p)=true:=by
 obtain⟨h1,h2⟩:=ny (K:=G.K) h;unfold bA.zeroCell;split
 · refine⟨?_,rfl⟩;cases v with
   |slice a l c=>
     cases a with
     |some a=>simp[dw]at h
     |none=>
       cases l with
       |succ l=>simp[dw]at h
       |zero=>
         cases c with
         |succ c=>simp[dw]at h
         |zero=>simp only[aB];exact⟨none,0,rfl,rfl,.inl rfl⟩
   |_=>simp[dw]at h
 ·refine⟨by simp only[aB];exact Rel.RQ h1,?_⟩;cases p<;>simp_all[aT,c_]
theorem ig{ρ:bO}:∀{l:List Value} {z:List PV},cd dw l=some z→aw ρ G (z.map bA.zeroCell) l∧(z.map bA.zeroCell).all aT=true
 |[],_,h=>by simp[cd]at h;subst h;simp[aw]
 |v::l,z,h=>by
   simp only[cd]at h;split at h
   ·rename_i y ys h1 h2;simp at h;subst h;obtain⟨g1,g2⟩:=ig (ρ:=ρ) h2;obtain⟨g3,g4⟩:=wJ (G:=G) (ρ:=ρ) h1;simp only[List.map_cons,aw,List.all_cons,g4,g2,Bool.and_true,and_true];exact⟨v,l,rfl,g3,g1⟩
   ·simp at h
theorem pO(off:Nat):∀(l:List Value) (k:Nat) (cs:Array Value),off+k+l.length≤cs.size →
   ((l.zipIdx k).foldl (fun cs (x:Value×Nat)=>cs.setIfInBounds (off+x.2) x.1) cs).toList=cs.toList.take (off+k)++l++cs.toList.drop (off+k+l.length)
 |[],k,cs,_=>by simp
 |v::l,k,cs,h=>by
   simp only[List.zipIdx_cons,List.foldl_cons];have h':off+(k+1)+l.length≤(cs.setIfInBounds (off+k) v).size:=by simp at h⊢;omega
   rw[pO off l (k+1) _ h'];have:=list_seg_step cs.toList (off+k) v l (by simp at h⊢;omega);simpa[Array.toList_setIfInBounds,Nat.add_assoc] using this
theorem eY{ρ:bO}{cs:List AV}{l:List Value}(off:Nat){us:List AV}{vs:List Value}(h:aw ρ G cs l)(k:aw ρ G us vs) :
   aw ρ G (aQ cs off us) (l.take off++vs++l.drop (off+vs.length)):=by
 unfold aQ;rw[←k.length];exact aw.append (aw.append (h.take off) k) (h.drop _)
theorem iK{B:AV→Bool}{cs us:List AV}{off:Nat}(h:cs.all B=true)(k:us.all B=true):(aQ cs off us).all B=true:=by
 unfold aQ;rw[List.all_eq_true]at *;intro x hx;simp only[List.mem_append]at hx;rcases hx with (hx|hx)|hx
 ·exact h x (List.mem_of_mem_take hx)
 ·exact k x hx
 ·exact h x (List.mem_of_mem_drop hx)
theorem sE{place:Nat→Option (Nat×Nat)}:∀{is:List Nat} {pl:List (Nat×Nat)} {vals:List AV} {rvs:List Value} {cells:List AV} {rc:Array Value} {cs:List AV},
   cd place is=some pl→aw (num ns) G vals rvs→aw (num ns) G cells rc.toList→cells.all aT=true→is.length=rvs.length→lg cells pl vals=some cs →
   ∃rc',Instr.fill place rc (is.zip rvs)=some rc'∧aw (num ns) G cs rc'.toList∧cs.all aT=true
 |[],pl,vals,rvs,cells,rc,cs,hp,hv,hc,hb,hl,h=>by
   simp[cd]at hp;subst hp;have:rvs=[]:=by cases rvs<;>simp_all
   subst this;have:=hv.length;have:vals=[]:=by cases vals<;>simp_all
   subst this;simp[lg]at h;subst h;exact⟨rc,by simp[Instr.fill],hc,hb⟩
 |i::is,pl,vals,rvs,cells,rc,cs,hp,hv,hc,hb,hl,h=>by
   simp only[cd]at hp;split at hp
   · rename_i y ys h1 h2;simp at hp;subst hp;obtain⟨off,sz⟩:=y;cases vals with
     |nil=>simp[lg]at h
     |cons v vals=>
       simp only[aw]at hv;obtain⟨rv,rr,rfl,e1,e2⟩:=hv;simp only[lg,Option.ite_none_right_eq_some]at h;obtain⟨⟨g1,g2,g3⟩,h⟩:=h;have hcells:=e1.cells g3;have hlen:=hcells.length;have hsz:rv.cells.size=sz:=by rw[←g1,←hlen];simp
       have hrc:rc.size=cells.length:=by have:=hc.length;simpa using this
       simp only[List.zip_cons_cons,Instr.fill,h1]
       have hcond:(decide (rv.cells.size≠sz) || decide (off+rv.cells.size > rc.size))=false:=by
         simp[hsz];omega
       have hfold:(rv.cells.zipIdx.foldl (fun cs (x:Value×Nat)=>cs.setIfInBounds (off+x.2) x.1) rc).toList=rc.toList.take off++rv.cells.toList++rc.toList.drop (off+rv.cells.toList.length):=by
         have:=pO off rv.cells.toList 0 rc (by simp;omega);rw[←Array.foldl_toList];simpa using this
       rw[if_neg (by simp[hsz];omega)];refine sE (is:=is) h2 e2 (cells:=aQ cells off (a_ v)) ?_ (iK hb g3) (by simpa using hl) h;rw[hfold];exact eY off hc hcells
   ·simp at hp
theorem wK{t:Nat}{all:List (Nat×Nat)}(h:fieldsOf P t=some all):∃fs,P.underlying t=some (.struct fs) ∧
   (fs.mapM fun f=>(do pure (f.offset,←sizeOf f.type):Sem (Nat×Nat))).run P w=.ok all.toArray w:=by
 unfold fieldsOf at h;split at h
 · rename_i fs hu;refine⟨fs,hu,?_⟩;rw[Array.mapM_eq_mapM_toList];simp only[Sem.run_map];rw[yM (g:=fun f=>(cC P f.type).map fun s=>(f.offset,s)) ?_ h]
   ·rfl
   ·intro f y hy;simp only[Option.map_eq_some_iff]at hy;obtain⟨s,h1,rfl⟩:=hy;simp only[Sem.run_bind,dc h1,Result.andThen_ok,Sem.run_pure]
 ·simp at h
theorem yN{t:Nat}{z:List PV}{is:List Nat}{pl:List (Nat×Nat)}{vals:List AV}{rvs:List Value}{x:AV}
   (hz:ct P t=some z) (hp:placesOf P t is=some pl) (hr:aw (num ns) G vals rvs) (hl:is.length=rvs.length) (h:bA (.build z pl) vals=some x) :
   ∃v,(Instr.build t (is.zip rvs).toArray).run P w=.ok v w∧aB (num ns) G x v:=by
 obtain⟨zv,hz1,hz2⟩:=gh (w:=w) hz;unfold placesOf at hp;split at hp
 · rename_i all hall;obtain⟨fs,hu,hm⟩:=wK (w:=w) hall;simp only[bA,Option.map_eq_some_iff]at h;obtain⟨cs,h1,rfl⟩:=h;obtain⟨g1,g2⟩:=ig (G:=G) (ρ:=num ns) hz2;obtain⟨rc,e1,e2,_⟩:=sE (place:=(all.toArray[·]?)) (rc:=zv.cells) (by simpa using hp) hr g1 g2 hl h1;refine⟨.agg rc,?_,?_⟩
   ·simp only[Instr.build,Sem.run_bind,hz1,Result.andThen_ok,run_underlying hu,hm];simp only[e1,Sem.run_pure]
   ·simp only[aB];exact⟨rc.toList,by simp,e2⟩
 ·simp at hp
theorem Rel.We{K:bl}{p:PV}{v:Value}(h:Rel K p v):R K true p v.cells.toList:=by
 cases p with
 |agg cs=>obtain⟨vs,rfl,h⟩:=h;simp only[R,Value.cells];exact⟨trivial,by simpa using h⟩
 |bool b=>have h':=h;simp only[Rel,R]at h';simp at h';subst h';simpa[Value.cells] using R.top h
 |int k n=>have h':=h;simp only[Rel,R]at h';simp at h';subst h';simpa[Value.cells] using R.top h
 |str s=>have h':=h;simp only[Rel,R]at h';simp at h';subst h';simpa[Value.cells] using R.top h
 |au els=>
   have h':=h;obtain⟨b,l,c,rfl,_⟩:=ca.1 h';simpa[Value.cells] using R.top h
theorem oC{x:AV}{p:PV}{v:Value}(h:kx x=some p)(hr:aB (num ns) G x v):Rel G.K p v:=by
 unfold kx at h;split at h<;>simp at h<;>subst h
 ·simpa only[aB] using hr
 ·exact d9 (x:=.dB _) rfl hr
 ·exact d9 (x:=.own _ _) rfl hr
theorem qF{x:AV}:dD [] x=kx x:=by
 cases x<;>simp[dD,kx]
theorem pP{x:AV}{p:PV}(h:kx x=some p)(hl:aT x=true):c_ p=true:=by
 cases x with
 |pv q=>simp[kx]at h;subst h;cases q<;>simp_all[aT,c_]
 |dB _=>simp[kx]at h;subst h;rfl
 |own _ _=>simp[kx]at h;subst h;rfl
 |_=>simp[kx]at h
theorem Rel.Jl{K:bl}{p:PV}{v:Value}(h:Rel K p v)(hl:c_ p=true):R K false p [v]:=(Ji hl).1 h
theorem vf:∀{cs:List AV} {ps:List PV} {vs:List Value},b_ [] cs=some ps→aw (num ns) G cs vs→dF G.K ps vs
 |[],ps,vs,h,hr=>by simp[b_]at h;subst h;simp only[aw]at hr;simp[dF,hr]
 |c::cs,ps,vs,h,hr=>by
   simp only[b_,qF,Option.ite_none_right_eq_some]at h;obtain⟨hl,h⟩:=h;split at h
   ·rename_i p ps' h1 h2;simp at h;subst h;simp only[aw]at hr;obtain⟨v,r,rfl,e1,e2⟩:=hr;simp only[dF];exact⟨v,r,rfl,(oC h1 e1).Jl (pP h1 hl),vf h2 e2⟩
   ·simp at h
theorem wL{x:AV}{p:PV}{v:Value}(h:dv [] x=some p)(hr:aB (num ns) G x v):Rel G.K p v:=by
 cases x with
 |agg cs=>
   simp only[dv,Option.map_eq_some_iff]at h;obtain⟨ps,h1,rfl⟩:=h;simp only[aB]at hr;obtain⟨vs,rfl,hr⟩:=hr;simp only[Rel];exact⟨vs,rfl,vf h1 hr⟩
 |_=>simp only[dv,qF]at h;exact oC h hr
theorem ky:∀{xs:List AV} {ps:List PV} {vs:List Value},cY [] xs=some ps→aw (num ns) G xs vs→ja G.K ps vs
 |[],ps,vs,h,hr=>by simp[cY]at h;subst h;simp only[aw]at hr;exact hr
 |c::cs,ps,vs,h,hr=>by
   simp only[cY]at h;split at h
   ·rename_i p ps' h1 h2;simp at h;subst h;simp only[aw]at hr;obtain⟨v,r,rfl,e1,e2⟩:=hr;exact⟨v,r,rfl,wL h1 e1,ky h2 e2⟩
   ·simp at h
def Gh.iL(G:Gh)(b:Nat)(c:Array Value):Gh:={ G with K:=fun b' o=>if b'=b then c[o]? else G.K b' o }
theorem Inv.jc{ρ:bO}{mem:List (Nat×List AV)}{sh:Sh}{aa:aG}(h:Inv ρ G w mem sh aa){b o:Nat}{v:Value}(hk:G.K b o=some v):b<w.heap.size:=
 World.block_lt_of_cell? _ _ (h.known b o v hk)
theorem Gh.rP{ρ:bO}{mem:List (Nat×List AV)}{sh:Sh}{aa:aG}(h:Inv ρ G w mem sh aa)(c:Array Value):G.le (G.iL w.heap.size c) where
 K:=fun b o v hk=>by
   have:=h.jc hk;simp only[Gh.iL];rw[if_neg (by omega)];exact hk
 pm:=fun _ _ h=>h
 sm:=fun _ _ h=>h
 tk:=fun _ t h=>⟨t,h,⟨Nat.le_refl _,t.gw⟩,fun _=>rfl⟩
theorem bq{o:Obj}{b:Nat}(h:b<w.heap.size):(w.alloc o).heap[b]?=w.heap[b]?:=RowKit.Below.heap_alloc w o b h
theorem heap_alloc_new{o:Obj}:(w.alloc o).heap[w.heap.size]?=some o:=by
 show (w.heap.push o)[w.heap.size]?=some o;simp
theorem cp{b:Nat}{o:Obj}(h:w.heap[b]?=some o):b<w.heap.size:=by
 rcases Nat.lt_or_ge b w.heap.size with h'|h'
 ·exact h'
 ·simp[Array.getElem?_eq_none h']at h
theorem U9.mono{ρ:bO}{G':Gh}{w':World}{b:Nat}{r:lL}{cells:List AV}(h:U9 ρ G w b r cells)(hle:G.le G')(hr:G'.role b=G.role b)(hh:w'.heap[b]?=w.heap[b]?):U9 ρ G' w' b r cells:=by
 obtain⟨h1,c,t,h2,h3⟩:=h;exact⟨hr.trans h1,c,t,hh.trans h2,aw.mono hle h3⟩
theorem wI.mono{ρ:bO}{G':Gh}{w':World}{b:Nat×Nat}{r:lL}{cells:List AV}(h:wI ρ G w b r cells)(hle:G.le G')(hr:G'.role b.1=G.role b.1)(hh:w'.heap[b.1]?=w.heap[b.1]?):wI ρ G' w' b r cells:=by
 obtain⟨h1,o,h2,h3⟩:=h;exact⟨hr.trans h1,o,hh.trans h2,h3.mono hle⟩
theorem wI.lt{ρ:bO}{b:Nat×Nat}{r:lL}{cells:List AV}(h:wI ρ G w b r cells):b.1<w.heap.size:=by
 obtain⟨_,o,h2,_⟩:=h;exact cp h2
theorem Inv.sF{ρ:bO}{mem:List (Nat×List AV)}{sh:Sh}{aa:aG}(h:Inv ρ G w mem sh aa)(c:Array Value)(t:TypeId) :
   Inv ρ (G.iL w.heap.size c) (w.alloc (.cells c t)) mem sh aa:=by
 have hle:=Gh.rP h c;constructor
 · intro b o v hk;simp only[Gh.iL]at hk;split at hk
   ·rename_i hb;subst hb;simp[hk]
   · rw[World.cell?_alloc_old]
     ·exact h.known b o v hk
     ·simpa using ‹¬b=w.heap.size›
 · intro b o v hk;simp only[Gh.iL]at hk;split at hk
   ·rename_i hb;subst hb;exact .inl (h.fresh _ (Nat.le_refl _))
   ·exact h.aZ b o v hk
 ·intro b hb;simp at hb;exact h.fresh b (by omega)
 · intro d cells hd;obtain⟨b,e1,e2,e3⟩:=h.cR d cells hd;have hb:b<w.heap.size:=by obtain⟨c,t,hh,_⟩:=e2.at_;exact cp hh
   exact⟨b,e1,e2.mono hle rfl (bq hb),e3⟩
 ·exact h.gA
 ·intro d cells hd;obtain⟨b,e1,e2,e3⟩:=h.di d cells hd;have hb:b.1<w.heap.size:=e2.lt;exact⟨b,e1,e2.mono hle rfl (bq hb),e3⟩
 ·exact h.eo
 · intro τ n hn;obtain⟨tk,e1,e2,e3⟩:=h.db τ n hn;refine⟨tk,e1,e2,e3.cap,e3.zero,fun hlt=>?_⟩;obtain⟨b,o,cc,ty,f1,f2,f3,f4,f5⟩:=e3.spare hlt;have hb:=cp f3;refine⟨b,o,cc,ty,f1,f2,(bq hb).trans f3,f4,fun j v hk=>f5 j v ?_⟩;simp only[Gh.iL]at hk
   rwa [if_neg (by omega)]at hk
 ·exact h.eS
 ·intro b c' hb;obtain⟨h1,t',z,h2⟩:=h.jX b c' hb;exact⟨h1,t',z,(bq (Array.getElem?_eq_some_iff.1 h2).1).trans h2⟩
theorem bJ.sF{ρ:bO}{mem:List (Nat×List AV)}{sh:Sh}{aa:aG}(h:Inv ρ G w mem sh aa)(c:Array Value)(t:TypeId) :
   bJ G w (G.iL w.heap.size c) (w.alloc (.cells c t)) where
 size:=by simp
 os:=rfl
 tape:=rfl
 output:=rfl
 K:=(Gh.rP h c).K
 sm:=fun _ _ h=>h
 eg:=fun b hb hr=>⟨hr,bq hb⟩
 iD:=fun b τ _ hr=>.inr ⟨τ,hr⟩
 gB:=fun b o v hb _ hk=>by
   simp only[Gh.iL]at hk
   rwa [if_neg (by omega)]at hk
theorem M4{b:Nat}{l:List Value}:At (G.iL b l.toArray).K b 0 l:=by
 intro j v hj;simp only[Gh.iL,if_true,Nat.zero_add];simpa using hj
end
end Go.Ab
namespace Go.Ab
section
variable {P:Program} {ns:Names} {G:Gh} {w:World}
theorem qG(sz:Nat):∀(rvs:List Value) (k:Nat) (rc:Array Value),rc.size=(k+rvs.length)*sz→(∀v∈rvs,v.cells.size=sz) →
   ∃rc',Instr.fill (fun i=>some (i*sz,sz)) rc ((List.range' k rvs.length).zip rvs)=some rc'∧rc'.toList=rc.toList.take (k*sz)++rvs.flatMap (fun v=>v.cells.toList)
 |[],k,rc,h,_=>⟨rc,by simp[Instr.fill],by simp at h;simp only[List.flatMap_nil,List.append_nil];rw[List.take_of_length_le];simp;omega⟩
 |v::rvs,k,rc,h,hs=>by
   have hv:=hs v (by simp);have hsz:rc.size=k*sz+(rvs.length+1)*sz:=(by rw[h,Nat.add_mul];simp);have hge:k*sz+sz≤rc.size:=by rw[hsz,Nat.add_mul];omega
   have hfold:(v.cells.zipIdx.foldl (fun cs (x:Value×Nat)=>cs.setIfInBounds (k*sz+x.2) x.1) rc).toList=rc.toList.take (k*sz)++v.cells.toList++rc.toList.drop (k*sz+sz):=by
     have:=pO (k*sz) v.cells.toList 0 rc (by simp[hv];omega);rw[←Array.foldl_toList];simpa[hv] using this
   have hsize:(v.cells.zipIdx.foldl (fun cs (x:Value×Nat)=>cs.setIfInBounds (k*sz+x.2) x.1) rc).size=rc.size:=by
     have hl:=congrArg List.length hfold;rw[List.length_append,List.length_append,List.length_take,List.length_drop]at hl;simp only[Array.length_toList,hv]at hl;omega
   obtain⟨rc',e1,e2⟩:=qG sz rvs (k+1) _ (by rw[hsize,h];congr 1;simp;omega) (fun u hu=>hs u (by simp[hu]));refine⟨rc',?_,?_⟩
   ·simp only[List.length_cons,List.range'_succ,List.zip_cons_cons,Instr.fill];rw[if_neg (by simp[hv];omega)];exact e1
   · rw[e2,hfold];simp only[List.flatMap_cons];rw[List.append_assoc,List.take_append];have h1:(rc.toList.take (k*sz)).length=k*sz:=by simp;omega
     rw[h1];have h2:(k+1)*sz-k*sz=sz:=by rw[Nat.add_mul];omega
     rw[h2,List.take_of_length_le (by rw[h1,Nat.add_mul];omega),List.take_append];simp[hv,List.append_assoc];exact List.take_of_length_le (by simp[hv])
theorem qH(f:Operand→Value):∀(l:List (Nat×Operand)) (k:Nat),rL k l=true →
   l.map (fun x=>(x.1,f x.2))=(List.range' k ((l.map (·.2)).map f).length).zip ((l.map (·.2)).map f)
 |[],k,_=>by simp
 |(i,x)::l,k,h=>by
   simp only[rL,Bool.and_eq_true,beq_iff_eq]at h;obtain⟨rfl,h⟩:=h;simp only[List.map_cons,List.length_cons,List.range'_succ,List.zip_cons_cons];rw[qH f l _ h]
theorem qI(f:Operand→Value):∀(l:List (Nat×Operand)),l.map (fun x=>(x.1,f x.2))=(l.map (·.1)).zip ((l.map (·.2)).map f)
 |[]=>by simp
 |x::l=>by simp[qI f l]
theorem yP{K:bl}{b sz:Nat}:∀{els:List PV} {vs:List Value} {o:Nat},ja K els vs→els.all (fun e=>(aX e).length == sz)=true →
   At K b o (vs.flatMap fun v=>v.cells.toList)→Row K b o sz els
 |[],_,_,_,_,_=>by simp only[Row]
 |e::els,vs,o,⟨v,r,e1,e2,e3⟩,hs,ha=>by
   subst e1;simp only[List.all_cons,Bool.and_eq_true,beq_iff_eq]at hs;have hR:=e2.We;have hlen:v.cells.toList.length=sz:=by rw[hR.length,hs.1]
   simp only[Row];refine⟨⟨v.cells.toList,hlen,?_,hR⟩,yP e3 hs.2 ?_⟩
   ·intro j u hj;exact ha j u (by simp only[List.flatMap_cons];rw[List.getElem?_append_left (List.getElem?_eq_some_iff.1 hj).1];exact hj)
   · intro j u hj;have:=ha (sz+j) u (by simp only[List.flatMap_cons];rw[List.getElem?_append_right (by omega),hlen,Nat.add_sub_cancel_left];exact hj)
     rwa [←Nat.add_assoc]at this
theorem sG{K:bl}{sz:Nat}:∀{els:List PV} {vs:List Value},ja K els vs→els.all (fun e=>(aX e).length == sz)=true→∀v∈vs,v.cells.size=sz
 |[],vs,h,_,v,hv=>by cases h;simp at hv
 |e::els,vs,⟨u,r,e1,e2,e3⟩,hs,v,hv=>by
   subst e1;simp only[List.all_cons,Bool.and_eq_true,beq_iff_eq]at hs;simp only[List.mem_cons]at hv;rcases hv with rfl|hv
   ·have:=e2.We.length;simp at this;rw[this,hs.1]
   ·exact sG e3 hs.2 v hv
theorem wM{ρ:bO}{mem:List (Nat×List AV)}{sh:Sh}{aa:aG}{t e sz n:Nat}{z:List PV}{vals:List AV}{rvs:List Value}{x:AV}
   (he:eO P t=some e) (hsz:cC P e=some sz) (hz:ct P e=some z) (hn:rvs.length=n) (h0:0<sz) (hb:n*sz≤16777216)
   (hr:aw (num ns) G vals rvs) (hi:Inv ρ G w mem sh aa) (h:bA (.d4 sz) vals=some x) :
   ∃v c,(Instr.buildSlice t n ((List.range' 0 rvs.length).zip rvs).toArray).run P w=.ok v (w.alloc (.cells c e)) ∧
     aB (num ns) (G.iL w.heap.size c) x v:=by
 have hu:=dx he;simp only[bA,Option.bind_eq_some_iff,Option.ite_none_right_eq_some,Option.some.injEq]at h;obtain⟨els,h1,h2,rfl⟩:=h;have hrl:=ky h1 hr;have hlen:=hrl.length;obtain⟨zv,hz1,hz2⟩:=gh (w:=w) hz;have hne:¬(n*sz=0∧0<n):=by rintro⟨a,b⟩;have:=Nat.mul_pos b h0;omega
 let z0:Array Value:=if n*sz=0 then #[] else zv.cells
 have hinit:((Array.range (n*sz)).map (z0[· % z0.size]!)).size=(0+rvs.length)*sz:=by simp[hn]
 obtain⟨rc,g1,g2⟩:=qG sz rvs 0 _ hinit (sG hrl h2);have g2':rc.toList=rvs.flatMap (fun v=>v.cells.toList):=by simpa using g2
 refine⟨.slice (some ⟨w.heap.size,0,none⟩) n n,rc,?_,?_⟩
 · simp only[Instr.buildSlice,Sem.run_bind,run_underlying hu,Result.andThen_ok,dc hsz];rw[if_neg (by omega)];by_cases h00:n*sz=0
   ·have hz0:z0=#[]:=if_pos h00;rw[hz0]at g1;rw[if_pos h00];simp only[Sem.run_bind,Sem.run_pure,Result.andThen_ok,g1];rfl
   ·have hz0:z0=zv.cells:=if_neg h00;rw[hz0]at g1;rw[if_neg h00];simp only[Sem.run_bind,Sem.run_pure,hz1,Result.andThen_ok,g1];rfl
 · simp only[aB];refine⟨_,n,rfl,by omega,?_⟩;by_cases hnil:els=[]
   ·exact .inl hnil
   ·refine .inr ⟨w.heap.size,0,sz,rfl,?_⟩;have hle:=(Gh.rP hi rc).K;refine yP (ja.mono hle hrl) h2 ?_;rw[←g2'];have:=M4 (G:=G) (b:=w.heap.size) (l:=rc.toList);simpa using this
end
end Go.Ab
namespace Go.Ab
section
variable {P:Program} {ns:Names} {G:Gh} {w:World}
theorem cD{k:IntKind}{i:Int}{y:Nat}{code:BoundsCode}(h0:0≤i)(hy:i≤y):(Instr.sliceBound (.int k i) y code).run P w=.ok i.toNat w:=by
 simp only[Instr.sliceBound,Sem.run_bind,asIntOf,Sem.run_pure,Result.andThen_ok];rw[if_pos ⟨h0,hy⟩];rfl
theorem nA{lo hi mx:Option Operand}{f:Operand→Value}{rest:List AV}{n cap:Nat}{l h:Int}{m:Option Int}{b:Bool}
   (hr:aw (num ns) G rest ((lo.toList++hi.toList++mx.toList).map f)) (he:ez lo.isSome hi.isSome mx.isSome n rest=some (l,h,m))
   (h0:0≤l) (h1:l≤h) (h2:h≤n) (h3:n≤cap) (hm:∀x,m=some x→x=h) :
   (Instr.sliceBounds b n cap (lo.map f) (hi.map f) (mx.map f)).run P w=.ok (l.toNat,h.toNat,(m.map Int.toNat).getD cap) w:=by
 cases lo<;>cases hi<;>cases mx<;>simp only[Option.isSome_none,Option.isSome_some,ez]at he <;>
   (try (split at he<;>first|(simp at he;done)|skip))<;>(try (simp at he;done))
 all_goals simp at he
 all_goals obtain⟨rfl,rfl,rfl⟩:=he
 all_goals (try contradiction)
 all_goals simp[aw,aB,Rel,R]at hr
 ·simp only[Instr.sliceBounds,Option.map_none,Sem.run_bind,Sem.run_pure,Result.andThen_ok];simp
 ·rename_i k h _ _ _;have e1:=cD (P:=P) (w:=w) (k:=k) (i:=h) (y:=cap) (code:=if b then .sliceAcap else .sliceAlen) (by omega) (by omega);simp only[Instr.sliceBounds,Option.map_none,Option.map_some,hr,Sem.run_bind,Sem.run_pure,Result.andThen_ok,e1];simp
 ·rename_i k h k' m _ _ _;obtain⟨hr1,hr2⟩:=hr;have hmh:=hm m rfl;subst hmh;have e1:=cD (P:=P) (w:=w) (k:=k') (i:=m) (y:=cap) (code:=if b then .slice3Acap else .slice3Alen) (by omega) (by omega);have e2:=cD (P:=P) (w:=w) (k:=k) (i:=m) (y:=m.toNat) (code:=.slice3B) (by omega) (by omega);simp only[Instr.sliceBounds,Option.map_none,Option.map_some,hr1,hr2,Sem.run_bind,Sem.run_pure,Result.andThen_ok,e1,e2];simp
 ·rename_i k l _ _ _;have e1:=cD (P:=P) (w:=w) (k:=k) (i:=l) (y:=n) (code:=.sliceB) (by omega) (by omega);simp only[Instr.sliceBounds,Option.map_none,Option.map_some,hr,Sem.run_bind,Sem.run_pure,Result.andThen_ok,Option.isSome_none,Bool.false_eq_true,if_false,e1];simp
 ·rename_i k l k' h _ _ _;obtain⟨hr1,hr2⟩:=hr;have e1:=cD (P:=P) (w:=w) (k:=k') (i:=h) (y:=cap) (code:=if b then .sliceAcap else .sliceAlen) (by omega) (by omega);have e2:=cD (P:=P) (w:=w) (k:=k) (i:=l) (y:=h.toNat) (code:=.sliceB) (by omega) (by omega);simp only[Instr.sliceBounds,Option.map_none,Option.map_some,hr1,hr2,Sem.run_bind,Sem.run_pure,Result.andThen_ok,e1,Option.isSome_none,Bool.false_eq_true,if_false,e2];simp
 ·rename_i k l k' h k'' m _ _ _;obtain⟨hr1,hr2,hr3⟩:=hr;have hmh:=hm m rfl;subst hmh;have e1:=cD (P:=P) (w:=w) (k:=k'') (i:=m) (y:=cap) (code:=if b then .slice3Acap else .slice3Alen) (by omega) (by omega);have e2:=cD (P:=P) (w:=w) (k:=k') (i:=m) (y:=m.toNat) (code:=.slice3B) (by omega) (by omega);have e3:=cD (P:=P) (w:=w) (k:=k) (i:=l) (y:=m.toNat) (code:=.slice3C) (by omega) (by omega);simp only[Instr.sliceBounds,Option.map_some,hr1,hr2,hr3,Sem.run_bind,Sem.run_pure,Result.andThen_ok,e1,e2,Option.isSome_some,if_true,e3];simp
theorem M5{K:bl}{els:List PV}{b o sz l h:Nat}(hr:Row K b o sz els):Row K b (o+l*sz) sz ((els.take h).drop l):=Row.drop l (Row.take h hr)
theorem yQ{t e sz:Nat}{lo hi mx:Option Operand}{f:Operand→Value}{x y:AV}{v:Value}{rest:List AV}(hu:P.underlying t=some (.slice e))(hsz:cC P e=some sz)
   (hr:aw (num ns) G rest ((lo.toList++hi.toList++mx.toList).map f)) (hx:aB (num ns) G x v)
   (h:dE false sz lo.isSome hi.isSome mx.isSome (x::rest)=some y) :
   ∃u,(Instr.sliceAt t v (lo.map f) (hi.map f) (mx.map f)).run P w=.ok u w∧aB (num ns) G y u:=by
 simp only[dE,Bool.false_eq_true,if_false]at h;split at h
 · rename_i els hels;obtain⟨base,len,cap,rfl,hcap,hlen,hrow⟩:=ca.1 (d9 hels hx);split at h
   · rename_i l hh m hb;simp only[Option.ite_none_right_eq_some]at h;obtain⟨⟨h0,h1,h2,h3⟩,h⟩:=h
     have hm:∀x,m=some x→x=hh:=by
       intro x hx;subst hx;simp only[Option.ite_none_right_eq_some]at h;exact h.1
     rw[hlen]at hb h2;have hrun:=nA (P:=P) (w:=w) (b:=true) hr hb h0 h1 h2 (by omega:len≤cap) hm
     have gW:(Instr.sliceAt t (.slice base len cap) (lo.map f) (hi.map f) (mx.map f)).run P w =
         .ok (.slice (if (m.map Int.toNat).getD cap=l.toNat then base else base.map (·.add (l.toNat*sz))) (hh.toNat-l.toNat) ((m.map Int.toNat).getD cap-l.toNat)) w:=by
       simp only[Instr.sliceAt,Sem.run_bind,run_underlying hu,Result.andThen_ok,Instr.slice,hrun,dc hsz,Sem.run_pure]
     refine⟨_,gW,?_⟩
     have hsl:Pd G.K ((els.take hh.toNat).drop l.toNat) (if (m.map Int.toNat).getD cap=l.toNat then base else base.map (·.add (l.toNat*sz))) (hh.toNat-l.toNat):=by
       refine⟨by simp;omega,?_⟩;by_cases hnil:(els.take hh.toNat).drop l.toNat=[]
       ·exact .inl hnil
       · refine .inr ?_
         have hlt:l.toNat<hh.toNat:=by
           rcases Nat.lt_or_ge l.toNat hh.toNat with h'|h'
           ·exact h'
           ·exfalso;apply hnil;apply List.drop_of_length_le;simp;omega
         rcases hrow with hn|⟨b,o,sz',rfl,hrow⟩
         ·subst hn;simp at hnil
         · have hne:(m.map Int.toNat).getD cap≠l.toNat:=by
             cases m with
             |none=>simp;omega
             |some x=>have:=hm x rfl;subst this;simp;omega
           rw[if_neg hne];have hels':els≠[]:=by intro e;subst e;simp at hnil
           refine⟨b,o+l.toNat*sz',sz',?_,M5 hrow⟩;rcases h3 with h3|h3
           ·subst h3;simp[Addr.add]
           ·have:=hrow.sz h3 hels';subst this;simp[Addr.d8]
     cases m with
     |none=>
       simp at h;subst h;simp only[aB];exact ca.2 ⟨_,_,_,rfl,by simp;omega,hsl⟩
     |some x=>
       have:=hm x rfl;subst this;simp at h;subst h;simp only[aB];exact⟨_,_,rfl,hsl⟩
   ·simp at h
 ·simp at h
theorem wO{t e sz:Nat}{lo hi mx:Option Operand}{f:Operand→Value}{x y:AV}{v:Value}{rest:List AV}(hu:P.underlying t=some (.slice e))(hsz:cC P e=some sz)(hmx:mx.isSome=false)
   (hr:aw (num ns) G rest ((lo.toList++hi.toList++mx.toList).map f)) (hx:aB (num ns) G x v)
   (h:jV sz lo.isSome hi.isSome (x::rest)=some y) :
   ∃u,(Instr.sliceAt t v (lo.map f) (hi.map f) (mx.map f)).run P w=.ok u w∧aB (num ns) G y u:=by
 unfold jV at h;split at h
 · rename_i b z n ag rest' heq;simp only[List.cons.injEq]at heq;obtain⟨rfl,rfl⟩:=heq;rw[Option.ite_none_right_eq_some]at h;obtain⟨rfl,h⟩:=h;split at h
   · rename_i l hh hb;simp only[Option.ite_none_right_eq_some,Option.some.injEq]at h;obtain⟨⟨h0,h1,h2⟩,rfl⟩:=h;simp only[aB]at hx;obtain⟨blk,cap,hsm,rfl,hroom⟩:=hx;rw[←hmx]at hb;have hrun:=nA (P:=P) (w:=w) (b:=true) (cap:=n+cap) hr hb h0 h1 h2 (by omega) (by simp)
     have gW:(Instr.sliceAt t (.slice (some ⟨blk.1,0,none⟩) n (n+cap)) (lo.map f) (hi.map f) (mx.map f)).run P w =
         .ok (.slice (if n+cap=l.toNat then some ⟨blk.1,0,none⟩ else (some ⟨blk.1,0,none⟩:Option Addr).map (·.add (l.toNat*z))) (hh.toNat-l.toNat) (n+cap-l.toNat)) w:=by
       simp only[Instr.sliceAt,Sem.run_bind,run_underlying hu,Result.andThen_ok,Instr.slice,hrun,dc hsz,Sem.run_pure,Option.map_none,Option.getD_none]
     refine⟨_,gW,?_⟩;by_cases hl:l=0
     · subst hl;simp only[if_true,aB];refine⟨blk,n+cap-hh.toNat,hsm,?_,?_⟩
       ·have e1:hh.toNat+(n+cap-hh.toNat)=n+cap:=(by omega);rw[e1];simp[Addr.add]
       ·have e1:hh.toNat+(n+cap-hh.toNat)=n+cap:=(by omega);rw[e1];exact hroom
     · rw[if_neg hl];simp only[aB];refine⟨blk,_,_,hsm,rfl,?_⟩;by_cases hz:hh.toNat-l.toNat=0
       ·exact .inl hz
       ·right;rw[if_neg (by omega)];simp[Addr.add];exact fun e=>e.symm
   ·simp at h
 ·simp at h
theorem rB{t:Nat}{lo hi mx:Option Operand}{f:Operand→Value}{x y:AV}{v:Value}{rest:List AV}(hu:P.underlying t=some .string)(hmx:mx.isSome=false)
   (hr:aw (num ns) G rest ((lo.toList++hi.toList++mx.toList).map f)) (hx:aB (num ns) G x v)
   (h:dE true 0 lo.isSome hi.isSome false (x::rest)=some y) :
   ∃u,(Instr.sliceAt t v (lo.map f) (hi.map f) (mx.map f)).run P w=.ok u w∧aB (num ns) G y u:=by
 simp only[dE,if_true]at h;split at h
 · rename_i s;simp only[aB,mB]at hx;subst hx;split at h
   · rename_i l hh hb;simp only[Option.ite_none_right_eq_some,Option.some.injEq]at h;obtain⟨⟨h0,h1,h2⟩,rfl⟩:=h;rw[←hmx]at hb;have hrun:=nA (P:=P) (w:=w) (b:=false) hr hb h0 h1 h2 (Nat.le_refl _) (by simp);have hmx':mx=none:=by cases mx<;>simp_all
     subst hmx';have hsize:(ByteArray.mk s.toArray).size=s.length:=by simp[ByteArray.size]
     refine⟨.string ((ByteArray.mk s.toArray).extract l.toNat hh.toNat),?_,?_⟩
     ·simp only[Instr.sliceAt,Sem.run_bind,run_underlying hu,Result.andThen_ok,Instr.slice,Option.map_none,Option.isSome_none,Bool.false_eq_true,if_false,hsize];simp only[Option.map_none]at hrun;simp[hrun]
     · have:(ByteArray.mk s.toArray).extract l.toNat hh.toNat=⟨((s.take hh.toNat).drop l.toNat).toArray⟩:=by
         apply ByteArray.ext;simp[ByteArray.data_extract];rw[List.drop_take]
       rw[this];exact sD
   ·simp at h
 ·simp at h
end
end Go.Ab
namespace Go.Ab
section
variable {P:Program} {ns:Names} {G:Gh} {w:World}
def yR(ns:Names)(P:Program)(G:Gh)(w:World)(mem:List (Nat×List AV))(sh:Sh)(aa:aG)(s:Sem Value)(x:AV):Prop:=
 ∃v w' G',s.run P w=.ok v w'∧aB (num ns) G' x v∧Inv (num ns) G' w' mem sh aa∧G.le G'∧bJ G w G' w'
theorem yR.stay{mem:List (Nat×List AV)}{sh:Sh}{aa:aG}(hi:Inv (num ns) G w mem sh aa){s:Sem Value}{x:AV}{v:Value}(h:s.run P w=.ok v w)(hr:aB (num ns) G x v) :
   yR ns P G w mem sh aa s x:=⟨v,w,G,h,hr,hi,G.le_refl,bJ.refl G w⟩
theorem cg{ρ:bO}{vals:List AV}{v:Value}(h:aw ρ G vals [v]):∃x,vals=[x]∧aB ρ G x v:=by
 cases vals with
 |nil=>simp[aw]at h
 |cons x r=>
   simp only[aw]at h;obtain⟨u,r',e,h1,h2⟩:=h;cases e;cases r with
   |nil=>exact⟨x,rfl,h1⟩
   |cons _ _=>simp[aw]at h2
theorem dm{ρ:bO}{vals:List AV}{u v:Value}(h:aw ρ G vals [u,v]):∃x y,vals=[x,y]∧aB ρ G x u∧aB ρ G y v:=by
 cases vals with
 |nil=>simp[aw]at h
 |cons x r=>
   simp only[aw]at h;obtain⟨u',r',e,h1,h2⟩:=h;cases e;obtain⟨y,rfl,h3⟩:=cg h2;exact⟨x,y,rfl,h1,h3⟩
theorem yS{ρ:bO}{vals:List AV}{u v t:Value}(h:aw ρ G vals [u,v,t]):∃x y z,vals=[x,y,z]∧aB ρ G x u∧aB ρ G y v∧aB ρ G z t:=by
 cases vals with
 |nil=>simp[aw]at h
 |cons x r=>
   simp only[aw]at h;obtain⟨u',r',e,h1,h2⟩:=h;cases e;obtain⟨y,z,rfl,h3,h4⟩:=dm h2;exact⟨x,y,z,rfl,h1,h3,h4⟩
theorem Jm{x1 x2 x3 x:AV}(h:bA .pick [x1,x2,x3]=some x):∃c,x1=.pv (.bool c)∧x=if c then x2 else x3:=by
 cases x1 with
 |pv p=>cases p with
   |bool c=>exact⟨c,rfl,by simpa[bA] using h.symm⟩
   |_=>simp[bA]at h
 |_=>simp[bA]at h
theorem M6{neg:Bool}{x1 x2 x:AV}(h:bA (.beq neg) [x1,x2]=some x):∃p q,x1=.pv (.bool p)∧x2=.pv (.bool q)∧x=.pv (.bool (if neg then !(p == q) else (p == q))):=by
 cases x1 with
 |pv p=>cases p with
   |bool c=>cases x2 with
     |pv q=>cases q with
       |bool d=>exact⟨c,d,rfl,rfl,by simpa[bA] using h.symm⟩
       |_=>simp[bA]at h
     |_=>simp[bA]at h
   |_=>simp[bA]at h
 |_=>simp[bA]at h
theorem Jn{k:IntKind}{x1 x:AV}(h:bA (.conv k) [x1]=some x):∃k' n,x1=.pv (.int k' n)∧x=.pv (.int k (k.wrap n)):=by
 cases x1 with
 |pv p=>cases p with
   |int k' n=>exact⟨k',n,rfl,by simpa[bA] using h.symm⟩
   |_=>simp[bA]at h
 |_=>simp[bA]at h
theorem FK{sz:Nat}{x1 x2 x:AV}(h:bA (.d3 sz) [x1,x2]=some x):∃k i,x2=.pv (.int k i):=by
 cases x2 with
 |pv p=>cases p with
   |int k n=>exact⟨k,n,rfl⟩
   |_=>simp[bA]at h
 |_=>simp[bA]at h
theorem FL{x1 x2 x:AV}(h:bA .index [x1,x2]=some x):∃s k i,x1=.pv (.str s)∧x2=.pv (.int k i):=by
 cases x1 with
 |pv q=>cases q with
   |str s=>cases x2 with
     |pv p=>cases p with
       |int k n=>exact⟨s,k,n,rfl,rfl⟩
       |_=>simp[bA]at h
     |_=>simp[bA]at h
   |_=>simp[bA]at h
 |_=>simp[bA]at h
theorem sH:∀{els:List PV} {s:List UInt8},fq els=some s→els=s.map fun b=>.int .u8 (b.toNat:Int)
 |[],s,h=>by simp[fq]at h;subst h;rfl
 | .int .u8 n::r,s,h=>by
   simp only[fq,Option.ite_none_right_eq_some,Option.map_eq_some_iff]at h;obtain⟨⟨h0,h1⟩,q,h2,rfl⟩:=h
   have:((UInt8.ofNat n.toNat).toNat:Int)=n:=by
     simp;omega
   simp only[List.map_cons,this,←sH h2]
 | .int .i64 _::_,_,h=>by simp[fq]at h
 | .int .i32 _::_,_,h=>by simp[fq]at h
 | .int .i16 _::_,_,h=>by simp[fq]at h
 | .int .i8 _::_,_,h=>by simp[fq]at h
 | .int .u64 _::_,_,h=>by simp[fq]at h
 | .int .u32 _::_,_,h=>by simp[fq]at h
 | .int .u16 _::_,_,h=>by simp[fq]at h
 | .bool _::_,_,h=>by simp[fq]at h
 | .str _::_,_,h=>by simp[fq]at h
 | .agg _::_,_,h=>by simp[fq]at h
 | .au _::_,_,h=>by simp[fq]at h
theorem b2s_inv{x1 x:AV}(h:bA .b2s [x1]=some x):∃s:List UInt8,cH x1=some (s.map fun b=>.int .u8 (b.toNat:Int))∧x=.pv (.str s):=by
 simp only[bA,Option.map_eq_some_iff,Option.bind_eq_some_iff]at h;obtain⟨s,⟨els,h1,h2⟩,rfl⟩:=h;exact⟨s,by rw[h1,sH h2],rfl⟩
theorem b2s_run{s d e:TypeId}{l:List UInt8}{x:AV}{v:Value}(hs:P.underlying s=some (.slice e))(he:P.underlying e=some (.int .u8))(hd:P.underlying d=some .string)
   (hi:∀b o u,G.K b o=some u→w.cell? ⟨b,o,none⟩=some u) (hx:cH x=some (l.map fun b=>.int .u8 (b.toNat:Int))) (hr:aB (num ns) G x v) :
   (convert s d v).run P w=.ok (.string ⟨l.toArray⟩) w:=by
 obtain⟨base,len,cap,rfl,_,hlen,hrow⟩:=ca.1 (d9 hx hr);simp only[List.length_map]at hlen;subst hlen;cases base with
 |none=>
   have h0:l=[]:=by
     rcases hrow with h|⟨b,o,sz,e,_⟩
     ·simpa using h
     ·cases e
   subst h0;show (convert s d (.slice none 0 cap)).run P w=_;rw[run_convert_bytes_string w s d e none 0 cap hs he hd];simp[Conv.bytesToString];rfl
 |some a=>
   refine run_convert_bytes_back w s d e a cap l hs he hd fun j hj=>?_;rcases hrow with h|⟨b,o,sz,e,hrow⟩
   ·simp at h;subst h;simp at hj
   · cases e
     obtain⟨vs,g1,g2,g3⟩:=hrow.get (i:=j) (el:=.int .u8 (l[j].toNat:Int)) (by simp[hj]);simp only[R]at g3;subst g3;simp at g1;subst g1;rw[Addr.d8];have:=g2 0 _ rfl;simp at this;exact hi _ _ _ this
theorem M7{i:Nat}{x1 x:AV}(h:bA (.ext i) [x1]=some x):∃vs,x1=.qx vs∧vs[i]?=some x:=by
 cases x1 with
 |qx vs=>exact⟨vs,rfl,by simpa[bA] using h⟩
 |_=>simp[bA]at h
theorem FM{sz:Nat}{ag:Bool}{x1 x:AV}(h:bA (.fh sz ag) [x1]=some x):∃cs,x1=.fH cs∧cM ag sz cs=some x:=by
 cases x1 with
 |fH vs=>exact⟨vs,rfl,by simpa[bA] using h⟩
 |_=>simp[bA]at h
theorem Jo{x1 x:AV}(h:bA .BI [x1]=some x):∃s,x1=.pv (.str s)∧x=.pv (.int .i64 (s.length:Int)):=by
 cases x1 with
 |pv q=>cases q with
   |str s=>exact⟨s,rfl,by simpa[bA] using h.symm⟩
   |_=>simp[bA]at h
 |_=>simp[bA]at h
theorem Qk{x1 x2 x:AV}(h:bA .mn [x1,x2]=some x):∃k p q,x1=.pv (.int k p)∧x2=.pv (.int k q)∧x=.pv (.int k (if q<p then q else p)):=by
 cases x1 with
 |pv q=>cases q with
   |int k s=>cases x2 with
     |pv p=>cases p with
       |int k' n=>
         simp only[bA,Option.ite_none_right_eq_some,Option.some.injEq]at h;obtain⟨rfl,rfl⟩:=h;exact⟨k,s,n,rfl,rfl,rfl⟩
       |_=>simp[bA]at h
     |_=>simp[bA]at h
   |_=>simp[bA]at h
 |_=>simp[bA]at h
theorem Ql{x1 x2 x:AV}(h:bA .mx [x1,x2]=some x):∃k p q,x1=.pv (.int k p)∧x2=.pv (.int k q)∧x=.pv (.int k (if q > p then q else p)):=by
 cases x1 with
 |pv q=>cases q with
   |int k s=>cases x2 with
     |pv p=>cases p with
       |int k' n=>
         simp only[bA,Option.ite_none_right_eq_some,Option.some.injEq]at h;obtain⟨rfl,rfl⟩:=h;exact⟨k,s,n,rfl,rfl,rfl⟩
       |_=>simp[bA]at h
     |_=>simp[bA]at h
   |_=>simp[bA]at h
 |_=>simp[bA]at h
theorem yT{A:jS}{o:Oper}{vo:MY}{args:List Operand}(hc:bG P ns A o.dst o.op=some (.v vo,args)){a:Act}{vals:List AV}{x:AV}
   {mem:List (Nat×List AV)} {sh:Sh} {aa:aG} (hr:aw (num ns) G vals (args.map a.eval)) (hi:Inv (num ns) G w mem sh aa) (h:bA vo vals=some x) :
   ∃v w' G',(execOp a.eval o).run P w=.ok (.value v) w'∧aB (num ns) G' x v∧Inv (num ns) G' w' mem sh aa∧G.le G'∧bJ G w G' w':=by
 obtain⟨dst,op,type,pos,after,guard⟩:=o
 have lift:∀{s:Sem Value},yR ns P G w mem sh aa s x→(execOp a.eval ⟨dst,op,type,pos,after,guard⟩=(do pure (.value (←s)):Sem Next)) →
     ∃v w' G',(execOp a.eval ⟨dst,op,type,pos,after,guard⟩).run P w=.ok (.value v) w'∧aB (num ns) G' x v∧Inv (num ns) G' w' mem sh aa∧G.le G'∧bJ G w G' w':=by
   rintro s ⟨v,w',G',h1,h2,h3,h4,h5⟩ he
   exact⟨v,w',G',by rw[he];simp only[Sem.run_bind,h1,Result.andThen_ok,Sem.run_pure],h2,h3,h4,h5⟩
 cases op<;>simp only[bG]at hc
 case move y=>
   simp at hc;obtain⟨rfl,rfl⟩:=hc;obtain⟨x',rfl,h1⟩:=cg (by simpa using hr);simp[bA]at h;subst h;exact⟨_,w,G,by simp[execOp],h1,hi,G.le_refl,bJ.refl G w⟩
 case assign y=>
   simp at hc;obtain⟨rfl,rfl⟩:=hc;obtain⟨x',rfl,h1⟩:=cg (by simpa using hr);simp[bA]at h;subst h;exact⟨_,w,G,by simp[execOp],h1,hi,G.le_refl,bJ.refl G w⟩
 case pick c y z=>
   simp at hc;obtain⟨rfl,rfl⟩:=hc;obtain⟨x1,x2,x3,rfl,h1,h2,h3⟩:=yS (by simpa using hr);obtain⟨b,rfl,rfl⟩:=Jm h;simp only[aB,jb]at h1;refine⟨if b then a.eval y else a.eval z,w,G,by simp[execOp,h1,asBool],?_,hi,G.le_refl,bJ.refl G w⟩;cases b<;>simp[h2,h3]
 case binOp op t y z ty=>
   simp only[Option.map_eq_some_iff]at hc;obtain⟨vo',h0,he⟩:=hc;simp at he;obtain⟨rfl,rfl⟩:=he;obtain⟨x1,x2,rfl,h1,h2⟩:=dm (by simpa using hr);unfold Ez at h0;refine lift (s:=do eqGuard op t y z (a.eval y) (a.eval z);binOp op t (a.eval y) (a.eval z)) ?_ rfl;split at h0
   ·simp at h0;subst h0;simp only[bA]at h;obtain⟨v,g1,g2⟩:=qB (P:=P) (w:=w) (t:=t) h1 h2 h y z;exact .stay hi g1 g2
   ·simp at h0;subst h0;simp only[bA]at h;obtain⟨v,g1,g2⟩:=qB (P:=P) (w:=w) (t:=t) h1 h2 h y z;exact .stay hi g1 g2
   · rename_i hu
     have key:∀neg,vo'=.beq neg→((op=.eql∧neg=false)∨(op=.neq∧neg=true))→yR ns P G w mem sh aa (do eqGuard op t y z (a.eval y) (a.eval z);binOp op t (a.eval y) (a.eval z)) x:=by
       intro neg hvo hop;subst hvo;obtain⟨p,q,rfl,rfl,rfl⟩:=M6 h;simp only[aB,jb]at h1 h2;rw[h1,h2];exact .stay hi (yF hu hop p q y z) mC
     split at h0
     ·simp at h0;exact key false h0.symm (.inl ⟨‹_›,rfl⟩)
     · split at h0
       ·simp at h0;exact key true h0.symm (.inr ⟨‹_›,rfl⟩)
       ·simp at h0
   ·simp at h0
 case unOp op t y=>
   simp at hc;obtain⟨rfl,rfl⟩:=hc;obtain⟨x',rfl,h1⟩:=cg (by simpa using hr);refine lift (s:=Op.unary op (a.eval y)) ?_ rfl;simp only[bA]at h;unfold Sj at h;split at h
   · split at h<;>simp at h
     subst h;simp only[aB,jb]at h1;rw[h1];exact .stay hi (by simp[Op.unary]) mC
   · split at h<;>simp at h
     subst h;simp only[aB,bV]at h1;rw[h1];exact .stay hi (by simp[Op.unary,Op.intArith]) dd
   ·simp at h
 case convert s d y=>
   split at hc
   ·rename_i k1 k2 hs hd;simp at hc;obtain⟨rfl,rfl⟩:=hc;obtain⟨x',rfl,h1⟩:=cg (by simpa using hr);obtain⟨k',n,rfl,rfl⟩:=Jn h;simp only[aB,bV]at h1;refine lift (s:=convert s d (a.eval y)) ?_ rfl;rw[h1];exact .stay hi (by simp[convert,run_underlying hs,run_underlying hd,Conv.intToInt]) dd
   · rename_i e hs hd;split at hc
     ·rename_i he;simp at hc;obtain⟨rfl,rfl⟩:=hc;obtain⟨x',rfl,h1⟩:=cg (by simpa using hr);obtain⟨l,hl,rfl⟩:=b2s_inv h;refine lift (s:=convert s d (a.eval y)) ?_ rfl;exact .stay hi (b2s_run hs he hd hi.known hl h1) sD
     ·simp at hc
   ·simp at hc
 case extract y i=>
   simp at hc;obtain⟨rfl,rfl⟩:=hc;obtain⟨x',rfl,h1⟩:=cg (by simpa using hr);obtain⟨vs,rfl,h2⟩:=M7 h;simp only[aB]at h1;obtain⟨us,h3,h4⟩:=h1;obtain⟨u,h5,h6⟩:=h4.get h2;refine lift (s:=Instr.extract (a.eval y) i) ?_ rfl;rw[h3];exact .stay hi (by simp[Instr.extract,h5]) h6
 case field t y f=>
   split at hc
   · rename_i fd hf;split at hc
     ·rename_i sz ag hsz hag;simp at hc;obtain⟨rfl,rfl⟩:=hc;obtain⟨x',rfl,h1⟩:=cg (by simpa using hr);obtain⟨u,g1,g2⟩:=yH (w:=w) hf hsz hag h h1;exact lift (s:=Instr.field t (a.eval y) f) (.stay hi g1 g2) rfl
     ·simp at hc
   ·simp at hc
 case fieldAddr t y f=>
   split at hc
   · rename_i fd hf;split at hc
     · rename_i sz hsz;split at hc
       ·simp at hc
       ·rename_i hs0;simp at hc;obtain⟨rfl,rfl⟩:=hc;obtain⟨x',rfl,h1⟩:=cg (by simpa using hr);obtain⟨u,g1,g2⟩:=yI (w:=w) hf hsz hs0 h h1;exact lift (s:=Instr.fieldAt t (a.eval y) f) (.stay hi g1 g2) rfl
     ·simp at hc
   ·simp at hc
 case indexAddr t y i=>
   split at hc
   ·rename_i e he;simp only[Option.map_eq_some_iff]at hc;obtain⟨sz,hsz,hc⟩:=hc;simp at hc;obtain⟨rfl,rfl⟩:=hc;obtain⟨x1,x2,rfl,h1,h2⟩:=dm (by simpa using hr);obtain⟨k,i',rfl⟩:=FK h;obtain⟨u,g1,g2⟩:=yJ (w:=w) he hsz h h1;simp only[aB,bV]at h2;refine lift (s:=Instr.indexAt t (a.eval y) (a.eval i)) ?_ rfl;rw[h2];exact .stay hi g1 g2
   ·simp at hc
 case index t y i=>
   split at hc
   ·rename_i hu;simp at hc;obtain⟨rfl,rfl⟩:=hc;obtain⟨x1,x2,rfl,h1,h2⟩:=dm (by simpa using hr);obtain⟨s,k,i',rfl,rfl⟩:=FL h;obtain⟨u,g1,g2⟩:=yK (ns:=ns) (G:=G) (w:=w) hu h;simp only[aB,bV,mB]at h1 h2;refine lift (s:=Instr.index t (a.eval y) (a.eval i)) ?_ rfl;rw[h1,h2];exact .stay hi g1 g2
   ·simp at hc
 case build t ps=>
   split at hc
   · rename_i fs hu;split at hc
     · rename_i z pl hz hp;simp at hc;obtain⟨rfl,rfl⟩:=hc
       have hmap:(ps.map fun (i,x)=>(i,a.eval x))=((ps.toList.map (·.1)).zip ((ps.toList.map (·.2)).map a.eval)).toArray:=by
         apply Array.ext';rw[Array.toList_map];exact qI a.eval ps.toList
       refine lift (s:=Instr.build t (ps.map fun (i,x)=>(i,a.eval x))) ?_ rfl;rw[hmap];obtain⟨u,g1,g2⟩:=yN (w:=w) hz hp hr (by simp) h;exact .stay hi g1 g2
     ·simp at hc
   ·simp at hc
 case buildSlice t n ps=>
   split at hc
   · rename_i e he;split at hc
     · rename_i sz z hsz hz;simp only[Option.ite_none_right_eq_some,Option.some.injEq,Prod.mk.injEq]at hc;obtain⟨⟨hn,hord,h0,hb⟩,hvo,rfl⟩:=hc;simp at hvo;subst hvo
       have hmap:(ps.map fun (i,x)=>(i,a.eval x))=((List.range' 0 ((ps.toList.map (·.2)).map a.eval).length).zip ((ps.toList.map (·.2)).map a.eval)).toArray:=by
         apply Array.ext';rw[Array.toList_map];exact qH a.eval ps.toList 0 hord
       refine lift (s:=Instr.buildSlice t n (ps.map fun (i,x)=>(i,a.eval x))) ?_ rfl;rw[hmap];obtain⟨u,c,g1,g2⟩:=wM he hsz hz (by simp[hn]) h0 hb hr hi h;exact⟨u,_,_,g1,g2,hi.sF c e,Gh.rP hi c,bJ.sF hi c e⟩
     ·simp at hc
   ·simp at hc
 case load t y=>
   split at hc
   · rename_i sz ag hsz hag;split at hc
     · rename_i tx;split at hc
       ·simp at hc
       · split at hc
         ·simp at hc
         ·simp at hc;obtain⟨rfl,rfl⟩:=hc;obtain⟨x',rfl,h1⟩:=cg (by simpa using hr);obtain⟨cs,rfl,h2⟩:=FM h;simp only[aB]at h1;obtain⟨b,o,vs,e,ha,hrl⟩:=h1;refine lift (s:=Instr.loadAt t (a.eval (.tmp tx))) ?_ rfl;rw[e];obtain⟨u,g1,g2⟩:=ni (ns:=ns) (w:=w) hsz hag h2 hrl (fun j v hj=>hi.known _ _ _ (ha j v hj));exact .stay hi (by simp[Instr.loadAt,Instr.sureAddr,g1]) g2
     ·simp at hc
   ·simp at hc
 case nilCheck y=>
   simp at hc;obtain⟨rfl,rfl⟩:=hc;obtain⟨x',rfl,h1⟩:=cg (by simpa using hr);simp only[bA]at h;split at h
   ·simp at h;subst h;have h1':=h1;simp only[aB]at h1;obtain⟨b,e,hv⟩:=h1;exact⟨a.eval y,w,G,by simp[execOp,hv],h1',hi,G.le_refl,bJ.refl G w⟩
   ·simp at h;subst h;have h1':=h1;simp only[aB]at h1;obtain⟨b,e,hv⟩:=h1;exact⟨a.eval y,w,G,by simp[execOp,hv],h1',hi,G.le_refl,bJ.refl G w⟩
   ·simp at h;subst h;have h1':=h1;simp only[aB]at h1;obtain⟨b,o,vs,hv,_⟩:=h1;exact⟨a.eval y,w,G,by simp[execOp,hv],h1',hi,G.le_refl,bJ.refl G w⟩
   ·simp at h;subst h;have h1':=h1;simp only[aB]at h1;obtain⟨f,vs,_,hv,_⟩:=h1;exact⟨a.eval y,w,G,by simp[execOp,hv],h1',hi,G.le_refl,bJ.refl G w⟩
   ·simp at h
 case makeFunc fn first cap=>
   split at hc
   · rename_i f;split at hc
     · rename_i hf;simp only[Option.map_eq_some_iff]at hc;obtain⟨g,hg,hc⟩:=hc;simp at hc;obtain⟨rfl,rfl⟩:=hc;simp[bA]at h;subst h;refine lift (s:=Instr.makeFunc (.func f) (first.map a.eval) (cap.map a.eval)) ?_ rfl;have hfirst:first=#[]:=by simpa using hf
       subst hfirst;refine .stay (v:=.func (.func f) #[] (cap.map a.eval)) hi (by simp[Instr.makeFunc]) ?_;simp only[aB];exact⟨f,cap.toList.map a.eval,hg,by congr 1;apply Array.ext';simp,hr⟩
     ·simp at hc
   ·simp at hc
 case slice t y lo hi' mx=>
   split at hc
   · rename_i e hu;split at hc
     · rename_i hhot;simp only[Option.map_eq_some_iff]at hc;obtain⟨sz,hsz,hc⟩:=hc;simp only[Prod.mk.injEq,AK.v.injEq]at hc;obtain⟨rfl,rfl⟩:=hc;cases vals with
       |nil=>simp[aw]at hr
       |cons x0 rest=>
         simp only[List.map_cons,aw]at hr;obtain⟨v,r,e1,h1,h2⟩:=hr;simp only[List.cons.injEq]at e1;obtain⟨rfl,rfl⟩:=e1;simp only[bA]at h;obtain⟨u,g1,g2⟩:=wO (w:=w) hu hsz hhot.1 h2 h1 h;exact lift (s:=Instr.sliceAt t (a.eval y) (lo.map a.eval) (hi'.map a.eval) (mx.map a.eval)) (.stay hi g1 g2) rfl
     · simp only[Option.map_eq_some_iff]at hc;obtain⟨sz,hsz,hc⟩:=hc;simp only[Prod.mk.injEq,AK.v.injEq]at hc;obtain⟨rfl,rfl⟩:=hc;cases vals with
       |nil=>simp[aw]at hr
       |cons x0 rest=>
         simp only[List.map_cons,aw]at hr;obtain⟨v,r,e1,h1,h2⟩:=hr;simp only[List.cons.injEq]at e1;obtain⟨rfl,rfl⟩:=e1;simp only[bA]at h;obtain⟨u,g1,g2⟩:=yQ (w:=w) hu hsz h2 h1 h;exact lift (s:=Instr.sliceAt t (a.eval y) (lo.map a.eval) (hi'.map a.eval) (mx.map a.eval)) (.stay hi g1 g2) rfl
   · rename_i hu;split at hc
     ·simp at hc
     · rename_i hmx;simp only[Option.some.injEq,Prod.mk.injEq,AK.v.injEq]at hc;obtain⟨rfl,rfl⟩:=hc;cases vals with
       |nil=>simp[aw]at hr
       |cons x0 rest=>
         simp only[List.map_cons,aw]at hr;obtain⟨v,r,e1,h1,h2⟩:=hr;simp only[List.cons.injEq]at e1;obtain⟨rfl,rfl⟩:=e1;simp only[bA]at h;obtain⟨u,g1,g2⟩:=rB (w:=w) hu (by simpa using hmx) h2 h1 h;exact lift (s:=Instr.sliceAt t (a.eval y) (lo.map a.eval) (hi'.map a.eval) (mx.map a.eval)) (.stay hi g1 g2) rfl
   ·simp at hc
 case call c=>
   obtain⟨callee,cargs,ctypes⟩:=c;simp only at hc;split at hc
   · -- len
     split at hc
     · rename_i y e hcargs ht;simp only[Option.some.injEq,Prod.mk.injEq,AK.v.injEq]at hc;obtain⟨rfl,rfl⟩:=hc;simp only[Option.bind_eq_some_iff]at ht;obtain⟨t,ht1,ht2⟩:=ht;obtain⟨x',rfl,h1⟩:=cg (by simpa using hr);have hca:cargs=#[y]:=by apply Array.ext';simpa using hcargs
       subst hca
       have hrun:∀base n c,(Builtin.len_ ctypes type #[.slice base n c]).run P w=.ok (goInt n) w:=by
         intro base n c;simp[Builtin.len_,ht1,run_underlying ht2]
       refine lift (s:=Builtin.len_ ctypes type #[a.eval y]) ?_ ?_
       · simp only[bA]at h;split at h
         ·simp at h;subst h;simp only[aB]at h1;obtain⟨b,cap,_,hv,_⟩:=h1;rw[hv];exact .stay hi (hrun _ _ _) dd
         ·rename_i x0 _;simp only[Option.map_eq_some_iff]at h;obtain⟨l,hl,rfl⟩:=h;obtain⟨b,len,cap,hv,_,hlen,_⟩:=ca.1 (d9 hl h1);rw[hv];refine .stay hi (hrun _ _ _) ?_;rw[hlen];exact dd
       ·simp[execOp,resolve,invoke,builtin]
     · rename_i y hcargs ht;simp only[Option.some.injEq,Prod.mk.injEq,AK.v.injEq]at hc;obtain⟨rfl,rfl⟩:=hc;simp only[Option.bind_eq_some_iff]at ht;obtain⟨t,ht1,ht2⟩:=ht;obtain⟨x',rfl,h1⟩:=cg (by simpa using hr);have hca:cargs=#[y]:=by apply Array.ext';simpa using hcargs
       subst hca;obtain⟨s,rfl,rfl⟩:=Jo h;simp only[aB,mB]at h1;refine lift (s:=Builtin.len_ ctypes type #[a.eval y]) ?_ ?_
       · rw[h1];refine .stay (v:=goInt (ByteArray.mk s.toArray).size) hi (by simp[Builtin.len_,ht1,run_underlying ht2]) ?_;have:(ByteArray.mk s.toArray).size=s.length:=by simp[ByteArray.size]
         rw[this];exact dd
       ·simp[execOp,resolve,invoke,builtin]
     ·simp at hc
   · split at hc
     · rename_i y z hcargs;simp only[Option.some.injEq,Prod.mk.injEq,AK.v.injEq]at hc;obtain⟨rfl,rfl⟩:=hc;have hca:cargs=#[y,z]:=by apply Array.ext';simpa using hcargs
       subst hca;obtain⟨x1,x2,rfl,h1,h2⟩:=dm (by simpa using hr);obtain⟨k,p,q,rfl,rfl,rfl⟩:=Qk h;simp only[aB,bV]at h1 h2;refine lift (s:=Builtin.min_ ctypes type #[a.eval y,a.eval z]) ?_ ?_
       ·rw[h1,h2];exact .stay hi (by simp[Builtin.min_,Builtin.min2]) dd
       ·simp[execOp,resolve,invoke,builtin]
     ·simp at hc
   · split at hc
     · rename_i y z hcargs;simp only[Option.some.injEq,Prod.mk.injEq,AK.v.injEq]at hc;obtain⟨rfl,rfl⟩:=hc;have hca:cargs=#[y,z]:=by apply Array.ext';simpa using hcargs
       subst hca;obtain⟨x1,x2,rfl,h1,h2⟩:=dm (by simpa using hr);obtain⟨k,p,q,rfl,rfl,rfl⟩:=Ql h;simp only[aB,bV]at h1 h2;refine lift (s:=Builtin.max_ ctypes type #[a.eval y,a.eval z]) ?_ ?_
       ·rw[h1,h2];exact .stay hi (by simp[Builtin.max_,Builtin.max2]) dd
       ·simp[execOp,resolve,invoke,builtin]
     ·simp at hc
   · split at hc
     · split at hc
       · split at hc
         · split at hc
           ·simp at hc
           ·split at hc<;>simp at hc
         ·simp at hc
       ·simp at hc
     ·simp at hc
   · split at hc
     · split at hc
       ·split at hc<;>simp at hc
       ·simp at hc
     ·simp at hc
   · split at hc
     ·split at hc<;>simp at hc
     ·simp at hc
   · split at hc
     · split at hc
       · rw[Option.ite_none_right_eq_some]at hc;obtain⟨_,hc⟩:=hc;split at hc
         · split at hc
           ·simp at hc
           ·simp at hc
         ·simp at hc
       · split at hc
         ·simp at hc
         · split at hc
           ·simp at hc
           ·split at hc<;>simp at hc
     ·simp at hc
   ·split at hc<;>simp at hc
   ·simp at hc
 case store t y v=>
   split at hc
   · split at hc
     ·simp at hc
     ·split at hc<;>simp at hc
   ·simp at hc
 case alloc t=>
   split at hc
   · split at hc
     ·split at hc<;>simp at hc
     ·simp at hc
     ·simp at hc
   ·simp at hc
 case box t y=>
   split at hc
   · split at hc
     ·split at hc<;>simp at hc
     ·simp at hc
     ·split at hc<;>simp at hc
   ·simp at hc
 case makeSlice t l c=>
   split at hc
   · split at hc
     · split at hc
       · split at hc
         ·split at hc<;>simp at hc
         ·simp at hc
         ·simp at hc
       ·simp at hc
     ·simp at hc
   ·simp at hc
 case makeMap t r=>split at hc<;>simp at hc
 case lookup t y i ok=>
   split at hc
   ·split at hc<;>simp at hc
   ·simp at hc
 case mapUpdate t m i y=>
   split at hc<;>simp at hc
 case insert t m i y=>
   split at hc<;>simp at hc
 all_goals simp at hc
end
end Go.Ab
namespace Go.Ab
section
variable {P:Program} {ns:Names} {G:Gh} {w:World}
theorem bt{α:Type}:∀(l:List (Nat×α)) (k:Nat) (v:α),look (cW l k v) k=some v
 |[],k,v=>by simp[cW,look]
 |(k',u)::r,k,v=>by
   simp only[cW];split
   ·rename_i h;simp[look,h]
   ·rename_i h;simp[look,h,bt r k v]
theorem bK{α:Type}:∀(l:List (Nat×α)) (k k':Nat) (v:α),k≠k'→look (cW l k v) k'=look l k'
 |[],k,k',v,h=>by simp[cW,look,h]
 |(k0,u)::r,k,k',v,h=>by
   simp only[cW];split
   ·rename_i h0;subst h0;simp[look,h]
   · simp only[look];split
     ·rfl
     ·exact bK r k k' v h
structure ll(G:Gh)(w w':World)(b:Nat):Prop where
 size:w'.heap.size=w.heap.size
 other:∀k,k≠b→w'.heap[k]?=w.heap[k]?
 os:w'.os=w.os
 tape:w'.tape=w.tape
 output:w'.output=w.output
theorem ll.setRow(b:Nat)(c:Array Value):ll G w (w.setRow b c) b:=
 ⟨setRow_size _ _ _,fun k h=>setRow_other _ _ _ _ h,rfl,rfl,rfl⟩
theorem ll.qA{w':World}{b:Nat}(h:ll G w w' b)(hb:G.role b≠.eg):bJ G w G w' where
 size:=by rw[h.size];exact Nat.le_refl _
 os:=h.os
 tape:=h.tape
 output:=h.output
 K:=G.K.le_refl
 sm:=fun _ _ h=>h
 eg:=fun _ _ hr=>⟨hr,h.other _ (fun e=>hb (e ▸ hr))⟩
 iD:=fun _ τ _ hr=>.inr ⟨τ,hr⟩
 gB:=fun _ _ _ _ _ hk=>hk
theorem ll.known{ρ:bO}{mem:List (Nat×List AV)}{sh:Sh}{aa:aG}(hi:Inv ρ G w mem sh aa){w':World}{b:Nat}(h:ll G w w' b)
   (hb:G.role b≠.eg) (hbt:∀τ,G.role b≠.tok τ):∀b' o v,G.K b' o=some v→w'.cell? ⟨b',o,none⟩=some v:=by
 intro b' o v hk
 have hne:b'≠b:=by
   rintro rfl
   rcases hi.aZ _ _ _ hk with h1|⟨τ,h1⟩
   ·exact hb h1
   ·exact hbt τ h1
 have:=hi.known b' o v hk;unfold World.cell? at this⊢;simp only at this⊢;rw[h.other b' hne];exact this
theorem ll.tok{ρ:bO}{mem:List (Nat×List AV)}{sh:Sh}{aa:aG}(hi:Inv ρ G w mem sh aa){w':World}{b:Nat}(h:ll G w w' b)
   (hbt:∀τ,G.role b≠.tok τ):∀τ n,aa[τ]?=some n→∃t,G.tk τ=some t∧t.len=n∧Sp G w' τ t:=by
 intro τ n hn;obtain⟨t,e1,e2,e3⟩:=hi.db τ n hn;refine⟨t,e1,e2,e3.cap,e3.zero,fun hlt=>?_⟩;obtain⟨b',o,c,ty,f1,f2,f3,f4,f5⟩:=e3.spare hlt;exact⟨b',o,c,ty,f1,f2,by rw[h.other b' (fun e=>hbt τ (e ▸ f2))];exact f3,f4,f5⟩
theorem Inv.FN{ρ:bO}{mem:List (Nat×List AV)}{sh:Sh}{aa:aG}(hi:Inv ρ G w mem sh aa){d b:Nat}{cells cells':List AV}{c':Array Value}
   (hl:look mem d=some cells) (hp:G.pm d=some b) (hr:aw ρ G cells' c'.toList) (hb:cells'.all aT=true) :
   Inv ρ G (w.setRow b c') (cW mem d cells') sh aa∧bJ G w G (w.setRow b c'):=by
 obtain⟨b0,e1,e2,e3⟩:=hi.cR d cells hl;have:b0=b:=by rw[hp]at e1;simpa using e1.symm
 subst this;obtain⟨hrole,c,t,hh,_⟩:=e2;have hne:G.role b0≠.eg:=by rw[hrole];simp
 have hnt:∀τ,G.role b0≠.tok τ:=by intro τ;rw[hrole];simp
 have hA:=ll.setRow (G:=G) (w:=w) b0 c';refine⟨⟨hA.known hi hne hnt,hi.aZ,?_,?_,?_,?_,hi.eo,hA.tok hi hnt,hi.eS,hi.gV (hA.qA hne)⟩,hA.qA hne⟩
 ·intro k hk;rw[hA.size]at hk;exact hi.fresh k hk
 · intro d' cs hd';by_cases hdd:d=d'
   ·subst hdd;rw[bt]at hd';simp at hd';subst hd';exact⟨b0,hp,⟨hrole,c',t,setRow_heap _ _ _ _ _ _ hh,hr⟩,hb⟩
   · rw[bK _ _ _ _ hdd]at hd';obtain⟨b',g1,g2,g3⟩:=hi.cR d' cs hd';refine⟨b',g1,⟨g2.role,?_⟩,g3⟩;obtain⟨c2,t2,hh2,hr2⟩:=g2.at_;refine⟨c2,t2,?_,hr2⟩;rw[hA.other b']
     ·exact hh2
     · rintro rfl
       have:=g2.role;rw[hrole]at this;simp at this;exact hdd this
 · intro d' b' hd';by_cases hdd:d=d'
   ·subst hdd;rw[bt];rfl
   ·rw[bK _ _ _ _ hdd];exact hi.gA d' b' hd'
 · intro s cs hs;obtain⟨b',g1,g2,g3⟩:=hi.di s cs hs;refine⟨b',g1,⟨g2.role,?_⟩,g3⟩;obtain⟨o2,hh2,hr2⟩:=g2.at_;refine⟨o2,?_,hr2⟩;rw[hA.other b'.1]
   ·exact hh2
   ·intro he;have:=g2.role;rw[he,hrole]at this;simp at this
theorem Inv.FO{ρ:bO}{mem:List (Nat×List AV)}{sh:Sh}{aa:aG}(hi:Inv ρ G w mem sh aa){s:Nat}{b:Nat×Nat}{cells cells':List AV}{w':World}{o':Obj}
   (hl:sh[s]?=some (some cells)) (hp:G.sm s=some b) (hA:ll G w w' b.1) (ho:w'.heap[b.1]?=some o') (hr:Holds ρ G o' b.2 cells') (hb:cells'.all cL=true) (hf:cells'.all (aK (s+1))=true) :
   Inv ρ G w' mem (sh.set s (some cells')) aa∧bJ G w G w':=by
 obtain⟨b0,e1,e2,e3⟩:=hi.di s cells hl;have:b0=b:=by rw[hp]at e1;simpa using e1.symm
 subst this;have hrole:=e2.role;have hne:G.role b0.1≠.eg:=by rw[hrole];simp
 have hnt:∀τ,G.role b0.1≠.tok τ:=by intro τ;rw[hrole];simp
 refine⟨⟨hA.known hi hne hnt,hi.aZ,?_,?_,hi.gA,?_,?_,hA.tok hi hnt,hi.eS,hi.gV (hA.qA hne)⟩,hA.qA hne⟩
 ·intro k hk;rw[hA.size]at hk;exact hi.fresh k hk
 · intro d' cs hd';obtain⟨b',g1,g2,g3⟩:=hi.cR d' cs hd';refine⟨b',g1,⟨g2.role,?_⟩,g3⟩;obtain⟨c2,t2,hh2,hr2⟩:=g2.at_;refine⟨c2,t2,?_,hr2⟩;rw[hA.other b']
   ·exact hh2
   · rintro rfl
     have:=g2.role;rw[hrole]at this;simp at this
 · intro s' cs hs;rw[List.getElem?_set]at hs;split at hs
   · rename_i he;subst he;split at hs
     ·simp at hs;subst hs;exact⟨b0,hp,⟨hrole,o',ho,hr⟩,hb,hf⟩
     ·simp at hs
   · rename_i hne';obtain⟨b',g1,g2,g3⟩:=hi.di s' cs hs;refine⟨b',g1,⟨g2.role,?_⟩,g3⟩;obtain⟨o2,hh2,hr2⟩:=g2.at_;refine⟨o2,?_,hr2⟩;rw[hA.other b'.1]
     ·exact hh2
     ·intro he;have:=g2.role;rw[he,hrole]at this;simp at this;exact hne' this
 ·intro s' b' h;simpa using hi.eo s' b' h
theorem Inv.oD{ρ:bO}{mem:List (Nat×List AV)}{sh:Sh}{aa:aG}(hi:Inv ρ G w mem sh aa){s:Nat}{b:Nat×Nat}{cells cells':List AV}{c c':Array Value}{t:TypeId}{vs suf:List Value}
   (hl:sh[s]?=some (some cells)) (hp:G.sm s=some b) (hh:w.heap[b.1]?=some (.cells c t (0,0))) (hsz:c'.size=b.2) (hsp:c'.toList=vs++suf) (hr:aw ρ G cells' vs) (hb:cells'.all cL=true) (hf:cells'.all (aK (s+1))=true) :
   Inv ρ G (w.setRow b.1 c') mem (sh.set s (some cells')) aa∧bJ G w G (w.setRow b.1 c'):=
 hi.FO hl hp (ll.setRow b.1 c') (setRow_heap _ _ _ _ _ _ hh) (.inl ⟨c',t,vs,suf,rfl,hsz,hsp,hr⟩) hb hf
def Gh.cX(G:Gh)(d b:Nat):Gh:={ G with role:=fun k=>if k=b then .lB d else G.role k,pm:=fun k=>if k=d then some b else G.pm k }
def Gh.dj(G:Gh)(s b n:Nat):Gh:={ G with role:=fun k=>if k=b then .shr s else G.role k,sm:=fun k=>if k=s then some (b,n) else G.sm k }
theorem Inv.pQ{ρ:bO}{mem:List (Nat×List AV)}{sh:Sh}{aa:aG}(hi:Inv ρ G w mem sh aa){d:Nat}{cells:List AV}{c:Array Value}(t:TypeId)
   (hl:look mem d=none) (hr:aw ρ G cells c.toList) (hb:cells.all aT=true) :
   Inv ρ (G.cX d w.heap.size) (w.alloc (.cells c t)) (cW mem d cells) sh aa∧G.le (G.cX d w.heap.size)∧bJ G w (G.cX d w.heap.size) (w.alloc (.cells c t)):=by
 have hpm:G.pm d=none:=by
   cases h:G.pm d with
   |none=>rfl
   |some b=>have:=hi.gA d b h;rw[hl]at this;simp at this
 have hle:G.le (G.cX d w.heap.size):=⟨G.K.le_refl,fun k b h=>by
   simp only[Gh.cX];split
   ·rename_i e;subst e;rw[hpm]at h;simp at h
   ·exact h,fun _ _ h=>h,fun _ t h=>⟨t,h,⟨Nat.le_refl _,t.gw⟩,fun _=>rfl⟩⟩
 have hevo:bJ G w (G.cX d w.heap.size) (w.alloc (.cells c t)):={
           size:=by simp,os:=rfl,tape:=rfl,output:=rfl,K:=G.K.le_refl,sm:=fun _ _ h=>h,
           eg:=fun b hb hr=>⟨by simp only[Gh.cX];rw[if_neg (by omega)];exact hr,bq hb⟩
           iD:=fun b τ hb hr=>.inr ⟨τ,by simp only[Gh.cX];rw[if_neg (by omega)];exact hr⟩
           gB:=fun _ _ _ _ _ hk=>hk }
 refine⟨⟨?_,?_,?_,?_,?_,?_,hi.eo,?_,hi.eS,hi.gV hevo⟩,hle,hevo⟩
 ·intro b o v hk;have hlt:b<w.heap.size:=hi.jc (o:=o) (v:=v) hk;rw[World.cell?_alloc_lt _ _ ⟨b,o,none⟩ hlt];exact hi.known b o v hk
 ·intro b o v hk;have:=hi.jc (o:=o) (v:=v) hk;simp only[Gh.cX];rw[if_neg (by omega)];exact hi.aZ b o v hk
 ·intro b hb';simp at hb';simp only[Gh.cX];rw[if_neg (by omega)];exact hi.fresh b (by omega)
 · intro d' cs hd';by_cases hdd:d=d'
   ·subst hdd;rw[bt]at hd';simp at hd';subst hd';exact⟨w.heap.size,by simp[Gh.cX],⟨by simp[Gh.cX],c,t,heap_alloc_new,aw.mono hle hr⟩,hb⟩
   · rw[bK _ _ _ _ hdd]at hd';obtain⟨b',g1,g2,g3⟩:=hi.cR d' cs hd';have hlt:b'<w.heap.size:=by obtain⟨_,_,hh,_⟩:=g2.at_;exact cp hh
     exact⟨b',by simp only[Gh.cX];rw[if_neg (Ne.symm hdd)];exact g1,g2.mono hle (by simp only[Gh.cX];rw[if_neg (by omega)]) (bq hlt),g3⟩
 · intro d' b' hd';by_cases hdd:d=d'
   ·subst hdd;rw[bt];rfl
   ·rw[bK _ _ _ _ hdd];simp only[Gh.cX]at hd';rw[if_neg (Ne.symm hdd)]at hd';exact hi.gA d' b' hd'
 ·intro s cs hs;obtain⟨b',g1,g2,g3⟩:=hi.di s cs hs;have hlt:b'.1<w.heap.size:=g2.lt;exact⟨b',g1,g2.mono hle (by simp only[Gh.cX];rw[if_neg (by omega)]) (bq hlt),g3⟩
 ·intro τ n hn;obtain⟨tk,e1,e2,e3⟩:=hi.db τ n hn;refine⟨tk,e1,e2,e3.cap,e3.zero,fun hlt=>?_⟩;obtain⟨b,o,cc,ty,f1,f2,f3,f4,f5⟩:=e3.spare hlt;have hb:=cp f3;exact⟨b,o,cc,ty,f1,by simp only[Gh.cX];rw[if_neg (by omega)];exact f2,(bq hb).trans f3,f4,f5⟩
theorem Inv.BS{ρ:bO}{mem:List (Nat×List AV)}{sh:Sh}{aa:aG}(hi:Inv ρ G w mem sh aa){cells:List AV}{o':Obj}{N:Nat}
   (hr:Holds ρ G o' N cells) (hb:cells.all cL=true) (hf:cells.all (aK (sh.length+1))=true) :
   Inv ρ (G.dj sh.length w.heap.size N) (w.alloc o') mem (sh++[some cells]) aa∧G.le (G.dj sh.length w.heap.size N)∧bJ G w (G.dj sh.length w.heap.size N) (w.alloc o'):=by
 have hsm:G.sm sh.length=none:=by
   cases h:G.sm sh.length with
   |none=>rfl
   |some b=>have:=hi.eo _ b h;omega
 have hle:G.le (G.dj sh.length w.heap.size N):=⟨G.K.le_refl,fun _ _ h=>h,fun k b h=>by
   simp only[Gh.dj];split
   ·rename_i e;subst e;rw[hsm]at h;simp at h
   ·exact h,fun _ t h=>⟨t,h,⟨Nat.le_refl _,t.gw⟩,fun _=>rfl⟩⟩
 have hevo:bJ G w (G.dj sh.length w.heap.size N) (w.alloc o'):={
           size:=by simp,os:=rfl,tape:=rfl,output:=rfl,K:=G.K.le_refl,sm:=hle.sm,
           eg:=fun b hb hr=>⟨by simp only[Gh.dj];rw[if_neg (by omega)];exact hr,bq hb⟩
           iD:=fun b τ hb hr=>.inr ⟨τ,by simp only[Gh.dj];rw[if_neg (by omega)];exact hr⟩
           gB:=fun _ _ _ _ _ hk=>hk }
 refine⟨⟨?_,?_,?_,?_,hi.gA,?_,?_,?_,hi.eS,hi.gV hevo⟩,hle,hevo⟩
 ·intro b o v hk;have hlt:b<w.heap.size:=hi.jc (o:=o) (v:=v) hk;rw[World.cell?_alloc_lt _ _ ⟨b,o,none⟩ hlt];exact hi.known b o v hk
 ·intro b o v hk;have:=hi.jc (o:=o) (v:=v) hk;simp only[Gh.dj];rw[if_neg (by omega)];exact hi.aZ b o v hk
 ·intro b hb';simp at hb';simp only[Gh.dj];rw[if_neg (by omega)];exact hi.fresh b (by omega)
 · intro d' cs hd';obtain⟨b',g1,g2,g3⟩:=hi.cR d' cs hd';have hlt:b'<w.heap.size:=by obtain⟨_,_,hh,_⟩:=g2.at_;exact cp hh
   exact⟨b',g1,g2.mono hle (by simp only[Gh.dj];rw[if_neg (by omega)]) (bq hlt),g3⟩
 · intro s cs hs;rw[List.getElem?_append]at hs;split at hs
   ·obtain⟨b',g1,g2,g3⟩:=hi.di s cs hs;have hlt:b'.1<w.heap.size:=g2.lt;exact⟨b',hle.sm _ _ g1,g2.mono hle (by simp only[Gh.dj];rw[if_neg (by omega)]) (bq hlt),g3⟩
   · rename_i hge
     have hs':s=sh.length:=by
       rcases Nat.lt_or_ge (s-sh.length) 1 with h|h
       ·omega
       ·rw[List.getElem?_eq_none (by simpa using h)]at hs;simp at hs
     subst hs';simp at hs;subst hs;exact⟨(w.heap.size,N),by simp[Gh.dj],⟨by simp[Gh.dj],o',heap_alloc_new,hr.mono hle⟩,hb,hf⟩
 · intro s b h;simp only[Gh.dj]at h;split at h
   ·rename_i e;subst e;simp
   ·have:=hi.eo s b h;simp;omega
 ·intro τ n hn;obtain⟨tk,e1,e2,e3⟩:=hi.db τ n hn;refine⟨tk,e1,e2,e3.cap,e3.zero,fun hlt=>?_⟩;obtain⟨b,o,cc,ty,f1,f2,f3,f4,f5⟩:=e3.spare hlt;have hb:=cp f3;exact⟨b,o,cc,ty,f1,by simp only[Gh.dj];rw[if_neg (by omega)];exact f2,(bq hb).trans f3,f4,f5⟩
theorem Inv.sI{ρ:bO}{mem:List (Nat×List AV)}{sh:Sh}{aa:aG}(hi:Inv ρ G w mem sh aa){cells:List AV}{c:Array Value}(t:TypeId)
   (hr:aw ρ G cells c.toList) (hb:cells.all cL=true) (hf:cells.all (aK (sh.length+1))=true) :
   Inv ρ (G.dj sh.length w.heap.size c.size) (w.alloc (.cells c t)) mem (sh++[some cells]) aa∧G.le (G.dj sh.length w.heap.size c.size)∧bJ G w (G.dj sh.length w.heap.size c.size) (w.alloc (.cells c t)):=
 hi.BS (Holds.full hr) hb hf
end
end Go.Ab
namespace Go.Ab
section
variable {P:Program} {ns:Names} {G:Gh} {w:World}
structure nB(G:Gh)(aa toks':aG)(τ n:Nat):Prop where
 at_:toks'[τ]?=some n
 other:∀σ,σ≠τ→toks'[σ]?=aa[σ]?
 aI:∀t,G.tk τ=some t→t.len<n
def Gh.bu(G:Gh)(τ:Nat)(t:Tk)(role:Nat→lL)(K:bl):Gh:=
 { G with K,role,tk:=fun σ=>if σ=τ then some t else G.tk σ }
theorem Gh.pR{τ:Nat}{t:Tk}{role:Nat→lL}{K:bl}(hK:G.K.le K)(ho:∀t0,G.tk τ=some t0→(t0.len≤t.len∧t0.on t)∧(t0.len=t.len→t=t0)):G.le (G.bu τ t role K) where
 K:=hK
 pm:=fun _ _ h=>h
 sm:=fun _ _ h=>h
 tk:=fun σ t0 h=>by
   simp only[Gh.bu];by_cases hσ:σ=τ
   ·subst hσ;simp only[if_true];obtain⟨h1,h2⟩:=ho t0 h;exact⟨t,rfl,h1,h2⟩
   ·rw[if_neg hσ];exact⟨t0,h,⟨Nat.le_refl _,Tk.gw _⟩,fun _=>rfl⟩
def eA(G:Gh)(b τ:Nat):Nat→lL:=fun k=>if k=b then .tok τ else if G.role k=.tok τ then .eg else G.role k
def jd(G:Gh)(b m:Nat)(c:Array Value):bl:=fun k o=>if k=b then (if o<m then c[o]? else none) else G.K k o
theorem Inv.grow{ρ:bO}{mem:List (Nat×List AV)}{sh:Sh}{aa toks':aG}(hi:Inv ρ G w mem sh aa){τ:Nat}{t:Tk}{c:Array Value}(ty:TypeId)
   (hb:t.base=some ⟨w.heap.size,0,none⟩) (hc:t.cap*t.sz≤c.size) (hl:t.len≤t.cap) (h0:0<t.len) (hu:nB G aa toks' τ t.len) (hg:∀t0,G.tk τ=some t0→¬t0.dead∧t0.cap<t.len) :
   Inv ρ (G.bu τ t (eA G w.heap.size τ) (jd G w.heap.size (t.len*t.sz) c)) (w.alloc (.cells c ty)) mem sh toks' ∧
   G.le (G.bu τ t (eA G w.heap.size τ) (jd G w.heap.size (t.len*t.sz) c)) ∧
   bJ G w (G.bu τ t (eA G w.heap.size τ) (jd G w.heap.size (t.len*t.sz) c)) (w.alloc (.cells c ty)):=by
 have hK:G.K.le (jd G w.heap.size (t.len*t.sz) c):=fun b o v hk=>by
   have:=hi.jc hk;simp only[jd];rw[if_neg (by omega)];exact hk
 have hle:G.le (G.bu τ t (eA G w.heap.size τ) (jd G w.heap.size (t.len*t.sz) c)):=
   Gh.pR hK fun t0 h=>by have:=hu.aI t0 h;exact⟨⟨by omega,fun d=>absurd d (hg t0 h).1,.inr (.inl (hg t0 h).2)⟩,by omega⟩
 have hrole:∀b r,b<w.heap.size→G.role b=r→(∀σ,r≠.tok σ)→eA G w.heap.size τ b=r:=by
   intro b r hb hr hn;simp only[eA];rw[if_neg (by omega),if_neg (by rw[hr];exact hn τ),hr]
 have hevo:bJ G w (G.bu τ t (eA G w.heap.size τ) (jd G w.heap.size (t.len*t.sz) c)) (w.alloc (.cells c ty)):={
           size:=by simp,os:=rfl,tape:=rfl,output:=rfl,K:=hK,sm:=fun _ _ h=>h,
           eg:=fun b hb hr=>⟨hrole b _ hb hr (by simp),bq hb⟩
           iD:=fun b σ hb hr=>by
             simp only[Gh.bu,eA];rw[if_neg (by omega)];split
             ·exact .inl rfl
             ·exact .inr ⟨σ,hr⟩
           gB:=fun b o v hb _ hk=>by
             simp only[Gh.bu,jd]at hk
             rwa [if_neg (by omega)]at hk }
 refine⟨⟨?_,?_,?_,?_,hi.gA,?_,hi.eo,?_,?_,hi.gV hevo⟩,hle,hevo⟩
 · intro b o v hk;simp only[Gh.bu,jd]at hk;split at hk
   · rename_i e;subst e;split at hk
     ·simp[hk]
     ·simp at hk
   ·have hlt:b<w.heap.size:=hi.jc (o:=o) (v:=v) hk;rw[World.cell?_alloc_lt _ _ ⟨b,o,none⟩ hlt];exact hi.known b o v hk
 · intro b o v hk;simp only[Gh.bu,jd]at hk;simp only[Gh.bu,eA];split at hk
   ·rename_i e;subst e;exact .inr ⟨τ,by simp⟩
   · rename_i e;rw[if_neg e];split
     ·exact .inl rfl
     ·exact hi.aZ b o v hk
 ·intro b hb';simp at hb';simp only[Gh.bu,eA];rw[if_neg (by omega)];have:=hi.fresh b (by omega);rw[this];simp
 · intro d cs hd;obtain⟨b',g1,g2,g3⟩:=hi.cR d cs hd;have hlt:b'<w.heap.size:=by obtain⟨_,_,hh,_⟩:=g2.at_;exact cp hh
   exact⟨b',g1,g2.mono hle ((hrole b' _ hlt g2.role (by simp)).trans g2.role.symm) (bq hlt),g3⟩
 ·intro s cs hs;obtain⟨b',g1,g2,g3⟩:=hi.di s cs hs;have hlt:b'.1<w.heap.size:=g2.lt;exact⟨b',g1,g2.mono hle ((hrole b'.1 _ hlt g2.role (by simp)).trans g2.role.symm) (bq hlt),g3⟩
 · intro σ n hn;by_cases hσ:σ=τ
   · subst hσ;rw[hu.at_]at hn;simp at hn;refine⟨t,by simp[Gh.bu],hn,hl,fun h=>by omega,fun hlt=>⟨w.heap.size,0,c,ty,hb,by simp[Gh.bu,eA],heap_alloc_new,by omega,fun j v hk=>?_⟩⟩;simp only[Gh.bu,jd,if_true]at hk;split at hk
     ·omega
     ·simp at hk
   · rw[hu.other σ hσ]at hn;obtain⟨t0,e1,e2,e3⟩:=hi.db σ n hn;refine⟨t0,by simp only[Gh.bu];rw[if_neg hσ];exact e1,e2,e3.cap,e3.zero,fun hlt=>?_⟩;obtain⟨b',o,cc,ty',f1,f2,f3,f4,f5⟩:=e3.spare hlt;have hb':=cp f3;refine⟨b',o,cc,ty',f1,?_,(bq hb').trans f3,f4,fun j v hk=>f5 j v ?_⟩
     ·simp only[Gh.bu,eA];rw[if_neg (by omega),if_neg (by rw[f2];simp;exact hσ)];exact f2
     · simp only[Gh.bu,jd]at hk
       rwa [if_neg (by omega)]at hk
 · intro σ t0 h;simp only[Gh.bu]at h;split at h
   ·rename_i e;subst e;simp at h;subst h;exact hu.at_
   ·rename_i e;rw[hu.other σ e];exact hi.eS σ t0 h
theorem Inv.M8{ρ:bO}{mem:List (Nat×List AV)}{sh:Sh}{aa toks':aG}(hi:Inv ρ G w mem sh aa){τ:Nat}{t:Tk}
   (hl:t.cap=t.len) (hown:t.own=false) (hn:G.tk τ=none) (h1:toks'[τ]?=some t.len) (h2:∀σ,σ≠τ→toks'[σ]?=aa[σ]?) :
   Inv ρ (G.bu τ t G.role G.K) w mem sh toks'∧G.le (G.bu τ t G.role G.K)∧bJ G w (G.bu τ t G.role G.K) w:=by
 have hle:G.le (G.bu τ t G.role G.K):=Gh.pR G.K.le_refl fun t0 h=>by rw[hn]at h;simp at h
 have hevo:bJ G w (G.bu τ t G.role G.K) w:={
           size:=Nat.le_refl _,os:=rfl,tape:=rfl,output:=rfl,K:=G.K.le_refl,sm:=fun _ _ h=>h,
           eg:=fun b hb hr=>⟨hr,rfl⟩,iD:=fun b σ hb hr=>.inr ⟨σ,hr⟩,gB:=fun _ _ _ _ _ hk=>hk }
 refine⟨⟨hi.known,hi.aZ,hi.fresh,?_,hi.gA,?_,hi.eo,?_,?_,hi.gV hevo⟩,hle,hevo⟩
 ·intro d cs hd;obtain⟨b',g1,g2,g3⟩:=hi.cR d cs hd;exact⟨b',g1,g2.mono hle rfl rfl,g3⟩
 ·intro d cs hd;obtain⟨b',g1,g2,g3⟩:=hi.di d cs hd;exact⟨b',g1,g2.mono hle rfl rfl,g3⟩
 · intro σ n hn';by_cases hσ:σ=τ
   ·subst hσ;rw[h1]at hn';simp at hn';exact⟨t,by simp[Gh.bu],hn',by omega,fun _=>by omega,fun h=>h.elim (fun h=>by omega) (fun h=>by rw[hown]at h;cases h)⟩
   ·rw[h2 σ hσ]at hn';obtain⟨t0,e1,e2,e3⟩:=hi.db σ n hn';exact⟨t0,by simp only[Gh.bu];rw[if_neg hσ];exact e1,e2,e3.cap,e3.zero,e3.spare⟩
 · intro σ t0 h;simp only[Gh.bu]at h;split at h
   ·rename_i e;subst e;simp at h;subst h;exact h1
   ·rename_i e;rw[h2 σ e];exact hi.eS σ t0 h
def je(G:Gh)(b o:Nat)(l:List Value):bl:=fun k j=>if k=b∧o≤j∧j<o+l.length then l[j-o]? else G.K k j
theorem Inv.fill{ρ:bO}{mem:List (Nat×List AV)}{sh:Sh}{aa toks':aG}(hi:Inv ρ G w mem sh aa){τ b o n:Nat}{t:Tk}{c c':Array Value}{ty:TypeId}{l:List Value}
   (ht:G.tk τ=some t) (hb:t.base=some ⟨b,o,none⟩) (hrole:G.role b=.tok τ) (hh:w.heap[b]?=some (.cells c ty (0,0))) (hcap:o+t.cap*t.sz≤c.size)
   (hfree:∀j v,G.K b j=some v→j<o+t.len*t.sz) (hl:l.length=n*t.sz) (hn:0<n) (hfit:t.len+n≤t.cap)
   (hc':c'=(c.toList.take (o+t.len*t.sz)++l++c.toList.drop (o+t.len*t.sz+l.length)).toArray) (hu:nB G aa toks' τ (t.len+n)) :
   Inv ρ (G.bu τ { t with len:=t.len+n,own:=true } G.role (je G b (o+t.len*t.sz) l)) (w.setRow b c') mem sh toks' ∧
   G.le (G.bu τ { t with len:=t.len+n,own:=true } G.role (je G b (o+t.len*t.sz) l)) ∧
   bJ G w (G.bu τ { t with len:=t.len+n,own:=true } G.role (je G b (o+t.len*t.sz) l)) (w.setRow b c'):=by
 have hne:G.role b≠.eg:=by rw[hrole];simp
 have hmul:(t.len+n)*t.sz=t.len*t.sz+n*t.sz:=Nat.add_mul _ _ _;have hmul2:(t.len+n)*t.sz≤t.cap*t.sz:=Nat.mul_le_mul_right _ hfit
 have hsz:c'.size=c.size:=by
   subst hc';simp;omega
 have hK:G.K.le (je G b (o+t.len*t.sz) l):=fun k j v hk=>by
   simp only[je];rw[if_neg]
   ·exact hk
   · rintro⟨rfl,h1,_⟩
     have:=hfree j v hk;omega
 have hle:G.le (G.bu τ { t with len:=t.len+n,own:=true } G.role (je G b (o+t.len*t.sz) l)):=
   Gh.pR hK fun t0 h=>by rw[ht]at h;simp at h;subst h;exact⟨⟨by simp,fun d=>(by rw[Tk.dead,hb]at d;simp at d),.inr (.inr ⟨rfl,rfl,.inr rfl⟩)⟩,by simp;omega⟩
 have hA:=ll.setRow (G:=G) (w:=w) b c';have hnew:(w.setRow b c').heap[b]?=some (.cells c' ty (0,0)):=setRow_heap _ _ _ _ _ _ hh
 have hevo:bJ G w (G.bu τ { t with len:=t.len+n,own:=true } G.role (je G b (o+t.len*t.sz) l)) (w.setRow b c'):={
           size:=by rw[hA.size];exact Nat.le_refl _,os:=rfl,tape:=rfl,output:=rfl,K:=hK,sm:=fun _ _ h=>h,
           eg:=fun k hk hr=>⟨hr,hA.other k (fun e=>hne (e ▸ hr))⟩
           iD:=fun k σ hk hr=>.inr ⟨σ,hr⟩
           gB:=fun k j v hk hr hkk=>by
             simp only[Gh.bu,je]at hkk
             rwa [if_neg (by rintro⟨e,_⟩;subst e;exact hne hr)]at hkk }
 refine⟨⟨?_,?_,?_,?_,hi.gA,?_,hi.eo,?_,?_,hi.gV hevo⟩,hle,hevo⟩
 · intro k j v hk;simp only[Gh.bu,je]at hk;split at hk
   · rename_i e;obtain⟨rfl,e1,e2⟩:=e;simp only[World.cell?,hnew];subst hc';simp only[Option.isSome_none,Bool.false_eq_true,if_false,List.getElem?_toArray];rw[List.getElem?_append_left (by simp;omega),List.getElem?_append_right (by simp;omega)];have:(c.toList.take (o+t.len*t.sz)).length=o+t.len*t.sz:=by simp;omega
     rw[this];exact hk
   · rename_i e;by_cases hkb:k=b
     ·subst hkb;have hj:=hfree j v hk;have hold:=hi.known k j v hk;simp only[World.cell?,hh,Option.isSome_none,Bool.false_eq_true,if_false]at hold;simp only[World.cell?,hnew];subst hc';simp only[Option.isSome_none,Bool.false_eq_true,if_false,List.getElem?_toArray];rw[List.getElem?_append_left (by simp;omega),List.getElem?_append_left (by simp;omega),List.getElem?_take,if_pos hj];simpa using hold
     ·have hold:=hi.known k j v hk;unfold World.cell? at hold⊢;simp only at hold⊢;rw[hA.other k hkb];exact hold
 · intro k j v hk;simp only[Gh.bu,je]at hk;split at hk
   ·rename_i e;obtain⟨rfl,_⟩:=e;exact .inr ⟨τ,hrole⟩
   ·exact hi.aZ k j v hk
 ·intro k hk;rw[hA.size]at hk;exact hi.fresh k hk
 · intro d cs hd;obtain⟨b',g1,g2,g3⟩:=hi.cR d cs hd;refine⟨b',g1,g2.mono hle rfl (hA.other b' ?_),g3⟩
   rintro rfl
   have:=g2.role;rw[hrole]at this;simp at this
 ·intro d cs hd;obtain⟨b',g1,g2,g3⟩:=hi.di d cs hd;refine⟨b',g1,g2.mono hle rfl (hA.other b'.1 ?_),g3⟩;intro he;have:=g2.role;rw[he,hrole]at this;simp at this
 · intro σ m hm;by_cases hσ:σ=τ
   · subst hσ;rw[hu.at_]at hm;simp at hm;refine⟨{ t with len:=t.len+n,own:=true },by simp[Gh.bu],hm,hfit,fun h=>by simp at h;omega,fun hlt=>⟨b,o,c',ty,hb,hrole,hnew,by rw[hsz];exact hcap,fun j v hk=>?_⟩⟩;simp only[Gh.bu,je]at hk;show j<o+(t.len+n)*t.sz;split at hk
     ·rename_i e;rw[hmul];omega
     ·have:=hfree j v hk;rw[hmul];omega
   · rw[hu.other σ hσ]at hm;obtain⟨t0,e1,e2,e3⟩:=hi.db σ m hm;refine⟨t0,by simp only[Gh.bu];rw[if_neg hσ];exact e1,e2,e3.cap,e3.zero,fun hlt=>?_⟩;obtain⟨b',o',cc,ty',f1,f2,f3,f4,f5⟩:=e3.spare hlt;have hbb:b'≠b:=by rintro rfl;rw[hrole]at f2;simp at f2;exact hσ f2.symm
     refine⟨b',o',cc,ty',f1,f2,(hA.other b' hbb).trans f3,f4,fun j v hk=>f5 j v ?_⟩;simp only[Gh.bu,je]at hk
     rwa [if_neg (by rintro⟨e,_⟩;exact hbb e)]at hk
 · intro σ t0 h;simp only[Gh.bu]at h;split at h
   ·rename_i e;subst e;simp at h;subst h;exact hu.at_
   ·rename_i e;rw[hu.other σ e];exact hi.eS σ t0 h
end
end Go.Ab
namespace Go.Ab
section
variable {P:Program} {ns:Names} {G:Gh} {w:World}
theorem vg(n:Nat):∀(r c:Nat),c≤2*n→256≤c→Builtin.growBy n r c≤2*n
 |0,c,h,_=>h
 |r+1,c,h,h2=>by
   simp only[Builtin.growBy];split
   ·exact h
   ·exact vg n r _ (by omega) (by omega)
theorem nextslicecap_le(n c:Nat)(h:c<n):Builtin.nextslicecap n c≤2*n:=by
 unfold Builtin.nextslicecap;split
 ·omega
 · split
   ·omega
   ·exact vg n 4 c (by omega) (by omega)
theorem jf{els:List PV}{v:Value}{sz n:Nat}(hk:∀b o u,G.K b o=some u→w.cell? ⟨b,o,none⟩=some u)(hr:Rel G.K (.au els) v)(hs:bf sz els=true)(hn:els.length=n) :
   ∃vss:List Value,(Builtin.firstCells sz n v).run P w=.ok vss.toArray w∧vss.length=n*sz ∧
     (∀(K':bl) (b' o':Nat),G.K.le K'→At K' b' o' vss→Row K' b' o' sz els)∧(∀u∈vss,u.oneCell'=true):=by
 obtain⟨base,len,cap,rfl,_,hlen,hrow'⟩:=ca.1 hr;by_cases hnil:els=[]
 · subst hnil;simp at hn;subst hn;refine⟨[],?_,by simp,fun _ _ _ _ _=>by simp only[Row],by simp⟩;cases base with
   |none=>simp[Builtin.firstCells]
   |some a=>simp[Builtin.firstCells,loadCells,loadCellsFrom]
 ·obtain⟨b,o,sz',rfl,hrow⟩:=hrow'.resolve_left hnil;have:=hrow.sz hs hnil;subst this;obtain⟨vss,g1,g2,g3,g4⟩:=hrow.flat;refine⟨vss,?_,by rw[g1,hn],g3,g4⟩;have hl:=run_loadCells_list (P:=P) w ⟨b,o,none⟩ vss (fun j u hj=>by rw[Addr.d8];exact hk _ _ _ (g2 j u hj));rw[g1,hn]at hl;simpa[Builtin.firstCells] using hl
theorem eZ{argTypes:Array TypeId}{type t e e1 t1 sz:Nat}{base:Option Addr}{len cap n:Nat}{x:Value}{new:Array Value}{xb:Option Addr}{xc:Nat}(h0:argTypes[0]?=some t)(h1:argTypes[1]?=some t1)
   (hu:P.underlying t=some (.slice e)) (hu1:P.underlying t1=some (.slice e1)) (hsz:cC P e=some sz) (hx:x=.slice xb n xc)
   (hnew:(Builtin.firstCells sz n x).run P w=.ok new w) (hfit:len+n≤cap) :
   (Builtin.append_ argTypes type #[.slice base len cap,x]).run P w =
     match base with
     |some a=>((storeCells (a.add (len*sz)) new.toList).run P w).andThen fun _ w'=>.ok (.slice base (len+n) cap) w'
     |none=>.ok (.slice base (len+n) cap) w:=by
 subst hx;cases base with
 |none=>simp[Builtin.append_,h0,h1,run_underlying hu,run_underlying hu1,dc hsz,Builtin.lenOf,hfit,hnew]
 |some a=>simp[Builtin.append_,h0,h1,run_underlying hu,run_underlying hu1,dc hsz,Builtin.lenOf,hfit,hnew]
theorem kz{argTypes:Array TypeId}{type t e e1 t1 sz by_:Nat}{base:Option Addr}{len cap n:Nat}{x:Value}{aI new:Array Value}{xb:Option Addr}{xc:Nat}{z:List PV}(h0:argTypes[0]?=some t)(h1:argTypes[1]?=some t1)
   (hu:P.underlying t=some (.slice e)) (hu1:P.underlying t1=some (.slice e1)) (hsz:cC P e=some sz) (hby:eN P e=some by_) (hz:ct P e=some z) (hzl:z.length=sz) (hx:x=.slice xb n xc)
   (hold:∀w',w'=w.drew→(Builtin.firstCells sz len (.slice base len cap)).run P w'=.ok aI w') (hnew:∀w',w'=w.drew→(Builtin.firstCells sz n x).run P w'=.ok new w')
   (hfit:cap<len+n) (hb0:0<by_) (hbytes:(len+n)*by_≤140737488355328) :
   ∃(rest:Array Value) (newCap:Nat),len+n≤newCap∧rest.size=(newCap-(len+n))*sz ∧
     (Builtin.append_ argTypes type #[.slice base len cap,x]).run P w =
       .ok (.slice (some ⟨w.heap.size,0,none⟩) (len+n) newCap) (w.drew.alloc (.cells (aI++new++rest) e)):=by
 subst hx;obtain⟨i,hi,hib,hirun⟩:=lN hby w
 have hcap:¬Builtin.nextslicecap (len+n) cap*i.bytes > 2 ^ 48:=by
   have h1:=nextslicecap_le (len+n) cap hfit;have h2:Builtin.nextslicecap (len+n) cap*i.bytes≤2*(len+n)*i.bytes:=Nat.mul_le_mul_right _ h1;have h3:2*(len+n)*i.bytes=2*((len+n)*by_):=(by rw[hib,Nat.mul_assoc]);rw[h3]at h2;have:(2:Nat)^48=281474976710656:=(by decide);omega
 have hnf:(Question.appendCap (len+n) cap e).forced=false:=rfl;have hir:∀w',(typeInfo e).run P w'=.ok i w':=fun w'=>by simp[typeInfo,hi]
 obtain⟨zv,hzv,hz2⟩:=gh (P:=P) (w:=w.drew) hz;have hzs:zv.cells.size=sz:=by have:=gg hz2;simp at this;omega
 refine⟨Builtin.zeroCells zv.cells ((Question.appendCap (len+n) cap e).cut (w.tape w.drawn (.appendCap (len+n) cap e))-(len+n)),(Question.appendCap (len+n) cap e).cut (w.tape w.drawn (.appendCap (len+n) cap e)),?_,?_,?_⟩
 ·simp only[Question.cut];omega
 ·simp[Builtin.zeroCells,hzs]
 ·have ho:=hold w.drew rfl;have hn:=hnew w.drew rfl;have hi0:i.bytes≠0:=(by omega);simp[Builtin.append_,h0,h1,run_underlying hu,run_underlying hu1,dc hsz,Builtin.lenOf,Nat.not_le.2 hfit,hir,hi0,hcap,hnf];simp only[ho,hn,hzv,Result.andThen_ok];rfl
theorem jB{x:AV}{v:Value}{els:List PV}(h:cH x=some els)(hr:aB (num ns) G x v):∃xb xc,v=.slice xb els.length xc:=by
 obtain⟨b,l,c,rfl,_,hl,_⟩:=ca.1 (d9 h hr);exact⟨b,c,by rw[hl]⟩
theorem BT{c:Call}{A:jS}{dst:Option Nat}{args:List Operand}{sz by_:Nat}(h:bG P ns A dst (.call c)=some (.append sz by_,args)) :
   ∃x y t e t1 e1 z,c.callee=.builtin .append∧c.args=#[x,y]∧args=[x,y]∧c.argTypes[0]?=some t∧c.argTypes[1]?=some t1∧P.underlying t=some (.slice e) ∧
     P.underlying t1=some (.slice e1)∧cC P e=some sz∧eN P e=some by_∧ct P e=some z∧z.length=sz∧0<sz∧0<by_:=by
 obtain⟨callee,cargs,ctypes⟩:=c;simp only[bG]at h;split at h
 ·split at h<;>simp at h
 ·split at h<;>simp at h
 ·split at h<;>simp at h
 · rename_i hcal;split at h
   · rename_i x y e e1 ha ht ht1;split at h
     · rename_i sz' by' z hs hb hz;rw[Option.ite_none_right_eq_some]at h;obtain⟨⟨h1,h2,h3⟩,h⟩:=h;split at h
       ·simp at h
       split at h
       ·simp at h
       simp only[Option.some.injEq,Prod.mk.injEq,AK.append.injEq]at h;obtain⟨⟨rfl,rfl⟩,rfl⟩:=h;simp only[Option.bind_eq_some_iff]at ht ht1;obtain⟨t,ht,htu⟩:=ht;obtain⟨t1,ht1,ht1u⟩:=ht1;exact⟨x,y,t,e,t1,e1,z,rfl,by apply Array.ext';simpa using ha,rfl,ht,ht1,dx htu,dx ht1u,hs,hb,hz,h1,h2,h3⟩
     ·simp at h
   ·simp at h
 · split at h
   · split at h
     ·split at h<;>simp at h
     ·simp at h
   ·simp at h
 · split at h
   ·split at h<;>simp at h
   ·simp at h
 · split at h
   · split at h
     ·(repeat' (split at h))<;>simp at h
     · split at h
       ·simp at h
       · split at h
         ·simp at h
         ·split at h<;>simp at h
   ·simp at h
 ·split at h<;>simp at h
 ·simp at h
theorem yU{c:Call}{A:jS}{dst:Option Nat}{args:List Operand}{sz by_:Nat}{ag:Bool}(h:bG P ns A dst (.call c)=some (.dC sz by_ ag,args)) :
   ∃x y t e t1 e1 z,c.callee=.builtin .append∧c.args=#[x,y]∧args=[x,y]∧c.argTypes[0]?=some t∧c.argTypes[1]?=some t1∧P.underlying t=some (.slice e) ∧
     P.underlying t1=some (.slice e1)∧cC P e=some sz∧eN P e=some by_∧ct P e=some z∧z.length=sz∧0<sz∧0<by_:=by
 obtain⟨callee,cargs,ctypes⟩:=c;simp only[bG]at h;split at h
 ·split at h<;>simp at h
 ·split at h<;>simp at h
 ·split at h<;>simp at h
 · rename_i hcal;split at h
   · rename_i x y e e1 ha ht ht1;split at h
     · rename_i sz' by' z hs hb hz;rw[Option.ite_none_right_eq_some]at h;obtain⟨⟨h1,h2,h3⟩,h⟩:=h;split at h
       ·simp only[Option.map_eq_some_iff,Prod.mk.injEq,AK.dC.injEq]at h;obtain⟨ag',hag,⟨rfl,rfl,rfl⟩,rfl⟩:=h;simp only[Option.bind_eq_some_iff]at ht ht1;obtain⟨t,ht,htu⟩:=ht;obtain⟨t1,ht1,ht1u⟩:=ht1;exact⟨x,y,t,e,t1,e1,z,rfl,by apply Array.ext';simpa using ha,rfl,ht,ht1,dx htu,dx ht1u,hs,hb,hz,h1,h2,h3⟩
       ·split at h<;>simp at h
     ·simp at h
   ·simp at h
 · split at h
   · split at h
     ·split at h<;>simp at h
     ·simp at h
   ·simp at h
 · split at h
   ·split at h<;>simp at h
   ·simp at h
 · split at h
   · split at h
     ·(repeat' (split at h))<;>simp at h
     · split at h
       ·simp at h
       · split at h
         ·simp at h
         ·split at h<;>simp at h
   ·simp at h
 ·split at h<;>simp at h
 ·simp at h
theorem M9{K:bl}{els:List PV}{base:Option Addr}{len sz:Nat}(h:Pd K els base len)(hs:bf sz els=true):els=[]∨∃b o,base=some ⟨b,o,none⟩∧Row K b o sz els:=by
 rcases h.2 with h1|⟨b,o,sz',e,hr⟩
 ·exact .inl h1
 · by_cases hn:els=[]
   ·exact .inl hn
   ·have:=hr.sz hs hn;subst this;exact .inr ⟨b,o,e,hr⟩
theorem FP{mem:List (Nat×List AV)}{sh:Sh}{aa toks':aG}(hi:Inv (num ns) G w mem sh aa){τ:Nat}{l xs:List PV}{sz newCap:Nat}{aI new:List Value}{rest:Array Value}(e:TypeId)
   (ho:aI.length=l.length*sz) (hn:new.length=xs.length*sz) (ho':∀(K':bl) (b' o':Nat),G.K.le K'→At K' b' o' aI→Row K' b' o' sz l)
   (hn':∀(K':bl) (b' o':Nat),G.K.le K'→At K' b' o' new→Row K' b' o' sz xs) (hcap:l.length+xs.length≤newCap) (hr:rest.size=(newCap-(l.length+xs.length))*sz) (h0:0<xs.length)
   (hu:nB G aa toks' τ (l.length+xs.length)) (hg:∀t0,G.tk τ=some t0→¬t0.dead∧t0.cap<l.length+xs.length) :
   ∃G',aB (num ns) G' (.own (l++xs) τ) (.slice (some ⟨w.heap.size,0,none⟩) (l.length+xs.length) newCap) ∧
     Inv (num ns) G' (w.alloc (.cells (aI.toArray++new.toArray++rest) e)) mem sh toks'∧G.le G'∧bJ G w G' (w.alloc (.cells (aI.toArray++new.toArray++rest) e)):=by
 let t:Tk:={ base:=some ⟨w.heap.size,0,none⟩,len:=l.length+xs.length,cap:=newCap,sz:=sz,own:=true }
 have hsz:(aI.toArray++new.toArray++rest).size=newCap*sz:=by
   simp[ho,hn,hr];have:newCap=(l.length+xs.length)+(newCap-(l.length+xs.length)):=by omega
   conv=>rhs;rw[this,Nat.add_mul,Nat.add_mul]
 obtain⟨h1,h2,h3⟩:=hi.grow (t:=t) (c:=aI.toArray++new.toArray++rest) e rfl (by rw[hsz];exact Nat.le_refl _) hcap (by show 0<l.length+xs.length;omega) hu hg;refine⟨_,?_,h1,h2,h3⟩
 have hat:At (jd G w.heap.size (t.len*t.sz) (aI.toArray++new.toArray++rest)) w.heap.size 0 (aI++new):=by
   intro j v hj;have hlt:=(List.getElem?_eq_some_iff.1 hj).1;simp only[List.length_append,ho,hn]at hlt;simp only[jd,if_true,Nat.zero_add];rw[if_pos (by show j<(l.length+xs.length)*sz;rw[Nat.add_mul];exact hlt)];rw[Array.getElem?_append_left (by simp[ho,hn];exact hlt)];simpa using hj
 have hrow:Row (jd G w.heap.size (t.len*t.sz) (aI.toArray++new.toArray++rest)) w.heap.size 0 sz (l++xs):=by
   refine Row.append (ho' _ _ _ h2.K fun j v hj=>hat j v ?_) (hn' _ _ _ h2.K fun j v hj=>?_)
   ·rw[List.getElem?_append_left (List.getElem?_eq_some_iff.1 hj).1];exact hj
   · have:=hat (l.length*sz+j) v (by rw[List.getElem?_append_right (by omega),ho,Nat.add_sub_cancel_left];exact hj)
     rwa [Nat.zero_add,←Nat.zero_add (l.length*sz+j),←Nat.add_assoc]at this
 simp only[aB];refine⟨t,by simp[Gh.bu],⟨by simp[t],t.rO⟩,ca.2 ⟨_,_,_,rfl,hcap,by simp,.inr ⟨_,_,_,rfl,hrow⟩⟩,fun _=>⟨rfl,.inr ⟨_,_,rfl,hrow⟩⟩⟩
theorem BU{ρ:bO}{mem:List (Nat×List AV)}{sh:Sh}{aa:aG}(hi:Inv ρ G w mem sh aa)(n:Nat):nB G aa (aa++[n]) aa.length n:=by
 refine⟨by simp,fun σ hσ=>?_,fun t h=>?_⟩
 · rcases Nat.lt_or_ge σ aa.length with h|h
   ·rw[List.getElem?_append_left h]
   ·rw[List.getElem?_eq_none (by simp;omega),List.getElem?_eq_none h]
 ·have:=hi.eS _ t h;rw[List.getElem?_eq_none (Nat.le_refl _)]at this;simp at this
theorem wP{argTypes:Array TypeId}{type t e e1 t1 sz by_:Nat}{z:List PV}{s x y:AV}{vs vx:Value}{mem:List (Nat×List AV)}{sh:Sh}{aa toks':aG}
   (h0:argTypes[0]?=some t) (h1:argTypes[1]?=some t1)
   (hu:P.underlying t=some (.slice e)) (hu1:P.underlying t1=some (.slice e1)) (hsz:cC P e=some sz) (hby:eN P e=some by_) (hz:ct P e=some z) (hzl:z.length=sz) (hb0:0<by_)
   (hs:aB (num ns) G s vs) (hx:aB (num ns) G x vx) (hi:Inv (num ns) G w mem sh aa) (h:bR sz by_ s x aa=some (y,toks')) :
   ∃v w' G',(Builtin.append_ argTypes type #[vs,vx]).run P w=.ok v w'∧aB (num ns) G' y v∧Inv (num ns) G' w' mem sh toks'∧G.le G'∧bJ G w G' w':=by
 unfold bR at h;split at h
 ·simp at h
 · rename_i xs hxs;simp only[Option.ite_none_right_eq_some]at h;obtain⟨hhx,h⟩:=h;obtain⟨xb,xc,rfl⟩:=jB hxs hx;have hrx:=d9 hxs hx;have known':∀w',w'=w.drew→∀b o u,G.K b o=some u→w'.cell? ⟨b,o,none⟩=some u:=fun w' e b o u hk=>by subst e;exact hi.known b o u hk
   obtain⟨new,n1,n2,n3,n4⟩:=jf (P:=P) hi.known hrx hhx rfl
   have n1':∀w',w'=w.drew→(Builtin.firstCells sz xs.length (.slice xb xs.length xc)).run P w'=.ok new.toArray w':=by
     intro w' e;obtain⟨new',m1,_,_⟩:=jf (P:=P) (known' w' e) hrx hhx rfl;have hsame:(Builtin.firstCells sz xs.length (.slice xb xs.length xc)).run P w'=.ok new'.toArray w':=m1
     have:new'=new:=by
       subst e;obtain⟨base,len,cap,e1,_,hlen,hrow'⟩:=ca.1 hrx;cases e1;by_cases hnil:xs=[]
       · subst hnil;have a1:new=[]:=by apply List.eq_nil_of_length_eq_zero;simpa using n2
         have a2:new'=[]:=by
           cases xb with
           |none=>simpa[Builtin.firstCells] using m1.symm
           |some a=>simpa[Builtin.firstCells,loadCells,loadCellsFrom] using m1.symm
         rw[a1,a2]
       ·obtain⟨b,o,sz',e2,hrow⟩:=hrow'.resolve_left hnil;cases e2;have:=hrow.sz hhx hnil;subst this;obtain⟨vss,g1,g2,_,_⟩:=hrow.flat;have l1:=run_loadCells_list (P:=P) w ⟨b,o,none⟩ vss (fun j u hj=>by rw[Addr.d8];exact hi.known _ _ _ (g2 j u hj));have l2:=run_loadCells_list (P:=P) w.drew ⟨b,o,none⟩ vss (fun j u hj=>by rw[Addr.d8];exact hi.known _ _ _ (g2 j u hj));rw[g1]at l1 l2;simp only[Builtin.firstCells]at n1 m1;rw[l1]at n1;rw[l2]at m1;simp at n1 m1;rw[←n1,←m1]
     rw[hsame,this]
   have grows:∀(l:List PV) (base:Option Addr) (cap τ:Nat),Rel G.K (.au l) (.slice base l.length cap)→bf sz l=true→cap<l.length+xs.length→(l.length+xs.length)*by_≤140737488355328 →
       nB G aa toks' τ (l.length+xs.length)→(∀t0,G.tk τ=some t0→¬t0.dead∧t0.cap<l.length+xs.length)→y=.own (l++xs) τ →
       ∃v w' G',(Builtin.append_ argTypes type #[.slice base l.length cap,.slice xb xs.length xc]).run P w=.ok v w'∧aB (num ns) G' y v∧Inv (num ns) G' w' mem sh toks'∧G.le G'∧bJ G w G' w':=by
     intro l base cap τ hrl hhl hfit hbytes hup hg hy;obtain⟨aI,o1,o2,o3,o4⟩:=jf (P:=P) (w:=w.drew) (known' _ rfl) hrl hhl rfl
     obtain⟨rest,newCap,p1,p2,p3⟩:=kz (type:=type) (aI:=aI.toArray) (new:=new.toArray) h0 h1 hu hu1 hsz hby hz hzl (base:=base) (len:=l.length) (cap:=cap) (n:=xs.length) (xb:=xb) (xc:=xc) rfl
       (fun w' e=>by subst e;exact o1) n1' hfit hb0 hbytes
     have hpos:0<xs.length:=by
       rcases Nat.eq_zero_or_pos xs.length with hz'|hz'
       ·have:=(ca.1 hrl);obtain⟨b',l',c',e',hle,hlen,_⟩:=this;cases e';omega
       ·exact hz'
     obtain⟨G',q1,q2,q3,q4⟩:=FP (ns:=ns) (w:=w.drew) hi.drew e o2 n2 o3 n3 p1 p2 hpos hup hg;exact⟨_,_,G',p3,by rw[hy];exact q1,q2,q3,(bJ.drew G w).trans q4⟩
   split at h
   · -- a slice without room to spare
     rename_i l;split at h
     · rename_i hemp;have hxs0:xs=[]:=List.isEmpty_iff.1 hemp;subst hxs0;simp only[Option.some.injEq,Prod.mk.injEq]at h;obtain⟨rfl,rfl⟩:=h;have hs':=hs;simp only[aB]at hs;obtain⟨base,len,rfl,hsl⟩:=hs;have hlen:=hsl.1;subst hlen;have hnew:new=[]:=by apply List.eq_nil_of_length_eq_zero;simpa using n2
       subst hnew;have hrun:=eZ (type:=type) h0 h1 hu hu1 hsz (base:=base) (len:=l.length) (cap:=l.length) (n:=0) (xb:=xb) (xc:=xc) rfl n1 (by omega);refine⟨.slice base l.length l.length,w,G,?_,hs',hi,G.le_refl,bJ.refl G w⟩;refine Eq.trans hrun ?_;cases base<;>simp[storeCells]
     simp only[Option.ite_none_right_eq_some,Option.some.injEq,Prod.mk.injEq]at h;obtain⟨⟨hhl,hbytes⟩,rfl,rfl⟩:=h;have hs':=hs;simp only[aB]at hs;obtain⟨base,len,rfl,hsl⟩:=hs;have hlen:=hsl.1;subst hlen;have hlen2:(l++xs).length=l.length+xs.length:=by simp
     have hup:nB G aa (aa++[(l++xs).length]) aa.length (l.length+xs.length):=by
       rw[hlen2];exact BU hi (l.length+xs.length)
     have htk:G.tk aa.length=none:=by
       cases hh:G.tk aa.length with
       |none=>rfl
       |some t0=>have:=hi.eS _ t0 hh;rw[List.getElem?_eq_none (Nat.le_refl _)]at this;simp at this
     by_cases hn0:xs.length=0
     · have hxs0:xs=[]:=by cases xs with|nil=>rfl|cons _ _=>simp at hn0
       subst hxs0;have hnew:new=[]:=by apply List.eq_nil_of_length_eq_zero;simpa using n2
       subst hnew;have hrun:=eZ (type:=type) h0 h1 hu hu1 hsz (base:=base) (len:=l.length) (cap:=l.length) (n:=0) (xb:=xb) (xc:=xc) rfl n1 (by omega);let tk:Tk:={ base,len:=l.length,cap:=l.length,sz };obtain⟨g1,g2,g3⟩:=hi.M8 (τ:=aa.length) (t:=tk) (toks':=aa++[(l++[]).length]) rfl rfl htk hup.at_ hup.other;refine⟨.slice base l.length l.length,w,_,?_,?_,g1,g2,g3⟩
       ·refine Eq.trans hrun ?_;cases base<;>simp[storeCells]
       · simp only[aB];refine⟨tk,by simp[Gh.bu],⟨by simp[tk],tk.rO⟩,?_,fun _=>⟨rfl,?_⟩⟩
         ·simp only[List.append_nil];exact ca.2 ⟨_,_,_,rfl,Nat.le_refl _,hsl⟩
         ·simp only[List.append_nil];exact M9 hsl hhl
     ·exact grows l base l.length aa.length (ca.2 ⟨_,_,_,rfl,Nat.le_refl _,hsl⟩) hhl (by omega) hbytes hup (fun t0 h=>by rw[htk]at h;cases h) rfl
   · -- a slice that has its room to spare to itself
     rename_i l τ;simp only[Option.ite_none_right_eq_some,Option.some.injEq,Prod.mk.injEq]at h;obtain⟨⟨htok,hhl,hbytes⟩,rfl,rfl⟩:=h;have hs':=hs;simp only[aB]at hs;obtain⟨tk,e1,e2,e3,e4⟩:=hs
     have hlen:l.length=tk.len:=by
       have:=hi.eS τ tk e1;rw[htok]at this;simpa using this
     obtain⟨hv,hrow⟩:=e4 hlen;obtain⟨tk',f1,f2,f3⟩:=hi.db τ _ htok;rw[e1]at f1;cases f1;have hlen2:(l++xs).length=l.length+xs.length:=by simp
     obtain⟨base,tlen,cap,tsz,town⟩:=tk;simp only[Tk.val]at hv hlen f2 f3;subst hv;subst hlen;by_cases hn0:xs.length=0
     · have hxs0:xs=[]:=by cases xs with|nil=>rfl|cons _ _=>simp at hn0
       subst hxs0;have hnew:new=[]:=by apply List.eq_nil_of_length_eq_zero;simpa using n2
       subst hnew;have hrun:=eZ (type:=type) h0 h1 hu hu1 hsz (base:=base) (len:=l.length) (cap:=cap) (n:=0) (xb:=xb) (xc:=xc) rfl n1 (by have:=f3.cap;simpa using this)
       have hset:aa.set τ (l++([]:List PV)).length=aa:=by
         apply List.ext_getElem?
         intro j;rw[List.getElem?_set];split
         ·rename_i e;subst e;have:=(List.getElem?_eq_some_iff.1 htok);obtain⟨hlt,_⟩:=this;rw[if_pos hlt,htok];simp
         ·rfl
       rw[hset];refine⟨.slice base l.length cap,w,G,?_,?_,hi,G.le_refl,bJ.refl G w⟩
       ·refine Eq.trans hrun ?_;cases base<;>simp[storeCells]
       ·simpa using hs'
     · have hpos:0<xs.length:=by omega
       have hup:nB G aa (aa.set τ (l++xs).length) τ (l.length+xs.length):=by
         rw[hlen2];have hlt:=(List.getElem?_eq_some_iff.1 htok).1;refine⟨by rw[List.getElem?_set];simp[hlt],fun σ hσ=>by rw[List.getElem?_set,if_neg (Ne.symm hσ)],fun t0 h=>?_⟩;rw[e1]at h;cases h;simp;omega
       rcases Nat.lt_or_ge cap (l.length+xs.length) with hfit|hfit
       · refine grows l base cap τ e3 hhl hfit hbytes hup (fun t0 h=>?_) rfl;rw[e1]at h;cases h;refine⟨?_,hfit⟩
         rintro⟨d1,d2⟩
         rcases hrow with rfl|⟨b,o,e,_⟩
         ·simp at d2
         ·rw[d1]at e;cases e
       · have hl0:l≠[]:=by
           rintro rfl
           have:=f3.zero rfl;simp at this hfit;omega
         obtain⟨b,o,hbase,hrow⟩:=hrow.resolve_left hl0;simp only at hbase;subst hbase;have:=hrow.sz hhl hl0;subst this;obtain⟨b',o',c,ty,p1,p2,p3,p4,p5⟩:=f3.spare (.inl (by simp;omega));simp only[Option.some.injEq,Addr.mk.injEq]at p1;obtain⟨rfl,rfl,_⟩:=p1;simp only at p4 p5;have hmul:(l.length+xs.length)*sz≤cap*sz:=Nat.mul_le_mul_right _ hfit;rw[Nat.add_mul]at hmul;have vh:=run_storeCells_at (P:=P) b (o+l.length*sz) ty new 0 c w p3 (by rw[n2];omega) n4;have hrun:=eZ (type:=type) h0 h1 hu hu1 hsz (base:=some ⟨b,o,none⟩) (len:=l.length) (cap:=cap) (n:=xs.length) (xb:=xb) (xc:=xc) rfl n1 hfit;simp only[Nat.add_zero]at vh;obtain⟨g1,g2,g3⟩:=hi.fill (t:=⟨some ⟨b,o,none⟩,l.length,cap,sz,town⟩) (n:=xs.length) e1 rfl p2 p3 p4 p5 n2 hpos hfit rfl hup;refine⟨.slice (some ⟨b,o,none⟩) (l.length+xs.length) cap,_,_,?_,?_,g1,g2,g3⟩
         ·refine Eq.trans hrun ?_;simp only[Addr.d8,vh,Result.andThen_ok]
         · have hat:At (je G b (o+l.length*sz) new) b (o+l.length*sz) new:=by
             intro j v hj;have hlt:=(List.getElem?_eq_some_iff.1 hj).1;simp only[je];rw[if_pos ⟨trivial,by omega,by omega⟩,Nat.add_sub_cancel_left];exact hj
           have hrow':Row (je G b (o+l.length*sz) new) b o sz (l++xs):=Row.append (Row.mono g2.K _ _ _ _ hrow) (n3 _ _ _ g2.K hat);simp only[aB];exact⟨⟨some ⟨b,o,none⟩,l.length+xs.length,cap,sz,true⟩,by simp[Gh.bu],⟨by simp,Tk.rO _⟩,ca.2 ⟨_,_,_,rfl,hfit,by simp,.inr ⟨_,_,_,rfl,hrow'⟩⟩,fun _=>⟨rfl,.inr ⟨_,_,rfl,hrow'⟩⟩⟩
   ·simp at h
end
end Go.Ab
namespace Go.Ab
section
variable {P:Program} {ns:Names} {G:Gh} {w:World}
theorem FQ{ρ:bO}{x:AV}{v:Value}(h:aB ρ G x v)(hl:aT x=true):v.oneCell'=true:=by
 cases x with
 |pv p=>
   simp only[aB]at h;cases p with
   |agg _=>simp[aT]at hl
   |au _=>obtain⟨b,l,c,rfl,_⟩:=ca.1 h;rfl
   |bool _=>rw[jb]at h;subst h;rfl
   |int _ _=>rw[bV]at h;subst h;rfl
   |str _=>rw[mB]at h;subst h;rfl
 |dB _=>simp only[aB]at h;obtain⟨_,_,rfl,_⟩:=h;rfl
 |own _ _=>simp only[aB]at h;obtain⟨_,_,_,h,_⟩:=h;obtain⟨b,l,c,rfl,_⟩:=ca.1 h;rfl
 |aW _ _=>simp only[aB]at h;obtain⟨_,_,rfl⟩:=h;rfl
 |aP _ _ _ _=>simp only[aB]at h;obtain⟨_,_,_,rfl,_⟩:=h;rfl
 |fn _ _=>simp only[aB]at h;obtain⟨_,_,_,rfl,_⟩:=h;rfl
 |jT=>simp only[aB]at h;rcases h with rfl|rfl<;>rfl
 |jU _=>simp only[aB]at h;obtain⟨_,_,rfl⟩:=h;rfl
 |fJ _=>simp only[aB]at h
 |_=>simp[aT]at hl
theorem kA{ρ:bO}:∀{xs:List AV} {vs:List Value},aw ρ G xs vs→xs.all aT=true→∀u∈vs,u.oneCell'=true
 |[],_,h,_,u,hu=>by simp only[aw]at h;subst h;simp at hu
 |x::xs,_,h,hl,u,hu=>by
   simp only[aw]at h;obtain⟨v,r,rfl,e1,e2⟩:=h;simp only[List.all_cons,Bool.and_eq_true]at hl;simp only[List.mem_cons]at hu;rcases hu with rfl|hu
   ·exact FQ e1 hl.1
   ·exact kA e2 hl.2 u hu
theorem iM{xs:List AV}(h:xs.all cL=true):xs.all aT=true:=by
 rw[List.all_eq_true]at *;intro x hx;have:=h x hx;cases x<;>simp_all[cL,aT,bL]
def Sq(ns:Names)(P:Program)(G:Gh)(w:World)(mem:List (Nat×List AV))(sh:Sh)(aa:aG)(s:Sem Next)(x:AV):Prop:=
 ∃n v w' G',s.run P w=.ok n w'∧(n=.value v∨(n=.skip∧v=undef))∧aB (num ns) G' x v∧Inv (num ns) G' w' mem sh aa∧G.le G'∧bJ G w G' w'
theorem oE{t sz b off:Nat}{v:Value}{c:Array Value}{ty:TypeId}(hsz:cC P t=some sz)(hv:v.cells.size=sz)(hh:w.heap[b]?=some (.cells c ty (0,0)))
   (hl:off+sz≤c.size) (h1:∀u∈v.cells.toList,u.oneCell'=true) :
   (storeVar t ⟨b,off,none⟩ v).run P w=.ok () (w.setRow b (c.toList.take off++v.cells.toList++c.toList.drop (off+v.cells.toList.length)).toArray):=by
 have:=run_storeCells_at (P:=P) b off ty v.cells.toList 0 c w hh (by simp[hv];omega) h1;simp only[Nat.add_zero]at this;simp only[storeVar,Sem.run_bind,dc hsz,Result.andThen_ok];rw[if_neg (by simp[hv])];simpa using this
theorem gX{t:TypeId}{v:Value}:(newVar t v).run P w=.ok ⟨w.heap.size,0,none⟩ (w.alloc (.cells v.cells t)):=rfl
theorem iN{ρ:bO}:∀{xs:List AV} {vs:List Value},vs.length=xs.length→(∀(j:Nat) (x:AV) (v:Value),xs[j]?=some x→vs[j]?=some v→aB ρ G x v)→aw ρ G xs vs
 |[],vs,hl,_=>by
   have:vs=[]:=by cases vs<;>simp_all
   subst this;simp[aw]
 |x::xs,[],hl,_=>by simp at hl
 |x::xs,v::vs,hl,h=>by
   simp only[aw];exact⟨v,vs,rfl,h 0 x v rfl rfl,iN (by simpa using hl) fun j y u hy hu=>h (j+1) y u (by simpa using hy) (by simpa using hu)⟩
theorem dG{α:Type}(l:List α):∀(n j:Nat),j<n*l.length→(List.replicate n l).flatten[j]?=l[j % l.length]?
 |0,j,h=>by simp at h
 |n+1,j,h=>by
   rw[List.replicate_succ,List.flatten_cons];by_cases hj:j<l.length
   ·rw[List.getElem?_append_left hj,Nat.mod_eq_of_lt hj]
   ·rw[List.getElem?_append_right (by omega),dG l n (j-l.length) (by rw[Nat.add_mul]at h;omega)];congr 1;exact (Nat.mod_eq_sub_mod (by omega)).symm
theorem vi{n:Int}(h0:0≤n)(h1:n≤9223372036854775807):IntKind.i64.wrap n=n:=by
 unfold IntKind.wrap;have e1:(2:Int) ^ IntKind.i64.bits=18446744073709551616:=by decide
 have e2:(2:Int) ^ (IntKind.i64.bits-1)=9223372036854775808:=by decide
 have e3:IntKind.i64.signed=true:=rfl;simp only[e1,e2,e3];have:n % 18446744073709551616=n:=Int.emod_eq_of_lt h0 (by omega);simp only[this];rw[if_neg];simp;omega
theorem kB{ρ:bO}:∀{l:List Value} {z:List PV},cd dw l=some z→aw ρ G (z.map .pv) l∧(z.map AV.pv).all cL=true
 |[],_,h=>by simp[cd]at h;subst h;simp[aw]
 |v::l,z,h=>by
   simp only[cd]at h;split at h
   · rename_i y ys h1 h2;simp at h;subst h;obtain⟨g1,g2⟩:=kB (ρ:=ρ) h2;obtain⟨g3,g4⟩:=ny (K:=G.K) h1;have g5:cL (.pv y)=true:=by cases y<;>simp_all[cL,aT,c_]
     simp only[List.map_cons,aw,List.all_cons,g5,g2,Bool.and_true,and_true];exact⟨v,l,rfl,by simp only[aB];exact Rel.RQ g3,g1⟩
   ·simp at h
theorem wQ(n:Nat)(z:List PV):(z.map AV.pv).all (aK n)=true:=by
 rw[List.all_eq_true];intro x hx;simp only[List.mem_map]at hx;obtain⟨p,_,rfl⟩:=hx;simp[aK]
theorem FR(n:Nat)(z:List PV):(z.map bA.zeroCell).all (aK n)=true:=by
 rw[List.all_eq_true];intro x hx;simp only[List.mem_map]at hx;obtain⟨p,_,rfl⟩:=hx;unfold bA.zeroCell;split<;>simp[aK]
end
mutual
theorem qJ{n m:Nat}(h:n≤m):∀{x:AV},aK n x=true→aK m x=true
 | .un,_=>by simp[aK]
 | .pv _,_=>by simp[aK]
 | .dB _,_=>by simp[aK]
 | .own ..,_=>by simp[aK]
 | .jT,_=>by simp[aK]
 | .fH _,_=>by simp[aK]
 | .aW b _,hx=>by simp[aK]at hx⊢;omega
 | .aP b _ _ _,hx=>by simp[aK]at hx⊢;omega
 | .fn _ cap,hx=>by simp only[aK]at hx⊢;exact kC h hx
 | .agg cs,hx=>by simp only[aK]at hx⊢;exact kC h hx
 | .az ..,hx=>by simp[aK]at hx
 | .qx _,hx=>by simp[aK]at hx
 | .jU b,hx=>by simp[aK]at hx⊢;omega
 | .fJ _,_=>by simp[aK]
 | .pJ ..,hx=>by simp[aK]at hx
theorem kC{n m:Nat}(h:n≤m):∀{xs:List AV},aK.cz n xs=true→aK.cz m xs=true
 |[],_=>by simp[aK.cz]
 |x::xs,hx=>by
   simp only[aK.cz,Bool.and_eq_true]at hx⊢;exact⟨qJ h hx.1,kC h hx.2⟩
end
theorem kD{n m:Nat}(h:n≤m){xs:List AV}(hx:xs.all (aK n)=true):xs.all (aK m)=true:=by
 rw[List.all_eq_true]at *;exact fun x hm=>qJ h (hx x hm)
section
variable {P:Program} {ns:Names} {G:Gh} {w:World}
theorem jC{ρ:bO}{k:IntKind}{n:Int}{v:Value}(h:aB ρ G (.pv (.int k n)) v):v=.int k n:=by
 simp only[aB]at h;exact bV.1 h
theorem yV{t e sz by_:Nat}{ag:Bool}{z:List PV}{k k':IntKind}{n:Int}{mem:List (Nat×List AV)}{sh:Sh}{aa:aG}(hu:P.underlying t=some (.slice e))(hsz:cC P e=some sz)
   (hby:eN P e=some by_) (hz:ct P e=some z) (hzl:z.length=sz) (hs0:0<sz) (h0:0≤n) (h1:n≤9223372036854775807) (h2:n*by_≤140737488355328) (hi:Inv (num ns) G w mem sh aa) :
   ∃v w' G',(Instr.makeSlice t (.int k n) (.int k' n)).run P w=.ok v w'∧aB (num ns) G' (.aP sh.length sz n.toNat ag) v ∧
     Inv (num ns) G' w' mem (sh++[some ((List.replicate n.toNat (z.map .pv)).flatten)]) aa∧G.le G'∧bJ G w G' w':=by
 obtain⟨i,hii,hib,hirun⟩:=lN hby w;obtain⟨zv,hz1,hz2⟩:=gh (P:=P) (w:=w) hz;have hzs:zv.cells.size=sz:=by have:=gg hz2;simp at this;omega
 obtain⟨zr,zl⟩:=kB (G:=G) (ρ:=num ns) hz2;let z0:Array Value:=if n.toNat*sz=0 then #[] else zv.cells;let c:Array Value:=(Array.range (n.toNat*sz)).map (z0[· % z0.size]!);have hw:IntKind.i64.wrap n=n:=vi h0 h1;have hbytes:(i.bytes:Int)*n≤281474976710656:=by rw[hib,Int.mul_comm];omega
 have hlen:((List.replicate n.toNat (z.map AV.pv)).flatten).length=n.toNat*sz:=by simp[hzl]
 have hrel:aw (num ns) G ((List.replicate n.toNat (z.map .pv)).flatten) c.toList:=by
   refine iN (by simp[c,hzl]) fun j x v hx hv=>?_;have hlt:j<n.toNat*sz:=by have:=(List.getElem?_eq_some_iff.1 hx).1;omega
   rw[dG _ _ _ (by simpa[hzl] using hlt)]at hx;have hn0:¬n.toNat*sz=0:=by omega
   have hz0:z0=zv.cells:=if_neg hn0;obtain⟨v',g1,g2⟩:=zr.get hx
   have:v=v':=by
     simp only[c,hz0,Array.toList_map,List.getElem?_map,Array.toList_range,Option.map_eq_some_iff]at hv;obtain⟨j',hj',hv⟩:=hv;rw[List.getElem?_range hlt]at hj';cases hj';simp only[List.length_map,hzl]at g1;rw[hzs]at hv;have hm:j % sz<zv.cells.size:=by rw[hzs];exact Nat.mod_lt _ hs0
     rw[getElem!_pos zv.cells (j % sz) hm]at hv;have g1':zv.cells[j % sz]?=some v':=by simpa using g1
     rw[Array.getElem?_eq_getElem hm]at g1';simp at g1';rw[←hv,g1']
   subst this;exact g2
 have hall:((List.replicate n.toNat (z.map AV.pv)).flatten).all cL=true:=by
   rw[List.all_eq_true]at *;intro x hx;simp only[List.mem_flatten,List.mem_replicate]at hx;obtain⟨l,⟨_,rfl⟩,hx⟩:=hx;exact zl x hx
 have href:((List.replicate n.toNat (z.map AV.pv)).flatten).all (aK (sh.length+1))=true:=by
   have:=wQ (sh.length+1) z;rw[List.all_eq_true]at *;intro x hx;simp only[List.mem_flatten,List.mem_replicate]at hx;obtain⟨l,⟨_,rfl⟩,hx⟩:=hx;exact this x hx
 obtain⟨g1,g2,g3⟩:=hi.sI (cells:=(List.replicate n.toNat (z.map .pv)).flatten) (c:=c) e hrel hall href;refine⟨.slice (some ⟨w.heap.size,0,none⟩) n.toNat n.toNat,_,_,?_,?_,g1,g2,g3⟩
 · have hp:(2:Int) ^ 48=281474976710656:=by decide
   have ht:(decide (n<0) || decide ((i.bytes:Int)*n > 2 ^ 48))=false:=by
     rw[hp];simp;omega
   have hir:∀w',(typeInfo e).run P w'=.ok i w':=fun w'=>by simp[typeInfo,hii]
   have hcond:¬((decide (n<0) || decide ((i.bytes:Int)*n > 2 ^ 48)) || decide (n<0) || decide (n > n))=true:=by
     rw[ht];simp;omega
   simp only[Instr.makeSlice,Sem.run_bind,run_underlying hu,Result.andThen_ok,asInt,asIntOf,Sem.run_pure,hir,hw];rw[if_neg hcond];simp only[Sem.run_bind,run_askRoom,Result.andThen_ok,dc hsz];by_cases h00:n.toNat*sz=0
   ·rw[if_pos h00];simp only[Sem.run_bind,Sem.run_pure,Result.andThen_ok];have hz0:z0=#[]:=if_pos h00;simp only[c,hz0];rfl
   ·rw[if_neg h00];simp only[Sem.run_bind,Sem.run_pure,hz1,Result.andThen_ok];have hz0:z0=zv.cells:=if_neg h00;simp only[c,hz0];rfl
 ·simp only[aB];exact⟨(w.heap.size,c.size),0,by simp[Gh.dj],rfl,by simp[c]⟩
theorem yW{t e sz by_ d:Nat}{z:List PV}{k k':IntKind}{n:Int}{mem:List (Nat×List AV)}{sh:Sh}{aa:aG}(hu:P.underlying t=some (.slice e))(hsz:cC P e=some sz)
   (hby:eN P e=some by_) (hz:ct P e=some z) (hzl:z.length=sz) (hs0:0<sz) (h0:0≤n) (h1:n≤9223372036854775807) (h2:n*by_≤140737488355328) (hi:Inv (num ns) G w mem sh aa) (hl:look mem d=none) :
   ∃v w' G',(Instr.makeSlice t (.int k n) (.int k' n)).run P w=.ok v w'∧aB (num ns) G' (.jt d n.toNat) v ∧
     Inv (num ns) G' w' (cW mem d ((List.replicate n.toNat (z.map .pv)).flatten)) sh aa∧G.le G'∧bJ G w G' w':=by
 obtain⟨i,hii,hib,hirun⟩:=lN hby w;obtain⟨zv,hz1,hz2⟩:=gh (P:=P) (w:=w) hz;have hzs:zv.cells.size=sz:=by have:=gg hz2;simp at this;omega
 obtain⟨zr,zl⟩:=kB (G:=G) (ρ:=num ns) hz2;let z0:Array Value:=if n.toNat*sz=0 then #[] else zv.cells;let c:Array Value:=(Array.range (n.toNat*sz)).map (z0[· % z0.size]!);have hw:IntKind.i64.wrap n=n:=vi h0 h1;have hbytes:(i.bytes:Int)*n≤281474976710656:=by rw[hib,Int.mul_comm];omega
 have hlen:((List.replicate n.toNat (z.map AV.pv)).flatten).length=n.toNat*sz:=by simp[hzl]
 have hrel:aw (num ns) G ((List.replicate n.toNat (z.map .pv)).flatten) c.toList:=by
   refine iN (by simp[c,hzl]) fun j x v hx hv=>?_;have hlt:j<n.toNat*sz:=by have:=(List.getElem?_eq_some_iff.1 hx).1;omega
   rw[dG _ _ _ (by simpa[hzl] using hlt)]at hx;have hn0:¬n.toNat*sz=0:=by omega
   have hz0:z0=zv.cells:=if_neg hn0;obtain⟨v',g1,g2⟩:=zr.get hx
   have:v=v':=by
     simp only[c,hz0,Array.toList_map,List.getElem?_map,Array.toList_range,Option.map_eq_some_iff]at hv;obtain⟨j',hj',hv⟩:=hv;rw[List.getElem?_range hlt]at hj';cases hj';simp only[List.length_map,hzl]at g1;rw[hzs]at hv;have hm:j % sz<zv.cells.size:=by rw[hzs];exact Nat.mod_lt _ hs0
     rw[getElem!_pos zv.cells (j % sz) hm]at hv;have g1':zv.cells[j % sz]?=some v':=by simpa using g1
     rw[Array.getElem?_eq_getElem hm]at g1';simp at g1';rw[←hv,g1']
   subst this;exact g2
 have hall:((List.replicate n.toNat (z.map AV.pv)).flatten).all cL=true:=by
   rw[List.all_eq_true]at *;intro x hx;simp only[List.mem_flatten,List.mem_replicate]at hx;obtain⟨l,⟨_,rfl⟩,hx⟩:=hx;exact zl x hx
 obtain⟨g1,g2,g3⟩:=hi.pQ (d:=d) (cells:=(List.replicate n.toNat (z.map .pv)).flatten) (c:=c) e hl hrel (iM hall);refine⟨.slice (some ⟨w.heap.size,0,none⟩) n.toNat n.toNat,_,_,?_,?_,g1,g2,g3⟩
 · have hp:(2:Int) ^ 48=281474976710656:=by decide
   have ht:(decide (n<0) || decide ((i.bytes:Int)*n > 2 ^ 48))=false:=by
     rw[hp];simp;omega
   have hir:∀w',(typeInfo e).run P w'=.ok i w':=fun w'=>by simp[typeInfo,hii]
   have hcond:¬((decide (n<0) || decide ((i.bytes:Int)*n > 2 ^ 48)) || decide (n<0) || decide (n > n))=true:=by
     rw[ht];simp;omega
   simp only[Instr.makeSlice,Sem.run_bind,run_underlying hu,Result.andThen_ok,asInt,asIntOf,Sem.run_pure,hir,hw];rw[if_neg hcond];simp only[Sem.run_bind,run_askRoom,Result.andThen_ok,dc hsz];by_cases h00:n.toNat*sz=0
   ·rw[if_pos h00];simp only[Sem.run_bind,Sem.run_pure,Result.andThen_ok];have hz0:z0=#[]:=if_pos h00;simp only[c,hz0];rfl
   ·rw[if_neg h00];simp only[Sem.run_bind,Sem.run_pure,hz1,Result.andThen_ok];have hz0:z0=zv.cells:=if_neg h00;simp only[c,hz0];rfl
 ·simp only[aB];exact⟨w.heap.size,by simp[Gh.cX],rfl⟩
end
end Go.Ab
namespace Go.Ab
section
variable {P:Program} {ns:Names} {G:Gh} {w:World}
theorem jZ{K:bl}:∀{cs:List PV} {vs:List Value},dF K cs vs→∀p∈cs,c_ p=true
 |[],_,_,p,hp=>by simp at hp
 |c::cs,_,h,p,hp=>by
   simp only[dF]at h;obtain⟨v,r,rfl,e2,e3⟩:=h;simp only[List.mem_cons]at hp;rcases hp with rfl|hp
   · cases p with
     |agg _=>simp[R]at e2
     |_=>rfl
   ·exact jZ e3 p hp
theorem Row.sJ{K:bl}:∀{els:List PV} {b o sz:Nat},Row K b o sz els →
   ∃vss:List Value,vss.length=els.length*sz∧At K b o vss∧dF K (els.flatMap aX) vss∧∀u∈vss,u.oneCell'=true
 |[],b,o,sz,_=>⟨[],by simp,by intro j v h;simp at h,by simp[dF],by simp⟩
 |el::r,b,o,sz,hr=>by
   simp only[Row]at hr;obtain⟨⟨vs,h1,h2,h3⟩,h4⟩:=hr;obtain⟨vss,g1,g2,g3,g4⟩:=Row.sJ h4;refine⟨vs++vss,by simp[h1,g1,Nat.add_mul];omega,?_,by rw[List.flatMap_cons];exact dF.append h3.cells g3,?_⟩
   · intro j v hj;rw[List.getElem?_append]at hj;split at hj
     ·exact h2 j v hj
     · have:=g2 _ v hj;rw[h1]at this
       rwa [show o+sz+(j-sz)=o+j from by omega]at this
   · intro u hu;simp only[List.mem_append]at hu;rcases hu with hu|hu
     ·exact dF.one h3.cells u hu
     ·exact g4 u hu
theorem pS{els:List PV}{base:Option Addr}{cap:Nat}{sz:Nat}(hr:Rel G.K (.au els) (.slice base els.length cap))(hs:bf sz els=true) :
   ∃vss:List Value,vss.length=els.length*sz∧dF G.K (els.flatMap aX) vss∧(∀u∈vss,u.oneCell'=true) ∧
     ∀w:World,(∀b o u,G.K b o=some u→w.cell? ⟨b,o,none⟩=some u)→(Builtin.firstCells sz els.length (.slice base els.length cap)).run P w=.ok vss.toArray w:=by
 obtain⟨base',len,cap',e,_,hlen,hrow'⟩:=ca.1 hr;cases e;by_cases hnil:els=[]
 · subst hnil;refine⟨[],by simp,by simp[dF],by simp,fun w _=>?_⟩;cases base with
   |none=>simp[Builtin.firstCells]
   |some a=>simp[Builtin.firstCells,loadCells,loadCellsFrom]
 ·obtain⟨b,o,sz',rfl,hrow⟩:=hrow'.resolve_left hnil;have:=hrow.sz hs hnil;subst this;obtain⟨vss,g1,g2,g3,g4⟩:=hrow.sJ;refine⟨vss,g1,g3,g4,fun w hk=>?_⟩;have hl:=run_loadCells_list (P:=P) w ⟨b,o,none⟩ vss (fun j u hj=>by rw[Addr.d8];exact hk _ _ _ (g2 j u hj));rw[g1]at hl;simpa[Builtin.firstCells] using hl
theorem sK{b n cap sz:Nat}{c:Array Value}{t:TypeId}{vs suf:List Value}(hh:w.heap[b]?=some (.cells c t (0,0)))(hsp:c.toList=vs++suf)(hn:n*sz≤vs.length) :
   (Builtin.firstCells sz n (.slice (some ⟨b,0,none⟩) n cap)).run P w=.ok (vs.take (n*sz)).toArray w:=by
 have hl:=run_loadCells_list (P:=P) w ⟨b,0,none⟩ (vs.take (n*sz)) (fun j u hj=>by
   rw[Addr.d8,Nat.zero_add];rw[List.getElem?_take]at hj;split at hj
   · have:c.toList[j]?=some u:=by rw[hsp,List.getElem?_append_left (List.getElem?_eq_some_iff.1 hj).1];exact hj
     simp only[World.cell?,hh];simpa using this
   ·simp at hj)
 rw[List.length_take,Nat.min_eq_left hn]at hl;simpa[Builtin.firstCells] using hl
theorem Inv.Sr{ρ:bO}{mem:List (Nat×List AV)}{sh:Sh}{aa:aG}(hi:Inv ρ G w mem sh aa)(s:Nat):Inv ρ G w mem (sh.set s none) aa:=
 { hi with
   di:=fun s' cs hs'=>by
     rw[List.getElem?_set]at hs';split at hs'
     ·split at hs'<;>simp at hs'
     ·exact hi.di s' cs hs'
   eo:=fun s' b h=>by simpa using hi.eo s' b h }
def Gh.iq(G:Gh)(s':Nat)(b:Nat×Nat):Gh:={ G with role:=fun k=>if k=b.1 then .shr s' else G.role k,sm:=fun k=>if k=s' then some b else G.sm k }
theorem Inv.iq{ρ:bO}{mem:List (Nat×List AV)}{sh:Sh}{aa:aG}(hi:Inv ρ G w mem sh aa){s:Nat}{b:Nat×Nat}{cells:List AV}(hs:sh[s]?=some (some cells))(hb:G.sm s=some b) :
   Inv ρ (G.iq sh.length b) w mem (sh.set s none++[some cells]) aa∧G.le (G.iq sh.length b)∧bJ G w (G.iq sh.length b) w:=by
 obtain⟨b0,e1,e2,e3,e4⟩:=hi.di s cells hs;rw[hb]at e1;cases e1;have hr:G.role b.1=.shr s:=e2.role
 have hsm:G.sm sh.length=none:=by
   cases h:G.sm sh.length with
   |none=>rfl
   |some b=>have:=hi.eo _ b h;omega
 have hle:G.le (G.iq sh.length b):=⟨G.K.le_refl,fun _ _ h=>h,fun k b h=>by
   simp only[Gh.iq];split
   ·rename_i e;subst e;rw[hsm]at h;simp at h
   ·exact h,fun _ t h=>⟨t,h,⟨Nat.le_refl _,t.gw⟩,fun _=>rfl⟩⟩
 have hrole:∀k r,G.role k=r→r≠.shr s→(G.iq sh.length b).role k=r:=by
   intro k r hk hn;simp only[Gh.iq];rw[if_neg]
   ·exact hk
   ·rintro rfl;exact hn (hk.symm.trans hr)
 have hslt:s<sh.length:=(List.getElem?_eq_some_iff.1 hs).1
 have hevo:bJ G w (G.iq sh.length b) w:={
           size:=Nat.le_refl _,os:=rfl,tape:=rfl,output:=rfl,K:=G.K.le_refl,sm:=hle.sm,
           eg:=fun k _ hk=>⟨hrole k _ hk (by simp),rfl⟩
           iD:=fun k τ _ hk=>.inr ⟨τ,hrole k _ hk (by simp)⟩
           gB:=fun _ _ _ _ _ h=>h }
 refine⟨⟨hi.known,?_,?_,?_,hi.gA,?_,?_,?_,hi.eS,hi.gV hevo⟩,hle,hevo⟩
 · intro k o v hk;rcases hi.aZ k o v hk with h|⟨τ,h⟩
   ·exact .inl (hrole k _ h (by simp))
   ·exact .inr ⟨τ,hrole k _ h (by simp)⟩
 ·intro k hk;exact hrole k _ (hi.fresh k hk) (by simp)
 ·intro d cs hd;obtain⟨b',e1,e2,e3⟩:=hi.cR d cs hd;exact⟨b',e1,e2.mono hle ((hrole b' _ e2.role (by simp)).trans e2.role.symm) rfl,e3⟩
 · intro s' cs hs';rw[List.getElem?_append]at hs';split at hs'
   · rw[List.getElem?_set]at hs';split at hs'
     ·simp at hs'
     ·rename_i hne;obtain⟨b',f1,f2,f3⟩:=hi.di s' cs hs';exact⟨b',hle.sm _ _ f1,f2.mono hle ((hrole b'.1 _ f2.role (by simp;exact fun h=>hne h.symm)).trans f2.role.symm) rfl,f3⟩
   · rename_i hge
     have hs'':s'=sh.length:=by
       rcases Nat.eq_or_lt_of_le (Nat.le_of_not_lt hge) with h|h
       ·simpa using h.symm
       ·rw[List.getElem?_eq_none (by simp at h⊢;omega)]at hs';simp at hs'
     subst hs'';simp at hs';subst hs';obtain⟨_,o,hh,hold⟩:=e2;exact⟨b,by simp[Gh.iq],⟨by simp[Gh.iq],o,hh,hold.mono hle⟩,e3,kD (by omega) e4⟩
 · intro s' b' h;simp only[Gh.iq]at h;split at h
   ·rename_i e;subst e;simp
   ·have:=hi.eo s' b' h;simp;omega
 ·intro τ n hn;obtain⟨tk,e1,e2,e3⟩:=hi.db τ n hn;refine⟨tk,e1,e2,e3.cap,e3.zero,fun hlt=>?_⟩;obtain⟨b',o,cc,ty,f1,f2,f3,f4,f5⟩:=e3.spare hlt;exact⟨b',o,cc,ty,f1,hrole b' _ f2 (by simp),f3,f4,f5⟩
theorem yX{cs:List PV}(h:∀p∈cs,c_ p=true):(cs.map AV.pv).all cL=true:=by
 rw[List.all_eq_true];intro x hx;obtain⟨p,hp,rfl⟩:=List.mem_map.1 hx;have:=h p hp;cases p<;>simp_all[cL,aT,c_]
theorem uJ{argTypes:Array TypeId}{type t e e1 t1 sz by_:Nat}{ag:Bool}{z:List PV}{s x y:AV}{xs:List PV}{vs vx:Value}{mem:List (Nat×List AV)}{sh sh':Sh}{aa:aG}
   (h0:argTypes[0]?=some t) (h1:argTypes[1]?=some t1)
   (hu:P.underlying t=some (.slice e)) (hu1:P.underlying t1=some (.slice e1)) (hsz:cC P e=some sz) (hby:eN P e=some by_) (hz:ct P e=some z) (hzl:z.length=sz) (hb0:0<by_)
   (hs:aB (num ns) G s vs) (hx:aB (num ns) G x vx) (hi:Inv (num ns) G w mem sh aa) (hxs:cH x=some xs) (hhx:bf sz xs=true) (h:rq sz by_ ag s xs sh aa=some (y,sh')) :
   ∃v w' G',(Builtin.append_ argTypes type #[vs,vx]).run P w=.ok v w'∧aB (num ns) G' y v∧Inv (num ns) G' w' mem sh' aa∧G.le G'∧bJ G w G' w':=by
 obtain⟨xb,xc,rfl⟩:=jB hxs hx;have hrx:=d9 hxs hx;have knownD:∀w',w'=w.drew→∀b o u,G.K b o=some u→w'.cell? ⟨b,o,none⟩=some u:=fun w' e b o u hk=>by subst e;exact hi.known b o u hk
 obtain⟨new,n1,n2,n3,n4⟩:=pS (P:=P) hrx hhx;have hleaf:((xs.flatMap aX).map AV.pv).all cL=true:=yX (jZ n2)
 have hrefs:∀k,((xs.flatMap aX).map AV.pv).all (aK k)=true:=by
   intro k;rw[List.all_eq_true];intro x hx;obtain⟨p,_,rfl⟩:=List.mem_map.1 hx;rfl
 have onto:∀base,vs=.slice base 0 0→rn sz by_ ag s xs sh=some (y,sh') →
     ∃v w' G',(Builtin.append_ argTypes type #[vs,.slice xb xs.length xc]).run P w=.ok v w'∧aB (num ns) G' y v∧Inv (num ns) G' w' mem sh' aa∧G.le G'∧bJ G w G' w':=by
   rintro base rfl ha
   unfold rn at ha;split at ha
   · rename_i hemp;have hxs0:xs=[]:=List.isEmpty_iff.1 hemp;subst hxs0;simp only[Option.some.injEq,Prod.mk.injEq]at ha;obtain⟨rfl,rfl⟩:=ha;have hnew:new=[]:=by apply List.eq_nil_of_length_eq_zero;simpa using n1
     subst hnew;have hrun:=eZ (type:=type) h0 h1 hu hu1 hsz (base:=base) (len:=0) (cap:=0) (n:=0) (xb:=xb) (xc:=xc) rfl (n4 w hi.known) (by omega);refine⟨.slice base 0 0,w,G,?_,hs,hi,G.le_refl,bJ.refl G w⟩;refine Eq.trans hrun ?_;cases base<;>simp[storeCells]
   · rename_i hemp;simp only[Option.ite_none_right_eq_some,Option.some.injEq,Prod.mk.injEq]at ha;obtain⟨hbytes,rfl,rfl⟩:=ha
     have hpos:0<xs.length:=by
       cases xs with
       |nil=>simp at hemp
       |cons _ _=>simp
     obtain⟨rest,newCap,p1,p2,p3⟩:=kz (type:=type) (aI:=#[]) (new:=new.toArray) h0 h1 hu hu1 hsz hby hz hzl (base:=base) (len:=0) (cap:=0) (n:=xs.length) (xb:=xb) (xc:=xc) rfl
       (fun w' e=>by cases base<;>simp[Builtin.firstCells,loadCells,loadCellsFrom]) (fun w' e=>n4 w' (knownD w' e)) (by omega) hb0 (by simpa using hbytes)
     have hrel:aw (num ns) G ((xs.flatMap aX).map .pv) new:=il n2
     obtain⟨g1,g2,g3⟩:=hi.drew.BS (o':=.cells (#[]++new.toArray++rest) e) (N:=(#[]++new.toArray++rest).size) (cells:=(xs.flatMap aX).map .pv)
       (.inl ⟨_,e,new,rest.toList,rfl,rfl,by simp,hrel⟩) hleaf (hrefs _)
     refine⟨_,_,_,p3,?_,g1,g2,(bJ.drew G w).trans g3⟩;simp only[aB];refine⟨(w.drew.heap.size,(#[]++new.toArray++rest).size),newCap-xs.length,by simp[Gh.dj],?_,?_⟩
     · have:xs.length+(newCap-xs.length)=newCap:=by omega
       show Value.slice (some ⟨w.heap.size,0,none⟩) (0+xs.length) newCap=Value.slice (some ⟨w.heap.size,0,none⟩) xs.length (xs.length+(newCap-xs.length));simp[this]
     · have:xs.length+(newCap-xs.length)=newCap:=by omega
       rw[this];simp[n1,p2];have:newCap=xs.length+(newCap-xs.length):=by omega
       conv=>lhs;rw[this,Nat.add_mul]
       omega
 unfold rq at h;split at h
 · have hs':=hs;simp only[aB]at hs;obtain⟨base,len,rfl,hsl⟩:=hs;have hlen:len=0:=by have:=hsl.1;simpa using this.symm
   subst hlen;exact onto base rfl h
 · rename_i τ;simp only[Option.ite_none_right_eq_some]at h;obtain⟨htok,h⟩:=h;simp only[aB]at hs;obtain⟨tk,e1,e2,e3,e4⟩:=hs
   have hlen:([]:List PV).length=tk.len:=by
     have:=hi.eS τ tk e1;rw[htok]at this;simpa using this
   obtain⟨hv,_⟩:=e4 hlen;obtain⟨tk',f1,f2,f3⟩:=hi.db τ _ htok;rw[e1]at f1;cases f1;have hcap:=f3.zero (by simpa using hlen.symm);refine onto tk.base ?_ h;rw[hv];simp only[Tk.val];rw[hcap,←hlen];rfl
 · rename_i b z' n g;split at h
   · rename_i cells hcs;simp only[Option.ite_none_right_eq_some]at h;obtain⟨⟨rfl,rfl,hmb,hnc,hbytes⟩,h⟩:=h;have hs':=hs;simp only[aB]at hs;obtain⟨blk,cap,hsm,rfl,hroom⟩:=hs;obtain⟨blk',hp',hblk,hlf,hrf⟩:=hi.di _ _ hcs;rw[hsm]at hp';cases hp';obtain⟨_,c,ty,us,suf,hh,hcz,hsp,hrel⟩:=hblk.cells hmb;have hul:us.length=cells.length:=hrel.length;split at h
     · rename_i hemp;have hxs0:xs=[]:=List.isEmpty_iff.1 hemp;subst hxs0;simp only[Option.some.injEq,Prod.mk.injEq]at h;obtain⟨rfl,rfl⟩:=h;have hnew:new=[]:=by apply List.eq_nil_of_length_eq_zero;simpa using n1
       subst hnew;have hrun:=eZ (type:=type) h0 h1 hu hu1 hsz (base:=some ⟨blk.1,0,none⟩) (len:=n) (cap:=n+cap) (n:=0) (xb:=xb) (xc:=xc) rfl (n4 w hi.known) (by omega);refine⟨.slice (some ⟨blk.1,0,none⟩) n (n+cap),w,G,?_,hs',hi,G.le_refl,bJ.refl G w⟩;refine Eq.trans hrun ?_;simp[storeCells]
     · rename_i hemp;simp only[Option.some.injEq,Prod.mk.injEq]at h;obtain⟨rfl,rfl⟩:=h
       have hpos:0<xs.length:=by
         cases xs with
         |nil=>simp at hemp
         |cons _ _=>simp
       have hrel1:aw (num ns) G (cells.take (n*z')) (us.take (n*z')):=hrel.take _
       have hlf1:(cells.take (n*z')).all cL=true:=by
         rw[List.all_eq_true]at hlf⊢;exact fun x hx=>hlf x (List.mem_of_mem_take hx)
       have hrf1:(cells.take (n*z')).all (aK (b+1))=true:=by
         rw[List.all_eq_true]at hrf⊢;exact fun x hx=>hrf x (List.mem_of_mem_take hx)
       have hblt:b<sh.length:=(List.getElem?_eq_some_iff.1 hcs).1
       have hlfN:(cells.take (n*z')++(xs.flatMap aX).map AV.pv).all cL=true:=by
         rw[List.all_append,hlf1,hleaf];rfl
       have hrfN:(cells.take (n*z')++(xs.flatMap aX).map AV.pv).all (aK (sh.length+1))=true:=by
         rw[List.all_append,kD (by omega) hrf1,hrefs];rfl
       have htl:(us.take (n*z')).length=n*z':=(by rw[List.length_take];omega);rcases Nat.lt_or_ge (n+cap) (n+xs.length) with hfit|hfit
       · -- a new block
         obtain⟨rest,newCap,p1,p2,p3⟩:=kz (type:=type) (aI:=(us.take (n*z')).toArray) (new:=new.toArray) h0 h1 hu hu1 hsz hby hz hzl (base:=some ⟨blk.1,0,none⟩) (len:=n) (cap:=n+cap) (n:=xs.length) (xb:=xb) (xc:=xc) rfl
           (fun w' e=>by subst e;exact sK (w:=w.drew) hh hsp (by omega)) (fun w' e=>n4 w' (knownD w' e)) hfit hb0 hbytes
         have hrel:aw (num ns) G (cells.take (n*z')++(xs.flatMap aX).map .pv) (us.take (n*z')++new):=hrel1.append (il n2);have hi1:=hi.drew.Sr b;have hlen:(sh.set b none).length=sh.length:=by simp
         obtain⟨g1,g2,g3⟩:=hi1.BS (o':=.cells ((us.take (n*z')).toArray++new.toArray++rest) e) (N:=((us.take (n*z')).toArray++new.toArray++rest).size) (cells:=cells.take (n*z')++(xs.flatMap aX).map .pv)
           (.inl ⟨_,e,us.take (n*z')++new,rest.toList,rfl,rfl,by simp,hrel⟩) hlfN (by rw[hlen];exact hrfN)
         rw[hlen]at g1 g2 g3;refine⟨_,_,_,p3,?_,g1,g2,(bJ.drew G w).trans g3⟩;simp only[aB];refine⟨(w.drew.heap.size,((us.take (n*z')).toArray++new.toArray++rest).size),newCap-(n+xs.length),by simp[Gh.dj],?_,?_⟩
         · have:n+xs.length+(newCap-(n+xs.length))=newCap:=by omega
           show Value.slice (some ⟨w.heap.size,0,none⟩) (n+xs.length) newCap=Value.slice (some ⟨w.heap.size,0,none⟩) (n+xs.length) (n+xs.length+(newCap-(n+xs.length)));simp[this]
         · have:n+xs.length+(newCap-(n+xs.length))=newCap:=by omega
           rw[this];simp only[Array.size_append,List.size_toArray,htl,n1,p2];have:newCap=n+xs.length+(newCap-(n+xs.length)):=by omega
           conv=>lhs;rw[this,Nat.add_mul,Nat.add_mul]
           omega
       · -- in its place
         have hmul:(n+xs.length)*z'≤(n+cap)*z':=Nat.mul_le_mul_right _ hfit;rw[Nat.add_mul]at hmul;have hcsz:n*z'+xs.length*z'≤c.size:=(by omega);obtain⟨m1,m2,m3⟩:=hi.iq hcs hsm;have vh:=run_storeCells_at (P:=P) blk.1 (n*z') ty new 0 c w hh (by rw[n1];omega) n3;have hrun:=eZ (type:=type) h0 h1 hu hu1 hsz (base:=some ⟨blk.1,0,none⟩) (len:=n) (cap:=n+cap) (n:=xs.length) (xb:=xb) (xc:=xc) rfl (n4 w hi.known) hfit;simp only[Nat.add_zero]at vh
         have hget:(sh.set b none++[some cells])[sh.length]?=some (some cells):=by
           rw[List.getElem?_append_right (by simp)];simp
         have hct:c.toList.take (n*z')=us.take (n*z'):=by
           rw[hsp,List.take_append_of_le_length (by omega)]
         obtain⟨g1,g2⟩:=m1.oD (cells':=cells.take (n*z')++(xs.flatMap aX).map .pv) (c':=(c.toList.take (n*z')++new++c.toList.drop (n*z'+new.length)).toArray) (vs:=us.take (n*z')++new) (suf:=c.toList.drop (n*z'+new.length))
           hget (by simp[Gh.iq]) hh (by
             have:c.toList.length=c.size:=by simp
             simp only[List.size_toArray,List.length_append,List.length_take,List.length_drop,n1,this];omega)
           (by simp[hct]) (aw.mono m2 (hrel1.append (il n2))) hlfN hrfN
         have hset:(sh.set b none++[some cells]).set sh.length (some (cells.take (n*z')++(xs.flatMap aX).map .pv))=sh.set b none++[some (cells.take (n*z')++(xs.flatMap aX).map .pv)]:=by
           rw[List.set_append_right _ _ (by simp)];simp
         rw[hset]at g1;refine⟨.slice (some ⟨blk.1,0,none⟩) (n+xs.length) (n+cap),_,_,?_,?_,g1,m2,m3.trans g2⟩
         ·refine Eq.trans hrun ?_;simp only[Addr.d8,Nat.zero_add,vh,Result.andThen_ok]
         · simp only[aB];refine⟨blk,cap-xs.length,by simp[Gh.iq],?_,?_⟩
           · have:n+xs.length+(cap-xs.length)=n+cap:=by omega
             rw[this]
           · have:n+xs.length+(cap-xs.length)=n+cap:=by omega
             rw[this];exact hroom
   ·simp at h
 ·simp at h
theorem BV{c:Call}{A:jS}{dst:Option Nat}{args:List Operand}{sz:Nat}{z:List PV}(h:bG P ns A dst (.call c)=some (.gv sz z,args)) :
   ∃x t e,c.callee=.builtin .clear∧c.args=#[x]∧args=[x]∧c.argTypes[0]?=some t∧P.underlying t=some (.slice e)∧cC P e=some sz∧ct P e=some z∧z.length=sz∧0<sz:=by
 obtain⟨callee,cargs,ctypes⟩:=c;simp only[bG]at h;split at h
 ·split at h<;>simp at h
 ·split at h<;>simp at h
 ·split at h<;>simp at h
 · split at h
   · split at h
     · rw[Option.ite_none_right_eq_some]at h;obtain⟨_,h⟩:=h;split at h
       ·simp at h
       ·split at h<;>simp at h
     ·simp at h
   ·simp at h
 · rename_i hcal;split at h
   · rename_i x e ha ht;split at h
     ·rename_i sz' z' hs hz;simp only[Option.ite_none_right_eq_some,Option.some.injEq,Prod.mk.injEq,AK.gv.injEq]at h;obtain⟨⟨h1,h2⟩,⟨rfl,rfl⟩,rfl⟩:=h;simp only[Option.bind_eq_some_iff]at ht;obtain⟨t,ht,htu⟩:=ht;exact⟨x,t,e,rfl,by apply Array.ext';simpa using ha,rfl,ht,dx htu,hs,hz,h1,h2⟩
     ·simp at h
   ·simp at h
 · split at h
   ·split at h<;>simp at h
   ·simp at h
 · split at h
   · split at h
     ·(repeat' (split at h))<;>simp at h
     · split at h
       ·simp at h
       · split at h
         ·simp at h
         ·split at h<;>simp at h
   ·simp at h
 ·split at h<;>simp at h
 ·simp at h
theorem FT{l:Array Value}{z:List PV}{n:Nat}(hz:cd dw l.toList=some z)(hs0:0<z.length) :
   aw (num ns) G ((List.replicate n (z.map AV.pv)).flatten) (Builtin.zeroCells l n).toList∧((List.replicate n (z.map AV.pv)).flatten).all cL=true∧∀k,((List.replicate n (z.map AV.pv)).flatten).all (aK k)=true:=by
 obtain⟨zr,zl⟩:=kB (G:=G) (ρ:=num ns) hz;have hzs:l.size=z.length:=by have:=gg hz;simp at this;omega
 refine⟨?_,?_,?_⟩
 · refine iN (by simp[Builtin.zeroCells,hzs]) fun j x v hx hv=>?_;have hlt:j<n*z.length:=by have:=(List.getElem?_eq_some_iff.1 hx).1;simpa using this
   rw[dG _ _ _ (by simpa using hlt)]at hx;obtain⟨v',g1,g2⟩:=zr.get hx
   have:v=v':=by
     simp only[Builtin.zeroCells,Array.toList_map,List.getElem?_map,Array.toList_range,Option.map_eq_some_iff]at hv;obtain⟨j',hj',hv⟩:=hv;rw[List.getElem?_range (by rw[hzs];exact hlt)]at hj';cases hj';simp only[List.length_map]at g1;rw[hzs]at hv;have hm:j % z.length<l.size:=by rw[hzs];exact Nat.mod_lt _ hs0
     rw[getElem!_pos l (j % z.length) hm]at hv;have g1':l[j % z.length]?=some v':=by simpa using g1
     rw[Array.getElem?_eq_getElem hm]at g1';simp at g1';rw[←hv,g1']
   subst this;exact g2
 ·rw[List.all_eq_true]at *;intro x hx;simp only[List.mem_flatten,List.mem_replicate]at hx;obtain⟨l,⟨_,rfl⟩,hx⟩:=hx;exact zl x hx
 ·intro k;have:=wQ k z;rw[List.all_eq_true]at *;intro x hx;simp only[List.mem_flatten,List.mem_replicate]at hx;obtain⟨l,⟨_,rfl⟩,hx⟩:=hx;exact this x hx
theorem wS{argTypes:Array TypeId}{type t e sz:Nat}{z:List PV}{x:AV}{v:Value}{mem:List (Nat×List AV)}{sh sh':Sh}{aa:aG}
   (h0:argTypes[0]?=some t) (hu:P.underlying t=some (.slice e)) (hz:ct P e=some z) (hzl:z.length=sz) (hs0:0<sz)
   (hx:aB (num ns) G x v) (hi:Inv (num ns) G w mem sh aa) (h:nv sz z sh (ss sz x)=some sh') :
   ∃w',(Builtin.clear_ argTypes type #[v]).run P w=.ok (.tuple #[]) w'∧Inv (num ns) G w' mem sh' aa∧bJ G w G w':=by
 cases hsub:ss sz x with
 |none=>rw[hsub]at h;simp[nv]at h
 |some q=>
   obtain⟨b,off,n⟩:=q;rw[hsub]at h
   have hv:∃blk base cap,G.sm b=some blk∧v=.slice base n cap∧(n=0∨base=some ⟨blk.1,off,none⟩):=by
     unfold ss at hsub;split at hsub
     ·simp only[Option.ite_none_right_eq_some,Option.some.injEq,Prod.mk.injEq]at hsub;obtain⟨rfl,rfl,rfl,rfl⟩:=hsub;simp only[aB]at hx;obtain⟨blk,cap,e1,e2,_⟩:=hx;exact⟨blk,_,_,e1,e2,.inr rfl⟩
     ·simp only[Option.some.injEq,Prod.mk.injEq]at hsub;obtain⟨rfl,rfl,rfl⟩:=hsub;simpa only[aB] using hx
     ·simp at hsub
   obtain⟨blk,base,cap,hsm,rfl,hbase⟩:=hv;simp only[nv]at h;split at h
   · rename_i cells hcs;simp only[Option.ite_none_right_eq_some,Option.some.injEq]at h;obtain⟨⟨hmb,hle,_⟩,rfl⟩:=h;by_cases hn:n=0
     · subst hn;have e1:aQ cells off ((List.replicate 0 (z.map AV.pv)).flatten)=cells:=by simp[aQ]
       have e2:sh.set b (some cells)=sh:=by
         apply List.ext_getElem?
         intro j;rw[List.getElem?_set];split
         · rename_i e;subst e;split
           ·exact hcs.symm
           ·rename_i hj;rw[List.getElem?_eq_none (by omega)]at hcs;simp at hcs
         ·rfl
       rw[e1,e2];refine⟨w,?_,hi,bJ.refl G w⟩;cases base<;>simp[Builtin.clear_,h0,run_underlying hu]
     · have hb:=hbase.resolve_left hn;subst hb;obtain⟨blk',hp',hblk,hlf,hrf⟩:=hi.di _ _ hcs;rw[hsm]at hp';cases hp';obtain⟨_,c,ty,us,suf,hh,hcz,hsp,hrel⟩:=hblk.cells hmb;have hul:us.length=cells.length:=hrel.length;obtain⟨zv,hz1,hz2⟩:=gh (P:=P) (w:=w) hz;have hz0:0<z.length:=(by omega);obtain⟨zr,zl,zf⟩:=FT (ns:=ns) (G:=G) (n:=n) hz2 hz0;have hone:∀u∈(Builtin.zeroCells zv.cells n).toList,u.oneCell'=true:=kA zr (iM zl);have hzn:(Builtin.zeroCells zv.cells n).toList.length=n*sz:=(by rw[zr.length];simp[hzl]);have hcl:c.toList.length=us.length+suf.length:=(by rw[hsp];simp);have hcl':c.size=us.length+suf.length:=(by simpa using hcl);have vh:=run_storeCells_at (P:=P) blk.1 off ty (Builtin.zeroCells zv.cells n).toList 0 c w hh (by rw[hzn];omega) hone;simp only[Nat.add_zero]at vh;have hctt:c.toList.take off=us.take off:=by rw[hsp,List.take_append_of_le_length (by omega)]
       have hcd:c.toList.drop (off+(Builtin.zeroCells zv.cells n).toList.length)=us.drop (off+(Builtin.zeroCells zv.cells n).toList.length)++suf:=by
         rw[hsp,List.drop_append_of_le_length (by rw[hzn];omega)]
       have hleaf:(aQ cells off ((List.replicate n (z.map AV.pv)).flatten)).all cL=true:=by
         rw[List.all_eq_true]at *;intro y hy;simp only[aQ,List.mem_append]at hy;rcases hy with (hy|hy)|hy
         ·exact hlf y (List.mem_of_mem_take hy)
         ·exact zl y hy
         ·exact hlf y (List.mem_of_mem_drop hy)
       have hrefs:(aQ cells off ((List.replicate n (z.map AV.pv)).flatten)).all (aK (b+1))=true:=by
         have zf':=zf (b+1);rw[List.all_eq_true]at *;intro y hy;simp only[aQ,List.mem_append]at hy;rcases hy with (hy|hy)|hy
         ·exact hrf y (List.mem_of_mem_take hy)
         ·exact zf' y hy
         ·exact hrf y (List.mem_of_mem_drop hy)
       have hrel':aw (num ns) G (aQ cells off ((List.replicate n (z.map AV.pv)).flatten)) (us.take off++(Builtin.zeroCells zv.cells n).toList++us.drop (off+(Builtin.zeroCells zv.cells n).toList.length)):=eY off hrel zr
       obtain⟨g1,g2⟩:=hi.oD (cells':=aQ cells off ((List.replicate n (z.map AV.pv)).flatten)) (c':=(c.toList.take off++(Builtin.zeroCells zv.cells n).toList++c.toList.drop (off+(Builtin.zeroCells zv.cells n).toList.length)).toArray)
         (vs:=us.take off++(Builtin.zeroCells zv.cells n).toList++us.drop (off+(Builtin.zeroCells zv.cells n).toList.length)) (suf:=suf) hcs hsm hh (by
           simp only[List.size_toArray,List.length_append,List.length_take,List.length_drop,hzn,hcl];rw[←hcz,hcl'];omega)
         (by simp only[hctt,hcd,List.append_assoc]) hrel' hleaf hrefs
       refine⟨_,?_,g1,g2⟩;cases n with
       |zero=>exact absurd rfl hn
       |succ n=>
         simp only[Builtin.clear_,h0];simp[run_underlying hu,hz1,vh]
   ·simp at h
end
end Go.Ab
namespace Go.Ab
section
variable {P:Program} {ns:Names} {G:Gh} {w:World} {A:jS}
theorem rC{els:List PV}{base:Option Addr}{len cap sz k:Nat}(hr:Rel G.K (.au els) (.slice base len cap))(hs:bf sz els=true)(hk:k≤els.length) :
   ∃vss:List Value,vss.length=k*sz∧dF G.K ((els.take k).flatMap aX) vss∧(∀u∈vss,u.oneCell'=true) ∧
     ∀w:World,(∀b o u,G.K b o=some u→w.cell? ⟨b,o,none⟩=some u)→(Builtin.firstCells sz k (.slice base len cap)).run P w=.ok vss.toArray w:=by
 obtain⟨base',len',cap',e,_,hlen,hrow'⟩:=ca.1 hr;cases e;by_cases hnil:els=[]
 · subst hnil;have:k=0:=by simpa using hk
   subst this;refine⟨[],by simp,by simp[dF],by simp,fun w _=>?_⟩;cases base with
   |none=>simp[Builtin.firstCells]
   |some a=>simp[Builtin.firstCells,loadCells,loadCellsFrom]
 ·obtain⟨b,o,sz',rfl,hrow⟩:=hrow'.resolve_left hnil;have:=hrow.sz hs hnil;subst this;obtain⟨vss,g1,g2,g3,g4⟩:=(hrow.take k).sJ;rw[List.length_take,Nat.min_eq_left hk]at g1;refine⟨vss,g1,g3,g4,fun w hk=>?_⟩;have hl:=run_loadCells_list (P:=P) w ⟨b,o,none⟩ vss (fun j u hj=>by rw[Addr.d8];exact hk _ _ _ (g2 j u hj));rw[g1]at hl;simpa[Builtin.firstCells] using hl
theorem yY{argTypes:Array TypeId}{type t e sz k:Nat}{xs:List PV}{x y:AV}{v u:Value}{mem:List (Nat×List AV)}{sh sh':Sh}{aa:aG}
   (h0:argTypes[0]?=some t) (hu:P.underlying t=some (.slice e)) (hsz:cC P e=some sz)
   (hx:aB (num ns) G x v) (hy:aB (num ns) G y u) (hi:Inv (num ns) G w mem sh aa) (hxs:cH y=some xs) (h:ou sz sh xs x=some (k,sh')) :
   ∃w',(Builtin.copy_ argTypes type #[v,u]).run P w=.ok (.int .i64 k) w'∧Inv (num ns) G w' mem sh' aa∧bJ G w G w':=by
 obtain⟨xb,xc,rfl⟩:=jB hxs hy;have hrx:=d9 hxs hy;unfold ou at h;split at h
 · rename_i b z n _;split at h
   · rename_i cells hcs;simp only[Option.ite_none_right_eq_some,Option.some.injEq,Prod.mk.injEq]at h;obtain⟨⟨rfl,hhx,hmb,hle⟩,rfl,rfl⟩:=h;simp only[aB]at hx;obtain⟨blk,cap,hsm,rfl,_⟩:=hx;have hkx:min xs.length n≤xs.length:=Nat.min_le_left _ _;have hkn:min xs.length n≤n:=Nat.min_le_right _ _;obtain⟨new,n1,n2,n3,n4⟩:=rC (P:=P) hrx hhx hkx
     have htk:xs.take (min xs.length n)=xs.take n:=by
       rcases Nat.le_total xs.length n with h|h
       ·rw[Nat.min_eq_left h,List.take_of_length_le h,List.take_of_length_le (Nat.le_refl _)]
       ·rw[Nat.min_eq_right h]
     rw[htk]at n2;generalize hk:min xs.length n=k at *;have hleafN:(((xs.take n).flatMap aX).map AV.pv).all cL=true:=yX (jZ n2)
     have hrefsN:∀k,(((xs.take n).flatMap aX).map AV.pv).all (aK k)=true:=by
       intro k;rw[List.all_eq_true];intro x hx;obtain⟨p,_,rfl⟩:=List.mem_map.1 hx;rfl
     have hrelN:aw (num ns) G (((xs.take n).flatMap aX).map .pv) new:=il n2;obtain⟨blk',hp',hblk,hlf,hrf⟩:=hi.di _ _ hcs;rw[hsm]at hp';cases hp';obtain⟨_,c,ty,us,suf,hh,hcz,hsp,hrel⟩:=hblk.cells hmb;have hul:us.length=cells.length:=hrel.length;have hkz:k*z≤n*z:=Nat.mul_le_mul_right z hkn;have hcl:c.toList.length=us.length+suf.length:=(by rw[hsp];simp);have hcl':c.size=us.length+suf.length:=(by simpa using hcl);have vh:=run_storeCells_at (P:=P) blk.1 0 ty new 0 c w hh (by rw[n1];omega) n3;simp only[Nat.add_zero]at vh;have hctt:c.toList.take 0=us.take 0:=by simp
     have hcd:c.toList.drop (0+new.length)=us.drop (0+new.length)++suf:=by
       rw[hsp,List.drop_append_of_le_length (by rw[n1];omega)]
     have hleaf:(aQ cells 0 (((xs.take n).flatMap aX).map AV.pv)).all cL=true:=by
       rw[List.all_eq_true]at *;intro y hy;simp only[aQ,List.mem_append]at hy;rcases hy with (hy|hy)|hy
       ·exact hlf y (List.mem_of_mem_take hy)
       ·exact hleafN y hy
       ·exact hlf y (List.mem_of_mem_drop hy)
     have hrefs:(aQ cells 0 (((xs.take n).flatMap aX).map AV.pv)).all (aK (b+1))=true:=by
       have zf':=hrefsN (b+1);rw[List.all_eq_true]at *;intro y hy;simp only[aQ,List.mem_append]at hy;rcases hy with (hy|hy)|hy
       ·exact hrf y (List.mem_of_mem_take hy)
       ·exact zf' y hy
       ·exact hrf y (List.mem_of_mem_drop hy)
     have hrel':=eY 0 hrel hrelN
     obtain⟨g1,g2⟩:=hi.oD (cells':=aQ cells 0 (((xs.take n).flatMap aX).map AV.pv)) (c':=(c.toList.take 0++new++c.toList.drop (0+new.length)).toArray)
       (vs:=us.take 0++new++us.drop (0+new.length)) (suf:=suf) hcs hsm hh (by
         simp only[List.size_toArray,List.length_append,List.length_take,List.length_drop,n1,hcl];rw[←hcz,hcl'];omega)
       (by simp only[hctt,hcd,List.append_assoc]) hrel' hleaf hrefs
     refine⟨_,?_,g1,g2⟩;have hmin:Nat.min xs.length n=k:=hk;have hl:=n4 w hi.known;simp[Builtin.copy_,h0,run_underlying hu,Builtin.lenOf,hmin,dc hsz,hl,vh,goInt]
   ·simp at h
 ·simp at h
theorem FU{c:Call}{dst:Option Nat}{args:List Operand}{sz:Nat}(h:bG P ns A dst (.call c)=some (.jx sz,args)) :
   ∃x y t e t1 e1,c.callee=.builtin .copy∧c.args=#[x,y]∧args=[x,y]∧c.argTypes[0]?=some t∧c.argTypes[1]?=some t1∧P.underlying t=some (.slice e)∧P.underlying t1=some (.slice e1)∧cC P e=some sz:=by
 obtain⟨callee,cargs,ctypes⟩:=c;simp only[bG]at h
 repeat' (split at h)
 all_goals try (simp at h;done)
 rename_i x y e e1 ha ht ht1 _ sz' hs;simp only[Option.some.injEq,Prod.mk.injEq,AK.jx.injEq]at h;obtain⟨rfl,rfl⟩:=h;simp only[Option.bind_eq_some_iff]at ht ht1;obtain⟨t,ht,htu⟩:=ht;obtain⟨t1,ht1,htu1⟩:=ht1;exact⟨x,y,t,e,t1,e1,rfl,by apply Array.ext';simpa using ha,rfl,ht,ht1,dx htu,dx htu1,hs⟩
end
end Go.Ab
namespace Go.Ab
section
variable {P:Program} {ns:Names} {A:jS} {dst:Option Nat} {op:Op} {args:List Operand}
theorem yZ{k o sz:Nat}{ag:Bool}(h:bG P ns A dst op=some (.bX k o sz ag,args)) :
   ∃t tx,op=.load t (.tmp tx)∧args=[.tmp tx]∧cC P t=some sz∧gR P t=some ag:=by
 cases op<;>simp only[bG]at h
 all_goals (repeat' (split at h))
 all_goals (try (simp at h;done))
 all_goals
   simp only[Option.some.injEq,Prod.mk.injEq,AK.bX.injEq]at h;obtain⟨⟨rfl,rfl,rfl,rfl⟩,rfl⟩:=h;exact⟨_,_,rfl,rfl,by assumption,by assumption⟩
theorem y1{sz:Nat}{ag:Bool}(h:bG P ns A dst op=some (.dU sz ag,args)) :
   ∃t tx,op=.load t (.tmp tx)∧args=[.tmp tx]∧cC P t=some sz∧gR P t=some ag:=by
 cases op<;>simp only[bG]at h
 all_goals (repeat' (split at h))
 all_goals (try (simp at h;done))
 all_goals
   simp only[Option.some.injEq,Prod.mk.injEq,AK.dU.injEq]at h;obtain⟨⟨rfl,rfl⟩,rfl⟩:=h;exact⟨_,_,rfl,rfl,by assumption,by assumption⟩
theorem wT{k o sz:Nat}(h:bG P ns A dst op=some (.bB k o sz,args)) :
   ∃t tx v,op=.store t (.tmp tx) v∧args=[.tmp tx,v]∧cC P t=some sz:=by
 cases op<;>simp only[bG]at h
 all_goals (repeat' (split at h))
 all_goals (try (simp at h;done))
 all_goals
   simp only[Option.some.injEq,Prod.mk.injEq,AK.bB.injEq]at h;obtain⟨⟨rfl,rfl,rfl⟩,rfl⟩:=h;exact⟨_,_,_,rfl,rfl,by assumption⟩
theorem wU{sz:Nat}(h:bG P ns A dst op=some (.fo sz,args)) :
   ∃t tx v,op=.store t (.tmp tx) v∧args=[.tmp tx,v]∧cC P t=some sz:=by
 cases op<;>simp only[bG]at h
 all_goals (repeat' (split at h))
 all_goals (try (simp at h;done))
 all_goals
   simp only[Option.some.injEq,Prod.mk.injEq,AK.fo.injEq]at h;obtain⟨rfl,rfl⟩:=h;exact⟨_,_,_,rfl,rfl,by assumption⟩
theorem y3{k:Nat}{z:List PV}(h:bG P ns A dst op=some (.alloc k z,args)) :
   ∃t,op=.alloc t∧args=[]∧ct P t=some z∧dst=some k:=by
 cases op<;>simp only[bG]at h
 all_goals (repeat' (split at h))
 all_goals (try (simp at h;done))
 all_goals
   simp only[Option.some.injEq,Prod.mk.injEq,AK.alloc.injEq]at h;obtain⟨⟨rfl,rfl⟩,rfl⟩:=h;exact⟨_,rfl,rfl,by assumption,rfl⟩
theorem wV{z:List PV}(h:bG P ns A dst op=some (.iX z,args)) :
   ∃t,op=.alloc t∧args=[]∧ct P t=some z:=by
 cases op<;>simp only[bG]at h
 all_goals (repeat' (split at h))
 all_goals (try (simp at h;done))
 all_goals
   simp only[Option.some.injEq,Prod.mk.injEq,AK.iX.injEq]at h;obtain⟨rfl,rfl⟩:=h;exact⟨_,rfl,rfl,by assumption⟩
theorem FV{k sz:Nat}(h:bG P ns A dst op=some (.box k sz,args)) :
   ∃t x,op=.box t x∧args=[x]∧cC P t=some sz∧dst=some k:=by
 cases op<;>simp only[bG]at h
 all_goals (repeat' (split at h))
 all_goals (try (simp at h;done))
 all_goals
   simp only[Option.some.injEq,Prod.mk.injEq,AK.box.injEq]at h;obtain⟨⟨rfl,rfl⟩,rfl⟩:=h;exact⟨_,_,rfl,rfl,by assumption,rfl⟩
theorem BW{sz:Nat}(h:bG P ns A dst op=some (.oq sz,args)) :
   ∃t x,op=.box t x∧args=[x]∧cC P t=some sz:=by
 cases op<;>simp only[bG]at h
 all_goals (repeat' (split at h))
 all_goals (try (simp at h;done))
 all_goals
   simp only[Option.some.injEq,Prod.mk.injEq,AK.oq.injEq]at h;obtain⟨rfl,rfl⟩:=h;exact⟨_,_,rfl,rfl,by assumption⟩
theorem sL{k:AK}(h:bG P ns A dst op=some (k,args))(hk:(∃sz by_ ag z,k=.iY sz by_ ag z)∨∃d sz by_ z,k=.ik d sz by_ z) :
   ∃t e l c sz by_ ag z,op=.makeSlice t l c∧args=[l,c]∧P.underlying t=some (.slice e)∧cC P e=some sz∧eN P e=some by_∧ct P e=some z∧z.length=sz∧0<sz ∧
     (k=.iY sz by_ ag z∨∃d,dst=some d∧k=.ik d sz by_ z):=by
 have hno:∀{o:MY},k≠.v o:=by rintro o rfl;rcases hk with⟨_,_,_,_,e⟩|⟨_,_,_,_,e⟩<;>cases e
 cases op with
 |makeSlice t l c=>
   simp only[bG]at h;split at h
   · rename_i e he;split at h
     · rename_i sz by_ ag z h1 h2 h3 h4;rw[Option.ite_none_right_eq_some]at h;obtain⟨⟨h5,h6⟩,h⟩:=h;split at h
       ·rename_i k' d hd;rw[Option.ite_none_right_eq_some]at h;obtain⟨_,h⟩:=h;simp only[Option.some.injEq,Prod.mk.injEq]at h;exact⟨t,e,l,c,sz,by_,ag,z,rfl,h.2.symm,dx he,h1,h2,h4,h5,h6,.inr ⟨d,rfl,h.1.symm⟩⟩
       ·simp at h
       ·simp only[Option.some.injEq,Prod.mk.injEq]at h;exact⟨t,e,l,c,sz,by_,ag,z,rfl,h.2.symm,dx he,h1,h2,h4,h5,h6,.inl h.1.symm⟩
     ·simp at h
   ·simp at h
 |_=>
   exfalso;simp only[bG]at h
   (repeat' (split at h))
   all_goals (try (simp at h;done))
   all_goals (try simp only[Option.some.injEq,Prod.mk.injEq,Option.map_eq_some_iff,Option.ite_none_right_eq_some]at h)
   all_goals (rcases hk with⟨_,_,_,_,rfl⟩|⟨_,_,_,_,rfl⟩<;>simp at h)
theorem y4{sz by_:Nat}{ag:Bool}{z:List PV}(h:bG P ns A dst op=some (.iY sz by_ ag z,args)) :
   ∃t e l c,op=.makeSlice t l c∧args=[l,c]∧P.underlying t=some (.slice e)∧cC P e=some sz∧eN P e=some by_∧ct P e=some z∧z.length=sz∧0<sz:=by
 obtain⟨t,e,l,c,sz',by',ag',z',h1,h2,h3,h4,h5,h6,h7,h8,h9⟩:=sL h (.inl ⟨_,_,_,_,rfl⟩);rcases h9 with h9|⟨d,_,h9⟩<;>cases h9;exact⟨t,e,l,c,h1,h2,h3,h4,h5,h6,h7,h8⟩
theorem y5{d sz by_:Nat}{z:List PV}(h:bG P ns A dst op=some (.ik d sz by_ z,args)) :
   ∃t e l c,op=.makeSlice t l c∧args=[l,c]∧P.underlying t=some (.slice e)∧cC P e=some sz∧eN P e=some by_∧ct P e=some z∧z.length=sz∧0<sz∧dst=some d:=by
 obtain⟨t,e,l,c,sz',by',ag',z',h1,h2,h3,h4,h5,h6,h7,h8,h9⟩:=sL h (.inr ⟨_,_,_,_,rfl⟩);rcases h9 with h9|⟨d',h0,h9⟩<;>cases h9;exact⟨t,e,l,c,h1,h2,h3,h4,h5,h6,h7,h8,h0⟩
theorem wW{sz by_:Nat}(h:bG P ns A dst op=some (.append sz by_,args)):∃c,op=.call c:=by
 cases op<;>simp only[bG]at h
 all_goals (repeat' (split at h))
 all_goals (try (simp at h;done))
 all_goals exact⟨_,rfl⟩
theorem uK{sz by_:Nat}{ag:Bool}(h:bG P ns A dst op=some (.dC sz by_ ag,args)):∃c,op=.call c:=by
 cases op<;>simp only[bG]at h
 all_goals (repeat' (split at h))
 all_goals (try (simp at h;done))
 all_goals exact⟨_,rfl⟩
theorem y6{sz:Nat}(h:bG P ns A dst op=some (.jx sz,args)):∃c,op=.call c:=by
 cases op<;>simp only[bG]at h
 all_goals (repeat' (split at h))
 all_goals (try (simp at h;done))
 all_goals exact⟨_,rfl⟩
theorem wX{sz:Nat}{z:List PV}(h:bG P ns A dst op=some (.gv sz z,args)):∃c,op=.call c:=by
 cases op<;>simp only[bG]at h
 all_goals (repeat' (split at h))
 all_goals (try (simp at h;done))
 all_goals exact⟨_,rfl⟩
theorem BX{k:AK}(hk:(match k with| .aJ _| .en _| .bz ..| .lH _| .fm| .eU| .clone ..| .gr ..=>true|_=>false)=true)(h:bG P ns A dst op=some (k,args)):∃c,op=.call c:=by
 cases op<;>simp only[bG]at h
 all_goals (repeat' (split at h))
 all_goals (try (simp at h;done))
 all_goals (first|exact⟨_,rfl⟩|skip)
 all_goals (simp at h;first|(obtain⟨rfl,_⟩:=h;simp at hk;done)|(obtain⟨_,_,rfl,_⟩:=h;simp at hk;done))
end
section
variable {orc:dX} {vals:List AV} {cells:Option (List AV)} {sh:Sh} {aa:aG} {out:Out}
theorem gY{key off sz:Nat}{ag:Bool}(h:exec orc (.bX key off sz ag) vals cells sh aa=some out) :
   ∃cs x,vals=[.az key off]∧cells=some cs∧bQ ag sz cs off=some x∧out=⟨x,none,sh,aa⟩:=by
 rcases vals with _|⟨v,_|⟨u,r⟩⟩
 ·simp[exec]at h
 · cases v with
   |az d o=>
     simp only[exec,Option.ite_none_right_eq_some]at h;obtain⟨⟨rfl,rfl⟩,h⟩:=h;cases cells with
     |none=>simp at h
     |some cs=>
       simp only[Option.map_eq_some_iff]at h;obtain⟨x,h1,rfl⟩:=h;exact⟨cs,x,rfl,rfl,h1,rfl⟩
   |_=>simp[exec]at h
 ·cases v<;>simp[exec]at h
theorem ir{key off sz:Nat}(h:exec orc (.bB key off sz) vals cells sh aa=some out) :
   ∃cs v,vals=[.az key off,v]∧cells=some cs∧(a_ v).length=sz∧(a_ v).all aT=true∧off+sz≤cs.length∧out=⟨.un,some (aQ cs off (a_ v)),sh,aa⟩:=by
 rcases vals with _|⟨v,_|⟨u,_|⟨_,_⟩⟩⟩
 ·simp[exec]at h
 ·cases v<;>simp[exec]at h
 · cases v with
   |az d o=>
     simp only[exec,Option.ite_none_right_eq_some]at h;obtain⟨⟨rfl,rfl,h1,h2⟩,h⟩:=h;cases cells with
     |none=>simp at h
     |some cs=>
       simp only[Option.ite_none_right_eq_some,Option.some.injEq]at h;obtain⟨h3,rfl⟩:=h;exact⟨cs,u,rfl,rfl,h1,h2,h3,rfl⟩
   |_=>simp[exec]at h
 ·cases v<;>simp[exec]at h
theorem jg{key:Nat}{z:List PV}(h:exec orc (.alloc key z) vals cells sh aa=some out) :
   vals=[]∧cells=none∧out=⟨.az key 0,some (z.map bA.zeroCell),sh,aa⟩:=by
 cases vals with
 |nil=>cases cells with
   |none=>simp[exec]at h;exact⟨rfl,rfl,h.symm⟩
   |some _=>simp[exec]at h
 |cons _ _=>simp[exec]at h
theorem lO{key sz:Nat}(h:exec orc (.box key sz) vals cells sh aa=some out) :
   ∃v,vals=[v]∧cells=none∧(a_ v).length=sz∧(a_ v).all aT=true∧out=⟨.az key 0,some (a_ v),sh,aa⟩:=by
 rcases vals with _|⟨v,_|⟨u,r⟩⟩
 ·simp[exec]at h
 · cases cells with
   |none=>
     simp only[exec,Option.ite_none_right_eq_some,Option.some.injEq]at h;obtain⟨⟨h1,h2⟩,rfl⟩:=h;exact⟨v,rfl,rfl,h1,h2,rfl⟩
   |some _=>simp[exec]at h
 ·simp[exec]at h
theorem kE{sz:Nat}{ag:Bool}(h:exec orc (.dU sz ag) vals cells sh aa=some out) :
   ∃p x,vals=[p]∧out=⟨x,none,sh,aa⟩∧((∃cs,p=.fH cs∧cM ag sz cs=some x)∨∃b off cs,p=.aW b off∧sh[b]?=some (some cs)∧bU cs=false∧bQ ag sz cs off=some x):=by
 rcases vals with _|⟨v,_|⟨u,r⟩⟩
 ·simp[exec]at h
 · simp only[exec]at h;split at h
   ·rename_i cs;simp only[Option.map_eq_some_iff]at h;obtain⟨x,h1,rfl⟩:=h;exact⟨_,x,rfl,rfl,.inl ⟨cs,rfl,h1⟩⟩
   · rename_i b off;split at h
     · rename_i cs hcs;split at h
       ·cases h
       ·rename_i hm;simp only[Option.map_eq_some_iff]at h;obtain⟨x,h1,rfl⟩:=h;exact⟨_,x,rfl,rfl,.inr ⟨b,off,cs,rfl,hcs,by simpa using hm,h1⟩⟩
     ·simp at h
   ·simp at h
 ·simp[exec]at h
theorem iu{sz:Nat}(h:exec orc (.fo sz) vals cells sh aa=some out) :
   ∃b off v cs,vals=[.aW b off,v]∧sh[b]?=some (some cs)∧bU cs=false∧(cr v).length=sz∧off+sz≤cs.length∧(cr v).all cL=true∧(cr v).all (aK (b+1))=true ∧
     out=⟨.un,none,sh.set b (some (aQ cs off (cr v))),aa⟩:=by
 rcases vals with _|⟨v,_|⟨u,_|⟨_,_⟩⟩⟩
 ·simp[exec]at h
 ·cases v<;>simp[exec]at h
 · cases v with
   |aW b off=>
     simp only[exec]at h;split at h
     ·rename_i cs hcs;simp only[Option.ite_none_right_eq_some,Option.some.injEq]at h;obtain⟨⟨h0,h1,h2,h3,h4⟩,rfl⟩:=h;exact⟨b,off,u,cs,rfl,hcs,h0,h1,h2,h3,h4,rfl⟩
     ·simp at h
   |_=>simp[exec]at h
 ·cases v<;>simp[exec]at h
theorem mD{sz:Nat}(h:exec orc (.oq sz) vals cells sh aa=some out) :
   ∃v,vals=[v]∧(cr v).length=sz∧(cr v).all cL=true∧(cr v).all (aK sh.length)=true∧out=⟨.aW sh.length 0,none,sh++[some (cr v)],aa⟩:=by
 rcases vals with _|⟨v,_|⟨u,r⟩⟩
 ·simp[exec]at h
 ·simp only[exec,Option.ite_none_right_eq_some,Option.some.injEq]at h;obtain⟨⟨h1,h2,h3⟩,rfl⟩:=h;exact⟨v,rfl,h1,h2,h3,rfl⟩
 ·simp[exec]at h
theorem jD{z:List PV}(h:exec orc (.iX z) vals cells sh aa=some out):vals=[]∧out=⟨.aW sh.length 0,none,sh++[some (z.map bA.zeroCell)],aa⟩:=by
 cases vals with
 |nil=>simp[exec]at h;exact⟨rfl,h.symm⟩
 |cons _ _=>simp[exec]at h
theorem kF{sz by_:Nat}{ag:Bool}{z:List PV}(h:exec orc (.iY sz by_ ag z) vals cells sh aa=some out) :
   ∃k k' n,vals=[.pv (.int k n),.pv (.int k' n)]∧0≤n∧n≤9223372036854775807∧n*by_≤140737488355328∧z.length=sz ∧
     out=⟨.aP sh.length sz n.toNat ag,none,sh++[some ((List.replicate n.toNat (z.map .pv)).flatten)],aa⟩:=by
 rcases vals with _|⟨v,_|⟨u,_|⟨_,_⟩⟩⟩
 ·simp[exec]at h
 ·simp[exec]at h
 · cases v with
   |pv p=>cases p with
     |int k n=>cases u with
       |pv q=>cases q with
         |int k' n'=>
           simp only[exec,Option.ite_none_right_eq_some,Option.some.injEq]at h;obtain⟨⟨rfl,h1,h2,h3,h4⟩,rfl⟩:=h;exact⟨k,k',n,rfl,h1,h2,h3,h4,rfl⟩
         |_=>simp[exec]at h
       |_=>simp[exec]at h
     |_=>simp[exec]at h
   |_=>simp[exec]at h
 ·simp[exec]at h
theorem jh{d sz by_:Nat}{z:List PV}(h:exec orc (.ik d sz by_ z) vals cells sh aa=some out) :
   ∃k k' n,vals=[.pv (.int k n),.pv (.int k' n)]∧0≤n∧n≤9223372036854775807∧n*by_≤140737488355328∧z.length=sz∧cells=none ∧
     out=⟨.jt d n.toNat,some ((List.replicate n.toNat (z.map .pv)).flatten),sh,aa⟩:=by
 rcases vals with _|⟨v,_|⟨u,_|⟨_,_⟩⟩⟩
 ·simp[exec]at h
 ·simp[exec]at h
 · cases v with
   |pv p=>cases p with
     |int k n=>cases u with
       |pv q=>cases q with
         |int k' n'=>
           cases cells with
           |some _=>simp[exec]at h
           |none=>
           simp only[exec,Option.ite_none_right_eq_some,Option.some.injEq]at h;obtain⟨⟨rfl,h1,h2,h3,h4⟩,rfl⟩:=h;exact⟨k,k',n,rfl,h1,h2,h3,h4,rfl,rfl⟩
         |_=>simp[exec]at h
       |_=>simp[exec]at h
     |_=>simp[exec]at h
   |_=>simp[exec]at h
 ·simp[exec]at h
theorem nC{sz by_:Nat}(h:exec orc (.clone sz by_) vals cells sh aa=some out) :
   ∃x y ts,vals=[x]∧bR sz by_ (.dB []) x aa=some (y,ts)∧out=⟨y,none,sh,ts⟩:=by
 rcases vals with _|⟨v,_|⟨_,_⟩⟩
 ·simp[exec]at h
 ·simp only[exec,Option.map_eq_some_iff]at h;obtain⟨⟨y,ts⟩,h1,rfl⟩:=h;exact⟨v,y,ts,rfl,h1,rfl⟩
 ·simp[exec]at h
theorem jE{sz by_:Nat}(h:exec orc (.append sz by_) vals cells sh aa=some out) :
   ∃s x y ts,vals=[s,x]∧bR sz by_ s x aa=some (y,ts)∧out=⟨y,none,sh,ts⟩:=by
 rcases vals with _|⟨v,_|⟨u,_|⟨_,_⟩⟩⟩
 ·simp[exec]at h
 ·simp[exec]at h
 ·simp only[exec,Option.map_eq_some_iff]at h;obtain⟨⟨y,ts⟩,h1,rfl⟩:=h;exact⟨v,u,y,ts,rfl,h1,rfl⟩
 ·simp[exec]at h
theorem kG{sz:Nat}(h:exec orc (.jx sz) vals cells sh aa=some out) :
   ∃x y xs k sh',vals=[x,y]∧cH y=some xs∧ou sz sh xs x=some (k,sh')∧out=⟨.pv (.int .i64 (k:Int)),none,sh',aa⟩:=by
 rcases vals with _|⟨v,_|⟨u,_|⟨_,_⟩⟩⟩
 ·simp[exec]at h
 ·simp[exec]at h
 · simp only[exec]at h;cases hx:cH u with
   |none=>rw[hx]at h;simp at h
   |some xs=>
     rw[hx]at h;simp only[Option.map_eq_some_iff]at h;obtain⟨⟨k,sh'⟩,h1,rfl⟩:=h;exact⟨v,u,xs,k,sh',rfl,hx,h1,rfl⟩
 ·simp[exec]at h
theorem qK{sz:Nat}{z:List PV}(h:exec orc (.gv sz z) vals cells sh aa=some out) :
   ∃x sh',vals=[x]∧nv sz z sh (ss sz x)=some sh'∧out=⟨.qx [],none,sh',aa⟩:=by
 rcases vals with _|⟨v,_|⟨u,_⟩⟩
 ·simp[exec]at h
 ·simp only[exec,Option.map_eq_some_iff]at h;obtain⟨sh',h1,rfl⟩:=h;exact⟨v,sh',rfl,h1,rfl⟩
 ·simp[exec]at h
theorem kH{sz by_:Nat}{ag:Bool}(h:exec orc (.dC sz by_ ag) vals cells sh aa=some out) :
   ∃s x xs y sh',vals=[s,x]∧cH x=some xs∧bf sz xs=true∧rq sz by_ ag s xs sh aa=some (y,sh')∧out=⟨y,none,sh',aa⟩:=by
 rcases vals with _|⟨v,_|⟨u,_|⟨_,_⟩⟩⟩
 ·simp[exec]at h
 ·simp[exec]at h
 · simp only[exec]at h;split at h
   ·rename_i xs hxs;simp only[Option.ite_none_right_eq_some,Option.map_eq_some_iff]at h;obtain⟨h0,⟨y,sh'⟩,h1,rfl⟩:=h;exact⟨v,u,xs,y,sh',rfl,hxs,h0,h1,rfl⟩
   ·simp at h
 ·simp[exec]at h
end
end Go.Ab
namespace Go.Ab
section
variable {P:Program} {ns:Names} {G:Gh} {w:World}
def AK.calls:AK→Bool
 | .aJ _| .en _| .bz ..| .lH _| .fm| .eU| .clone ..| .gr ..=>true
 |_=>false
theorem ff{mem:List (Nat×List AV)}(k:Option Nat):eR mem k none=mem:=by cases k<;>rfl
theorem qL{v:AV}{rv:Value}(h:aB (num ns) G v rv)(hl:(cr v).all aT=true):aw (num ns) G (cr v) rv.cells.toList:=by
 cases v with
 |dB l=>exact aB.cells (x:=.dB l) h hl
 |own l τ=>exact aB.cells (x:=.own l τ) h hl
 |_=>
   simp only[cr]at hl⊢;split
   ·rename_i p hp;simp only[hp]at hl;exact aB.cells (by simp only[aB];exact wL hp h) hl
   ·rename_i hp;simp only[hp]at hl;exact h.cells hl
theorem cN{mem:List (Nat×List AV)}{sh:Sh}{aa:aG}{s:Sem Value}{s':Sem Next}{x:AV}{v:Value}{w':World}{G':Gh}(hs:s'=(do pure (.value (←s))))(h1:s.run P w=.ok v w')(h2:aB (num ns) G' x v)
   (h3:Inv (num ns) G' w' mem sh aa) (h4:G.le G') (h5:bJ G w G' w'):Sq ns P G w mem sh aa s' x:=
 ⟨.value v,v,w',G',by rw[hs];simp only[Sem.run_bind,h1,Result.andThen_ok,Sem.run_pure],.inl rfl,h2,h3,h4,h5⟩
theorem qM{A:jS}{o:Oper}{k:AK}{args:List Operand}{orc:dX}(hc:bG P ns A o.dst o.op=some (k,args))(hk:k.calls=false){a:Act}{vals:List AV}{out:Out}
   {mem:List (Nat×List AV)} {sh:Sh} {aa:aG} (hr:aw (num ns) G vals (args.map a.eval)) (hi:Inv (num ns) G w mem sh aa)
   (h:exec orc k vals (k.key.bind (look mem)) sh aa=some out) :
   Sq ns P G w (eR mem k.key out.cells) out.sh out.aa (execOp a.eval o) out.val:=by
 obtain⟨dst,op,type,pos,after,guard⟩:=o;cases k with
 |v vo=>
   simp only[exec,Option.map_eq_some_iff]at h;obtain⟨x,h1,rfl⟩:=h;obtain⟨v,w',G',g1,g2,g3,g4,g5⟩:=yT hc hr hi h1;exact⟨.value v,v,w',G',g1,.inl rfl,g2,by simpa[ff] using g3,g4,g5⟩
 |aJ g=>simp[AK.calls]at hk
 |en g=>simp[AK.calls]at hk
 |bz g own=>simp[AK.calls]at hk
 |lH g=>simp[AK.calls]at hk
 |fm=>simp[AK.calls]at hk
 |eU=>simp[AK.calls]at hk
 |clone sz by_=>simp[AK.calls]at hk
 |gr sz by_ ag=>simp[AK.calls]at hk
 |Ew=>first|(simp[exec]at h;done)|(simp[exec]at e;done)|(simp[exec];done)
 |sr c ok z=>first|(simp[exec]at h;done)|(simp[exec]at e;done)|(simp[exec];done)
 |M0 c=>first|(simp[exec]at h;done)|(simp[exec]at e;done)|(simp[exec];done)
 |bX key off sz ag=>
   obtain⟨t,tx,rfl,rfl,hsz,hag⟩:=yZ hc;obtain⟨cs,x,rfl,hcs,hx,rfl⟩:=gY h;simp only[AK.key,Option.bind_some]at hcs;obtain⟨x',e,h1⟩:=cg (by simpa using hr);cases e;simp only[aB]at h1;obtain⟨b,hp,hv⟩:=h1;obtain⟨b',hp',hblk,_⟩:=hi.cR _ _ hcs;rw[hp]at hp';cases hp';obtain⟨_,c,ty,hh,hrel⟩:=hblk;obtain⟨u,g1,g2⟩:=fe (w:=w) hsz hag hx hrel (fR hh);refine cN (s:=Instr.loadAt t (a.eval (.tmp tx))) (v:=u) (w':=w) rfl ?_ g2 (by simpa[ff] using hi) G.le_refl (bJ.refl G w);rw[hv];simp[Instr.loadAt,Instr.sureAddr,g1]
 |dU sz ag=>
   obtain⟨t,tx,rfl,rfl,hsz,hag⟩:=y1 hc;obtain⟨p,x,rfl,rfl,hor⟩:=kE h;obtain⟨x',e,h1⟩:=cg (by simpa using hr);cases e;rcases hor with⟨cs,rfl,hx⟩|⟨s,off,cs,rfl,hcs,hx⟩
   ·simp only[aB]at h1;obtain⟨b,o,vs,hv,ha,hrl⟩:=h1;obtain⟨u,g1,g2⟩:=ni (ns:=ns) (w:=w) hsz hag hx hrl (fun j v hj=>hi.known _ _ _ (ha j v hj));refine cN (s:=Instr.loadAt t (a.eval (.tmp tx))) (v:=u) (w':=w) rfl ?_ g2 (by simpa[ff] using hi) G.le_refl (bJ.refl G w);rw[hv];simp[Instr.loadAt,Instr.sureAddr,g1]
   ·obtain⟨hmb,hx⟩:=hx;simp only[aB]at h1;obtain⟨b,hp,hv⟩:=h1;obtain⟨b',hp',hblk,_⟩:=hi.di _ _ hcs;rw[hp]at hp';cases hp';obtain⟨_,c,ty,vs,suf,hh,_,hsp,hrel⟩:=hblk.cells hmb;obtain⟨u,g1,g2⟩:=fe (w:=w) hsz hag hx hrel (oB hh hsp);refine cN (s:=Instr.loadAt t (a.eval (.tmp tx))) (v:=u) (w':=w) rfl ?_ g2 (by simpa[ff] using hi) G.le_refl (bJ.refl G w);rw[hv];simp[Instr.loadAt,Instr.sureAddr,g1]
 |bB key off sz=>
   obtain⟨t,tx,v,rfl,rfl,hsz⟩:=wT hc;obtain⟨cs,x,rfl,hcs,hl,hlf,hle,rfl⟩:=ir h;simp only[AK.key,Option.bind_some]at hcs;obtain⟨x1,x2,e,h1,h2⟩:=dm (by simpa using hr);cases e;simp only[aB]at h1;obtain⟨b,hp,hv⟩:=h1;obtain⟨b',hp',hblk,hcl⟩:=hi.cR _ _ hcs;rw[hp]at hp';cases hp';obtain⟨_,c,ty,hh,hrel⟩:=hblk;have hcells:=h2.cells hlf;have hcsz:(a.eval v).cells.size=sz:=by have:=hcells.length;simp at this;omega
   have hsize:=hrel.length;simp at hsize;have hrun:=oE (P:=P) (w:=w) hsz hcsz hh (off:=off) (by omega) (kA hcells hlf)
   obtain⟨g1,g2⟩:=hi.FN (cells':=aQ cs off (a_ x)) hcs hp (c':=(c.toList.take off++(a.eval v).cells.toList++c.toList.drop (off+(a.eval v).cells.toList.length)).toArray)
     (by simpa using eY off hrel hcells) (iK hcl hlf)
   refine⟨.skip,undef,_,G,?_,.inr ⟨rfl,rfl⟩,by simp[aB],g1,G.le_refl,g2⟩;simp[execOp,hv,Instr.storeAt,Instr.sureAddr,hrun]
 |fo sz=>
   obtain⟨t,tx,v,rfl,rfl,hsz⟩:=wU hc;obtain⟨s,off,x,cs,rfl,hcs,hmb,hl,hle,hlf,hrf,rfl⟩:=iu h;obtain⟨x1,x2,e,h1,h2⟩:=dm (by simpa using hr);cases e;simp only[aB]at h1;obtain⟨b,hp,hv⟩:=h1;obtain⟨b',hp',hblk,hcl,hcr⟩:=hi.di _ _ hcs;rw[hp]at hp';cases hp';obtain⟨_,c,ty,vs,suf,hh,hcz,hsp,hrel⟩:=hblk.cells hmb;have hcells:=qL h2 (iM hlf);have hcsz:(a.eval v).cells.size=sz:=by have:=hcells.length;simp at this;omega
   have hsize:=hrel.length;have hcl2:c.size=vs.length+suf.length:=(by rw[←Array.length_toList,hsp,List.length_append]);have hnl:(a.eval v).cells.toList.length=sz:=(by simpa using hcsz);have hrun:=oE (P:=P) (w:=w) hsz hcsz hh (off:=off) (by omega) (kA hcells (iM hlf))
   obtain⟨g1,g2⟩:=hi.oD (cells':=aQ cs off (cr x)) hcs hp hh (c':=(c.toList.take off++(a.eval v).cells.toList++c.toList.drop (off+(a.eval v).cells.toList.length)).toArray)
     (suf:=suf) (vs:=vs.take off++(a.eval v).cells.toList++vs.drop (off+(a.eval v).cells.toList.length))
     (by rw[←hcz];simp;omega)
     (by
       show c.toList.take off++(a.eval v).cells.toList++c.toList.drop (off+(a.eval v).cells.toList.length)=_;rw[hsp,List.take_append_of_le_length (by omega),List.drop_append_of_le_length (by omega)];simp[List.append_assoc])
     (eY off hrel hcells) (iK hcl hlf) (iK hcr hrf)
   refine⟨.skip,undef,_,G,?_,.inr ⟨rfl,rfl⟩,by simp[aB],by simpa[AK.key,eR] using g1,G.le_refl,g2⟩;simp[execOp,hv,Instr.storeAt,Instr.sureAddr,hrun]
 |wE sz=>first|(simp[exec]at h;done)|(simp[exec]at e;done)|(simp[exec];done)
 |alloc key z=>
   obtain⟨t,rfl,rfl,hz,rfl⟩:=y3 hc;obtain⟨rfl,hcs,rfl⟩:=jg h;simp only[AK.key,Option.bind_some]at hcs;obtain⟨zv,hz1,hz2⟩:=gh (P:=P) (w:=w) hz;obtain⟨zr,zl⟩:=ig (G:=G) (ρ:=num ns) hz2;obtain⟨g1,g2,g3⟩:=hi.pQ (c:=zv.cells) t hcs zr zl;refine cN (s:=Instr.alloc t true (.tuple #[])) (v:=.pointer (some ⟨w.heap.size,0,none⟩)) rfl ?_ ?_ g1 g2 g3
   ·simp only[Instr.alloc,Sem.run_bind,hz1,Result.andThen_ok,gX,Sem.run_pure]
   ·simp only[aB];exact⟨_,by simp[Gh.cX],rfl⟩
 |box key sz=>
   obtain⟨t,y,rfl,rfl,hsz,rfl⟩:=FV hc;obtain⟨x,rfl,hcs,hl,hlf,rfl⟩:=lO h;simp only[AK.key,Option.bind_some]at hcs;obtain⟨x',e,h1⟩:=cg (by simpa using hr);cases e;have hcells:=h1.cells hlf;obtain⟨g1,g2,g3⟩:=hi.pQ (c:=(a.eval y).cells) t hcs hcells hlf;refine cN (s:=Instr.box t (a.eval y)) (v:=.pointer (some ⟨w.heap.size,0,none⟩)) rfl ?_ ?_ g1 g2 g3
   ·simp only[Instr.box,Sem.run_bind,gX,Result.andThen_ok,Sem.run_pure]
   ·simp only[aB];exact⟨_,by simp[Gh.cX],rfl⟩
 |iX z=>
   obtain⟨t,rfl,rfl,hz⟩:=wV hc;obtain⟨rfl,rfl⟩:=jD h;obtain⟨zv,hz1,hz2⟩:=gh (P:=P) (w:=w) hz;obtain⟨zr,zl⟩:=ig (G:=G) (ρ:=num ns) hz2;obtain⟨g1,g2,g3⟩:=hi.sI (c:=zv.cells) t zr zl (FR _ z);refine cN (s:=Instr.alloc t true (.tuple #[])) (v:=.pointer (some ⟨w.heap.size,0,none⟩)) rfl ?_ ?_ g1 g2 g3
   ·simp only[Instr.alloc,Sem.run_bind,hz1,Result.andThen_ok,gX,Sem.run_pure]
   ·simp only[aB];exact⟨(w.heap.size,zv.cells.size),by simp[Gh.dj],rfl⟩
 |oq sz=>
   obtain⟨t,y,rfl,rfl,hsz⟩:=BW hc;obtain⟨x,rfl,hl,hlf,hrf,rfl⟩:=mD h;obtain⟨x',e,h1⟩:=cg (by simpa using hr);cases e;have hcells:=qL h1 (iM hlf);obtain⟨g1,g2,g3⟩:=hi.sI (c:=(a.eval y).cells) t hcells hlf (kD (Nat.le_succ _) hrf);refine cN (s:=Instr.box t (a.eval y)) (v:=.pointer (some ⟨w.heap.size,0,none⟩)) rfl ?_ ?_ g1 g2 g3
   ·simp only[Instr.box,Sem.run_bind,gX,Result.andThen_ok,Sem.run_pure]
   ·simp only[aB];exact⟨(w.heap.size,(a.eval y).cells.size),by simp[Gh.dj],rfl⟩
 |MZ sz=>first|(simp[exec]at h;done)|(simp[exec]at e;done)|(simp[exec];done)
 |iY sz by_ ag z=>
   obtain⟨t,e,l,c,rfl,rfl,hu,hsz,hby,hz,hzl,h0⟩:=y4 hc;obtain⟨k,k',n,rfl,h1,h2,h3,_,rfl⟩:=kF h;obtain⟨x1,x2,e',r1,r2⟩:=dm (by simpa using hr);cases e';obtain⟨v,w',G',g1,g2,g3,g4,g5⟩:=yV (k:=k) (k':=k') (ag:=ag) hu hsz hby hz hzl h0 h1 h2 h3 hi;refine cN (s:=Instr.makeSlice t (a.eval l) (a.eval c)) rfl ?_ g2 g3 g4 g5;rw[jC r1,jC r2];exact g1
 |ik d sz by_ z=>
   obtain⟨t,e,l,c,rfl,rfl,hu,hsz,hby,hz,hzl,h0,rfl⟩:=y5 hc;obtain⟨k,k',n,rfl,h1,h2,h3,_,hcs,rfl⟩:=jh h;simp only[AK.key,Option.bind_some]at hcs;obtain⟨x1,x2,e',r1,r2⟩:=dm (by simpa using hr);cases e';obtain⟨v,w',G',g1,g2,g3,g4,g5⟩:=yW (k:=k) (k':=k') hu hsz hby hz hzl h0 h1 h2 h3 hi hcs;refine cN (s:=Instr.makeSlice t (a.eval l) (a.eval c)) rfl ?_ g2 g3 g4 g5;rw[jC r1,jC r2];exact g1
 |append sz by_=>
   obtain⟨c,rfl⟩:=wW hc;obtain⟨x,y,t,e,t1,e1,z,hcal,hargs,rfl,h0,h1,hu,hu1,hsz,hby,hz,hzl,hs0,hb0⟩:=BT hc;obtain⟨s,x',y',ts,rfl,happ,rfl⟩:=jE h;obtain⟨x1,x2,e',r1,r2⟩:=dm (by simpa using hr);cases e';obtain⟨v,w',G',g1,g2,g3,g4,g5⟩:=wP (type:=type) h0 h1 hu hu1 hsz hby hz hzl hb0 r1 r2 hi happ;refine cN (s:=Builtin.append_ c.argTypes type #[a.eval x,a.eval y]) ?_ g1 g2 g3 g4 g5;obtain⟨callee,cargs,ctypes⟩:=c;simp only at hcal hargs;subst hcal;subst hargs;simp[execOp,resolve,invoke,builtin]
 |dC sz by_ ag=>
   obtain⟨c,rfl⟩:=uK hc;obtain⟨x,y,t,e,t1,e1,z,hcal,hargs,rfl,h0,h1,hu,hu1,hsz,hby,hz,hzl,hs0,hb0⟩:=yU hc;obtain⟨s,x',xs,y',sh',rfl,hxs,hhx,happ,rfl⟩:=kH h;obtain⟨x1,x2,e',r1,r2⟩:=dm (by simpa using hr);cases e';obtain⟨v,w',G',g1,g2,g3,g4,g5⟩:=uJ (type:=type) h0 h1 hu hu1 hsz hby hz hzl hb0 r1 r2 hi hxs hhx happ;refine cN (s:=Builtin.append_ c.argTypes type #[a.eval x,a.eval y]) ?_ g1 g2 g3 g4 g5;obtain⟨callee,cargs,ctypes⟩:=c;simp only at hcal hargs;subst hcal;subst hargs;simp[execOp,resolve,invoke,builtin]
 |ot sz by_=>first|(simp[exec]at h;done)|(simp[exec]at e;done)|(simp[exec];done)
 |jx sz=>
   obtain⟨c,rfl⟩:=y6 hc;obtain⟨x,y,t,e,t1,e1,hcal,hargs,rfl,h0,h1,hu,hu1,hsz⟩:=FU hc;obtain⟨x',y',xs,k,sh',rfl,hxs,hcp,rfl⟩:=kG h;obtain⟨x1,x2,e',r1,r2⟩:=dm (by simpa using hr);cases e';obtain⟨w',g1,g2,g3⟩:=yY (type:=type) h0 hu hsz r1 r2 hi hxs hcp;refine cN (s:=Builtin.copy_ c.argTypes type #[a.eval x,a.eval y]) (v:=.int .i64 k) ?_ g1 (by simp only[aB];exact bV.2 rfl) g2 G.le_refl g3;obtain⟨callee,cargs,ctypes⟩:=c;simp only at hcal hargs;subst hcal;subst hargs;simp[execOp,resolve,invoke,builtin]
 |gv sz z=>
   obtain⟨c,rfl⟩:=wX hc;obtain⟨x,t,e,hcal,hargs,rfl,h0,hu,hsz,hz,hzl,hs0⟩:=BV hc;obtain⟨x',sh',rfl,hcl,rfl⟩:=qK h;obtain⟨x1,e',r1⟩:=cg (by simpa using hr);cases e';obtain⟨w',g1,g2,g3⟩:=wS (type:=type) h0 hu hz hzl hs0 r1 hi hcl;refine cN (s:=Builtin.clear_ c.argTypes type #[a.eval x]) (v:=.tuple #[]) ?_ g1 (by simp only[aB];exact⟨[],rfl,by simp[aw]⟩) g2 G.le_refl g3;obtain⟨callee,cargs,ctypes⟩:=c;simp only at hcal hargs;subst hcal;subst hargs;simp[execOp,resolve,invoke,builtin]
end
end Go.Ab
namespace Go.Ab
section
variable {P:Program} {ns:Names} {G:Gh} {w:World}
def BB(K:bl)(w:World):Prop:=∀b o v,K b o=some v→w.cell? ⟨b,o,none⟩=some v
def nD(p:Nat→Option (Array Value))(w:World):Prop:=∀b c,p b=some c→∃t z,w.heap[b]?=some (.cells c t z)
theorem nD.below{p:Nat→Option (Array Value)}{w w':World}(h:nD p w)(hb:RowKit.Below w.heap.size w w'):nD p w':=fun b c e=>by
 obtain⟨t,z,h1⟩:=h b c e;exact⟨t,z,(hb.block b (Array.getElem?_eq_some_iff.1 h1).1).trans h1⟩
def gZ(K:bl)(rs:List PV)(v:Value):Prop:=
 match rs with
 |[r]=>Rel K r v
 |rs=>∃vs:List Value,v=.tuple vs.toArray∧ja K rs vs
def cS(ρ:bO)(G:Gh)(rs:List AV)(v:Value):Prop:=
 match rs with
 |[r]=>aB ρ G r v
 |rs=>∃vs:List Value,v=.tuple vs.toArray∧aw ρ G rs vs
def vj(P:Program)(ns:Names)(f:FuncId)(cV rs:List PV):Prop:=
 ∀(K:bl) (w:World) (vs:List Value),nD ns.jX w→BB K w→ja K cV vs →
   Calls P f vs.toArray w fun e w'=>∃v K',e=.returned v∧gZ K' rs v∧K.le K'∧(∀b o u,b<w.heap.size→K' b o=some u→K b o=some u)∧BB K' w'∧RowKit.Below w.heap.size w w'
def VA(P:Program)(ns:Names)(f:FuncId)(args:List AV)(ts:aG)(rs:List AV)(sh sh':Sh)(ts':aG):Prop:=
 ∀(G:Gh) (w:World) (vs:List Value),Inv (num ns) G w [] sh ts→aw (num ns) G args vs →
   Calls P f vs.toArray w fun e w'=>∃v G',e=.returned v∧cS (num ns) G' rs v∧Inv (num ns) G' w' [] sh' ts'∧bJ G w G' w'
def Jp(P:Program)(ns:Names)(f sz bytes:Nat):Prop:=
 ∀(o:Option Bool) (G:Gh) (w:World) (mem:List (Nat×List AV)) (sh sh':Sh) (aa toks':aG) (x y:AV) (v:Value),Inv (num ns) G w mem sh aa→aB (num ns) G x v→fu o sz bytes x sh aa=some (y,sh',toks') →
   Calls P f #[v] w fun e w'=>∃u G',e=.returned u∧aB (num ns) G' y u∧Inv (num ns) G' w' mem sh' toks'∧G.le G'∧bJ G w G' w'
structure gi(P:Program)(ns:Names)(orc:dX):Prop where
 p:∀g f cV rs,ns.of f=some g→orc.p g cV=some rs→vj P ns f cV rs
 i:∀g f args ts rs sh sh' ts',ns.of f=some g→args.all bI=true→orc.i g args sh ts=some (rs,sh',ts')→VA P ns f args ts rs sh sh' ts'∧rs.all bI=true
 c:∀g sz bytes f,look ns.cl g=some (sz,bytes)→ns.of f=some g→Jp P ns f sz bytes
def eK (P:Program) (ns:Names):Prop:=∀f g,ns.of f=some g→∃fn b,P.funcs[f]?=some fn∧fn.body=some b∧fn.name ≠ "runtime.NumGoroutine"
theorem oF{f:FuncId}{g:Nat}(hB:eK P ns)(hf:ns.of f=some g)(args:Array Value):(callFunc f args).run P w=.ok (.enter f args) w:=by
 obtain⟨fn,b,h1,h2,h3⟩:=hB f g hf;simp[callFunc,h1,h2,h3]
mutual
theorem mE{ρ:bO}{G':Gh}(hK:G.K.le G'.K)(hs:∀s b,G.sm s=some b→G'.sm s=some b):∀{x:AV} {v:Value},bL x=true→aB ρ G x v→aB ρ G' x v
 | .pv p,_,_,h=>by simp only[aB]at h⊢;exact h.mono hK
 | .aW s o,_,_,h=>by simp only[aB]at h⊢;obtain⟨b,e,r⟩:=h;exact⟨b,hs _ _ e,r⟩
 | .aP s _ n _,_,_,h=>by simp only[aB]at h⊢;obtain⟨b,c,e,r⟩:=h;exact⟨b,c,hs _ _ e,r⟩
 | .jT,_,_,h=>by simpa only[aB] using h
 | .jU s,_,_,h=>by simp only[aB]at h⊢;obtain⟨b,e,r⟩:=h;exact⟨b,hs _ _ e,r⟩
 | .pJ ..,_,hp,_=>by simp[bL]at hp
 | .fJ _,_,_,h=>by simp only[aB]at h
 | .fn g cap,_,hp,h=>by
   simp only[bL]at hp;simp only[aB]at h⊢;obtain⟨f,vs,e1,e2,r⟩:=h;exact⟨f,vs,e1,e2,pT hK hs hp r⟩
 | .un,_,hp,_=>by simp[bL]at hp
 | .dB _,_,_,h=>by simp only[aB]at h⊢;obtain⟨b,l,e,r⟩:=h;exact⟨b,l,e,r.mono hK⟩
 | .own _ _,_,hp,_=>by simp[bL]at hp
 | .agg _,_,hp,h=>by
   simp only[bL]at hp;simp only[aB]at h⊢;obtain⟨vs,e,r⟩:=h;exact⟨vs,e,pT hK hs hp r⟩
 | .qx _,_,hp,_=>by simp[bL]at hp
 | .az _ _,_,hp,_=>by simp[bL]at hp
 | .fH _,_,hp,_=>by simp[bL]at hp
theorem pT{ρ:bO}{G':Gh}(hK:G.K.le G'.K)(hs:∀s b,G.sm s=some b→G'.sm s=some b):∀{xs:List AV} {vs:List Value},bL.iI xs=true→aw ρ G xs vs→aw ρ G' xs vs
 |[],_,_,h=>by simpa only[aw] using h
 |x::xs,_,hp,h=>by
   simp only[bL.iI,Bool.and_eq_true]at hp;simp only[aw]at h⊢;obtain⟨v,r,e,e1,e2⟩:=h;exact⟨v,r,e,mE hK hs hp.1 e1,pT hK hs hp.2 e2⟩
end
theorem Inv.pure{K':bl}{w1:World}{mem:List (Nat×List AV)}{sh:Sh}{aa:aG}(hi:Inv (num ns) G w mem sh aa)(hK:G.K.le K')(hold:∀b o u,b<w.heap.size→K' b o=some u→G.K b o=some u)
   (hk:BB K' w1) (hb:RowKit.Below w.heap.size w w1):Inv (num ns) { G with K:=K' } w1 mem sh aa∧G.le { G with K:=K' }∧bJ G w { G with K:=K' } w1:=by
 have hle:G.le { G with K:=K' }:=⟨hK,fun _ _ h=>h,fun _ _ h=>h,fun _ t h=>⟨t,h,⟨Nat.le_refl _,t.gw⟩,fun _=>rfl⟩⟩
 have hevo:bJ G w { G with K:=K' } w1:={
           size:=hb.size,os:=hb.os,tape:=hb.tape,output:=hb.output,K:=hK,sm:=fun _ _ h=>h,
           eg:=fun b h hr=>⟨hr,hb.block b h⟩,iD:=fun b τ _ hr=>.inr ⟨τ,hr⟩,gB:=fun b o v h _ hkk=>hold b o v h hkk }
 refine⟨⟨hk,?_,?_,?_,hi.gA,?_,hi.eo,?_,hi.eS,hi.gV hevo⟩,hle,hevo⟩
 · intro b o v hkk;by_cases h:b<w.heap.size
   ·exact hi.aZ b o v (hold b o v h hkk)
   ·exact .inl (hi.fresh b (by omega))
 ·intro b h;have:=hb.size;exact hi.fresh b (by omega)
 · intro d cs hd;obtain⟨b,e1,e2,e3⟩:=hi.cR d cs hd;have hlt:b<w.heap.size:=by obtain⟨_,_,_,hh,_⟩:=e2;exact cp hh
   exact⟨b,e1,e2.mono hle rfl (hb.block b hlt),e3⟩
 ·intro s cs hs;obtain⟨b,e1,e2,e3⟩:=hi.di s cs hs;have hlt:b.1<w.heap.size:=e2.lt;exact⟨b,e1,e2.mono hle rfl (hb.block b.1 hlt),e3⟩
 ·intro τ n hn;obtain⟨t,e1,e2,e3⟩:=hi.db τ n hn;refine⟨t,e1,e2,e3.cap,e3.zero,fun hlt=>?_⟩;obtain⟨b,o,c,ty,f1,f2,f3,f4,f5⟩:=e3.spare hlt;have hlt':=cp f3;exact⟨b,o,c,ty,f1,f2,(hb.block b hlt').trans f3,f4,fun j v hkk=>f5 j v (hold b j v hlt' hkk)⟩
end
end Go.Ab
