import GoSem.Core.Value
import GoSem.Core.Ast
import GoSem.Core.View
import Derived.Calls
import Derived.Laws.World
import Derived.Laws.Sem
import Derived.Below
import Derived.Laws.Cells
import Derived.Laws.CopyRow
import Derived.Laws.Entries
import Derived.Laws.Strings
import Derived.Laws.IdiomStrings
import Derived.Laws.Tables
import Derived.RangeFuncRecord
/-
  The abstract machine: pure data, abstract values, slim code, and an evaluator with fuel. Nothing here mentions a program.
  What an abstract value says of a value of the model: relations over what is known of memory for good.
  From the loaded program's code to slim code: types resolved, functions under their lasting numbers. 'compF' is what the kernel holds a function's slim code against.
  The relation between an abstract state and a state of the model.
  Operations on values alone: what the slim operation gives is what the model's gives.
  Parts, places, memory that is only read.
  Literals, cuts, and the rest of the operations on values.
  Slices' literals and cuts; the operations on values, all together.
  Cuts of slices and strings; the operations on values, all together.
  The operations on values, all together.
  Operations with memory.
  append.
  append, run.
  The operations with memory that call nothing.
  append onto arrays that may still be written.
  The builtin copy: elements over the head of an array that may be written.
  What an operation S9 compiled from, and what its run looked at.
  Each operation that calls nothing.
  Calls: the contracts of the callees, and what they JX the caller.
-/
set_option linter.unusedVariables false
set_option linter.unusedSimpArgs false
set_option linter.unnecessarySimpa false
set_option maxRecDepth 100000
set_option maxHeartbeats 8000000
namespace Go.Ab
inductive PV where
 |bool (b:Bool)
 |int (k:IntKind) (n:Int)
 |str (s:List UInt8)
 |agg (cs:List PV)
 |au (els:List PV)
 deriving Inhabited
inductive AV where
 |un
 |pv (p:PV)
 |dH (els:List PV)
 |own (els:List PV) (tok:Nat)
 |agg (cs:List AV)
 |qW (vs:List AV)
 |az (d off:Nat)
 |aW (b off:Nat)
 |gf (cs:List PV)
 |aP (b sz len:Nat) (ag:Bool)
 |fn (g:Nat) (cap:List AV)
 |kr
 |ku (s:Nat)
 |gg (kvs:List (PV×PV))
 |p_ (b off n:Nat)
 |jH (d n:Nat)
 deriving Inhabited
abbrev Sh:=List (Option (List AV))
abbrev aG:=List Nat
inductive eT where
 |t (n:Nat)
 |c (v:AV)
 deriving Inhabited
inductive CK where
 |int|str|bool
 deriving Inhabited,DecidableEq
inductive NK where
 |mv|pick
 |bin (op:BinOp)
 |beq (neg:Bool)
 |un (op:UnOp)
 |conv (k:IntKind)
 |ext (i:Nat)
 |field (off sz:Nat) (ag:Bool)
 |g_ (off:Nat)
 |eg (sz:Nat)
 |index
 |build (zero:List PV) (places:List (Nat×Nat))
 |eh (sz:Nat)
 |fH (sz:Nat) (ag:Bool)
 |slice (str:Bool) (sz:Nat) (lo hi mx:Bool)
 |len|Cs|qa
 |mn|mx
 |Gv (g:Nat)
 |Xm (cs:List CK) (neg:Bool)
 |s8 (sz:Nat) (lo hi:Bool)
 |b2s
 deriving Inhabited
inductive AK where
 |v (o:NK)
 |bY (key off sz:Nat) (ag:Bool)
 |bC (key off sz:Nat)
 |alloc (key:Nat) (zero:List PV)
 |box (key sz:Nat)
 |d7 (sz:Nat) (ag:Bool)
 |fK (sz:Nat)
 |xt (sz:Nat)
 |oQ (sz:Nat)
 |NL (sz:Nat)
 |jk (zero:List PV)
 |jl (sz bytes:Nat) (ag:Bool) (zero:List PV)
 |iC (key sz bytes:Nat) (zero:List PV)
 |append (sz bytes:Nat)
 |dI (sz bytes:Nat) (ag:Bool)
 |oR (sz bytes:Nat)
 |Fu
 |s9 (c:CK) (ok:Bool) (zero:PV)
 |NM (c:CK)
 |clone (sz bytes:Nat)
 |gJ (sz bytes:Nat) (ag:Bool)
 |gK (sz:Nat) (zero:List PV)
 |jK (sz:Nat)
 |aJ (g:Nat)
 |eE (g:Nat)
 |bA (g:Nat) (own:List Nat)
 |lX (g:Nat)
 |fJ
 |ff
 deriving Inhabited
structure dN where
 dst:Option Nat
 guard:Option (Nat×Bool)
 args:List eT
 op:AK
 deriving Inhabited
inductive aq where
 |skip
 |iN (ops:List dN) (live:List Nat)
 |seq (a b:aq)
 |cond (c:eT) (a b:aq)
 |block (id:Nat) (b:aq)
 |loop (live:List Nat) (b:aq)
 |exit (id:Nat)
 |ret
 |back (f:eT) (gb pi px sz:Nat) (ag:Bool) (live:List Nat) (x y:aq)
 |dd (ts:List Nat)
 |PU (ds:List (Nat×Nat))
 |lN (ps:List (Nat×Nat×Bool))
 |lV (ts:List Nat)
 |PW (ts:List Nat)
 deriving Inhabited
inductive qb where
 |t (n:Nat)
 |c (key sz:Nat) (ag:Bool)
 deriving Inhabited
structure Prim where
 f:(Nat→List PV→Option (List PV))→List PV→Option (List PV)
 fin:∀o x r,f o x=some r→∃l:List (Nat×List PV×List PV),(∀c∈l,o c.1 c.2.1=some c.2.2)∧∀o',(∀c∈l,o' c.1 c.2.1=some c.2.2)→f o' x=some r
def Prim.pure(f:List PV→Option (List PV)):Prim:=⟨fun _=>f,fun _ _ _ h=>⟨[],by simp,fun _ _=>h⟩⟩
theorem Prim.mono(p:Prim){a b:Nat→List PV→Option (List PV)}(h:∀g x r,a g x=some r→b g x=some r){x:List PV}{r:List PV}(e:p.f a x=some r):p.f b x=some r:=by
 obtain⟨l,h1,h2⟩:=p.fin a x r e;exact h2 b fun c hc=>h _ _ _ (h1 c hc)
structure aA where
 nparams:Nat
 ntmps:Nat
 results:List qb
 body:aq
 qc:Option Prim:=none
 ks:Bool:=false
 deriving Inhabited
def look{α:Type}:List (Nat×α)→Nat→Option α
 |[],_=>none
 |(k,v)::r,t=>if k=t then some v else look r t
def cX{α:Type}:List (Nat×α)→Nat→α→List (Nat×α)
 |[],t,u=>[(t,u)]
 |(k,v)::r,t,u=>if k=t then (k,u)::r else (k,v)::cX r t u
structure St where
 env:List (Nat×AV)
 mem:List (Nat×List AV)
 sh:Sh
 aa:aG
 deriving Inhabited
def aX:PV→List PV
 | .agg cs=>cs
 |p=>[p]
def a_:AV→List AV
 | .agg cs=>cs
 | .pv (.agg cs)=>cs.map .pv
 |v=>[v]
def bN:AV→Bool
 | .pv _| .dH _| .aW ..| .aP ..| .kr| .ku _| .gg _=>true
 | .fn _ cap=>iW cap
 | .agg cs=>iW cs
 |_=>false
where iW:List AV→Bool
 |[]=>true
 |v::r=>bN v && iW r
def aT:AV→Bool
 | .pv (.agg _)=>false
 | .pv _| .dH _| .aW ..| .aP ..| .kr| .ku _| .gg _=>true
 | .fn g cap=>bN (.fn g cap)
 | .own ..=>true
 |_=>false
def cN(v:AV):Bool:=aT v
def bE:AV→Bool
 | .own ..| .az ..| .jH ..=>false
 | .agg cs=>ei cs
 | .qW cs=>ei cs
 | .fn _ cap=>ei cap
 |_=>true
where ei:List AV→Bool
 |[]=>true
 |v::r=>bE v && ei r
def jL:AV→Bool
 | .own ..=>true
 |v=>bE v
def fM:List AV→Bool
 |[]=>true
 |v::r=>jL v && fM r
def kM:AV→Option PV
 | .pv p=>some p
 | .dH l=>some (.au l)
 | .own l _=>some (.au l)
 |_=>none
def de:PV→Bool
 | .agg _=>false
 |_=>true
def chunk(sz:Nat):Nat→List PV→List (List PV)
 |0,_=>[]
 |n+1,l=>l.take sz::chunk sz n (l.drop sz)
def eA:List AV→Option (List PV)
 |[]=>some []
 |v::r=>match kM v,eA r with
   |some p,some ps=>some (p::ps)
   |_,_=>none
def dP(sz:Nat)(ag:Bool)(n:Nat)(cells:List PV):Option (List PV):=
 if ag then some ((chunk sz n cells).map .agg)
 else if sz=1 then some cells else none
def bV:List AV→Bool
 | .gg _::_=>true
 |_=>false
def dJ(sh:Sh):AV→Option PV
 | .aP b sz n ag=>match sh[b]? with
   |some (some cells)=>if cells.length=n*sz then ((eA cells).bind (dP sz ag n)).map .au
     else if bV cells=false∧n*sz≤cells.length then ((eA (cells.take (n*sz))).bind (dP sz ag n)).map .au else none
   |_=>none
 |v=>kM v
def ca(sh:Sh):List AV→Option (List PV)
 |[]=>some []
 |v::r=>if aT v=true then
     match dJ sh v,ca sh r with
     |some p,some ps=>some (p::ps)
     |_,_=>none
   else none
def dd(sh:Sh):AV→Option PV
 | .agg cs=>(ca sh cs).map .agg
 |v=>dJ sh v
def c_(sh:Sh):List AV→Option (List PV)
 |[]=>some []
 |v::r=>match dd sh v,c_ sh r with
   |some p,some ps=>some (p::ps)
   |_,_=>none
def eB:AV→List Nat
 | .aP b _ _ _=>[b]
 | .agg cs=>cs.flatMap fun| .aP b _ _ _=>[b]|_=>[]
 |_=>[]
def kill(sh:Sh)(l:List Nat):Sh:=l.foldl (fun s b=>s.set b none) sh
def cA(sh:Sh)(vs:List AV):Sh:=kill sh (vs.flatMap eB)
def aK(n:Nat):AV→Bool
 | .un| .pv _| .dH _| .own ..| .kr| .gf _| .gg _=>true
 | .aW b _| .aP b _ _ _| .ku b=>decide (b<n)
 | .fn _ cap=>cB n cap
 | .agg cs=>cB n cs
 |_=>false
where cB (n:Nat):List AV→Bool
 |[]=>true
 |v::r=>aK n v && cB n r
def JY:CK→PV→PV→Option Bool
 | .int,.int k a,.int k' b=>if k=k' then some (a == b) else none
 | .str,.str a,.str b=>some (a == b)
 | .bool,.bool a,.bool b=>some (a == b)
 |_,_,_=>none
def Fv:List CK→List PV→List PV→Option Bool
 |[],[],[]=>some true
 |c::cs,p::ps,q::qs=>match JY c p q with
   |some true=>Fv cs ps qs
   |some false=>if ps.length=cs.length∧qs.length=cs.length then some false else none
   |none=>none
 |_,_,_=>none
def QV(c:CK):List (PV×PV)→PV→Option (Option PV)
 |[],_=>some none
 |(k',v)::r,k=>match JY c k k' with
   |some true=>some (some v)
   |some false=>QV c r k
   |none=>none
def JZ(c:CK):List (PV×PV)→PV→PV→Option (List (PV×PV))
 |[],k,p=>some [(k,p)]
 |(k',v)::r,k,p=>match JY c k k' with
   |some true=>some ((k,p)::r)
   |some false=>(JZ c r k p).map ((k',v)::·)
   |none=>none
def VL(ok:Bool)(zero:PV)(r:Option PV):AV:=if ok then .qW [.pv (r.getD zero),.pv (.bool r.isSome)] else .pv (r.getD zero)
def cC(op:BinOp):AV→AV→Option AV
 | .pv (.int k a),.pv (.int k' b)=>
   if k=k'∨op=.shl∨op=.shr then
     match op with
     | .add=>some (.pv (.int k (k.wrap (a+b))))
     | .sub=>some (.pv (.int k (k.wrap (a-b))))
     | .mul=>some (.pv (.int k (k.wrap (a*b))))
     | .quo=>if b=0 then none else some (.pv (.int k (k.wrap (a.tdiv b))))
     | .rem=>if b=0 then none else some (.pv (.int k (a.tmod b)))
     | .eql=>some (.pv (.bool (a == b)))
     | .neq=>some (.pv (.bool (a != b)))
     | .lss=>some (.pv (.bool (decide (a<b))))
     | .leq=>some (.pv (.bool (decide (a≤b))))
     | .gtr=>some (.pv (.bool (decide (a > b))))
     | .geq=>some (.pv (.bool (decide (a≥b))))
     | .and=>some (.pv (.int k (k.wrap (BitVec.ofInt k.bits a &&& BitVec.ofInt k.bits b).toNat)))
     | .shl=>if b<0 then none else some (.pv (.int k (k.wrap (a*2 ^ (min b.toNat k.bits)))))
     | .shr=>if b<0 then none else some (.pv (.int k (a.fdiv (2 ^ (min b.toNat k.bits)))))
     |_=>none
   else none
 | .pv (.str a),.pv (.str b)=>
   match op with
   | .add=>if a.length+b.length≤9223372036854775807 then some (.pv (.str (a++b))) else none
   | .eql=>some (.pv (.bool (a == b)))
   | .neq=>some (.pv (.bool (!(a == b))))
   | .lss=>some (.pv (.bool (ee a b)))
   | .gtr=>some (.pv (.bool (!(ee a b || a == b))))
   | .leq=>some (.pv (.bool (ee a b || a == b)))
   | .geq=>some (.pv (.bool (!ee a b)))
   |_=>none
 |_,_=>none
where ee:List UInt8→List UInt8→Bool
 |_,[]=>false
 |[],_::_=>true
 |a::x,b::y=>a<b || (a == b && ee x y)
def S_(op:UnOp):AV→Option AV
 | .pv (.bool b)=>match op with| .not=>some (.pv (.bool !b))|_=>none
 | .pv (.int k n)=>match op with| .neg=>some (.pv (.int k (k.wrap (0-n))))|_=>none
 |_=>none
def cJ:AV→Option (List PV)
 | .pv (.au l)=>some l
 | .dH l=>some l
 | .own l _=>some l
 |_=>none
def bf(sz:Nat):List PV→Bool
 |[]=>true
 |p::_=>(aX p).length == sz
def aQ(cells:List AV)(off:Nat)(vs:List AV):List AV:=cells.take off++vs++cells.drop (off+vs.length)
def lF(cells:List AV):List (Nat×Nat)→List AV→Option (List AV)
 |[],[]=>some cells
 |(off,sz)::ps,v::vs=>
   if (a_ v).length=sz∧off+sz≤cells.length∧(a_ v).all aT=true then lF (aQ cells off (a_ v)) ps vs else none
 |_,_=>none
def bR(ag:Bool)(sz:Nat)(cs:List AV)(off:Nat):Option AV:=
 if off+sz≤cs.length then
   if ag then some (.agg ((cs.drop off).take sz))
   else if sz=1 then cs[off]? else none
 else none
def cO(ag:Bool)(sz:Nat)(cs:List PV):Option AV:=
 if sz≤cs.length then
   if ag then some (.pv (.agg (cs.take sz)))
   else if sz=1 then (cs[0]?).map .pv else none
 else none
def eK(lo hi mx:Bool)(n:Nat)(rest:List AV):Option (Int×Int×Option Int):=
 match lo,hi,mx,rest with
 |false,false,false,[]=>some (0,n,none)
 |true,false,false,[.pv (.int _ l)]=>some (l,n,none)
 |false,true,false,[.pv (.int _ h)]=>some (0,h,none)
 |true,true,false,[.pv (.int _ l),.pv (.int _ h)]=>some (l,h,none)
 |false,true,true,[.pv (.int _ h),.pv (.int _ m)]=>some (0,h,some m)
 |true,true,true,[.pv (.int _ l),.pv (.int _ h),.pv (.int _ m)]=>some (l,h,some m)
 |_,_,_,_=>none
def dK(str:Bool)(sz:Nat)(lo hi mx:Bool):List AV→Option AV
 |x::rest=>if str then
     match x with
     | .pv (.str s)=>match eK lo hi mx s.length rest with
       |some (l,h,none)=>if 0≤l∧l≤h∧h≤s.length then some (.pv (.str ((s.take h.toNat).drop l.toNat))) else none
       |_=>none
     |_=>none
   else match cJ x with
     |some els=>match eK lo hi mx els.length rest with
       |some (l,h,m)=>if 0≤l∧l≤h∧h≤els.length∧(l=0∨bf sz els=true) then
           match m with
           |some m=>if m=h then some (.dH ((els.take h.toNat).drop l.toNat)) else none
           |none=>some (.pv (.au ((els.take h.toNat).drop l.toNat)))
         else none
       |none=>none
     |none=>none
 |[]=>none
def kx(sz:Nat)(lo hi:Bool):List AV→Option AV
 | .aP b z n ag::rest=>if z=sz then
     match eK lo hi false n rest with
     |some (l,h,none)=>if 0≤l∧l≤h∧h≤n then some (if l=0 then .aP b z h.toNat ag else .p_ b (l.toNat*sz) (h.toNat-l.toNat)) else none
     |_=>none
   else none
 |_=>none
def s_(sz:Nat):AV→Option (Nat×Nat×Nat)
 | .aP b z n _=>if z=sz then some (b,0,n) else none
 | .p_ b off n=>some (b,off,n)
 |_=>none
def nR(sz:Nat)(zero:List PV)(sh:Sh):Option (Nat×Nat×Nat)→Option Sh
 |some (b,off,n)=>match sh[b]? with
   |some (some cells)=>if bV cells=false∧off+n*sz≤cells.length∧zero.length=sz then some (sh.set b (some (aQ cells off (List.replicate n (zero.map .pv)).flatten))) else none
   |_=>none
 |none=>none
def oS(sz:Nat)(sh:Sh)(xs:List PV):AV→Option (Nat×Sh)
 | .aP b z n _=>match sh[b]? with
   |some (some cells)=>if z=sz∧bf sz xs=true∧bV cells=false∧n*sz≤cells.length then
       some (min xs.length n,sh.set b (some (aQ cells 0 (((xs.take n).flatMap aX).map .pv)))) else none
   |_=>none
 |_=>none
def fQ:List PV→Option (List UInt8)
 |[]=>some []
 | .int .u8 n::r=>if 0≤n∧n<256 then (fQ r).map (UInt8.ofNat n.toNat::·) else none
 |_=>none
def bB:NK→List AV→Option AV
 | .mv,[x]=>some x
 | .pick,[.pv (.bool c),a,b]=>some (if c then a else b)
 | .bin op,[a,b]=>cC op a b
 | .beq neg,[.pv (.bool a),.pv (.bool b)]=>some (.pv (.bool (if neg then !(a == b) else (a == b))))
 | .un op,[a]=>S_ op a
 | .conv k,[.pv (.int _ n)]=>some (.pv (.int k (k.wrap n)))
 | .ext i,[.qW vs]=>vs[i]?
 | .field off sz ag,[x]=>match x with
   | .agg cs=>bR ag sz cs off
   | .pv (.agg cs)=>cO ag sz (cs.drop off)
   |_=>none
 | .g_ off,[x]=>match x with
   | .az d o=>some (.az d (o+off))
   | .aW b o=>some (.aW b (o+off))
   | .gf cs=>some (.gf (cs.drop off))
   |_=>none
 | .eg sz,[x,.pv (.int _ i)]=>
   if i<0 then none else
   match x with
   | .aP b sz' n _=>if sz=sz'∧i.toNat<n then some (.aW b (i.toNat*sz)) else none
   |x=>match cJ x with
     |some els=>match els[i.toNat]? with
       |some el=>if (aX el).length=sz then some (.gf (aX el)) else none
       |none=>none
     |none=>none
 | .index,[.pv (.str s),.pv (.int _ i)]=>if i<0 then none else (s[i.toNat]?).map fun b=>.pv (.int .u8 b.toNat)
 | .build zero places,vs=>(lF (zero.map zeroCell) places vs).map .agg
 | .eh sz,vs=>(c_ [] vs).bind fun els=>if els.all (fun e=>(aX e).length == sz) then some (.dH els) else none
 | .fH sz ag,[.gf cs]=>cO ag sz cs
 | .slice str sz lo hi mx,vs=>dK str sz lo hi mx vs
 | .s8 sz lo hi,vs=>kx sz lo hi vs
 | .Cs,[.pv (.str s)]=>some (.pv (.int .i64 s.length))
 | .len,[x]=>match x with
   | .aP _ _ n _=>some (.pv (.int .i64 n))
   |x=>(cJ x).map fun l=>.pv (.int .i64 l.length)
 | .qa,[x]=>match x with
   | .az ..| .aW ..| .gf _| .fn ..=>some x
   |_=>none
 | .mn,[.pv (.int k x),.pv (.int k' y)]=>if k=k' then some (.pv (.int k (if y<x then y else x))) else none
 | .mx,[.pv (.int k x),.pv (.int k' y)]=>if k=k' then some (.pv (.int k (if y > x then y else x))) else none
 | .Gv g,cap=>some (.fn g cap)
 | .b2s,[x]=>((cJ x).bind fQ).map fun s=>.pv (.str s)
 | .Xm cs neg,[x,y]=>match dd [] x,dd [] y with
   |some (.agg ps),some (.agg qs)=>(Fv cs ps qs).map fun b=>.pv (.bool (if neg then !b else b))
   |_,_=>none
 |_,_=>none
where zeroCell:PV→AV
 | .au []=>.dH []
 |p=>.pv p
structure Out where
 val:AV
 cells:Option (List AV)
 sh:Sh
 aa:aG
structure d9 where
 p:Nat→List PV→Option (List PV)
 i:Nat→List AV→Sh→aG→Option (List AV×Sh×aG)
def tc:List PV→AV
 |[r]=>.pv r
 |rs=>.qW (rs.map .pv)
def th:List AV→AV
 |[r]=>r
 |rs=>.qW rs
def lG(v:AV):AV:=match dd [] v with|some p=>.pv p|none=>v
def AK.key:AK→Option Nat
 | .bY k _ _ _| .bC k _ _| .alloc k _| .box k _| .iC k _ _ _=>some k
 |_=>none
def bS(sz bytes:Nat)(s x:AV)(aa:aG):Option (AV×aG):=
 match cJ x with
 |none=>none
 |some xs=>if bf sz xs=true then
   match s with
   | .dH l=>if xs.isEmpty=true then some (.dH l,aa) else if bf sz l=true∧(l.length+xs.length)*bytes≤140737488355328 then
       some (.own (l++xs) aa.length,aa++[(l++xs).length]) else none
   | .own l τ=>if aa[τ]?=some l.length∧bf sz l=true∧(l.length+xs.length)*bytes≤140737488355328 then
       some (.own (l++xs) τ,aa.set τ (l++xs).length) else none
   |_=>none
   else none
def zj:List PV→List PV→Bool
 |[],[]=>true
 | .str a::r,.str b::q=>(a == b) && zj r q
 |_,_=>false
def Ta(sz bytes:Nat)(xs:List PV)(s e:AV)(aa:aG):Option PV:=
 match s,e with
 | .own l τ,.own m σ=>if τ=σ∧aa[τ]?=some m.length∧m.length=l.length+xs.length∧bf 1 l=true∧bf 1 xs=true∧sz=1 ∧
     zj (m.drop l.length) xs=true∧xs.isEmpty=false∧m.length*bytes≤140737488355328 then some (.au (l++xs)) else none
 |_,_=>none
def rY(sz bytes:Nat)(ag:Bool)(s:AV)(xs:List PV)(sh:Sh):Option (AV×Sh):=
 if xs.isEmpty=true then some (s,sh) else if xs.length*bytes≤140737488355328 then some (.aP sh.length sz xs.length ag,sh++[some ((xs.flatMap aX).map .pv)]) else none
def rZ(sz bytes:Nat)(ag:Bool)(s:AV)(xs:List PV)(sh:Sh)(aa:aG):Option (AV×Sh):=
 match s with
 | .dH []=>rY sz bytes ag s xs sh
 | .own [] τ=>if aa[τ]?=some 0 then rY sz bytes ag s xs sh else none
 | .aP b z n g=>match sh[b]? with
   |some (some cells)=>if z=sz∧g=ag∧bV cells=false∧n*sz≤cells.length∧(n+xs.length)*bytes≤140737488355328 then
       if xs.isEmpty=true then some (.aP b sz n ag,sh) else some (.aP sh.length sz (n+xs.length) ag,sh.set b none++[some (cells.take (n*sz)++(xs.flatMap aX).map .pv)])
     else none
   |_=>none
 |_=>none
def fR(o:Option Bool)(sz bytes:Nat)(x:AV)(sh:Sh)(aa:aG):Option (AV×Sh×aG):=match o with
 |none=>(bS sz bytes (.dH []) x aa).map fun (v,ts)=>(v,sh,ts)
 |some ag=>match cJ x with
   |some xs=>if bf sz xs=true then (rY sz bytes ag (.dH []) xs sh).map fun (v,sh')=>(v,sh',aa) else none
   |none=>none
def eD(aI ts:aG):AV→AV×aG×aG
 | .own l τ=>if aI[τ]?=some l.length then (.own l ts.length,aI.set τ (l.length+1),ts++[l.length]) else (.pv (.au l),aI,ts)
 |v=>(v,aI,ts)
def cD(aI ts:aG):List AV→List AV×aG×aG
 |[]=>([],aI,ts)
 |v::r=>((eD aI ts v).1::(cD (eD aI ts v).2.1 (eD aI ts v).2.2 r).1,(cD (eD aI ts v).2.1 (eD aI ts v).2.2 r).2)
def bF(aI ts:aG):AV→AV×aG×aG
 | .own l τ=>if aI[τ]?=some l.length then (.own l ts.length,aI.set τ (l.length+1),ts++[l.length]) else (.pv (.au l),aI,ts)
 | .dH l=>(.own l ts.length,aI,ts++[l.length])
 | .agg cs=>if bE.ei cs=true then (.agg cs,aI,ts) else (.agg (cD aI ts cs).1,(cD aI ts cs).2.1,(cD aI ts cs).2.2)
 |v=>(v,aI,ts)
def bh(aI ts:aG):List AV→List AV×aG×aG
 |[]=>([],aI,ts)
 |v::r=>((bF aI ts v).1::(bh (bF aI ts v).2.1 (bF aI ts v).2.2 r).1,(bh (bF aI ts v).2.1 (bF aI ts v).2.2 r).2)
def a9(aI ts:aG):Sh→Sh×aG×aG
 |[]=>([],aI,ts)
 |none::r=>(none::(a9 aI ts r).1,(a9 aI ts r).2)
 |some cs::r=>(some (bh aI ts cs).1::(a9 (bh aI ts cs).2.1 (bh aI ts cs).2.2 r).1,(a9 (bh aI ts cs).2.1 (bh aI ts cs).2.2 r).2)
def cS(aa:aG)(xs:List AV)(sh:Sh):List AV×Sh×aG×aG:=
 ((bh aa [] xs).1,(a9 (bh aa [] xs).2.1 (bh aa [] xs).2.2 sh).1,(a9 (bh aa [] xs).2.1 (bh aa [] xs).2.2 sh).2.1,(a9 (bh aa [] xs).2.1 (bh aa [] xs).2.2 sh).2.2)
def ky:AV→Bool
 | .own ..=>true
 |v=>bN v
def fh:List AV→Bool
 |[]=>true
 |v::r=>ky v && fh r
def bJ:AV→Bool
 | .own ..=>true
 | .agg cs=>fh cs
 |v=>bN v
def jm(n:Nat):AV→AV
 | .own l τ=>.own l (τ+n)
 |v=>v
def da(n:Nat):AV→AV
 | .own l τ=>.own l (τ+n)
 | .agg cs=>if bE.ei cs=true then .agg cs else .agg (cs.map (jm n))
 |v=>v
def ej(n:Nat)(sh:Sh):Sh:=sh.map fun o=>o.map fun cs=>cs.map (da n)
def dX(own:List Nat):Nat→List AV→List AV
 |_,[]=>[]
 |i,v::r=>(if own.contains i then v else lG v)::dX own (i+1) r
def dU(orc:d9)(g:Nat)(own:List Nat)(vals:List AV)(sh:Sh)(aa:aG):Option (AV×Sh×aG):=
 if (dX own 0 vals).all bJ=true then
   (orc.i g (cS aa (dX own 0 vals) sh).1 (cS aa (dX own 0 vals) sh).2.1 (cS aa (dX own 0 vals) sh).2.2.2).map fun (rs,sh',ts)=>
     (th (rs.map (da aa.length)),ej aa.length sh',(cS aa (dX own 0 vals) sh).2.2.1++ts)
 else none
def cv(v:AV):List AV:=match v with
 | .dH l=>[.dH l]
 | .own l τ=>[.own l τ]
 |v=>match dd [] v with|some p=>a_ (.pv p)|none=>a_ v
mutual
def nA:PV→PV→Bool
 | .bool a,.bool b=>a == b
 | .int k a,.int l b=>decide (k=l) && (a == b)
 | .str a,.str b=>a == b
 | .agg a,.agg b=>oT a b
 | .au a,.au b=>oT a b
 |_,_=>false
def oT:List PV→List PV→Bool
 |[],[]=>true
 |a::r,b::q=>nA a b && oT r q
 |_,_=>false
end
def Tb:AV→AV→Bool
 | .pv a,.pv b=>nA a b
 |_,_=>false
def Gw:List AV→List AV→Bool
 |[],[]=>true
 |a::r,b::q=>Tb a b && Gw r q
 |_,_=>false
def r5:Sh→Sh→Bool
 |[],[]=>true
 |none::r,none::q=>r5 r q
 |some a::r,some b::q=>Gw a b && r5 r q
 |_,_=>false
def Wi(sh:Sh):AV×Sh×aG→Option Out
 |(v,sh',ts)=>if r5 sh' sh=true then some ⟨v,none,sh,ts⟩ else none
def exec(orc:d9)(op:AK)(vals:List AV)(cells:Option (List AV))(sh:Sh)(aa:aG):Option Out:=
 match op,vals with
 | .v o,vals=>(bB o vals).map fun x=>⟨x,none,sh,aa⟩
 | .bY key off sz ag,[.az d o]=>if d=key∧o=off then
     match cells with
     |some cs=>(bR ag sz cs off).map fun x=>⟨x,none,sh,aa⟩
     |none=>none
   else none
 | .bC key off sz,[.az d o,v]=>if d=key∧o=off∧(a_ v).length=sz∧(a_ v).all aT=true then
     match cells with
     |some cs=>if off+sz≤cs.length then some ⟨.un,some (aQ cs off (a_ v)),sh,aa⟩ else none
     |none=>none
   else none
 | .alloc key zero,[]=>match cells with
   |none=>some ⟨.az key 0,some (zero.map bB.zeroCell),sh,aa⟩
   |some _=>none
 | .box key sz,[v]=>match cells with
   |none=>if (a_ v).length=sz∧(a_ v).all aT=true then some ⟨.az key 0,some (a_ v),sh,aa⟩ else none
   |some _=>none
 | .d7 sz ag,[p]=>match p with
   | .gf cs=>(cO ag sz cs).map fun x=>⟨x,none,sh,aa⟩
   | .aW b off=>match sh[b]? with
     |some (some cs)=>if bV cs=true then none else (bR ag sz cs off).map fun x=>⟨x,none,sh,aa⟩
     |_=>none
   |_=>none
 | .fK sz,[.aW b off,v]=>match sh[b]? with
   |some (some cs)=>
     let vs:=cv v
     if bV cs=false∧vs.length=sz∧off+sz≤cs.length∧vs.all cN=true∧vs.all (aK (b+1))=true then
       some ⟨.un,none,sh.set b (some (aQ cs off vs)),aa⟩ else none
   |_=>none
 | .oQ sz,[v]=>
   let vs:=cv v
   if vs.length=sz∧vs.all cN=true∧vs.all (aK sh.length)=true then
     some ⟨.aW sh.length 0,none,sh++[some vs],aa⟩ else none
 | .jk zero,[]=>some ⟨.aW sh.length 0,none,sh++[some (zero.map bB.zeroCell)],aa⟩
 | .jl sz bytes ag zero,[.pv (.int _ n),.pv (.int _ n')]=>
   if n=n'∧0≤n∧n≤9223372036854775807∧n*bytes≤140737488355328∧zero.length=sz then
     some ⟨.aP sh.length sz n.toNat ag,none,sh++[some ((List.replicate n.toNat (zero.map .pv)).flatten)],aa⟩ else none
 | .iC key sz bytes zero,[.pv (.int _ n),.pv (.int _ n')]=>match cells with
   |none=>if n=n'∧0≤n∧n≤9223372036854775807∧n*bytes≤140737488355328∧zero.length=sz then
       some ⟨.jH key n.toNat,some ((List.replicate n.toNat (zero.map .pv)).flatten),sh,aa⟩ else none
   |some _=>none
 | .append sz bytes,[s,x]=>(bS sz bytes s x aa).map fun (v,ts)=>⟨v,none,sh,ts⟩
 | .dI sz bytes ag,[s,x]=>match cJ x with
   |some xs=>if bf sz xs=true then (rZ sz bytes ag s xs sh aa).map fun (v,sh')=>⟨v,none,sh',aa⟩ else none
   |none=>none
 | .clone sz bytes,[x]=>(bS sz bytes (.dH []) x aa).map fun (v,ts)=>⟨v,none,sh,ts⟩
 | .gJ sz bytes ag,[x]=>(fR (some ag) sz bytes x sh aa).map fun (v,sh',ts)=>⟨v,none,sh',ts⟩
 | .gK sz zero,[x]=>(nR sz zero sh (s_ sz x)).map fun sh'=>⟨.qW [],none,sh',aa⟩
 | .jK sz,[x,y]=>match cJ y with
   |some xs=>(oS sz sh xs x).map fun (k,sh')=>⟨.pv (.int .i64 (k:Int)),none,sh',aa⟩
   |none=>none
 | .aJ g,vals=>match c_ [] vals with
   |some cW=>(orc.p g cW).map fun rs=>⟨tc rs,none,sh,aa⟩
   |none=>none
 | .eE g,vals=>match c_ sh vals with
   |some cW=>(orc.p g cW).map fun rs=>⟨tc rs,none,cA sh vals,aa⟩
   |none=>none
 | .bA g own,vals=>(dU orc g own vals sh aa).map fun (v,sh',ts)=>⟨v,none,sh',ts⟩
 | .lX g,vals=>match c_ [] vals with
   |some cW=>match orc.i g (cW.map .pv) [] [] with
     |some (rs,[],ts)=>some ⟨th (rs.map (da aa.length)),none,sh,aa++ts⟩
     |_=>none
   |none=>none
 | .ff,f::vals=>match f with
   | .fn g cap=>(dU orc g [] (vals++cap) sh aa).bind (Wi sh)
   |_=>none
 | .fJ,f::vals=>match f with
   | .fn g cap=>(dU orc g [] (vals++cap) sh aa).map fun (v,sh',ts)=>⟨v,none,sh',ts⟩
   |_=>none
 |_,_=>none
def hU(env:List (Nat×AV)):eT→Option AV
 | .t n=>look env n
 | .c v=>some v
def dY(env:List (Nat×AV)):List eT→Option (List AV)
 |[]=>some []
 |x::r=>match hU env x,dY env r with
   |some v,some vs=>some (v::vs)
   |_,_=>none
def fD(env:List (Nat×AV)):Option (Nat×Bool)→Option Bool
 |none=>some true
 |some (t,b)=>match look env t with
   |some (.pv (.bool c))=>some (c == b)
   |some .un=>some false
   |_=>none
def fU(env:List (Nat×AV)):Option Nat→AV→List (Nat×AV)
 |some d,v=>cX env d v
 |none,_=>env
def e8(mem:List (Nat×List AV)):Option Nat→Option (List AV)→List (Nat×List AV)
 |some k,some cs=>cX mem k cs
 |_,_=>mem
def dV(orc:d9)(o:dN)(st:St):Option St:=
 match fD st.env o.guard with
 |none=>none
 |some false=>some { st with env:=fU st.env o.dst .un }
 |some true=>
   match dY st.env o.args with
   |none=>none
   |some vals=>
     match exec orc o.op vals (o.op.key.bind (look st.mem)) st.sh st.aa with
     |none=>none
     |some out=>some { env:=fU st.env o.dst out.val,mem:=e8 st.mem o.op.key out.cells,sh:=out.sh,aa:=out.aa }
def bp(orc:d9):List dN→St→Option St
 |[],st=>some st
 |o::r,st=>match dV orc o st with
   |none=>none
   |some st'=>bp orc r st'
def d8(live:List Nat):AV→Bool
 | .az d _=>live.contains d
 | .jH d _=>live.contains d
 | .own ..=>true
 | .agg cs=>fM cs
 |v=>bE v
def bD(live:List Nat)(env:List (Nat×AV)):List Nat→List (Nat×AV)
 |[]=>[]
 |t::r=>match look env t with
   |some v=>if d8 live v=true then (t,v)::bD live env r else bD live env r
   |none=>bD live env r
def bG(mem:List (Nat×List AV)):List Nat→List (Nat×List AV)
 |[]=>[]
 |t::r=>match look mem t with
   |some v=>(t,v)::bG mem r
   |none=>bG mem r
def restrict(live:List Nat)(st:St):St:=
 { st with env:=bD live st.env live,mem:=bG st.mem live }
def df(aI ts:aG):List (Nat×AV)→List (Nat×AV)×aG×aG
 |[]=>([],aI,ts)
 |(t,v)::r=>((t,(bF aI ts v).1)::(df (bF aI ts v).2.1 (bF aI ts v).2.2 r).1,(df (bF aI ts v).2.1 (bF aI ts v).2.2 r).2)
def fm(aI ts:aG):List (Nat×List AV)→List (Nat×List AV)×aG×aG
 |[]=>([],aI,ts)
 |(t,v)::r=>((t,(bh aI ts v).1)::(fm (bh aI ts v).2.1 (bh aI ts v).2.2 r).1,(fm (bh aI ts v).2.1 (bh aI ts v).2.2 r).2)
def norm(st:St):St:=
 { env:=(df st.aa [] st.env).1,
   mem:=(fm (df st.aa [] st.env).2.1 (df st.aa [] st.env).2.2 st.mem).1,
   sh:=(a9 (fm (df st.aa [] st.env).2.1 (df st.aa [] st.env).2.2 st.mem).2.1 (fm (df st.aa [] st.env).2.1 (df st.aa [] st.env).2.2 st.mem).2.2 st.sh).1,
   aa:=(a9 (fm (df st.aa [] st.env).2.1 (df st.aa [] st.env).2.2 st.mem).2.1 (fm (df st.aa [] st.env).2.1 (df st.aa [] st.env).2.2 st.mem).2.2 st.sh).2.2 }
inductive bg where
 |normal|ret|exit (id:Nat)
 deriving Inhabited,DecidableEq
def fo(f:St→Option (bg×St))(pre:St→St):Nat→St→Option (bg×St)
 |0,_=>none
 |n+1,st=>match f (pre st) with
   |some (.normal,st')=>fo f pre n st'
   |r=>r
def QW(sz:Nat)(ag:Bool)(el:PV):Option AV:=if (aX el).length=sz then cO ag sz (aX el) else none
def qY(f:St→Option (bg×St))(live:List Nat)(pi px sz:Nat)(ag:Bool)(env:List (Nat×AV)):List (PV×Nat)→St→Option (bg×St)
 |[],st=>some (.normal,{ st with env:=env })
 |(el,i)::r,st=>match QW sz ag el with
   |none=>none
   |some v=>match f (norm (restrict live { st with env:=cX (cX env pi (.pv (.int .i64 i))) px v })) with
     |some (.normal,st')=>qY f live pi px sz ag env r st'
     |some (e,st')=>some (e,{ st' with env:=env })
     |none=>none
def andThen(f g:St→Option (bg×St))(st:St):Option (bg×St):=match f st with
 |some (.normal,st')=>g st'
 |_=>none
def NN(live:List Nat)(env:List (Nat×AV)):List (Nat×AV):=(bD live env live).filter fun p=>bE p.2
def lY(f:St→Option (bg×St))(v:Option AV)(gb pi px sz:Nat)(ag:Bool)(live:List Nat)(st:St):Option (bg×St):=
 match v with
 |some (.fn g [.aW s 0])=>if g=gb then
     match st.sh[s]? with
     |some (some [.pv (.au l)])=>if l.length<4611686018427387904 then qY f live pi px sz ag (NN live st.env) l.zipIdx.reverse { st with sh:=kill st.sh [s] } else none
     |_=>none
   else none
 |_=>none
def Ct:AV→St→St
 | .az d 0,st=>match look st.mem d with
   |some cs=>match ca st.sh cs with
     |some ps=>{ st with mem:=cX st.mem d (ps.map .pv),sh:=cA st.sh [.agg cs] }
     |none=>st
   |none=>st
 |_,st=>st
def nB:List Nat→St→St
 |[],st=>st
 |t::r,st=>match look st.env t with
   |some v=>match dd st.sh v with
     |some p=>nB r { st with env:=cX st.env t (.pv p),sh:=cA st.sh [v] }
     |none=>nB r (Ct v st)
   |none=>nB r st
def apart:Option AV→Option AV→Bool
 |some (.aW b _),some (.aW b' _)=>b != b'
 |_,_=>false
def iO(env:List (Nat×AV)):List (Nat×Nat)→Bool
 |[]=>true
 |(a,b)::r=>apart (look env a) (look env b) && iO env r
def zk(d s sz n:Nat)(ag:Bool):AV→Option AV
 | .az d' o=>some (if d'=d then .aW s o else .az d' o)
 | .jH d' m=>if d'=d then (if m*sz≤n then some (.aP s sz m ag) else none) else some (.jH d' m)
 |v=>if d8 [] v=true then some v else none
def r_(d s sz n:Nat)(ag:Bool)(env:List (Nat×AV)):List Nat→List (Nat×AV)
 |[]=>[]
 |t::r=>match (look env t).bind (zk d s sz n ag) with
   |some v=>(t,v)::r_ d s sz n ag env r
   |none=>r_ d s sz n ag env r
def sa{α:Type}(d:Nat):List (Nat×α)→List (Nat×α)
 |[]=>[]
 |(k,v)::r=>if k=d then sa d r else (k,v)::sa d r
def Gx(d sz:Nat)(ag:Bool)(st:St):St:=match look st.mem d with
 |some cells=>if cells.all cN=true∧cells.all (aK (st.sh.length+1))=true then
     { st with env:=r_ d st.sh.length sz cells.length ag st.env (st.env.map (·.1)),mem:=sa d st.mem,sh:=st.sh++[some cells] } else st
 |none=>st
def xu:List (Nat×Nat×Bool)→St→St
 |[],st=>st
 |(d,sz,ag)::r,st=>xu r (Gx d sz ag st)
def nC(b b':Nat):List Nat→List (Nat×AV)→List (Nat×AV)
 |[],env=>env
 |t::r,env=>match look env t with
   |some (.aP s z n ag)=>if s=b then nC b b' r (cX env t (.aP b' z n ag)) else nC b b' r env
   |_=>nC b b' r env
def Cu:List Nat→St→St
 |[],st=>st
 |t::r,st=>match look st.env t with
   |some (.aP b _ _ _)=>match st.sh[b]? with
     |some (some cells)=>if bV cells=false then { st with env:=nC b st.sh.length (t::r) st.env,sh:=st.sh.set b none++[some cells] } else st
     |_=>st
   |_=>st
def jn:List Nat→St→St
 |[],st=>st
 |t::r,st=>match look st.env t with
   |some (.aP b _ _ _)=>match st.sh[b]? with
     |some (some cells)=>if bV cells=false∧(eB (.agg cells)).contains b=false then
         match ca st.sh cells with
         |some ps=>jn r { st with sh:=(cA st.sh [.agg cells]).set b (some (ps.map .pv)) }
         |none=>jn r st
       else jn r st
     |_=>jn r st
   |_=>jn r st
def cM(orc:d9)(k:Nat):aq→St→Option (bg×St)
 | .skip,st=>some (.normal,st)
 | .iN ops live,st=>match bp orc ops st with
   |some st'=>some (.normal,restrict live st')
   |none=>none
 | .seq a b,st=>match cM orc k a st with
   |some (.normal,st')=>cM orc k b st'
   |r=>r
 | .cond c a b,st=>match hU st.env c with
   |some (.pv (.bool t))=>if t then cM orc k a st else cM orc k b st
   |_=>none
 | .block id b,st=>match cM orc k b st with
   |some (.exit id',st')=>if id'=id then some (.normal,st') else some (.exit id',st')
   |r=>r
 | .loop live b,st=>fo (cM orc k b) (fun s=>norm (restrict live s)) k st
 | .exit id,st=>some (.exit id,st)
 | .ret,st=>some (.ret,st)
 | .back c gb pi px sz ag live x y,st=>lY (andThen (cM orc k x) (cM orc k y)) (hU st.env c) gb pi px sz ag live st
 | .dd ts,st=>some (.normal,nB ts st)
 | .PU ds,st=>if iO st.env ds=true then some (.normal,st) else none
 | .lN ps,st=>some (.normal,xu ps st)
 | .lV ts,st=>some (.normal,Cu ts st)
 | .PW ts,st=>some (.normal,jn ts st)
def bZ:Nat→List AV→List (Nat×AV)
 |_,[]=>[]
 |i,v::r=>(i,v)::bZ (i+1) r
def qZ(st:St):qb→Option AV
 | .t n=>look st.env n
 | .c key sz ag=>match look st.env key with
   |some (.az d 0)=>match look st.mem key with
     |some cs=>if d=key then bR ag sz cs 0 else none
     |none=>none
   |some (.aW s 0)=>match st.sh[s]? with
     |some (some cs)=>if bV cs=true then none else bR ag sz cs 0
     |_=>none
   |_=>none
def ek(st:St):List qb→Option (List AV)
 |[]=>some []
 |r::rs=>match qZ st r,ek st rs with
   |some v,some vs=>some (v::vs)
   |_,_=>none
def tj(sh:Sh)(v:AV):AV:=match dd sh v with|some p=>.pv p|none=>v
def vA(sh:Sh)(v:AV):AV:=match v with
 | .dH l=>.dH l
 |v=>if aT v=true then tj sh v else v
def Cv(sh:Sh)(v:AV):AV:=match v with
 | .dH l=>.dH l
 | .own l τ=>.own l τ
 | .agg cs=>.agg (cs.map (vA sh))
 |v=>tj sh v
def cq(aU ks:Bool)(sh:Sh)(vs:List AV):List AV:=if aU then (if ks then vs else vs.map (Cv sh)) else vs.map (tj sh)
def eV(aU ks:Bool)(sh:Sh)(vs:List AV):Sh:=if aU && ks then sh else cA sh vs
def b_(orc:d9)(k:Nat)(aU:Bool)(af:aA)(args:List AV)(sh:Sh)(ts:aG):Option (List AV×Sh×aG):=
 match cM orc k af.body { env:=bZ 0 args,mem:=[],sh,aa:=ts } with
 |some (e,st)=>
   if e=.ret∨e=.normal then
     match ek st af.results with
     |some vs=>
       let rs:=cq aU af.ks st.sh vs
       let sh':=if rs.all (aK sh.length)=true then (eV aU af.ks st.sh vs).take sh.length else eV aU af.ks st.sh vs
       if rs.all bJ=true then some ((cS st.aa rs sh').1,(cS st.aa rs sh').2.1,(cS st.aa rs sh').2.2.2) else none
     |none=>none
   else none
 |none=>none
def fW:List AV→Option (List PV)
 |[]=>some []
 | .pv p::r=>(fW r).map (p::·)
 |_=>none
def run(AP:Nat→Option aA)(k:Nat):Nat→d9
 |0=>{ p:=fun _ _=>none,i:=fun _ _ _ _=>none }
 |n+1=>
   { p:=fun g cW=>match AP g with
       |some af=>match af.qc with
         |some f=>f.f (run AP k n).p cW
         |none=>if cW.length=af.nparams∧cW.length≤af.ntmps then
             match b_ (run AP k n) k false af (cW.map .pv) [] [] with
             |some (rs,_)=>fW rs
             |none=>none
           else none
       |none=>none
     i:=fun g args sh ts=>match AP g with
       |some af=>if args.length≤af.ntmps then b_ (run AP k n) k true af args sh ts else none
       |none=>none }
theorem NO{a b c:Prop}(h:a∨b)(f:b→c):a∨c:=h.elim .inl fun x=>.inr (f x)
abbrev bl:=Nat→Nat→Option Value
def At(K:bl)(b o:Nat)(vs:List Value):Prop:=∀j v,vs[j]?=some v→K b (o+j)=some v
mutual
def R(K:bl)(top:Bool):PV→List Value→Prop
 | .bool b,vs=>vs=[.bool b]
 | .int k n,vs=>vs=[.int k n]
 | .str s,vs=>vs=[.string ⟨s.toArray⟩]
 | .agg cs,vs=>top=true∧dL K cs vs
 | .au els,vs=>∃base len cap,vs=[.slice base len cap]∧len≤cap∧els.length=len∧(els=[]∨∃b o sz,base=some ⟨b,o,none⟩∧Row K b o sz els)
def dL(K:bl):List PV→List Value→Prop
 |[],vs=>vs=[]
 |c::cs,vs=>∃v r,vs=v::r∧R K false c [v]∧dL K cs r
def Row(K:bl)(b o sz:Nat):List PV→Prop
 |[]=>True
 |el::r=>(∃vs,vs.length=sz∧At K b o vs∧R K true el vs)∧Row K b (o+sz) sz r
end
def Rel(K:bl):PV→Value→Prop
 | .agg cs,v=>∃vs:List Value,v=.agg vs.toArray∧dL K cs vs
 |p,v=>R K false p [v]
def jo(K:bl):List PV→List Value→Prop
 |[],vs=>vs=[]
 |c::cs,vs=>∃v r,vs=v::r∧Rel K c v∧jo K cs r
def bl.le(K K':bl):Prop:=∀b o v,K b o=some v→K' b o=some v
theorem bl.le_refl(K:bl):K.le K:=fun _ _ _ h=>h
theorem bl.le_trans{a b c:bl}(h:a.le b)(k:b.le c):a.le c:=fun x y z w=>k x y z (h x y z w)
theorem At.mono{K K':bl}(h:K.le K'){b o:Nat}{vs:List Value}(ha:At K b o vs):At K' b o vs:=fun j v hj=>h _ _ _ (ha j v hj)
mutual
theorem R.mono{K K':bl}(h:K.le K'):∀(p:PV) (top:Bool) (vs:List Value),R K top p vs→R K' top p vs
 | .bool _,_,_,hr=>by simpa only[R] using hr
 | .int _ _,_,_,hr=>by simpa only[R] using hr
 | .str _,_,_,hr=>by simpa only[R] using hr
 | .agg cs,_,vs,hr=>by
   simp only[R]at hr⊢;exact⟨hr.1,dL.mono h cs vs hr.2⟩
 | .au els,_,vs,hr=>by
   simp only[R]at hr⊢;obtain⟨base,len,cap,e1,e0,e2,e3⟩:=hr;refine⟨base,len,cap,e1,e0,e2,NO e3 ?_⟩
   rintro⟨b,o,sz,e4,e5⟩
   exact⟨b,o,sz,e4,Row.mono h els b o sz e5⟩
theorem dL.mono{K K':bl}(h:K.le K'):∀(cs:List PV) (vs:List Value),dL K cs vs→dL K' cs vs
 |[],_,hr=>by simpa only[dL] using hr
 |c::cs,vs,hr=>by
   simp only[dL]at hr⊢;obtain⟨v,r,e1,e2,e3⟩:=hr;exact⟨v,r,e1,R.mono h c false [v] e2,dL.mono h cs r e3⟩
theorem Row.mono{K K':bl}(h:K.le K'):∀(els:List PV) (b o sz:Nat),Row K b o sz els→Row K' b o sz els
 |[],_,_,_,_=>by simp only[Row]
 |el::r,b,o,sz,hr=>by
   simp only[Row]at hr⊢;obtain⟨⟨vs,e1,e2,e3⟩,e4⟩:=hr;exact⟨⟨vs,e1,e2.mono h,R.mono h el true vs e3⟩,Row.mono h r b (o+sz) sz e4⟩
end
theorem Rel.mono{K K':bl}(h:K.le K'){p:PV}{v:Value}(hr:Rel K p v):Rel K' p v:=by
 cases p with
 |agg cs=>obtain⟨vs,e1,e2⟩:=hr;exact⟨vs,e1,dL.mono h _ _ e2⟩
 |_=>exact R.mono h _ _ _ hr
theorem jo.mono{K K':bl}(h:K.le K'):∀{cs:List PV} {vs:List Value},jo K cs vs→jo K' cs vs
 |[],_,hr=>hr
 |_::_,_,⟨v,r,e1,e2,e3⟩=>⟨v,r,e1,e2.mono h,jo.mono h e3⟩
theorem dL.length{K:bl}:∀{cs:List PV} {vs:List Value},dL K cs vs→vs.length=cs.length
 |[],_,hr=>by simp only[dL]at hr;simp[hr]
 |_::cs,_,hr=>by
   simp only[dL]at hr;obtain⟨v,r,rfl,_,e3⟩:=hr;simp[dL.length e3]
theorem jo.length{K:bl}:∀{cs:List PV} {vs:List Value},jo K cs vs→vs.length=cs.length
 |[],_,hr=>by cases hr;rfl
 |_::_,_,⟨v,r,rfl,_,e3⟩=>by simp[jo.length e3]
theorem R.length{K:bl}{p:PV}{vs:List Value}(h:R K true p vs):vs.length=(aX p).length:=by
 cases p with
 |agg cs=>simp only[R]at h;simp[aX,h.2.length]
 |au els=>simp only[R]at h;obtain⟨b,l,c,rfl,_⟩:=h;rfl
 |_=>simp only[R]at h;subst h;rfl
theorem R.cells{K:bl}{p:PV}{vs:List Value}(h:R K true p vs):dL K (aX p) vs:=by
 cases p with
 |agg cs=>simp only[R]at h;exact h.2
 |au els=>
   have h':=h;simp only[R]at h;obtain⟨b,l,c,rfl,e⟩:=h;simp only[aX,dL];exact⟨_,[],rfl,by simp only[R];exact⟨b,l,c,rfl,e⟩,rfl⟩
 |_=>simp only[R]at h;subst h;simp[aX,dL,R]
theorem R.top{K:bl}{p:PV}{vs:List Value}(h:R K false p vs):R K true p vs:=by
 cases p with
 |agg cs=>simp[R]at h
 |_=>simp only[R]at h⊢;exact h
theorem dL.get{K:bl}:∀{cs:List PV} {vs:List Value},dL K cs vs→∀{j:Nat} {c:PV},cs[j]?=some c→∃v,vs[j]?=some v∧R K false c [v]
 |[],_,_,j,c,hc=>by simp at hc
 |c0::cs,vs,h,j,c,hc=>by
   simp only[dL]at h;obtain⟨v,r,rfl,e2,e3⟩:=h;cases j with
   |zero=>simp at hc;subst hc;exact⟨v,by simp,e2⟩
   |succ j=>simpa using dL.get e3 (by simpa using hc)
theorem dL.drop{K:bl}:∀(n:Nat) {cs:List PV} {vs:List Value},dL K cs vs→dL K (cs.drop n) (vs.drop n)
 |0,_,_,h=>by simpa using h
 |n+1,[],_,h=>by simp only[dL]at h;subst h;simp[dL]
 |n+1,_::cs,_,h=>by
   simp only[dL]at h;obtain⟨v,r,rfl,_,e3⟩:=h;simpa using dL.drop n e3
theorem dL.take{K:bl}:∀(n:Nat) {cs:List PV} {vs:List Value},dL K cs vs→dL K (cs.take n) (vs.take n)
 |0,_,_,_=>by simp[dL]
 |n+1,[],_,h=>by simp only[dL]at h;subst h;simp[dL]
 |n+1,_::cs,_,h=>by
   simp only[dL]at h;obtain⟨v,r,rfl,e2,e3⟩:=h;simp only[List.take_succ_cons,dL];exact⟨v,_,rfl,e2,dL.take n e3⟩
theorem dL.append{K:bl}:∀{cs:List PV} {vs:List Value} {ds:List PV} {us:List Value},dL K cs vs→dL K ds us→dL K (cs++ds) (vs++us)
 |[],_,_,_,h,k=>by simp only[dL]at h;subst h;simpa using k
 |_::cs,_,_,_,h,k=>by
   simp only[dL]at h;obtain⟨v,r,rfl,e2,e3⟩:=h;simp only[List.cons_append,dL];exact⟨v,_,rfl,e2,dL.append e3 k⟩
theorem Row.get{K:bl}:∀{els:List PV} {b o sz:Nat},Row K b o sz els→∀{i:Nat} {el:PV},els[i]?=some el →
   ∃vs,vs.length=sz∧At K b (o+i*sz) vs∧R K true el vs
 |[],_,_,_,_,i,el,h=>by simp at h
 |e0::r,b,o,sz,hr,i,el,h=>by
   simp only[Row]at hr;obtain⟨e1,e2⟩:=hr;cases i with
   |zero=>simp at h;subst h;simpa using e1
   |succ i=>
     obtain⟨vs,h1,h2,h3⟩:=Row.get e2 (i:=i) (by simpa using h);exact⟨vs,h1,by rw[show o+(i+1)*sz=o+sz+i*sz from by rw[Nat.add_mul];omega];exact h2,h3⟩
theorem dL.one{K:bl}:∀{cs:List PV} {vs:List Value},dL K cs vs→∀u∈vs,u.oneCell'=true
 |[],_,h,u,hu=>by simp only[dL]at h;subst h;simp at hu
 |c::cs,_,h,u,hu=>by
   simp only[dL]at h;obtain⟨v,r,rfl,e2,e3⟩:=h;simp only[List.mem_cons]at hu;rcases hu with rfl|hu
   · cases c with
     |agg _=>simp[R]at e2
     |au _=>simp only[R]at e2;obtain⟨b,l,c,e,_⟩:=e2;simp at e;subst e;rfl
     |_=>simp[R]at e2;subst e2;rfl
   ·exact dL.one e3 u hu
theorem Row.flat{K:bl}:∀{els:List PV} {b o sz:Nat},Row K b o sz els →
   ∃vss:List Value,vss.length=els.length*sz∧At K b o vss∧(∀(K':bl) (b' o':Nat),K.le K'→At K' b' o' vss→Row K' b' o' sz els)∧∀u∈vss,u.oneCell'=true
 |[],b,o,sz,_=>⟨[],by simp,by intro j v h;simp at h,by intros;simp only[Row],by simp⟩
 |el::r,b,o,sz,hr=>by
   simp only[Row]at hr;obtain⟨⟨vs,h1,h2,h3⟩,h4⟩:=hr;obtain⟨vss,g1,g2,g3,g4⟩:=Row.flat h4;refine⟨vs++vss,by simp[h1,g1,Nat.add_mul];omega,?_,?_,?_⟩
   · intro j v hj;rw[List.getElem?_append]at hj;split at hj
     ·exact h2 j v hj
     · have:=g2 _ v hj;rw[h1]at this
       rwa [show o+sz+(j-sz)=o+j from by omega]at this
   · intro K' b' o' hle ha;simp only[Row];refine⟨⟨vs,h1,?_,R.mono hle _ _ _ h3⟩,?_⟩
     ·intro j v hj;exact ha j v (by rw[List.getElem?_append_left];exact hj;exact (List.getElem?_eq_some_iff.1 hj).1)
     · refine g3 K' b' (o'+sz) hle ?_;intro j v hj;have:=ha (sz+j) v (by rw[List.getElem?_append_right (by omega),h1];simpa using hj)
       rwa [show o'+sz+j=o'+(sz+j) from by omega]
   · intro u hu;simp only[List.mem_append]at hu;rcases hu with hu|hu
     ·exact dL.one h3.cells u hu
     ·exact g4 u hu
theorem Row.append{K:bl}:∀{els:List PV} {b o sz:Nat} {els':List PV},Row K b o sz els→Row K b (o+els.length*sz) sz els'→Row K b o sz (els++els')
 |[],_,_,_,_,_,k=>by simpa using k
 |el::r,b,o,sz,els',h,k=>by
   simp only[Row,List.cons_append]at h⊢;refine⟨h.1,Row.append h.2 ?_⟩;rw[show o+sz+r.length*sz=o+(el::r).length*sz from by simp[Nat.add_mul];omega];exact k
theorem Row.drop{K:bl}:∀(n:Nat) {els:List PV} {b o sz:Nat},Row K b o sz els→Row K b (o+n*sz) sz (els.drop n)
 |0,_,_,_,_,h=>by simpa using h
 |n+1,[],_,_,_,_=>by simp only[List.drop_nil,Row]
 |n+1,el::r,b,o,sz,h=>by
   simp only[Row]at h;simp only[List.drop_succ_cons];rw[show o+(n+1)*sz=o+sz+n*sz from by rw[Nat.add_mul];omega];exact Row.drop n h.2
theorem Row.take{K:bl}:∀(n:Nat) {els:List PV} {b o sz:Nat},Row K b o sz els→Row K b o sz (els.take n)
 |0,_,_,_,_,_=>by simp only[List.take_zero,Row]
 |n+1,[],_,_,_,_=>by simp only[List.take_nil,Row]
 |n+1,el::r,b,o,sz,h=>by
   simp only[Row]at h;simp only[List.take_succ_cons,Row];exact⟨h.1,Row.take n h.2⟩
theorem Row.sz{K:bl}{els:List PV}{b o sz s:Nat}(h:Row K b o sz els)(hs:bf s els=true)(hne:els≠[]):s=sz:=by
 cases els with
 |nil=>exact absurd rfl hne
 |cons el r=>
   simp only[Row]at h;obtain⟨⟨vs,h1,_,h3⟩,_⟩:=h;have:=h3.length;simp[bf]at hs;omega
def PX(K:bl)(els:List PV)(base:Option Addr)(len:Nat):Prop:=
 els.length=len∧(els=[]∨∃b o sz,base=some ⟨b,o,none⟩∧Row K b o sz els)
theorem PX.mono{K K':bl}(h:K.le K'){els:List PV}{base:Option Addr}{len:Nat}(hr:PX K els base len):PX K' els base len:=
 ⟨hr.1,NO hr.2 fun⟨b,o,sz,e,r⟩=>⟨b,o,sz,e,Row.mono h _ _ _ _ r⟩⟩
theorem cd{K:bl}{els:List PV}{v:Value}:Rel K (.au els) v↔∃base len cap,v=.slice base len cap∧len≤cap∧PX K els base len:=by
 simp only[Rel,R,PX];constructor
 ·rintro⟨b,l,c,e,h⟩;exact⟨b,l,c,by simpa using e,h⟩
 ·rintro⟨b,l,c,e,h⟩;exact⟨b,l,c,by simpa using e,h⟩
theorem J0{K:bl}{p:PV}{v:Value}(h:de p=true):Rel K p v↔R K false p [v]:=by
 cases p with
 |agg cs=>simp[de]at h
 |_=>exact Iff.rfl
theorem Rel.Sz{K:bl}{p:PV}{v:Value}(h:R K false p [v]):Rel K p v:=by
 cases p with
 |agg cs=>simp[R]at h
 |_=>exact h
structure ko where
 lO:List (Nat×Nat×Nat)
 PY:List Nat
 ps:List Nat
 live:List (Nat×List Nat)
 loops:List (Nat×List Nat)
 site:List Nat
 own:List (Nat×List Nat)
 J1:List (Nat×Nat):=[]
 ks:Bool:=false
 q:List Nat:=[]
 Wj:List Nat:=[]
 fz:List (Nat×List Nat):=[]
 dup:List (Nat×Nat):=[]
 ro:List Nat:=[]
 Wk:List (Nat×List (Nat×Nat)):=[]
 lN:List (Nat×List (Nat×Nat×Bool)):=[]
 pr:List (Nat×List (Nat×Nat×Nat)):=[]
 cut:List (Nat×Nat×List Nat×List Nat):=[]
 fs:List (Nat×List Nat):=[]
 kp:List Nat:=[]
def ko.at(A:ko)(id:Nat):ko:=match look A.pr id with
 |some l=>{ A with lO:=l++A.lO }
 |none=>A
structure Names where
 g:List (Nat×Nat)
 Xn:List Nat
 bk:List (Nat×Nat×Bool):=[]
 cl:List (Nat×Nat×Nat):=[]
 kz:Nat→Option (Array Value):=fun _=>none
def Names.of(ρ:Names)(f:Nat):Option Nat:=look ρ.g f
def cE(P:Program)(t:TypeId):Option Nat:=(P.info? t).map (·.size)
def eW(P:Program)(t:TypeId):Option Nat:=(P.info? t).map (·.bytes)
def hZ(P:Program)(t:TypeId):Option Bool:=(P.underlying t).map fun| .struct _| .array ..=>true|_=>false
def dC:Value→Option PV
 | .bool b=>some (.bool b)
 | .int k n=>some (.int k n)
 | .string s=>some (.str s.data.toList)
 | .slice none 0 0=>some (.au [])
 |_=>none
def Cx(v:Value):Option AV:=
 match v with
 | .slice none 0 0=>some (.dH [])
 | .pointer none=>some .kr
 | .nilFunc=>some .kr
 |v=>(dC v).map .pv
def cf{α β:Type}(f:α→Option β):List α→Option (List β)
 |[]=>some []
 |x::r=>match f x,cf f r with
   |some y,some ys=>some (y::ys)
   |_,_=>none
def cx(P:Program)(t:TypeId):Option (List PV):=
 match (P.info? t).bind (·.zero) with
 |some z=>cf dC z.cells.toList
 |none=>none
def iZ(ρ:Names):Operand→Option eT
 | .tmp t=>some (.t t)
 | .const v=>(Cx v).map .c
 | .func f=>(ρ.of f).map fun g=>.c (.fn g [])
 | .global _=>none
def eX(P:Program)(t:TypeId):Option TypeId:=match P.underlying t with|some (.slice e)=>some e|_=>none
def gh(P:Program)(t:TypeId)(f:Nat):Option Field:=match P.underlying t with|some (.struct fs)=>fs[f]?|_=>none
def Cy(P:Program)(t:TypeId):Option CK:=if cE P t=some 1 then match P.underlying t with
 |some (.int _)=>some .int
 |some .string=>some .str
 |some .bool=>some .bool
 |_=>none
 else none
def Cz(P:Program):Nat→List Field→Option (List CK)
 |_,[]=>some []
 | i,f::r=>if f.name ≠ "_"∧f.offset=i then match Cy P f.type,Cz P (i+1) r with
   |some c,some cs=>some (c::cs)
   |_,_=>none
   else none
def zeroOf(P:Program)(t:TypeId):Option PV:=match (P.info? t).bind (·.zero) with
 |some (.agg cs)=>(cf dC cs.toList).map .agg
 |some v=>dC v
 |none=>none
def Fw(P:Program)(op:BinOp)(t:TypeId):Option NK:=
 match P.underlying t with
 |some (.int _)|some .string=>some (.bin op)
 |some .bool=>if op=.eql then some (.beq false) else if op=.neq then some (.beq true) else none
 |_=>none
def fieldsOf(P:Program)(t:TypeId):Option (List (Nat×Nat)):=
 match P.underlying t with
 |some (.struct fs)=>cf (fun f=>(cE P f.type).map fun s=>(f.offset,s)) fs.toList
 |_=>none
def placesOf(P:Program)(t:TypeId)(is:List Nat):Option (List (Nat×Nat)):=
 match fieldsOf P t with
 |some all=>cf (fun i=>all[i]?) is
 |none=>none
def ss:Nat→List (Nat×Operand)→Bool
 |_,[]=>true
 |i,(j,_)::r=>i == j && ss (i+1) r
def bH(P:Program)(ρ:Names)(A:ko)(dst:Option Nat):Op→Option (AK×List Operand)
 | .move x| .assign x=>some (.v .mv,[x])
 | .pick c a b=>some (.v .pick,[c,a,b])
 | .binOp op t x y _=>(Fw P op t).map fun o=>(.v o,[x,y])
 | .unOp op _ x=>some (.v (.un op),[x])
 | .convert s d x=>match P.underlying s,P.underlying d with
   |some (.int _),some (.int k)=>some (.v (.conv k),[x])
   |some (.slice e),some .string=>match P.underlying e with
     |some (.int .u8)=>some (.v .b2s,[x])
     |_=>none
   |_,_=>none
 | .extract x i=>some (.v (.ext i),[x])
 | .field t x f=>match gh P t f with
   |some fd=>match cE P fd.type,hZ P fd.type with
     |some sz,some ag=>some (.v (.field fd.offset sz ag),[x])
     |_,_=>none
   |none=>none
 | .fieldAddr t x f=>match gh P t f with
   |some fd=>match cE P fd.type with
     |some s=>if s=0 then none else some (.v (.g_ fd.offset),[x])
     |none=>none
   |none=>none
 | .indexAddr t x i=>match eX P t with
   |some e=>(cE P e).map fun sz=>(.v (.eg sz),[x,i])
   |none=>none
 | .index t x i=>match P.underlying t with
   |some .string=>some (.v .index,[x,i])
   |_=>none
 | .build t ps=>match P.underlying t with
   |some (.struct _)=>match cx P t,placesOf P t (ps.toList.map (·.1)) with
     |some z,some pl=>some (.v (.build z pl),ps.toList.map (·.2))
     |_,_=>none
   |_=>none
 | .buildSlice t n ps=>match eX P t with
   |some e=>match cE P e,cx P e with
     |some sz,some _=>if ps.size=n∧ss 0 ps.toList=true∧0<sz∧n*sz≤16777216 then some (.v (.eh sz),ps.toList.map (·.2)) else none
     |_,_=>none
   |none=>none
 | .load t x=>match cE P t,hZ P t with
   |some sz,some ag=>match x with
     | .tmp tx=>match look A.lO tx with
       |some (k,o)=>some (.bY k o sz ag,[x])
       |none=>if A.PY.contains tx then some (.d7 sz ag,[x]) else some (.v (.fH sz ag),[x])
     |_=>none
   |_,_=>none
 | .store t x v=>match cE P t,x with
   |some sz,.tmp tx=>match look A.lO tx with
     |some (k,o)=>some (.bC k o sz,[x,v])
     |none=>if A.kp.contains tx=true then some (.xt sz,[x,v]) else some (.fK sz,[x,v])
   |_,_=>none
 | .alloc t=>match cx P t,dst with
   |some z,some d=>match look A.lO d with
     |some (k,0)=>if k=d then some (.alloc d z,[]) else none
     |some _=>none
     |none=>some (.jk z,[])
   |_,_=>none
 | .box t x=>match cE P t,dst with
   |some sz,some d=>match look A.lO d with
     |some (k,0)=>if k=d then some (.box d sz,[x]) else none
     |some _=>none
     |none=>if A.kp.contains d=true then some (.NL sz,[x]) else some (.oQ sz,[x])
   |_,_=>none
 | .makeMap _ r=>if r.isNone=true then some (.Fu,[]) else none
 | .lookup t x i ok=>match P.underlying t with
   |some (.map k e)=>match Cy P k,zeroOf P e with
     |some c,some z=>some (.s9 c ok z,[x,i])
     |_,_=>none
   |_=>none
 | .mapUpdate t m i x| .insert t m i x=>match P.underlying t with
   |some (.map k _)=>(Cy P k).map fun c=>(.NM c,[m,i,x])
   |_=>none
 | .nilCheck x=>some (.v .qa,[x])
 | .makeFunc fn first cap=>match fn with
   | .func f=>if first.size=0 then (ρ.of f).map fun g=>(.v (.Gv g),cap.toList) else none
   |_=>none
 | .makeSlice t l c=>match eX P t with
   |some e=>match cE P e,eW P e,hZ P e,cx P e with
     |some sz,some by_,some ag,some z=>if z.length=sz∧0<sz then match dst.bind (look A.lO),dst with
         |some (k,0),some d=>if k=d then some (.iC d sz by_ z,[l,c]) else none
         |some _,_=>none
         |none,_=>some (.jl sz by_ ag z,[l,c])
       else none
     |_,_,_,_=>none
   |none=>none
 | .slice t x lo hi mx=>match P.underlying t with
   |some (.slice e)=>if mx.isSome=false∧(dst.map (A.Wj.contains ·)).getD false=true then (cE P e).map fun sz=>(.v (.s8 sz lo.isSome hi.isSome),x::(lo.toList++hi.toList++mx.toList))
     else (cE P e).map fun sz=>(.v (.slice false sz lo.isSome hi.isSome mx.isSome),x::(lo.toList++hi.toList++mx.toList))
   |some .string=>if mx.isSome then none else some (.v (.slice true 0 lo.isSome hi.isSome false),x::(lo.toList++hi.toList++mx.toList))
   |_=>none
 | .call c=>match c.callee with
   | .builtin .len=>match c.args.toList,(c.argTypes[0]?).bind P.underlying with
     |[x],some (.slice _)=>some (.v .len,[x])
     |[x],some .string=>some (.v .Cs,[x])
     |_,_=>none
   | .builtin .min=>match c.args.toList with
     |[x,y]=>some (.v .mn,[x,y])
     |_=>none
   | .builtin .max=>match c.args.toList with
     |[x,y]=>some (.v .mx,[x,y])
     |_=>none
   | .builtin .append=>match c.args.toList,(c.argTypes[0]?).bind (eX P),(c.argTypes[1]?).bind (eX P) with
     |[x,y],some e,some _=>match cE P e,eW P e,cx P e with
       |some sz,some by_,some z=>if z.length=sz∧0<sz∧0<by_ then
           if (dst.map (A.Wj.contains ·)).getD false then (hZ P e).map fun ag=>(.dI sz by_ ag,[x,y]) else match dst.bind (look A.dup) with
             |some u=>some (.oR sz by_,[x,y,.tmp u])
             |none=>some (.append sz by_,[x,y])
         else none
       |_,_,_=>none
     |_,_,_=>none
   | .builtin .clear=>match c.args.toList,(c.argTypes[0]?).bind (eX P) with
     |[x],some e=>match cE P e,cx P e with
       |some sz,some z=>if z.length=sz∧0<sz then some (.gK sz z,[x]) else none
       |_,_=>none
     |_,_=>none
   | .builtin .copy=>match c.args.toList,(c.argTypes[0]?).bind (eX P),(c.argTypes[1]?).bind (eX P) with
     |[x,y],some e,some _=>match cE P e with
       |some sz=>some (.jK sz,[x,y])
       |none=>none
     |_,_,_=>none
   | .value (.func f)=>match ρ.of f with
     |some g=>match look ρ.cl g with
       |some (sz,by_)=>if c.args.size=1 then
           (if (dst.map (A.Wj.contains ·)).getD false=true then match (c.argTypes[0]?).bind (eX P) with
             |some e=>(hZ P e).map fun ag=>(.gJ sz by_ ag,c.args.toList)
             |none=>none
           else some (.clone sz by_,c.args.toList)) else none
       |none=>if (dst.map (A.q.contains ·)).getD false then some (.lX g,c.args.toList)
       else if ρ.Xn.contains g || (dst.map (A.site.contains ·)).getD false then some (.bA g ((dst.bind (look A.own)).getD []),c.args.toList)
       else if (dst.map (A.ps.contains ·)).getD false then some (.eE g,c.args.toList) else some (.aJ g,c.args.toList)
     |none=>none
   | .value (.tmp t)=>if (dst.map (A.ro.contains ·)).getD false=true then some (.ff,.tmp t::c.args.toList) else some (.fJ,.tmp t::c.args.toList)
   |_=>none
 |_=>none
def cK(P:Program)(ρ:Names)(A:ko)(N:Nat)(ops:Array Oper)(o:Oper):Option dN:=
 match bH P ρ A o.dst o.op with
 |some (k,args)=>match cf (iZ ρ) args with
   |some as=>
     if (o.dst.map (fun d=>decide (d<N))).getD true=true then
       match o.guard with
       |none=>some { dst:=o.dst,guard:=none,args:=as,op:=k }
       |some (j,b)=>match (ops[j]?).bind (·.dst) with
         |some t=>some { dst:=o.dst,guard:=some (t,b),args:=as,op:=k }
         |none=>none
     else none
   |none=>none
 |none=>none
def dN.looks(o:dN):List Nat:=
 (o.args.filterMap fun| .t n=>some n|_=>none)++(match o.guard with|some (t,_)=>[t]|none=>[])
def AK.iP:AK→Bool
 | .d7 ..| .fK _| .xt _| .oQ _| .NL _| .jk _| .jl ..| .eE _| .bA ..| .fJ| .ff| .Fu| .s9 ..| .NM _| .dI ..| .gJ ..| .gK ..| .jK _=>true
 |_=>false
def AK.vV:AK→Bool
 | .d7 ..| .s9 ..| .ff=>true
 |_=>false
def AK.gv:AK→Bool
 | .append ..| .dI ..| .oR ..| .clone ..| .bA ..| .lX _| .fJ| .ff=>true
 |_=>false
def AK.iy:AK→Bool
 | .bC ..| .alloc ..| .box ..| .iC ..=>true
 |_=>false
def indep(x y:dN):Bool:=
 (match x.dst with|some d=>!(y.looks).contains d && y.dst != some d|none=>true) &&
 (match y.dst with|some d=>!(x.looks).contains d|none=>true) &&
 (!(x.op.iP && y.op.iP) || (x.op.vV && y.op.vV)) && !(x.op.gv && y.op.gv) &&
 (match x.op.key,y.op.key with
  |some a,some b=>a != b || !(x.op.iy || y.op.iy)
  |_,_=>true)
def dN.addr(o:dN):Option Nat:=match o.op,o.args with
 | .d7 ..,.t a::_| .fK _,.t a::_=>some a
 |_,_=>none
def zm(ds:List (Nat×Nat))(x y:dN):Bool:=
 (match x.dst with|some d=>!(y.looks).contains d && y.dst != some d|none=>true) &&
 (match y.dst with|some d=>!(x.looks).contains d|none=>true) &&
 (match x.addr,y.addr with
  |some a,some b=>ds.contains (a,b)
  |_,_=>false)
def xv:List dN→Bool
 |[]=>true
 |x::r=>(match x.addr with|some a=>(x::r).all (fun o=>o.dst != some a)|none=>true) && xv r
def lZ:List Oper→List Nat→List Nat
 |[],acc=>acc
 |o::r,acc=>lZ r (acc++[o.after.toList.foldl (fun s e=>if Region.binds .any e then s ||| 2 ^ e.on ||| acc.getD e.on 0 else s) 0])
def su(ds:List (Nat×Nat))(ms:List Nat)(i:Nat)(x:dN):Nat→List dN→Bool
 |_,[]=>true
 |j,y::r=>((ms.getD j 0).testBit i || indep x y || zm ds x y) && su ds ms i x (j+1) r
def l0(ds:List (Nat×Nat))(ms:List Nat):Nat→List dN→Bool
 |_,[]=>true
 |i,x::r=>su ds ms i x (i+1) r && l0 ds ms (i+1) r
def ib:Nat→List Oper→Bool
 |_,[]=>true
 |i,o::r=>o.after.toList.all (fun e=>!Region.binds .any e || decide (e.on<i)) && ib (i+1) r
def xx(ds:List (Nat×Nat))(ops:List Oper)(as:List dN):Bool:=ib 0 ops && (l0 ds (lZ ops []) 0 as && xv as)
def kA:Code→Option Nat
 | .region id _ _=>some id
 | .seq a b| .cond _ a b=>match kA a with|some i=>some i|none=>kA b
 | .block _ c| .loop c| .scope c=>kA c
 |_=>none
def aq.fY:aq→Bool
 | .seq a b| .cond _ a b=>a.fY && b.fY
 | .block _ b| .loop _ b=>b.fY
 | .back ..=>false
 |_=>true
def jM(o:Option (List Nat))(c:aq):aq:=match o with
 |some ts=>.seq (.dd ts) c
 |none=>c
def sv(o:Option (List Nat))(c:aq):aq:=match o with
 |some ts=>.seq (.PW ts) c
 |none=>c
def CA(o:Option (Nat×List Nat×List Nat))(as:List dN)(live:List Nat):aq:=match o with
 |some (k,l,ts)=>.seq (.iN (as.take k) l) (.seq (.lV ts) (.iN (as.drop k) live))
 |none=>.iN as live
def behind(ds:Option (List (Nat×Nat)))(ps:Option (List (Nat×Nat×Bool)))(c:aq):aq:=
 let c1:=match ds with
   |some ds=>.seq c (.PU ds)
   |none=>c
 match ps with
 |some ps=>.seq c1 (.lN ps)
 |none=>c1
def gi(P:Program)(ρ:Names)(A:ko)(N:Nat):Code→Option aq
 | .skip=>some .skip
 | .region id ops draw=>match cf (cK P ρ (A.at id) N ops) ops.toList with
   |some as=>if draw then (if xx ((look A.Wk id).getD []) ops.toList as then some (jM (look A.fz id) (behind (look A.Wk id) (look A.lN id) (.iN as ((look A.live id).getD [])))) else none)
     else match look A.cut id with
       |some q=>some (sv (look A.fs id) (jM (look A.fz id) (CA (some q) as ((look A.live id).getD []))))
       |none=>some (sv (look A.fs id) (jM (look A.fz id) (behind (look A.Wk id) (look A.lN id) (.iN as ((look A.live id).getD [])))))
   |none=>none
 | .seq a b=>match gi P ρ A N a,gi P ρ A N b with
   |some x,some y=>some (.seq x y)
   |_,_=>none
 | .cond c a b=>match iZ ρ c,gi P ρ A N a,gi P ρ A N b with
   |some c,some x,some y=>some (.cond c x y)
   |_,_,_=>none
 | .block id b=>(gi P ρ A N b).map (.block id)
 | .loop b=>(gi P ρ A N b).map (.loop (((kA b).bind (look A.loops)).getD []))
 | .exit id=>some (.exit id)
 | .ret=>some .ret
 |_=>none
def Fx(P:Program):ResultVar→Option qb
 | .tmp t=>some (.t t)
 | .cell a t=>match cE P t,hZ P t with
   |some sz,some ag=>some (.c a sz ag)
   |_,_=>none
def oU(P:Program)(ρ:Names)(A:ko)(fn:Func):Option aA:=
 match fn.body,cf (Fx P) fn.results.toList with
 | some b,some rs=>if fn.params.size+fn.nfree≤fn.ntmps∧fn.name != "runtime.NumGoroutine" then
     (gi P ρ A fn.ntmps b).map fun c=>{ nparams:=fn.params.size,ntmps:=fn.ntmps,results:=rs,body:=c,ks:=A.ks } else none
 |_,_=>none
inductive l3 where
 |ez|lO (d:Nat)|shr (b:Nat)|tok (τ:Nat)
 deriving DecidableEq
structure Tk where
 base:Option Addr
 len:Nat
 cap:Nat
 sz:Nat
 own:Bool:=false
def Tk.val(t:Tk):Value:=.slice t.base t.len t.cap
def Tk.dead(t:Tk):Prop:=t.base=none∧0<t.len
def Tk.on(t t':Tk):Prop:=(t.dead→t'.dead)∧(t'.dead∨t.cap<t'.len∨(t'.base=t.base∧t'.cap=t.cap∧(t'=t∨t'.own=true)))
def Tk.S9(t:Tk)(v:Value):Prop:=t.dead∨∃base len cap,v=.slice base len cap∧(cap<t.len∨(base=t.base∧cap=t.cap∧(len=t.len∨t.own=true)))
theorem Tk.gL(t:Tk):t.on t:=⟨id,.inr (.inr ⟨rfl,rfl,.inl rfl⟩)⟩
theorem Tk.J3{a b c:Tk}(h:a.on b)(k:b.on c)(hl:b.len≤c.len):a.on c:=by
 refine⟨fun d=>k.1 (h.1 d),?_⟩;rcases h.2 with d|hc|⟨e1,e2,e3⟩
 ·exact .inl (k.1 d)
 ·exact .inr (.inl (by omega))
 · rcases k.2 with d|hc|⟨f1,f2,f3⟩
   ·exact .inl d
   ·exact .inr (.inl (by omega))
   · refine .inr (.inr ⟨f1.trans e1,f2.trans e2,?_⟩);rcases f3 with rfl|f3
     ·exact e3
     ·exact .inr f3
theorem Tk.sA(t:Tk):t.S9 t.val:=.inr ⟨_,_,_,rfl,.inr ⟨rfl,rfl,.inl rfl⟩⟩
theorem Tk.QX{t t':Tk}{v:Value}(h:t.S9 v)(k:t.on t')(hl:t.len≤t'.len):t'.S9 v:=by
 rcases h with d|⟨base,len,cap,e,h⟩
 ·exact .inl (k.1 d)
 · rcases k.2 with d|hc|⟨e1,e2,e3⟩
   ·exact .inl d
   ·refine .inr ⟨base,len,cap,e,.inl ?_⟩;rcases h with h|⟨_,h,_⟩<;>omega
   · refine .inr ⟨base,len,cap,e,?_⟩;rcases h with h|⟨h1,h2,h3⟩
     ·exact .inl (by omega)
     · refine .inr ⟨h1.trans e1.symm,h2.trans e2.symm,?_⟩;rcases e3 with rfl|e3
       ·exact h3
       ·exact .inr e3
structure Gh where
 K:bl
 role:Nat→l3
 pm:Nat→Option Nat
 sm:Nat→Option (Nat×Nat)
 tk:Nat→Option Tk
structure bQ where
 r:Nat→Nat→Prop
 kz:Nat→Option (Array Value)
mutual
def aB(ρ:bQ)(G:Gh):AV→Value→Prop
 | .un,v=>v=undef
 | .pv p,v=>Rel G.K p v
 | .dH els,v=>∃base len,v=.slice base len len∧PX G.K els base len
 | .own els τ,v=>∃t,G.tk τ=some t∧(els.length≤t.len∧t.S9 v)∧Rel G.K (.au els) v ∧
     (els.length=t.len→v=t.val∧(els=[]∨∃b o,t.base=some ⟨b,o,none⟩∧Row G.K b o t.sz els))
 | .agg cs,v=>∃vs:List Value,v=.agg vs.toArray∧aw ρ G cs vs
 | .qW cs,v=>∃vs:List Value,v=.tuple vs.toArray∧aw ρ G cs vs
 | .az d off,v=>∃b,G.pm d=some b∧v=.pointer (some ⟨b,off,none⟩)
 | .aW s off,v=>∃b,G.sm s=some b∧v=.pointer (some ⟨b.1,off,none⟩)
 | .gf cs,v=>∃b o vs,v=.pointer (some ⟨b,o,none⟩)∧At G.K b o vs∧dL G.K cs vs
 | .aP s z n _,v=>∃b cap,G.sm s=some b∧v=.slice (some ⟨b.1,0,none⟩) n (n+cap)∧(n+cap)*z≤b.2
 | .fn g cap,v=>∃f vs,ρ.r g f∧v=.func (.func f) #[] (List.toArray vs)∧aw ρ G cap vs
 | .kr,v=>v=.pointer none∨v=.nilFunc
 | .ku s,v=>∃b,G.sm s=some b∧v=.map (some b.1)
 | .gg _,_=>False
 | .jH d n,v=>∃b,G.pm d=some b∧v=.slice (some ⟨b,0,none⟩) n n
 | .p_ s off n,v=>∃b base cap,G.sm s=some b∧v=.slice base n cap∧(n=0∨base=some ⟨b.1,off,none⟩)
def aw(ρ:bQ)(G:Gh):List AV→List Value→Prop
 |[],vs=>vs=[]
 |c::cs,vs=>∃v r,vs=v::r∧aB ρ G c v∧aw ρ G cs r
end
structure Gh.le(G G':Gh):Prop where
 K:G.K.le G'.K
 pm:∀d b,G.pm d=some b→G'.pm d=some b
 sm:∀d b,G.sm d=some b→G'.sm d=some b
 tk:∀τ t,G.tk τ=some t→∃t',G'.tk τ=some t'∧(t.len≤t'.len∧t.on t')∧(t.len=t'.len→t'=t)
theorem Gh.le_refl(G:Gh):G.le G:=⟨G.K.le_refl,fun _ _ h=>h,fun _ _ h=>h,fun _ t h=>⟨t,h,⟨Nat.le_refl _,t.gL⟩,fun _=>rfl⟩⟩
theorem Gh.le_trans{a b c:Gh}(h:a.le b)(k:b.le c):a.le c:=
 ⟨bl.le_trans h.K k.K,fun x y e=>k.pm _ _ (h.pm x y e),fun x y e=>k.sm _ _ (h.sm x y e),fun τ t e=>by
   obtain⟨t',e1,e2,e3⟩:=h.tk τ t e;obtain⟨t'',f1,f2,f3⟩:=k.tk τ t' e1
   exact⟨t'',f1,⟨Nat.le_trans e2.1 f2.1,Tk.J3 e2.2 f2.2 f2.1⟩,fun hl=>by
     have h1:t.len=t'.len:=Nat.le_antisymm e2.1 (hl ▸ f2.1);have h2:t'.len=t''.len:=h1 ▸ hl;rw[f3 h2,e3 h1]⟩⟩
section
variable {ρ:bQ} {G G':Gh}
mutual
theorem aB.mono(h:G.le G'):∀{x:AV} {v:Value},aB ρ G x v→aB ρ G' x v
 | .un,_,hr=>by simpa only[aB] using hr
 | .pv p,_,hr=>by simp only[aB]at hr⊢;exact hr.mono h.K
 | .dH els,_,hr=>by
   simp only[aB]at hr⊢;obtain⟨b,l,e,r⟩:=hr;exact⟨b,l,e,r.mono h.K⟩
 | .own els τ,v,hr=>by
   simp only[aB]at hr⊢;obtain⟨t,e1,e2,e3,e4⟩:=hr;obtain⟨t',f1,f2,f3⟩:=h.tk τ t e1;refine⟨t',f1,⟨Nat.le_trans e2.1 f2.1,Tk.QX e2.2 f2.2 f2.1⟩,e3.mono h.K,fun hl=>?_⟩;have h1:els.length=t.len:=Nat.le_antisymm e2.1 (hl ▸ f2.1);have h2:=f3 (h1 ▸ hl);subst h2;obtain⟨g1,g2⟩:=e4 h1;exact⟨g1,NO g2 fun⟨b,o,e,r⟩=>⟨b,o,e,Row.mono h.K _ _ _ _ r⟩⟩
 | .agg cs,_,hr=>by
   simp only[aB]at hr⊢;obtain⟨vs,e,r⟩:=hr;exact⟨vs,e,aw.mono h r⟩
 | .qW cs,_,hr=>by
   simp only[aB]at hr⊢;obtain⟨vs,e,r⟩:=hr;exact⟨vs,e,aw.mono h r⟩
 | .az d off,_,hr=>by
   simp only[aB]at hr⊢;obtain⟨b,e,r⟩:=hr;exact⟨b,h.pm _ _ e,r⟩
 | .aW d off,_,hr=>by
   simp only[aB]at hr⊢;obtain⟨b,e,r⟩:=hr;exact⟨b,h.sm _ _ e,r⟩
 | .gf cs,_,hr=>by
   simp only[aB]at hr⊢;obtain⟨b,o,vs,e,f,r⟩:=hr;exact⟨b,o,vs,e,f.mono h.K,dL.mono h.K _ _ r⟩
 | .aP s _ n _,_,hr=>by
   simp only[aB]at hr⊢;obtain⟨b,c,e,r⟩:=hr;exact⟨b,c,h.sm _ _ e,r⟩
 | .fn g cap,_,hr=>by
   simp only[aB]at hr⊢;obtain⟨f,vs,e1,e2,r⟩:=hr;exact⟨f,vs,e1,e2,aw.mono h r⟩
 | .kr,_,hr=>by simpa only[aB] using hr
 | .ku s,_,hr=>by
   simp only[aB]at hr⊢;obtain⟨b,e,r⟩:=hr;exact⟨b,h.sm _ _ e,r⟩
 | .gg _,_,hr=>by simp only[aB]at hr
 | .p_ s _ _,_,hr=>by
   simp only[aB]at hr⊢;obtain⟨b,x,c,e,r⟩:=hr;exact⟨b,x,c,h.sm _ _ e,r⟩
 | .jH d _,_,hr=>by
   simp only[aB]at hr⊢;obtain⟨b,e,r⟩:=hr;exact⟨b,h.pm _ _ e,r⟩
theorem aw.mono(h:G.le G'):∀{xs:List AV} {vs:List Value},aw ρ G xs vs→aw ρ G' xs vs
 |[],_,hr=>by simpa only[aw] using hr
 |_::_,_,hr=>by
   simp only[aw]at hr⊢;obtain⟨v,r,e,e1,e2⟩:=hr;exact⟨v,r,e,aB.mono h e1,aw.mono h e2⟩
end
theorem aw.length:∀{xs:List AV} {vs:List Value},aw ρ G xs vs→vs.length=xs.length
 |[],_,hr=>by simp only[aw]at hr;simp[hr]
 |_::_,_,hr=>by
   simp only[aw]at hr;obtain⟨v,r,rfl,_,e2⟩:=hr;simp[aw.length e2]
theorem aw.get:∀{xs:List AV} {vs:List Value},aw ρ G xs vs→∀{j:Nat} {x:AV},xs[j]?=some x→∃v,vs[j]?=some v∧aB ρ G x v
 |[],_,_,j,x,hc=>by simp at hc
 |x0::xs,_,hr,j,x,hc=>by
   simp only[aw]at hr;obtain⟨v,r,rfl,e1,e2⟩:=hr;cases j with
   |zero=>simp at hc;subst hc;exact⟨v,by simp,e1⟩
   |succ j=>simpa using aw.get e2 (by simpa using hc)
theorem aw.drop:∀(n:Nat) {xs:List AV} {vs:List Value},aw ρ G xs vs→aw ρ G (xs.drop n) (vs.drop n)
 |0,_,_,h=>by simpa using h
 |n+1,[],_,h=>by simp only[aw]at h;subst h;simp[aw]
 |n+1,_::cs,_,h=>by
   simp only[aw]at h;obtain⟨v,r,rfl,_,e3⟩:=h;simpa using aw.drop n e3
theorem aw.take:∀(n:Nat) {xs:List AV} {vs:List Value},aw ρ G xs vs→aw ρ G (xs.take n) (vs.take n)
 |0,_,_,_=>by simp[aw]
 |n+1,[],_,h=>by simp only[aw]at h;subst h;simp[aw]
 |n+1,_::cs,_,h=>by
   simp only[aw]at h;obtain⟨v,r,rfl,e2,e3⟩:=h;simp only[List.take_succ_cons,aw];exact⟨v,_,rfl,e2,aw.take n e3⟩
theorem aw.append:∀{xs:List AV} {vs:List Value} {ys:List AV} {us:List Value},aw ρ G xs vs→aw ρ G ys us→aw ρ G (xs++ys) (vs++us)
 |[],_,_,_,h,k=>by simp only[aw]at h;subst h;simpa using k
 |_::cs,_,_,_,h,k=>by
   simp only[aw]at h;obtain⟨v,r,rfl,e2,e3⟩:=h;simp only[List.cons_append,aw];exact⟨v,_,rfl,e2,aw.append e3 k⟩
theorem iD:∀{cs:List PV} {vs:List Value},dL G.K cs vs→aw ρ G (cs.map .pv) vs
 |[],_,h=>by simp only[dL]at h;subst h;simp[aw]
 |_::cs,_,h=>by
   simp only[dL]at h;obtain⟨v,r,rfl,e2,e3⟩:=h;simp only[List.map_cons,aw];exact⟨v,r,rfl,by simp only[aB];exact Rel.Sz e2,iD e3⟩
theorem gj:∀{cs:List PV} {vs:List Value},jo G.K cs vs→aw ρ G (cs.map .pv) vs
 |[],_,h=>by cases h;simp[aw]
 |_::cs,_,⟨v,r,e1,e2,e3⟩=>by
   subst e1;simp only[List.map_cons,aw];exact⟨v,r,rfl,by simp only[aB];exact e2,gj e3⟩
theorem aB.cells{x:AV}{v:Value}(h:aB ρ G x v)(hx:(a_ x).all aT=true):aw ρ G (a_ x) v.cells.toList:=by
 cases x with
 |agg cs=>simp only[aB]at h;obtain⟨vs,rfl,r⟩:=h;simpa[a_,Value.cells] using r
 |pv p=>
   cases p with
   |agg cs=>
     simp only[aB,Rel]at h;obtain⟨vs,rfl,r⟩:=h;simpa[a_,Value.cells] using iD r
   |bool b=>have h':=h;simp only[aB,Rel,R]at h;simp at h;subst h;simp only[a_,Value.cells,aw];exact⟨_,[],rfl,h',rfl⟩
   |int k n=>have h':=h;simp only[aB,Rel,R]at h;simp at h;subst h;simp only[a_,Value.cells,aw];exact⟨_,[],rfl,h',rfl⟩
   |str s=>have h':=h;simp only[aB,Rel,R]at h;simp at h;subst h;simp only[a_,Value.cells,aw];exact⟨_,[],rfl,h',rfl⟩
   |au els=>
     have h':=h;simp only[aB]at h;obtain⟨b,l,c,rfl,_⟩:=cd.1 h;simp only[a_,Value.cells,aw];exact⟨_,[],rfl,h',rfl⟩
 |dH els=>
   have h':=h;simp only[aB]at h;obtain⟨b,l,rfl,_⟩:=h;simp only[a_,Value.cells,aw];exact⟨_,[],rfl,h',rfl⟩
 |own els τ=>
   have h':=h;simp only[aB]at h;obtain⟨t,_,_,h3,_⟩:=h;obtain⟨b,l,c,rfl,_⟩:=cd.1 h3;simp only[a_,Value.cells,aw];exact⟨_,[],rfl,h',rfl⟩
 |aW s o=>
   have h':=h;simp only[aB]at h;obtain⟨b,_,rfl⟩:=h;simp only[a_,Value.cells,aw];exact⟨_,[],rfl,h',rfl⟩
 |aP s z n ag=>
   have h':=h;simp only[aB]at h;obtain⟨b,c,_,rfl,_⟩:=h;simp only[a_,Value.cells,aw];exact⟨_,[],rfl,h',rfl⟩
 |fn g cap=>
   have h':=h;simp only[aB]at h;obtain⟨f,vs,_,rfl,_⟩:=h;simp only[a_,Value.cells,aw];exact⟨_,[],rfl,h',rfl⟩
 |kr=>
   have h':=h;simp only[aB]at h;rcases h with rfl|rfl
   ·simp only[a_,Value.cells,aw];exact⟨_,[],rfl,h',rfl⟩
   ·simp only[a_,Value.cells,aw];exact⟨_,[],rfl,h',rfl⟩
 |ku s=>
   have h':=h;simp only[aB]at h;obtain⟨b,_,rfl⟩:=h;simp only[a_,Value.cells,aw];exact⟨_,[],rfl,h',rfl⟩
 |gg kvs=>simp only[aB]at h
 |_=>simp[a_,aT]at hx
end
structure VM(ρ:bQ)(G:Gh)(w:World)(b:Nat)(r:l3)(cells:List AV):Prop where
 role:G.role b=r
 at_:∃c t,w.heap[b]?=some (.cells c t (0,0))∧aw ρ G cells c.toList
def qd(K:bl):List (PV×PV)→List MapEntry→Prop
 |[],es=>es=[]
 |(k,p)::r,es=>∃e es',es=e::es'∧Rel K k e.key∧Rel K p e.val∧qd K r es'
theorem qd.mono{K K':bl}(h:K.le K'):∀{kvs:List (PV×PV)} {es:List MapEntry},qd K kvs es→qd K' kvs es
 |[],_,hr=>hr
 |(_,_)::_,_,⟨e,es',e1,e3,e4,e5⟩=>⟨e,es',e1,e3.mono h,e4.mono h,qd.mono h e5⟩
def Holds(ρ:bQ)(G:Gh)(o:Obj)(n:Nat)(cells:List AV):Prop:=
 (∃c t vs suf,o=.cells c t (0,0)∧c.size=n∧c.toList=vs++suf∧aw ρ G cells vs)∨∃es clock kvs,o=.map es clock∧cells=[.gg kvs]∧qd G.K kvs es.toList
theorem Holds.full{ρ:bQ}{G:Gh}{c:Array Value}{t:TypeId}{cells:List AV}(h:aw ρ G cells c.toList):Holds ρ G (.cells c t (0,0)) c.size cells:=
 .inl ⟨c,t,c.toList,[],rfl,rfl,by simp,h⟩
structure xy(ρ:bQ)(G:Gh)(w:World)(b:Nat×Nat)(r:l3)(cells:List AV):Prop where
 role:G.role b.1=r
 at_:∃o,w.heap[b.1]?=some o∧Holds ρ G o b.2 cells
theorem Holds.to{ρ:bQ}{G G':Gh}{o:Obj}{n:Nat}{cells cells':List AV}(h:Holds ρ G o n cells)(hK:G.K.le G'.K)(hm:∀kvs,cells=[.gg kvs]→cells'=[.gg kvs])
   (hc:∀vs,aw ρ G cells vs→aw ρ G' cells' vs):Holds ρ G' o n cells':=by
 rcases h with⟨c,t,vs,suf,e,e3,e4,r⟩|⟨es,cl,kvs,e,e2,r⟩
 ·exact .inl ⟨c,t,vs,suf,e,e3,e4,hc _ r⟩
 ·exact .inr ⟨es,cl,kvs,e,hm kvs e2,r.mono hK⟩
theorem Holds.mono{ρ:bQ}{G G':Gh}{o:Obj}{n:Nat}{cells:List AV}(h:G.le G')(hh:Holds ρ G o n cells):Holds ρ G' o n cells:=
 hh.to h.K (fun _ e=>e) (fun _ r=>r.mono h)
structure Tc(ρ:bQ)(G:Gh)(w:World)(b:Nat×Nat)(r:l3)(cells:List AV):Prop where
 role:G.role b.1=r
 at_:∃c t vs suf,w.heap[b.1]?=some (.cells c t (0,0))∧c.size=b.2∧c.toList=vs++suf∧aw ρ G cells vs
theorem xy.cells{ρ:bQ}{G:Gh}{w:World}{b:Nat×Nat}{r:l3}{cells:List AV}(h:xy ρ G w b r cells)(hm:bV cells=false):Tc ρ G w b r cells:=by
 obtain⟨h1,o,h2,h3⟩:=h;rcases h3 with⟨c,t,vs,suf,rfl,h4,h5,h6⟩|⟨es,cl,kvs,rfl,rfl,_⟩
 ·exact⟨h1,c,t,vs,suf,h2,h4,h5,h6⟩
 ·simp[bV]at hm
theorem QY{ρ:bQ}{G:Gh}{cells:List AV}{vs:List Value}(h:aw ρ G cells vs):bV cells=false:=by
 cases cells with
 |nil=>rfl
 |cons c r=>
   cases c with
   |gg kvs=>simp[aw,aB]at h
   |_=>rfl
structure Td(G:Gh)(w:World)(τ:Nat)(t:Tk):Prop where
 cap:t.len≤t.cap
 zero:t.len=0→t.cap=0
 spare:t.len<t.cap∨t.own=true→∃b o c ty,t.base=some ⟨b,o,none⟩∧G.role b=.tok τ∧w.heap[b]?=some (.cells c ty (0,0)) ∧
   o+t.cap*t.sz≤c.size∧∀j v,G.K b j=some v→j<o+t.len*t.sz
structure Inv(ρ:bQ)(G:Gh)(w:World)(mem:List (Nat×List AV))(sh:Sh)(aa:aG):Prop where
 known:∀b o v,G.K b o=some v→w.cell? ⟨b,o,none⟩=some v
 aZ:∀b o v,G.K b o=some v→G.role b=.ez∨∃τ,G.role b=.tok τ
 fresh:∀b,w.heap.size≤b→G.role b=.ez
 cT:∀d cells,look mem d=some cells→∃b,G.pm d=some b∧VM ρ G w b (.lO d) cells∧cells.all aT=true
 gM:∀d b,G.pm d=some b→(look mem d).isSome=true
 dq:∀s cells,sh[s]?=some (some cells)→∃b,G.sm s=some b∧xy ρ G w b (.shr s) cells∧cells.all cN=true∧cells.all (aK (s+1))=true
 eF:∀s b,G.sm s=some b→s<sh.length
 dh:∀τ n,aa[τ]?=some n→∃t,G.tk τ=some t∧t.len=n∧Td G w τ t
 e_:∀τ t,G.tk τ=some t→aa[τ]?=some t.len
 kz:∀b c,ρ.kz b=some c→G.role b=.ez∧∃t z,w.heap[b]?=some (.cells c t z)
structure l4(ρ:bQ)(G:Gh)(N:Nat)(env:List (Nat×AV))(a:Act):Prop where
 size:a.tmps.size=N
 env:∀t x,look env t=some x→∃v,a.tmps[t]?=some v∧aB ρ G x v
def Marks(n0:Nat)(G:Gh)(a:Act)(w:World):Prop:=
 n0≤w.heap.size∧∃Ds:List Nat,a.defers=Ds.map (fun D=>{ target:=.collected D,args:=#[] })∧Ds.Nodup ∧
   ∀D∈Ds,n0≤D∧D<w.heap.size∧G.role D=.ez∧w.heap[D]?=some (.deferred (some []))
structure gV(ρ:bQ)(n0 N:Nat)(G:Gh)(st:St)(a:Act)(w:World):Prop where
 env:l4 ρ G N st.env a
 inv:Inv ρ G w st.mem st.sh st.aa
 marks:Marks n0 G a w
structure bK(G:Gh)(w:World)(G':Gh)(w':World):Prop where
 size:w.heap.size≤w'.heap.size
 os:w'.os=w.os
 tape:w'.tape=w.tape
 output:w'.output=w.output
 K:G.K.le G'.K
 sm:∀s b,G.sm s=some b→G'.sm s=some b
 ez:∀b,b<w.heap.size→G.role b=.ez→G'.role b=.ez∧w'.heap[b]?=w.heap[b]?
 iQ:∀b τ,b<w.heap.size→G.role b=.tok τ→G'.role b=.ez∨∃τ',G'.role b=.tok τ'
 gN:∀b o v,b<w.heap.size→G.role b=.ez→G'.K b o=some v→G.K b o=some v
theorem bK.refl(G:Gh)(w:World):bK G w G w:=
 ⟨Nat.le_refl _,rfl,rfl,rfl,G.K.le_refl,fun _ _ h=>h,fun _ _ h=>⟨h,rfl⟩,fun _ τ _ h=>.inr ⟨τ,h⟩,fun _ _ _ _ _ h=>h⟩
theorem bK.trans{G₁ G₂ G₃:Gh}{w₁ w₂ w₃:World}(h:bK G₁ w₁ G₂ w₂)(k:bK G₂ w₂ G₃ w₃):bK G₁ w₁ G₃ w₃ where
 size:=Nat.le_trans h.size k.size
 os:=k.os.trans h.os
 tape:=k.tape.trans h.tape
 output:=k.output.trans h.output
 K:=bl.le_trans h.K k.K
 sm:=fun s b e=>k.sm _ _ (h.sm s b e)
 ez:=fun b hb hr=>by
   obtain⟨h1,h2⟩:=h.ez b hb hr;obtain⟨k1,k2⟩:=k.ez b (Nat.lt_of_lt_of_le hb h.size) h1;exact⟨k1,k2.trans h2⟩
 iQ:=fun b τ hb hr=>by
   rcases h.iQ b τ hb hr with h1|⟨τ',h1⟩
   ·exact .inl (k.ez b (Nat.lt_of_lt_of_le hb h.size) h1).1
   ·exact k.iQ b τ' (Nat.lt_of_lt_of_le hb h.size) h1
 gN:=fun b o v hb hr hk=>h.gN b o v hb hr (k.gN b o v (Nat.lt_of_lt_of_le hb h.size) (h.ez b hb hr).1 hk)
theorem Marks.q_{n0:Nat}{G G':Gh}{a a':Act}{w w':World}(h:Marks n0 G a w)(he:bK G w G' w')(hd:a'.defers=a.defers):Marks n0 G' a' w':=by
 obtain⟨e0,Ds,e1,e2,e3⟩:=h;refine⟨Nat.le_trans e0 he.size,Ds,hd.trans e1,e2,fun D hD=>?_⟩;obtain⟨f0,f1,f2,f3⟩:=e3 D hD;obtain⟨g1,g2⟩:=he.ez D f1 f2;exact⟨f0,Nat.lt_of_lt_of_le f1 he.size,g1,g2.trans f3⟩
theorem Inv.ic{ρ:bQ}{G G':Gh}{w w':World}{mem:List (Nat×List AV)}{sh:Sh}{aa:aG}(h:Inv ρ G w mem sh aa)(he:bK G w G' w') :
   ∀b c,ρ.kz b=some c→G'.role b=.ez∧∃t z,w'.heap[b]?=some (.cells c t z):=fun b c hb=>by
 obtain⟨h1,t,z,h2⟩:=h.kz b c hb;obtain⟨k1,k2⟩:=he.ez b (Array.getElem?_eq_some_iff.1 h2).1 h1;exact⟨k1,t,z,k2.trans h2⟩
theorem bK.drew(G:Gh)(w:World):bK G w G w.drew:=
 ⟨Nat.le_refl _,rfl,rfl,rfl,G.K.le_refl,fun _ _ h=>h,fun _ _ h=>⟨h,rfl⟩,fun _ τ _ h=>.inr ⟨τ,h⟩,fun _ _ _ _ _ h=>h⟩
theorem Inv.drew{ρ:bQ}{G:Gh}{w:World}{mem:List (Nat×List AV)}{sh:Sh}{aa:aG}(h:Inv ρ G w mem sh aa):Inv ρ G w.drew mem sh aa where
 known:=h.known
 aZ:=h.aZ
 fresh:=h.fresh
 cT:=fun d cells e=>by obtain⟨b,e1,e2,e3⟩:=h.cT d cells e;exact⟨b,e1,⟨e2.role,e2.at_⟩,e3⟩
 gM:=h.gM
 dq:=fun d cells e=>by obtain⟨b,e1,e2,e3⟩:=h.dq d cells e;exact⟨b,e1,⟨e2.role,e2.at_⟩,e3⟩
 eF:=h.eF
 dh:=fun τ n e=>by obtain⟨t,e1,e2,e3⟩:=h.dh τ n e;exact⟨t,e1,e2,⟨e3.cap,e3.zero,e3.spare⟩⟩
 e_:=h.e_
 kz:=h.kz
end Go.Ab
namespace Go.Ab
section
variable {P:Program} {ns:Names} {G:Gh} {w:World}
abbrev num(ns:Names):bQ:=⟨fun g f=>ns.of f=some g,ns.kz⟩
theorem di{t n:Nat}(h:cE P t=some n)(w:World):(sizeOf t).run P w=.ok n w:=by
 unfold cE at h;cases hi:P.info? t with
 |none=>simp[hi]at h
 |some i=>simp[hi]at h;simp[sizeOf,typeInfo,hi,h]
theorem l6{t n:Nat}(h:eW P t=some n)(w:World):∃i,P.info? t=some i∧i.bytes=n∧(typeInfo t).run P w=.ok i w:=by
 unfold eW at h;cases hi:P.info? t with
 |none=>simp[hi]at h
 |some i=>simp[hi]at h;exact⟨i,rfl,h,by simp[typeInfo,hi]⟩
theorem jg{t:Nat}{b:Bool}(h:hZ P t=some b)(w:World):(isAgg t).run P w=.ok b w:=by
 unfold hZ at h;cases hu:P.underlying t with
 |none=>simp[hu]at h
 |some d=>
   simp[hu]at h;simp only[isAgg,Sem.run_bind,run_underlying hu,Result.andThen_ok];cases d<;>simp_all
theorem nS{K:bl}{v:Value}{p:PV}(h:dC v=some p):R K false p [v]∧de p=true:=by
 cases v with
 |bool b=>simp[dC]at h;subst h;simp[R,de]
 |int k n=>simp[dC]at h;subst h;simp[R,de]
 |string s=>simp[dC]at h;subst h;simp[R,de]
 |slice a l c=>
   cases a with
   |some a=>simp[dC]at h
   |none=>
     cases l with
     |succ l=>simp[dC]at h
     |zero=>
       cases c with
       |succ c=>simp[dC]at h
       |zero=>
         simp[dC]at h;subst h;refine⟨?_,rfl⟩;simp only[R];exact⟨none,0,0,rfl,Nat.le_refl _,rfl,by simp⟩
 |_=>simp[dC]at h
theorem CB{v:Value}{x:AV}(h:Cx v=some x):aB (num ns) G x v:=by
 unfold Cx at h;split at h
 ·simp at h;subst h;simp only[aB];exact⟨none,0,rfl,rfl,.inl rfl⟩
 ·simp at h;subst h;simp[aB]
 ·simp at h;subst h;simp[aB]
 · cases hc:dC v with
   |none=>simp[hc]at h
   |some p=>simp[hc]at h;subst h;simp only[aB];exact Rel.Sz (nS hc).1
theorem Fy{N:Nat}{env:List (Nat×AV)}{a:Act}(he:l4 (num ns) G N env a){x:Operand}{ax:eT}{v:AV}
   (hc:iZ ns x=some ax) (hv:hU env ax=some v):aB (num ns) G v (a.eval x):=by
 cases x with
 |tmp t=>
   simp[iZ]at hc;subst hc;obtain⟨rv,h1,h2⟩:=he.env t v (by simpa[hU] using hv);have:a.eval (.tmp t)=rv:=by simp[Act.eval,h1]
   rw[this];exact h2
 |const c=>
   simp only[iZ,Option.map_eq_some_iff]at hc;obtain⟨x,h1,rfl⟩:=hc;simp[hU]at hv;subst hv;exact CB h1
 |func f=>
   simp only[iZ,Option.map_eq_some_iff]at hc;obtain⟨g,h1,rfl⟩:=hc;simp[hU]at hv;subst hv;simp only[aB];exact⟨f,[],h1,rfl,by simp[aw]⟩
 |global g=>simp[iZ]at hc
theorem zn{N:Nat}{env:List (Nat×AV)}{a:Act}(he:l4 (num ns) G N env a):∀{xs:List Operand} {as:List eT} {vs:List AV},
   cf (iZ ns) xs=some as→dY env as=some vs→aw (num ns) G vs (xs.map a.eval)
 |[],as,vs,hc,hv=>by
   simp[cf]at hc;subst hc;simp[dY]at hv;subst hv;simp[aw]
 |x::xs,as,vs,hc,hv=>by
   simp only[cf]at hc;split at hc
   · rename_i ax axs h1 h2;simp at hc;subst hc;simp only[dY]at hv;split at hv
     ·rename_i v vs' g1 g2;simp at hv;subst hv;simp only[List.map_cons,aw];exact⟨_,_,rfl,Fy he h1 g1,zn he h2 g2⟩
     ·simp at hv
   ·simp at hc
theorem toList_mk(l:List UInt8):(ByteArray.mk l.toArray).toList=l:=by
 rw[ByteArray.toList_eq]
theorem tq:∀(a b:List UInt8),cC.ee a b=Op.bytesLess a b
 |_,[]=>by simp[cC.ee,Op.bytesLess]
 |[],_::_=>by simp[cC.ee,Op.bytesLess]
 |a::x,b::y=>by simp[cC.ee,Op.bytesLess,tq x y]
theorem bW{K:bl}{k:IntKind}{n:Int}{v:Value}:Rel K (.int k n) v↔v=.int k n:=by simp[Rel,R]
theorem jq{K:bl}{b:Bool}{v:Value}:Rel K (.bool b) v↔v=.bool b:=by simp[Rel,R]
theorem mQ{K:bl}{s:List UInt8}{v:Value}:Rel K (.str s) v↔v=.string ⟨s.toArray⟩:=by simp[Rel,R]
theorem dj{ρ:bQ}{k:IntKind}{n:Int}:aB ρ G (.pv (.int k n)) (.int k n):=by simp only[aB];exact bW.2 rfl
theorem mR{ρ:bQ}{b:Bool}:aB ρ G (.pv (.bool b)) (.bool b):=by simp only[aB];exact jq.2 rfl
theorem tt{ρ:bQ}{s:List UInt8}:aB ρ G (.pv (.str s)) (.string ⟨s.toArray⟩):=by simp only[aB];exact mQ.2 rfl
theorem rb{op:BinOp}{t:TypeId}{x y z:AV}{vx vy:Value}(hx:aB (num ns) G x vx)(hy:aB (num ns) G y vy)
   (h:cC op x y=some z) (ox oy:Operand):∃v,(do eqGuard op t ox oy vx vy;binOp op t vx vy:Sem Value).run P w=.ok v w∧aB (num ns) G z v:=by
 unfold cC at h;split at h
 · rename_i k a k' b;simp only[aB,bW]at hx hy;subst hx;subst hy;have hg:(eqGuard op t ox oy (.int k a) (.int k' b)).run P w=.ok () w:=by cases op<;>simp[eqGuard]
   simp only[Sem.run_bind,hg,Result.andThen_ok];split at h
   · rename_i hk;cases op<;>simp only[reduceCtorEq,or_false,or_self,or_true]at hk<;>simp at h;case add=>subst hk;subst h;exact⟨_,by simp[binOp,Op.intArith],dj⟩
     case sub=>subst hk;subst h;exact⟨_,by simp[binOp,Op.intArith],dj⟩
     case mul=>subst hk;subst h;exact⟨_,by simp[binOp,Op.intArith],dj⟩
     case quo=>subst hk;obtain⟨h1,h⟩:=h;subst h;exact⟨_,by simp[binOp,Op.intDiv,h1],dj⟩
     case rem=>subst hk;obtain⟨h1,h⟩:=h;subst h;exact⟨_,by simp[binOp,Op.intDiv,h1],dj⟩
     case and=>subst hk;subst h;exact⟨_,by simp[binOp,Op.intBits],dj⟩
     case shl=>obtain⟨h1,h⟩:=h;subst h;exact⟨_,by simp[binOp,Op.shift,Int.not_lt.2 h1],dj⟩
     case shr=>obtain⟨h1,h⟩:=h;subst h;exact⟨_,by simp[binOp,Op.shift,Int.not_lt.2 h1],dj⟩
     all_goals (subst hk;subst h;exact⟨_,by simp[binOp,Op.intCmp],mR⟩)
   ·simp at h
 · rename_i a b;simp only[aB,mQ]at hx hy;subst hx;subst hy;have hg:(eqGuard op t ox oy (.string ⟨a.toArray⟩) (.string ⟨b.toArray⟩)).run P w=.ok () w:=by cases op<;>simp[eqGuard]
   simp only[Sem.run_bind,hg,Result.andThen_ok];cases op<;>simp at h
   case add=>
     obtain⟨h1,h⟩:=h;subst h
     have h2:¬((((ByteArray.mk a.toArray).size+(ByteArray.mk b.toArray).size:Nat):Int) > IntKind.i64.max):=by
       have e1:(ByteArray.mk a.toArray).size=a.length:=(by simp[ByteArray.size]);have e2:(ByteArray.mk b.toArray).size=b.length:=(by simp[ByteArray.size]);rw[e1,e2];have:IntKind.i64.max=9223372036854775807:=(by decide);rw[this];omega
     have h3:(ByteArray.mk a.toArray)++(ByteArray.mk b.toArray)=ByteArray.mk (a++b).toArray:=by
       apply ByteArray.ext;simp
     exact⟨_,by simp only[binOp,Op.stringOp,if_neg h2,h3];rfl,tt⟩
   all_goals (subst h;exact⟨_,by simp only[binOp,Op.stringOp,toList_mk,←tq,Sem.run_pure,Bool.not_or],mR⟩)
 ·simp at h
theorem run_equalIn_bool(d:Nat){t:TypeId}(hu:P.underlying t=some .bool)(a b:Bool):(Op.equalIn (d+1) t (.bool a) (.bool b)).run P w=.ok (a == b) w:=by
 simp only[Op.equalIn,Sem.run_bind,run_underlying hu,Result.andThen_ok,Sem.run_pure]
theorem run_equal_bool{t:TypeId}(hu:P.underlying t=some .bool)(a b:Bool):(Op.equal t (.bool a) (.bool b)).run P w=.ok (a == b) w:=
 run_equalIn_bool 9999 hu a b
theorem zo{op:BinOp}{t:TypeId}{neg:Bool}(hu:P.underlying t=some .bool)(hop:(op=.eql∧neg=false)∨(op=.neq∧neg=true))(a b:Bool)(ox oy:Operand) :
   (do eqGuard op t ox oy (.bool a) (.bool b);binOp op t (.bool a) (.bool b):Sem Value).run P w=.ok (.bool (if neg then !(a == b) else (a == b))) w:=by
 rcases hop with⟨rfl,rfl⟩|⟨rfl,rfl⟩
 ·have hg:(eqGuard .eql t ox oy (.bool a) (.bool b)).run P w=.ok () w:=(by simp[eqGuard]);simp only[Sem.run_bind,hg,Result.andThen_ok,binOp,run_equal_bool hu,Sem.run_pure];rfl
 ·have hg:(eqGuard .neq t ox oy (.bool a) (.bool b)).run P w=.ok () w:=(by simp[eqGuard]);simp only[Sem.run_bind,hg,Result.andThen_ok,binOp,run_equal_bool hu,Sem.run_pure];rfl
end
end Go.Ab
namespace Go.Ab
section
variable {P:Program} {ns:Names} {G:Gh} {w:World}
theorem Addr.en(b o n:Nat):(⟨b,o,none⟩:Addr).add n=⟨b,o+n,none⟩:=by unfold Addr.add;split<;>simp_all
theorem re(vs:List Value)(off sz:Nat):vs.toArray.extract off (off+sz)=((vs.drop off).take sz).toArray:=by
 simp[List.extract_toArray]
theorem CC{t off sz:Nat}{ag:Bool}{cs:List AV}{vs:List Value}{x:AV}(hsz:cE P t=some sz)(hag:hZ P t=some ag)
   (h:bR ag sz cs off=some x) (hr:aw (num ns) G cs vs) :
   ∃v,(part t vs.toArray off).run P w=.ok v w∧aB (num ns) G x v:=by
 unfold bR at h;split at h
 · rename_i hle;cases ag with
   |true=>
     simp at h;subst h;refine⟨.agg (vs.toArray.extract off (off+sz)),?_,?_⟩
     ·simp only[part,Sem.run_bind,jg hag,Result.andThen_ok,if_true,di hsz,Sem.run_pure]
     ·simp only[aB];exact⟨(vs.drop off).take sz,by rw[re],(hr.drop off).take sz⟩
   |false=>
     simp at h;obtain⟨_,h⟩:=h;obtain⟨v,h1,h2⟩:=hr.get h;refine⟨v,?_,h2⟩;simp only[part,Sem.run_bind,jg hag,Result.andThen_ok,Bool.false_eq_true,if_false];simp[h1]
 ·simp at h
theorem zp{t off sz:Nat}{ag:Bool}{cs:List PV}{vs:List Value}{x:AV}(hsz:cE P t=some sz)(hag:hZ P t=some ag)
   (h:cO ag sz (cs.drop off)=some x) (hr:dL G.K cs vs) :
   ∃v,(part t vs.toArray off).run P w=.ok v w∧aB (num ns) G x v:=by
 unfold cO at h;split at h
 · rename_i hle;cases ag with
   |true=>
     simp at h;subst h;refine⟨.agg (vs.toArray.extract off (off+sz)),?_,?_⟩
     ·simp only[part,Sem.run_bind,jg hag,Result.andThen_ok,if_true,di hsz,Sem.run_pure]
     ·simp only[aB,Rel];exact⟨(vs.drop off).take sz,by rw[re],dL.take sz (dL.drop off hr)⟩
   |false=>
     simp only[Bool.false_eq_true,if_false,Option.ite_none_right_eq_some,Option.map_eq_some_iff]at h;obtain⟨_,c,h,rfl⟩:=h;rw[List.getElem?_drop]at h;obtain⟨v,h1,h2⟩:=hr.get h;simp only[Nat.add_zero]at h1;refine⟨v,?_,by simp only[aB];exact Rel.Sz h2⟩;simp only[part,Sem.run_bind,jg hag,Result.andThen_ok,Bool.false_eq_true,if_false];simp[h1]
 ·simp at h
theorem jN{t sz:Nat}{ag:Bool}{b o:Nat}{vs:List Value}(hsz:cE P t=some sz)(hag:hZ P t=some ag)
   (hc:∀j v,vs[j]?=some v→w.cell? ⟨b,o+j,none⟩=some v) (hl:sz≤vs.length) (h1:ag=false→sz=1) :
   (loadVar t ⟨b,o,none⟩).run P w=.ok (if ag then .agg (vs.take sz).toArray else vs.getD 0 undef) w:=by
 cases ag with
 |true=>
   have hlen:(vs.take sz).length=sz:=by simp;omega
   have:=run_loadCells_list (P:=P) w ⟨b,o,none⟩ (vs.take sz) (fun j v hj=>by
     rw[Addr.en];rw[List.getElem?_take]at hj;split at hj
     ·exact hc j v hj
     ·simp at hj)
   rw[hlen]at this;simp only[loadVar,Sem.run_bind,jg hag,Result.andThen_ok,if_true,di hsz,this,Sem.run_pure]
 |false=>
   have:=h1 rfl;subst this;cases vs with
   |nil=>simp at hl
   |cons v r=>
     have:=hc 0 v rfl;simp only[Nat.add_zero]at this;simp only[loadVar,Sem.run_bind,jg hag,Result.andThen_ok,Bool.false_eq_true,if_false,run_load,this];simp
theorem nF{t sz:Nat}{ag:Bool}{b o:Nat}{vs:List Value}{cs:List PV}{x:AV}(hsz:cE P t=some sz)(hag:hZ P t=some ag)
   (h:cO ag sz cs=some x) (hr:dL G.K cs vs) (hc:∀j v,vs[j]?=some v→w.cell? ⟨b,o+j,none⟩=some v) :
   ∃v,(loadVar t ⟨b,o,none⟩).run P w=.ok v w∧aB (num ns) G x v:=by
 have hlen:=hr.length;unfold cO at h;split at h
 · rename_i hle;cases ag with
   |true=>
     simp at h;subst h;refine⟨_,jN hsz hag hc (by omega) (by simp),?_⟩;simp only[if_true,aB,Rel];exact⟨_,rfl,dL.take sz hr⟩
   |false=>
     simp only[Bool.false_eq_true,if_false,Option.ite_none_right_eq_some,Option.map_eq_some_iff]at h;obtain⟨h1,c,h,rfl⟩:=h;obtain⟨v,h3,h4⟩:=hr.get h;refine⟨_,jN hsz hag hc (by omega) (fun _=>h1),?_⟩;simp only[Bool.false_eq_true,if_false,aB];have:vs.getD 0 undef=v:=by simp[List.getD,h3]
     rw[this];exact Rel.Sz h4
 ·simp at h
theorem fE{t sz:Nat}{ag:Bool}{b off:Nat}{vs:List Value}{cs:List AV}{x:AV}(hsz:cE P t=some sz)(hag:hZ P t=some ag)
   (h:bR ag sz cs off=some x) (hr:aw (num ns) G cs vs) (hc:∀j v,vs[j]?=some v→w.cell? ⟨b,j,none⟩=some v) :
   ∃v,(loadVar t ⟨b,off,none⟩).run P w=.ok v w∧aB (num ns) G x v:=by
 have hlen:=hr.length
 have hc':∀j v,(vs.drop off)[j]?=some v→w.cell? ⟨b,off+j,none⟩=some v:=fun j v hj=>by
   rw[List.getElem?_drop]at hj;exact hc _ v hj
 unfold bR at h;split at h
 · rename_i hle;cases ag with
   |true=>
     simp at h;subst h;refine⟨_,jN hsz hag hc' (by simp;omega) (by simp),?_⟩;simp only[if_true,aB];exact⟨_,rfl,aw.take sz (aw.drop off hr)⟩
   |false=>
     simp at h;obtain⟨h1,h⟩:=h;obtain⟨v,h3,h4⟩:=hr.get h;refine⟨_,jN hsz hag hc' (by simp;omega) (fun _=>h1),?_⟩;simp only[Bool.false_eq_true,if_false];have:(vs.drop off).getD 0 undef=v:=by simp[List.getD,List.getElem?_drop,h3]
     rw[this];exact h4
 ·simp at h
theorem gk{b:Nat}{c:Array Value}{t:TypeId}{fr:Nat×Nat}(h:w.heap[b]?=some (.cells c t fr)):∀j v,c.toList[j]?=some v→w.cell? ⟨b,j,none⟩=some v:=by
 intro j v hj;simp[World.cell?,h];simpa using hj
theorem oV{b:Nat}{c:Array Value}{t:TypeId}{fr:Nat×Nat}{vs suf:List Value}(h:w.heap[b]?=some (.cells c t fr))(hs:c.toList=vs++suf):∀j v,vs[j]?=some v→w.cell? ⟨b,j,none⟩=some v:=by
 intro j v hj;refine gk h j v ?_;rw[hs,List.getElem?_append_left (List.getElem?_eq_some_iff.1 hj).1];exact hj
theorem rf{t f:Nat}{fd:Field}(h:gh P t f=some fd):∃fs,P.underlying t=some (.struct fs)∧fs[f]?=some fd:=by
 unfold gh at h;split at h
 ·rename_i fs hu;exact⟨fs,hu,h⟩
 ·simp at h
theorem dD{t e:Nat}(h:eX P t=some e):P.underlying t=some (.slice e):=by
 unfold eX at h;split at h
 ·rename_i hu;simp at h;subst h;exact hu
 ·simp at h
theorem zq{t f sz:Nat}{ag:Bool}{fd:Field}{x y:AV}{v:Value}(hf:gh P t f=some fd)(hsz:cE P fd.type=some sz)(hag:hZ P fd.type=some ag)
   (h:bB (.field fd.offset sz ag) [x]=some y) (hr:aB (num ns) G x v):∃u,(Instr.field t v f).run P w=.ok u w∧aB (num ns) G y u:=by
 obtain⟨fs,hu,hg⟩:=rf hf;simp only[bB]at h;split at h
 ·rename_i cs;simp only[aB]at hr;obtain⟨vs,rfl,hr⟩:=hr;obtain⟨u,h1,h2⟩:=CC (w:=w) hsz hag h hr;refine⟨u,?_,h2⟩;simp only[Instr.field,Sem.run_bind,run_underlying hu,Result.andThen_ok,hg,asAgg,Sem.run_pure,h1]
 ·rename_i cs;simp only[aB,Rel]at hr;obtain⟨vs,rfl,hr⟩:=hr;obtain⟨u,h1,h2⟩:=zp (ns:=ns) (w:=w) hsz hag h hr;refine⟨u,?_,h2⟩;simp only[Instr.field,Sem.run_bind,run_underlying hu,Result.andThen_ok,hg,asAgg,Sem.run_pure,h1]
 ·simp at h
theorem iE{t f s:Nat}{fd:Field}(hf:gh P t f=some fd)(hsz:cE P fd.type=some s)(hs:s≠0)(b o:Nat) :
   (Instr.fieldAt t (.pointer (some ⟨b,o,none⟩)) f).run P w=.ok (.pointer (some ⟨b,o+fd.offset,none⟩)) w:=by
 obtain⟨fs,hu,hg⟩:=rf hf;simp only[Instr.fieldAt,Sem.run_bind,run_underlying hu,Result.andThen_ok,hg,Instr.sureAddr,Sem.run_pure,fieldPlace,di hsz,hs,if_false,Addr.en]
theorem zt{t f s:Nat}{fd:Field}{x y:AV}{v:Value}(hf:gh P t f=some fd)(hsz:cE P fd.type=some s)(hs:s≠0)
   (h:bB (.g_ fd.offset) [x]=some y) (hr:aB (num ns) G x v):∃u,(Instr.fieldAt t v f).run P w=.ok u w∧aB (num ns) G y u:=by
 simp only[bB]at h;split at h
 ·simp at h;subst h;simp only[aB]at hr;obtain⟨b,e,rfl⟩:=hr;exact⟨_,iE hf hsz hs _ _,by simp only[aB];exact⟨b,e,rfl⟩⟩
 ·simp at h;subst h;simp only[aB]at hr;obtain⟨b,e,rfl⟩:=hr;exact⟨_,iE hf hsz hs _ _,by simp only[aB];exact⟨b,e,rfl⟩⟩
 · simp at h;subst h;simp only[aB]at hr;obtain⟨b,o,vs,rfl,h1,h2⟩:=hr;refine⟨_,iE hf hsz hs _ _,?_⟩;simp only[aB];refine⟨b,_,vs.drop fd.offset,rfl,?_,dL.drop _ h2⟩;intro j u hj;rw[List.getElem?_drop]at hj;have:=h1 _ u hj
   rwa [Nat.add_assoc]
 ·simp at h
theorem rh{t e sz:Nat}{k:IntKind}{i:Int}{b o len cap:Nat}(he:eX P t=some e)(hsz:cE P e=some sz)(h0:0≤i)(hi:i.toNat<len) :
   (Instr.indexAt t (.slice (some ⟨b,o,none⟩) len cap) (.int k i)).run P w=.ok (.pointer (some ⟨b,o+i.toNat*sz,none⟩)) w:=by
 have hu:=dD he;have:(0≤i∧i<(len:Int)):=⟨h0,by omega⟩;simp only[Instr.indexAt,Sem.run_bind,asIntOf,Sem.run_pure,Result.andThen_ok,run_underlying hu];simp[this,di hsz,Addr.en]
theorem eo{x:AV}{v:Value}{els:List PV}(h:cJ x=some els)(hr:aB (num ns) G x v):Rel G.K (.au els) v:=by
 unfold cJ at h;split at h
 ·simp at h;subst h;simpa only[aB] using hr
 ·simp at h;subst h;simp only[aB]at hr;obtain⟨b,l,rfl,hr⟩:=hr;exact cd.2 ⟨b,l,l,rfl,Nat.le_refl _,hr⟩
 ·simp at h;subst h;simp only[aB]at hr;obtain⟨t,_,_,hr,_⟩:=hr;exact hr
 ·simp at h
theorem zu{t e sz:Nat}{k:IntKind}{i:Int}{x y:AV}{v:Value}(he:eX P t=some e)(hsz:cE P e=some sz)
   (h:bB (.eg sz) [x,.pv (.int k i)]=some y) (hr:aB (num ns) G x v) :
   ∃u,(Instr.indexAt t v (.int k i)).run P w=.ok u w∧aB (num ns) G y u:=by
 simp only[bB]at h;split at h
 ·simp at h
 · rename_i h0;split at h
   ·rename_i s sz' n ag;simp only[aB]at hr;obtain⟨b,c,e1,rfl,_⟩:=hr;simp only[Option.ite_none_right_eq_some,Option.some.injEq]at h;obtain⟨⟨h1,h2⟩,rfl⟩:=h;refine⟨_,rh he hsz (by omega) h2,?_⟩;simp only[aB];exact⟨b,e1,by simp⟩
   · rename_i x' _;split at h
     · rename_i els hels;have hr':=eo hels hr;obtain⟨base,len,cap,rfl,_,hlen,hrow⟩:=cd.1 hr';split at h
       · rename_i el hel;simp only[Option.ite_none_right_eq_some,Option.some.injEq]at h;obtain⟨hl,rfl⟩:=h;have hlt:i.toNat<els.length:=(List.getElem?_eq_some_iff.1 hel).1;rcases hrow with hnil|⟨b,o,sz',rfl,hrow⟩
         ·subst hnil;simp at hlt
         · obtain⟨vs,g1,g2,g3⟩:=hrow.get hel;have:sz=sz':=by rw[←hl,←g3.length,g1]
           subst this;refine⟨_,rh he hsz (by omega) (by omega),?_⟩;simp only[aB];exact⟨b,_,vs,rfl,g2,g3.cells⟩
       ·simp at h
     ·simp at h
theorem zw{t:Nat}{k:IntKind}{i:Int}{s:List UInt8}{y:AV}(hu:P.underlying t=some .string)
   (h:bB .index [.pv (.str s),.pv (.int k i)]=some y) :
   ∃u,(Instr.index t (.string ⟨s.toArray⟩) (.int k i)).run P w=.ok u w∧aB (num ns) G y u:=by
 simp only[bB]at h;split at h
 ·simp at h
 · rename_i h0;simp only[Option.map_eq_some_iff]at h;obtain⟨b,h1,rfl⟩:=h;refine⟨_,?_,dj⟩
   have h2:(ByteArray.mk s.toArray)[i.toNat]?=some b:=by
     have hlt:=(List.getElem?_eq_some_iff.1 h1).1;rw[getElem?_pos (ByteArray.mk s.toArray) i.toNat (by simpa[ByteArray.size] using hlt)];have:=(List.getElem?_eq_some_iff.1 h1).2;simp only[Option.some.injEq];rw[←this];rfl
   simp only[Instr.index,Sem.run_bind,asIntOf,Sem.run_pure,Result.andThen_ok,run_underlying hu];have h3:0≤i:=by omega
   simp only[h3,if_true,h2,Sem.run_pure]
end
end Go.Ab
namespace Go.Ab
section
variable {P:Program} {ns:Names} {G:Gh} {w:World}
theorem gB{α β:Type}{f:α→Option β}:∀{l:List α} {r:List β},cf f l=some r→r.length=l.length
 |[],_,h=>by simp[cf]at h;subst h;rfl
 |x::l,r,h=>by
   simp only[cf]at h;split at h
   ·rename_i y ys h1 h2;simp at h;subst h;simp[gB h2]
   ·simp at h
theorem zx{α β:Type}{f:α→Option β}:∀{l:List α} {r:List β},cf f l=some r→∀{i:Nat} {x:α},l[i]?=some x→∃y,r[i]?=some y∧f x=some y
 |[],_,_,i,x,hx=>by simp at hx
 |a::l,r,h,i,x,hx=>by
   simp only[cf]at h;split at h
   · rename_i y ys h1 h2;simp at h;subst h;cases i with
     |zero=>simp at hx;subst hx;exact⟨y,by simp,h1⟩
     |succ i=>simpa using zx h2 (by simpa using hx)
   ·simp at h
theorem zy{α β:Type}{f:α→Sem β}{g:α→Option β}(hf:∀x y,g x=some y→(f x).run P w=.ok y w):∀{l:List α} {r:List β},
   cf g l=some r→(l.mapM f).run P w=.ok r w
 |[],_,h=>by simp[cf]at h;subst h;simp
 |x::l,r,h=>by
   simp only[cf]at h;split at h
   ·rename_i y ys h1 h2;simp at h;subst h;simp only[List.mapM_cons,Sem.run_bind,hf x y h1,Result.andThen_ok,zy hf h2,Sem.run_pure]
   ·simp at h
theorem gC{t:Nat}{z:List PV}(h:cx P t=some z):∃zv,(zeroValue t).run P w=.ok zv w∧cf dC zv.cells.toList=some z:=by
 unfold cx at h;split at h
 · rename_i zv hz;cases hi:P.info? t with
   |none=>simp[hi]at hz
   |some i=>
     simp[hi]at hz;exact⟨zv,by simp[zeroValue,typeInfo,hi,hz],h⟩
 ·simp at h
theorem xz{ρ:bQ}{v:Value}{p:PV}(h:dC v=some p):aB ρ G (bB.zeroCell p) v∧aT (bB.zeroCell p)=true:=by
 obtain⟨h1,h2⟩:=nS (K:=G.K) h;unfold bB.zeroCell;split
 · refine⟨?_,rfl⟩;cases v with
   |slice a l c=>
     cases a with
     |some a=>simp[dC]at h
     |none=>
       cases l with
       |succ l=>simp[dC]at h
       |zero=>
         cases c with
         |succ c=>simp[dC]at h
         |zero=>simp only[aB];exact⟨none,0,rfl,rfl,.inl rfl⟩
   |_=>simp[dC]at h
 ·refine⟨by simp only[aB];exact Rel.Sz h1,?_⟩;cases p<;>simp_all[aT,de]
theorem iz{ρ:bQ}:∀{l:List Value} {z:List PV},cf dC l=some z→aw ρ G (z.map bB.zeroCell) l∧(z.map bB.zeroCell).all aT=true
 |[],_,h=>by simp[cf]at h;subst h;simp[aw]
 |v::l,z,h=>by
   simp only[cf]at h;split at h
   ·rename_i y ys h1 h2;simp at h;subst h;obtain⟨g1,g2⟩:=iz (ρ:=ρ) h2;obtain⟨g3,g4⟩:=xz (G:=G) (ρ:=ρ) h1;simp only[List.map_cons,aw,List.all_cons,g4,g2,Bool.and_true,and_true];exact⟨v,l,rfl,g3,g1⟩
   ·simp at h
theorem qe(off:Nat):∀(l:List Value) (k:Nat) (cs:Array Value),off+k+l.length≤cs.size →
   ((l.zipIdx k).foldl (fun cs (x:Value×Nat)=>cs.setIfInBounds (off+x.2) x.1) cs).toList=cs.toList.take (off+k)++l++cs.toList.drop (off+k+l.length)
 |[],k,cs,_=>by simp
 |v::l,k,cs,h=>by
   simp only[List.zipIdx_cons,List.foldl_cons];have h':off+(k+1)+l.length≤(cs.setIfInBounds (off+k) v).size:=by simp at h⊢;omega
   rw[qe off l (k+1) _ h'];have:=list_seg_step cs.toList (off+k) v l (by simp at h⊢;omega);simpa[Array.toList_setIfInBounds,Nat.add_assoc] using this
theorem fp{ρ:bQ}{cs:List AV}{l:List Value}(off:Nat){us:List AV}{vs:List Value}(h:aw ρ G cs l)(k:aw ρ G us vs) :
   aw ρ G (aQ cs off us) (l.take off++vs++l.drop (off+vs.length)):=by
 unfold aQ;rw[←k.length];exact aw.append (aw.append (h.take off) k) (h.drop _)
theorem i_{B:AV→Bool}{cs us:List AV}{off:Nat}(h:cs.all B=true)(k:us.all B=true):(aQ cs off us).all B=true:=by
 unfold aQ;rw[List.all_eq_true]at *;intro x hx;simp only[List.mem_append]at hx;rcases hx with (hx|hx)|hx
 ·exact h x (List.mem_of_mem_take hx)
 ·exact k x hx
 ·exact h x (List.mem_of_mem_drop hx)
theorem tu{place:Nat→Option (Nat×Nat)}:∀{is:List Nat} {pl:List (Nat×Nat)} {vals:List AV} {rvs:List Value} {cells:List AV} {rc:Array Value} {cs:List AV},
   cf place is=some pl→aw (num ns) G vals rvs→aw (num ns) G cells rc.toList→cells.all aT=true→is.length=rvs.length→lF cells pl vals=some cs →
   ∃rc',Instr.fill place rc (is.zip rvs)=some rc'∧aw (num ns) G cs rc'.toList∧cs.all aT=true
 |[],pl,vals,rvs,cells,rc,cs,hp,hv,hc,hb,hl,h=>by
   simp[cf]at hp;subst hp;have:rvs=[]:=by cases rvs<;>simp_all
   subst this;have:=hv.length;have:vals=[]:=by cases vals<;>simp_all
   subst this;simp[lF]at h;subst h;exact⟨rc,by simp[Instr.fill],hc,hb⟩
 |i::is,pl,vals,rvs,cells,rc,cs,hp,hv,hc,hb,hl,h=>by
   simp only[cf]at hp;split at hp
   · rename_i y ys h1 h2;simp at hp;subst hp;obtain⟨off,sz⟩:=y;cases vals with
     |nil=>simp[lF]at h
     |cons v vals=>
       simp only[aw]at hv;obtain⟨rv,rr,rfl,e1,e2⟩:=hv;simp only[lF,Option.ite_none_right_eq_some]at h;obtain⟨⟨g1,g2,g3⟩,h⟩:=h;have hcells:=e1.cells g3;have hlen:=hcells.length;have hsz:rv.cells.size=sz:=by rw[←g1,←hlen];simp
       have hrc:rc.size=cells.length:=by have:=hc.length;simpa using this
       simp only[List.zip_cons_cons,Instr.fill,h1]
       have hcond:(decide (rv.cells.size≠sz) || decide (off+rv.cells.size > rc.size))=false:=by
         simp[hsz];omega
       have hfold:(rv.cells.zipIdx.foldl (fun cs (x:Value×Nat)=>cs.setIfInBounds (off+x.2) x.1) rc).toList=rc.toList.take off++rv.cells.toList++rc.toList.drop (off+rv.cells.toList.length):=by
         have:=qe off rv.cells.toList 0 rc (by simp;omega);rw[←Array.foldl_toList];simpa using this
       rw[if_neg (by simp[hsz];omega)];refine tu (is:=is) h2 e2 (cells:=aQ cells off (a_ v)) ?_ (i_ hb g3) (by simpa using hl) h;rw[hfold];exact fp off hc hcells
   ·simp at hp
theorem xA{t:Nat}{all:List (Nat×Nat)}(h:fieldsOf P t=some all):∃fs,P.underlying t=some (.struct fs) ∧
   (fs.mapM fun f=>(do pure (f.offset,←sizeOf f.type):Sem (Nat×Nat))).run P w=.ok all.toArray w:=by
 unfold fieldsOf at h;split at h
 · rename_i fs hu;refine⟨fs,hu,?_⟩;rw[Array.mapM_eq_mapM_toList];simp only[Sem.run_map];rw[zy (g:=fun f=>(cE P f.type).map fun s=>(f.offset,s)) ?_ h]
   ·rfl
   ·intro f y hy;simp only[Option.map_eq_some_iff]at hy;obtain⟨s,h1,rfl⟩:=hy;simp only[Sem.run_bind,di h1,Result.andThen_ok,Sem.run_pure]
 ·simp at h
theorem zz{t:Nat}{z:List PV}{is:List Nat}{pl:List (Nat×Nat)}{vals:List AV}{rvs:List Value}{x:AV}
   (hz:cx P t=some z) (hp:placesOf P t is=some pl) (hr:aw (num ns) G vals rvs) (hl:is.length=rvs.length) (h:bB (.build z pl) vals=some x) :
   ∃v,(Instr.build t (is.zip rvs).toArray).run P w=.ok v w∧aB (num ns) G x v:=by
 obtain⟨zv,hz1,hz2⟩:=gC (w:=w) hz;unfold placesOf at hp;split at hp
 · rename_i all hall;obtain⟨fs,hu,hm⟩:=xA (w:=w) hall;simp only[bB,Option.map_eq_some_iff]at h;obtain⟨cs,h1,rfl⟩:=h;obtain⟨g1,g2⟩:=iz (G:=G) (ρ:=num ns) hz2;obtain⟨rc,e1,e2,_⟩:=tu (place:=(all.toArray[·]?)) (rc:=zv.cells) (by simpa using hp) hr g1 g2 hl h1;refine⟨.agg rc,?_,?_⟩
   ·simp only[Instr.build,Sem.run_bind,hz1,Result.andThen_ok,run_underlying hu,hm];simp only[e1,Sem.run_pure]
   ·simp only[aB];exact⟨rc.toList,by simp,e2⟩
 ·simp at hp
theorem Rel.WV{K:bl}{p:PV}{v:Value}(h:Rel K p v):R K true p v.cells.toList:=by
 cases p with
 |agg cs=>obtain⟨vs,rfl,h⟩:=h;simp only[R,Value.cells];exact⟨trivial,by simpa using h⟩
 |bool b=>have h':=h;simp only[Rel,R]at h';simp at h';subst h';simpa[Value.cells] using R.top h
 |int k n=>have h':=h;simp only[Rel,R]at h';simp at h';subst h';simpa[Value.cells] using R.top h
 |str s=>have h':=h;simp only[Rel,R]at h';simp at h';subst h';simpa[Value.cells] using R.top h
 |au els=>
   have h':=h;obtain⟨b,l,c,rfl,_⟩:=cd.1 h';simpa[Value.cells] using R.top h
theorem oW{x:AV}{p:PV}{v:Value}(h:kM x=some p)(hr:aB (num ns) G x v):Rel G.K p v:=by
 unfold kM at h;split at h<;>simp at h<;>subst h
 ·simpa only[aB] using hr
 ·exact eo (x:=.dH _) rfl hr
 ·exact eo (x:=.own _ _) rfl hr
theorem ri{x:AV}:dJ [] x=kM x:=by
 cases x<;>simp[dJ,kM]
theorem qf{x:AV}{p:PV}(h:kM x=some p)(hl:aT x=true):de p=true:=by
 cases x with
 |pv q=>simp[kM]at h;subst h;cases q<;>simp_all[aT,de]
 |dH _=>simp[kM]at h;subst h;rfl
 |own _ _=>simp[kM]at h;subst h;rfl
 |_=>simp[kM]at h
theorem Rel.J4{K:bl}{p:PV}{v:Value}(h:Rel K p v)(hl:de p=true):R K false p [v]:=(J0 hl).1 h
theorem vW:∀{cs:List AV} {ps:List PV} {vs:List Value},ca [] cs=some ps→aw (num ns) G cs vs→dL G.K ps vs
 |[],ps,vs,h,hr=>by simp[ca]at h;subst h;simp only[aw]at hr;simp[dL,hr]
 |c::cs,ps,vs,h,hr=>by
   simp only[ca,ri,Option.ite_none_right_eq_some]at h;obtain⟨hl,h⟩:=h;split at h
   ·rename_i p ps' h1 h2;simp at h;subst h;simp only[aw]at hr;obtain⟨v,r,rfl,e1,e2⟩:=hr;simp only[dL];exact⟨v,r,rfl,(oW h1 e1).J4 (qf h1 hl),vW h2 e2⟩
   ·simp at h
theorem xB{x:AV}{p:PV}{v:Value}(h:dd [] x=some p)(hr:aB (num ns) G x v):Rel G.K p v:=by
 cases x with
 |agg cs=>
   simp only[dd,Option.map_eq_some_iff]at h;obtain⟨ps,h1,rfl⟩:=h;simp only[aB]at hr;obtain⟨vs,rfl,hr⟩:=hr;simp only[Rel];exact⟨vs,rfl,vW h1 hr⟩
 |_=>simp only[dd,ri]at h;exact oW h hr
theorem kN:∀{xs:List AV} {ps:List PV} {vs:List Value},c_ [] xs=some ps→aw (num ns) G xs vs→jo G.K ps vs
 |[],ps,vs,h,hr=>by simp[c_]at h;subst h;simp only[aw]at hr;exact hr
 |c::cs,ps,vs,h,hr=>by
   simp only[c_]at h;split at h
   ·rename_i p ps' h1 h2;simp at h;subst h;simp only[aw]at hr;obtain⟨v,r,rfl,e1,e2⟩:=hr;exact⟨v,r,rfl,xB h1 e1,kN h2 e2⟩
   ·simp at h
def Gh.ja(G:Gh)(b:Nat)(c:Array Value):Gh:={ G with K:=fun b' o=>if b'=b then c[o]? else G.K b' o }
theorem Inv.jr{ρ:bQ}{mem:List (Nat×List AV)}{sh:Sh}{aa:aG}(h:Inv ρ G w mem sh aa){b o:Nat}{v:Value}(hk:G.K b o=some v):b<w.heap.size:=
 World.block_lt_of_cell? _ _ (h.known b o v hk)
theorem Gh.sB{ρ:bQ}{mem:List (Nat×List AV)}{sh:Sh}{aa:aG}(h:Inv ρ G w mem sh aa)(c:Array Value):G.le (G.ja w.heap.size c) where
 K:=fun b o v hk=>by
   have:=h.jr hk;simp only[Gh.ja];rw[if_neg (by omega)];exact hk
 pm:=fun _ _ h=>h
 sm:=fun _ _ h=>h
 tk:=fun _ t h=>⟨t,h,⟨Nat.le_refl _,t.gL⟩,fun _=>rfl⟩
theorem br{o:Obj}{b:Nat}(h:b<w.heap.size):(w.alloc o).heap[b]?=w.heap[b]?:=RowKit.Below.heap_alloc w o b h
theorem heap_alloc_new{o:Obj}:(w.alloc o).heap[w.heap.size]?=some o:=by
 show (w.heap.push o)[w.heap.size]?=some o;simp
theorem cr{b:Nat}{o:Obj}(h:w.heap[b]?=some o):b<w.heap.size:=by
 rcases Nat.lt_or_ge b w.heap.size with h'|h'
 ·exact h'
 ·simp[Array.getElem?_eq_none h']at h
theorem VM.mono{ρ:bQ}{G':Gh}{w':World}{b:Nat}{r:l3}{cells:List AV}(h:VM ρ G w b r cells)(hle:G.le G')(hr:G'.role b=G.role b)(hh:w'.heap[b]?=w.heap[b]?):VM ρ G' w' b r cells:=by
 obtain⟨h1,c,t,h2,h3⟩:=h;exact⟨hr.trans h1,c,t,hh.trans h2,aw.mono hle h3⟩
theorem xy.mono{ρ:bQ}{G':Gh}{w':World}{b:Nat×Nat}{r:l3}{cells:List AV}(h:xy ρ G w b r cells)(hle:G.le G')(hr:G'.role b.1=G.role b.1)(hh:w'.heap[b.1]?=w.heap[b.1]?):xy ρ G' w' b r cells:=by
 obtain⟨h1,o,h2,h3⟩:=h;exact⟨hr.trans h1,o,hh.trans h2,h3.mono hle⟩
theorem xy.lt{ρ:bQ}{b:Nat×Nat}{r:l3}{cells:List AV}(h:xy ρ G w b r cells):b.1<w.heap.size:=by
 obtain⟨_,o,h2,_⟩:=h;exact cr h2
theorem Inv.tv{ρ:bQ}{mem:List (Nat×List AV)}{sh:Sh}{aa:aG}(h:Inv ρ G w mem sh aa)(c:Array Value)(t:TypeId) :
   Inv ρ (G.ja w.heap.size c) (w.alloc (.cells c t)) mem sh aa:=by
 have hle:=Gh.sB h c;constructor
 · intro b o v hk;simp only[Gh.ja]at hk;split at hk
   ·rename_i hb;subst hb;simp[hk]
   · rw[World.cell?_alloc_old]
     ·exact h.known b o v hk
     ·simpa using ‹¬b=w.heap.size›
 · intro b o v hk;simp only[Gh.ja]at hk;split at hk
   ·rename_i hb;subst hb;exact .inl (h.fresh _ (Nat.le_refl _))
   ·exact h.aZ b o v hk
 ·intro b hb;simp at hb;exact h.fresh b (by omega)
 · intro d cells hd;obtain⟨b,e1,e2,e3⟩:=h.cT d cells hd;have hb:b<w.heap.size:=by obtain⟨c,t,hh,_⟩:=e2.at_;exact cr hh
   exact⟨b,e1,e2.mono hle rfl (br hb),e3⟩
 ·exact h.gM
 ·intro d cells hd;obtain⟨b,e1,e2,e3⟩:=h.dq d cells hd;have hb:b.1<w.heap.size:=e2.lt;exact⟨b,e1,e2.mono hle rfl (br hb),e3⟩
 ·exact h.eF
 · intro τ n hn;obtain⟨tk,e1,e2,e3⟩:=h.dh τ n hn;refine⟨tk,e1,e2,e3.cap,e3.zero,fun hlt=>?_⟩;obtain⟨b,o,cc,ty,f1,f2,f3,f4,f5⟩:=e3.spare hlt;have hb:=cr f3;refine⟨b,o,cc,ty,f1,f2,(br hb).trans f3,f4,fun j v hk=>f5 j v ?_⟩;simp only[Gh.ja]at hk
   rwa [if_neg (by omega)]at hk
 ·exact h.e_
 ·intro b c' hb;obtain⟨h1,t',z,h2⟩:=h.kz b c' hb;exact⟨h1,t',z,(br (Array.getElem?_eq_some_iff.1 h2).1).trans h2⟩
theorem bK.tv{ρ:bQ}{mem:List (Nat×List AV)}{sh:Sh}{aa:aG}(h:Inv ρ G w mem sh aa)(c:Array Value)(t:TypeId) :
   bK G w (G.ja w.heap.size c) (w.alloc (.cells c t)) where
 size:=by simp
 os:=rfl
 tape:=rfl
 output:=rfl
 K:=(Gh.sB h c).K
 sm:=fun _ _ h=>h
 ez:=fun b hb hr=>⟨hr,br hb⟩
 iQ:=fun b τ _ hr=>.inr ⟨τ,hr⟩
 gN:=fun b o v hb _ hk=>by
   simp only[Gh.ja]at hk
   rwa [if_neg (by omega)]at hk
theorem NP{b:Nat}{l:List Value}:At (G.ja b l.toArray).K b 0 l:=by
 intro j v hj;simp only[Gh.ja,if_true,Nat.zero_add];simpa using hj
end
end Go.Ab
namespace Go.Ab
section
variable {P:Program} {ns:Names} {G:Gh} {w:World}
theorem rj(sz:Nat):∀(rvs:List Value) (k:Nat) (rc:Array Value),rc.size=(k+rvs.length)*sz→(∀v∈rvs,v.cells.size=sz) →
   ∃rc',Instr.fill (fun i=>some (i*sz,sz)) rc ((List.range' k rvs.length).zip rvs)=some rc'∧rc'.toList=rc.toList.take (k*sz)++rvs.flatMap (fun v=>v.cells.toList)
 |[],k,rc,h,_=>⟨rc,by simp[Instr.fill],by simp at h;simp only[List.flatMap_nil,List.append_nil];rw[List.take_of_length_le];simp;omega⟩
 |v::rvs,k,rc,h,hs=>by
   have hv:=hs v (by simp);have hsz:rc.size=k*sz+(rvs.length+1)*sz:=(by rw[h,Nat.add_mul];simp);have hge:k*sz+sz≤rc.size:=by rw[hsz,Nat.add_mul];omega
   have hfold:(v.cells.zipIdx.foldl (fun cs (x:Value×Nat)=>cs.setIfInBounds (k*sz+x.2) x.1) rc).toList=rc.toList.take (k*sz)++v.cells.toList++rc.toList.drop (k*sz+sz):=by
     have:=qe (k*sz) v.cells.toList 0 rc (by simp[hv];omega);rw[←Array.foldl_toList];simpa[hv] using this
   have hsize:(v.cells.zipIdx.foldl (fun cs (x:Value×Nat)=>cs.setIfInBounds (k*sz+x.2) x.1) rc).size=rc.size:=by
     have hl:=congrArg List.length hfold;rw[List.length_append,List.length_append,List.length_take,List.length_drop]at hl;simp only[Array.length_toList,hv]at hl;omega
   obtain⟨rc',e1,e2⟩:=rj sz rvs (k+1) _ (by rw[hsize,h];congr 1;simp;omega) (fun u hu=>hs u (by simp[hu]));refine⟨rc',?_,?_⟩
   ·simp only[List.length_cons,List.range'_succ,List.zip_cons_cons,Instr.fill];rw[if_neg (by simp[hv];omega)];exact e1
   · rw[e2,hfold];simp only[List.flatMap_cons];rw[List.append_assoc,List.take_append];have h1:(rc.toList.take (k*sz)).length=k*sz:=by simp;omega
     rw[h1];have h2:(k+1)*sz-k*sz=sz:=by rw[Nat.add_mul];omega
     rw[h2,List.take_of_length_le (by rw[h1,Nat.add_mul];omega),List.take_append];simp[hv,List.append_assoc];exact List.take_of_length_le (by simp[hv])
theorem rl(f:Operand→Value):∀(l:List (Nat×Operand)) (k:Nat),ss k l=true →
   l.map (fun x=>(x.1,f x.2))=(List.range' k ((l.map (·.2)).map f).length).zip ((l.map (·.2)).map f)
 |[],k,_=>by simp
 |(i,x)::l,k,h=>by
   simp only[ss,Bool.and_eq_true,beq_iff_eq]at h;obtain⟨rfl,h⟩:=h;simp only[List.map_cons,List.length_cons,List.range'_succ,List.zip_cons_cons];rw[rl f l _ h]
theorem rm(f:Operand→Value):∀(l:List (Nat×Operand)),l.map (fun x=>(x.1,f x.2))=(l.map (·.1)).zip ((l.map (·.2)).map f)
 |[]=>by simp
 |x::l=>by simp[rm f l]
theorem zB{K:bl}{b sz:Nat}:∀{els:List PV} {vs:List Value} {o:Nat},jo K els vs→els.all (fun e=>(aX e).length == sz)=true →
   At K b o (vs.flatMap fun v=>v.cells.toList)→Row K b o sz els
 |[],_,_,_,_,_=>by simp only[Row]
 |e::els,vs,o,⟨v,r,e1,e2,e3⟩,hs,ha=>by
   subst e1;simp only[List.all_cons,Bool.and_eq_true,beq_iff_eq]at hs;have hR:=e2.WV;have hlen:v.cells.toList.length=sz:=by rw[hR.length,hs.1]
   simp only[Row];refine⟨⟨v.cells.toList,hlen,?_,hR⟩,zB e3 hs.2 ?_⟩
   ·intro j u hj;exact ha j u (by simp only[List.flatMap_cons];rw[List.getElem?_append_left (List.getElem?_eq_some_iff.1 hj).1];exact hj)
   · intro j u hj;have:=ha (sz+j) u (by simp only[List.flatMap_cons];rw[List.getElem?_append_right (by omega),hlen,Nat.add_sub_cancel_left];exact hj)
     rwa [←Nat.add_assoc]at this
theorem tw{K:bl}{sz:Nat}:∀{els:List PV} {vs:List Value},jo K els vs→els.all (fun e=>(aX e).length == sz)=true→∀v∈vs,v.cells.size=sz
 |[],vs,h,_,v,hv=>by cases h;simp at hv
 |e::els,vs,⟨u,r,e1,e2,e3⟩,hs,v,hv=>by
   subst e1;simp only[List.all_cons,Bool.and_eq_true,beq_iff_eq]at hs;simp only[List.mem_cons]at hv;rcases hv with rfl|hv
   ·have:=e2.WV.length;simp at this;rw[this,hs.1]
   ·exact tw e3 hs.2 v hv
theorem xC{ρ:bQ}{mem:List (Nat×List AV)}{sh:Sh}{aa:aG}{t e sz n:Nat}{z:List PV}{vals:List AV}{rvs:List Value}{x:AV}
   (he:eX P t=some e) (hsz:cE P e=some sz) (hz:cx P e=some z) (hn:rvs.length=n) (h0:0<sz) (hb:n*sz≤16777216)
   (hr:aw (num ns) G vals rvs) (hi:Inv ρ G w mem sh aa) (h:bB (.eh sz) vals=some x) :
   ∃v c,(Instr.buildSlice t n ((List.range' 0 rvs.length).zip rvs).toArray).run P w=.ok v (w.alloc (.cells c e)) ∧
     aB (num ns) (G.ja w.heap.size c) x v:=by
 have hu:=dD he;simp only[bB,Option.bind_eq_some_iff,Option.ite_none_right_eq_some,Option.some.injEq]at h;obtain⟨els,h1,h2,rfl⟩:=h;have hrl:=kN h1 hr;have hlen:=hrl.length;obtain⟨zv,hz1,hz2⟩:=gC (w:=w) hz;have hne:¬(n*sz=0∧0<n):=by rintro⟨a,b⟩;have:=Nat.mul_pos b h0;omega
 let z0:Array Value:=if n*sz=0 then #[] else zv.cells
 have hinit:((Array.range (n*sz)).map (z0[· % z0.size]!)).size=(0+rvs.length)*sz:=by simp[hn]
 obtain⟨rc,g1,g2⟩:=rj sz rvs 0 _ hinit (tw hrl h2);have g2':rc.toList=rvs.flatMap (fun v=>v.cells.toList):=by simpa using g2
 refine⟨.slice (some ⟨w.heap.size,0,none⟩) n n,rc,?_,?_⟩
 · simp only[Instr.buildSlice,Sem.run_bind,run_underlying hu,Result.andThen_ok,di hsz];rw[if_neg (by omega)];by_cases h00:n*sz=0
   ·have hz0:z0=#[]:=if_pos h00;rw[hz0]at g1;rw[if_pos h00];simp only[Sem.run_bind,Sem.run_pure,Result.andThen_ok,g1];rfl
   ·have hz0:z0=zv.cells:=if_neg h00;rw[hz0]at g1;rw[if_neg h00];simp only[Sem.run_bind,Sem.run_pure,hz1,Result.andThen_ok,g1];rfl
 · simp only[aB];refine⟨_,n,rfl,by omega,?_⟩;by_cases hnil:els=[]
   ·exact .inl hnil
   ·refine .inr ⟨w.heap.size,0,sz,rfl,?_⟩;have hle:=(Gh.sB hi rc).K;refine zB (jo.mono hle hrl) h2 ?_;rw[←g2'];have:=NP (G:=G) (b:=w.heap.size) (l:=rc.toList);simpa using this
end
end Go.Ab
namespace Go.Ab
section
variable {P:Program} {ns:Names} {G:Gh} {w:World}
theorem cG{k:IntKind}{i:Int}{y:Nat}{code:BoundsCode}(h0:0≤i)(hy:i≤y):(Instr.sliceBound (.int k i) y code).run P w=.ok i.toNat w:=by
 simp only[Instr.sliceBound,Sem.run_bind,asIntOf,Sem.run_pure,Result.andThen_ok];rw[if_pos ⟨h0,hy⟩];rfl
theorem nT{lo hi mx:Option Operand}{f:Operand→Value}{rest:List AV}{n cap:Nat}{l h:Int}{m:Option Int}{b:Bool}
   (hr:aw (num ns) G rest ((lo.toList++hi.toList++mx.toList).map f)) (he:eK lo.isSome hi.isSome mx.isSome n rest=some (l,h,m))
   (h0:0≤l) (h1:l≤h) (h2:h≤n) (h3:n≤cap) (hm:∀x,m=some x→x=h) :
   (Instr.sliceBounds b n cap (lo.map f) (hi.map f) (mx.map f)).run P w=.ok (l.toNat,h.toNat,(m.map Int.toNat).getD cap) w:=by
 cases lo<;>cases hi<;>cases mx<;>simp only[Option.isSome_none,Option.isSome_some,eK]at he <;>
   (try (split at he<;>first|(simp at he;done)|skip))<;>(try (simp at he;done))
 all_goals simp at he
 all_goals obtain⟨rfl,rfl,rfl⟩:=he
 all_goals (try contradiction)
 all_goals simp[aw,aB,Rel,R]at hr
 ·simp only[Instr.sliceBounds,Option.map_none,Sem.run_bind,Sem.run_pure,Result.andThen_ok];simp
 ·rename_i k h _ _ _;have e1:=cG (P:=P) (w:=w) (k:=k) (i:=h) (y:=cap) (code:=if b then .sliceAcap else .sliceAlen) (by omega) (by omega);simp only[Instr.sliceBounds,Option.map_none,Option.map_some,hr,Sem.run_bind,Sem.run_pure,Result.andThen_ok,e1];simp
 ·rename_i k h k' m _ _ _;obtain⟨hr1,hr2⟩:=hr;have hmh:=hm m rfl;subst hmh;have e1:=cG (P:=P) (w:=w) (k:=k') (i:=m) (y:=cap) (code:=if b then .slice3Acap else .slice3Alen) (by omega) (by omega);have e2:=cG (P:=P) (w:=w) (k:=k) (i:=m) (y:=m.toNat) (code:=.slice3B) (by omega) (by omega);simp only[Instr.sliceBounds,Option.map_none,Option.map_some,hr1,hr2,Sem.run_bind,Sem.run_pure,Result.andThen_ok,e1,e2];simp
 ·rename_i k l _ _ _;have e1:=cG (P:=P) (w:=w) (k:=k) (i:=l) (y:=n) (code:=.sliceB) (by omega) (by omega);simp only[Instr.sliceBounds,Option.map_none,Option.map_some,hr,Sem.run_bind,Sem.run_pure,Result.andThen_ok,Option.isSome_none,Bool.false_eq_true,if_false,e1];simp
 ·rename_i k l k' h _ _ _;obtain⟨hr1,hr2⟩:=hr;have e1:=cG (P:=P) (w:=w) (k:=k') (i:=h) (y:=cap) (code:=if b then .sliceAcap else .sliceAlen) (by omega) (by omega);have e2:=cG (P:=P) (w:=w) (k:=k) (i:=l) (y:=h.toNat) (code:=.sliceB) (by omega) (by omega);simp only[Instr.sliceBounds,Option.map_none,Option.map_some,hr1,hr2,Sem.run_bind,Sem.run_pure,Result.andThen_ok,e1,Option.isSome_none,Bool.false_eq_true,if_false,e2];simp
 ·rename_i k l k' h k'' m _ _ _;obtain⟨hr1,hr2,hr3⟩:=hr;have hmh:=hm m rfl;subst hmh;have e1:=cG (P:=P) (w:=w) (k:=k'') (i:=m) (y:=cap) (code:=if b then .slice3Acap else .slice3Alen) (by omega) (by omega);have e2:=cG (P:=P) (w:=w) (k:=k') (i:=m) (y:=m.toNat) (code:=.slice3B) (by omega) (by omega);have e3:=cG (P:=P) (w:=w) (k:=k) (i:=l) (y:=m.toNat) (code:=.slice3C) (by omega) (by omega);simp only[Instr.sliceBounds,Option.map_some,hr1,hr2,hr3,Sem.run_bind,Sem.run_pure,Result.andThen_ok,e1,e2,Option.isSome_some,if_true,e3];simp
theorem NQ{K:bl}{els:List PV}{b o sz l h:Nat}(hr:Row K b o sz els):Row K b (o+l*sz) sz ((els.take h).drop l):=Row.drop l (Row.take h hr)
theorem zD{t e sz:Nat}{lo hi mx:Option Operand}{f:Operand→Value}{x y:AV}{v:Value}{rest:List AV}(hu:P.underlying t=some (.slice e))(hsz:cE P e=some sz)
   (hr:aw (num ns) G rest ((lo.toList++hi.toList++mx.toList).map f)) (hx:aB (num ns) G x v)
   (h:dK false sz lo.isSome hi.isSome mx.isSome (x::rest)=some y) :
   ∃u,(Instr.sliceAt t v (lo.map f) (hi.map f) (mx.map f)).run P w=.ok u w∧aB (num ns) G y u:=by
 simp only[dK,Bool.false_eq_true,if_false]at h;split at h
 · rename_i els hels;obtain⟨base,len,cap,rfl,hcap,hlen,hrow⟩:=cd.1 (eo hels hx);split at h
   · rename_i l hh m hb;simp only[Option.ite_none_right_eq_some]at h;obtain⟨⟨h0,h1,h2,h3⟩,h⟩:=h
     have hm:∀x,m=some x→x=hh:=by
       intro x hx;subst hx;simp only[Option.ite_none_right_eq_some]at h;exact h.1
     rw[hlen]at hb h2;have hrun:=nT (P:=P) (w:=w) (b:=true) hr hb h0 h1 h2 (by omega:len≤cap) hm
     have ie:(Instr.sliceAt t (.slice base len cap) (lo.map f) (hi.map f) (mx.map f)).run P w =
         .ok (.slice (if (m.map Int.toNat).getD cap=l.toNat then base else base.map (·.add (l.toNat*sz))) (hh.toNat-l.toNat) ((m.map Int.toNat).getD cap-l.toNat)) w:=by
       simp only[Instr.sliceAt,Sem.run_bind,run_underlying hu,Result.andThen_ok,Instr.slice,hrun,di hsz,Sem.run_pure]
     refine⟨_,ie,?_⟩
     have hsl:PX G.K ((els.take hh.toNat).drop l.toNat) (if (m.map Int.toNat).getD cap=l.toNat then base else base.map (·.add (l.toNat*sz))) (hh.toNat-l.toNat):=by
       refine⟨by simp;omega,?_⟩;by_cases hnil:(els.take hh.toNat).drop l.toNat=[]
       ·exact .inl hnil
       · refine .inr ?_
         have hlt:l.toNat<hh.toNat:=by
           rcases Nat.lt_or_ge l.toNat hh.toNat with h'|h'
           ·exact h'
           ·exfalso;apply hnil;apply List.drop_of_length_le;simp;omega
         rcases hrow with hn|⟨b,o,sz',rfl,hrow⟩
         ·subst hn;simp at hnil
         · have hne:(m.map Int.toNat).getD cap≠l.toNat:=by
             cases m with
             |none=>simp;omega
             |some x=>have:=hm x rfl;subst this;simp;omega
           rw[if_neg hne];have hels':els≠[]:=by intro e;subst e;simp at hnil
           refine⟨b,o+l.toNat*sz',sz',?_,NQ hrow⟩;rcases h3 with h3|h3
           ·subst h3;simp[Addr.add]
           ·have:=hrow.sz h3 hels';subst this;simp[Addr.en]
     cases m with
     |none=>
       simp at h;subst h;simp only[aB];exact cd.2 ⟨_,_,_,rfl,by simp;omega,hsl⟩
     |some x=>
       have:=hm x rfl;subst this;simp at h;subst h;simp only[aB];exact⟨_,_,rfl,hsl⟩
   ·simp at h
 ·simp at h
theorem xD{t e sz:Nat}{lo hi mx:Option Operand}{f:Operand→Value}{x y:AV}{v:Value}{rest:List AV}(hu:P.underlying t=some (.slice e))(hsz:cE P e=some sz)(hmx:mx.isSome=false)
   (hr:aw (num ns) G rest ((lo.toList++hi.toList++mx.toList).map f)) (hx:aB (num ns) G x v)
   (h:kx sz lo.isSome hi.isSome (x::rest)=some y) :
   ∃u,(Instr.sliceAt t v (lo.map f) (hi.map f) (mx.map f)).run P w=.ok u w∧aB (num ns) G y u:=by
 unfold kx at h;split at h
 · rename_i b z n ag rest' heq;simp only[List.cons.injEq]at heq;obtain⟨rfl,rfl⟩:=heq;rw[Option.ite_none_right_eq_some]at h;obtain⟨rfl,h⟩:=h;split at h
   · rename_i l hh hb;simp only[Option.ite_none_right_eq_some,Option.some.injEq]at h;obtain⟨⟨h0,h1,h2⟩,rfl⟩:=h;simp only[aB]at hx;obtain⟨blk,cap,hsm,rfl,hroom⟩:=hx;rw[←hmx]at hb;have hrun:=nT (P:=P) (w:=w) (b:=true) (cap:=n+cap) hr hb h0 h1 h2 (by omega) (by simp)
     have ie:(Instr.sliceAt t (.slice (some ⟨blk.1,0,none⟩) n (n+cap)) (lo.map f) (hi.map f) (mx.map f)).run P w =
         .ok (.slice (if n+cap=l.toNat then some ⟨blk.1,0,none⟩ else (some ⟨blk.1,0,none⟩:Option Addr).map (·.add (l.toNat*z))) (hh.toNat-l.toNat) (n+cap-l.toNat)) w:=by
       simp only[Instr.sliceAt,Sem.run_bind,run_underlying hu,Result.andThen_ok,Instr.slice,hrun,di hsz,Sem.run_pure,Option.map_none,Option.getD_none]
     refine⟨_,ie,?_⟩;by_cases hl:l=0
     · subst hl;simp only[if_true,aB];refine⟨blk,n+cap-hh.toNat,hsm,?_,?_⟩
       ·have e1:hh.toNat+(n+cap-hh.toNat)=n+cap:=(by omega);rw[e1];simp[Addr.add]
       ·have e1:hh.toNat+(n+cap-hh.toNat)=n+cap:=(by omega);rw[e1];exact hroom
     · rw[if_neg hl];simp only[aB];refine⟨blk,_,_,hsm,rfl,?_⟩;by_cases hz:hh.toNat-l.toNat=0
       ·exact .inl hz
       ·right;rw[if_neg (by omega)];simp[Addr.add];exact fun e=>e.symm
   ·simp at h
 ·simp at h
theorem sb{t:Nat}{lo hi mx:Option Operand}{f:Operand→Value}{x y:AV}{v:Value}{rest:List AV}(hu:P.underlying t=some .string)(hmx:mx.isSome=false)
   (hr:aw (num ns) G rest ((lo.toList++hi.toList++mx.toList).map f)) (hx:aB (num ns) G x v)
   (h:dK true 0 lo.isSome hi.isSome false (x::rest)=some y) :
   ∃u,(Instr.sliceAt t v (lo.map f) (hi.map f) (mx.map f)).run P w=.ok u w∧aB (num ns) G y u:=by
 simp only[dK,if_true]at h;split at h
 · rename_i s;simp only[aB,mQ]at hx;subst hx;split at h
   · rename_i l hh hb;simp only[Option.ite_none_right_eq_some,Option.some.injEq]at h;obtain⟨⟨h0,h1,h2⟩,rfl⟩:=h;rw[←hmx]at hb;have hrun:=nT (P:=P) (w:=w) (b:=false) hr hb h0 h1 h2 (Nat.le_refl _) (by simp);have hmx':mx=none:=by cases mx<;>simp_all
     subst hmx';have hsize:(ByteArray.mk s.toArray).size=s.length:=by simp[ByteArray.size]
     refine⟨.string ((ByteArray.mk s.toArray).extract l.toNat hh.toNat),?_,?_⟩
     ·simp only[Instr.sliceAt,Sem.run_bind,run_underlying hu,Result.andThen_ok,Instr.slice,Option.map_none,Option.isSome_none,Bool.false_eq_true,if_false,hsize];simp only[Option.map_none]at hrun;simp[hrun]
     · have:(ByteArray.mk s.toArray).extract l.toNat hh.toNat=⟨((s.take hh.toNat).drop l.toNat).toArray⟩:=by
         apply ByteArray.ext;simp[ByteArray.data_extract];rw[List.drop_take]
       rw[this];exact tt
   ·simp at h
 ·simp at h
end
end Go.Ab
namespace Go.Ab
section
variable {P:Program} {ns:Names} {G:Gh} {w:World}
def zF(ns:Names)(P:Program)(G:Gh)(w:World)(mem:List (Nat×List AV))(sh:Sh)(aa:aG)(s:Sem Value)(x:AV):Prop:=
 ∃v w' G',s.run P w=.ok v w'∧aB (num ns) G' x v∧Inv (num ns) G' w' mem sh aa∧G.le G'∧bK G w G' w'
theorem zF.stay{mem:List (Nat×List AV)}{sh:Sh}{aa:aG}(hi:Inv (num ns) G w mem sh aa){s:Sem Value}{x:AV}{v:Value}(h:s.run P w=.ok v w)(hr:aB (num ns) G x v) :
   zF ns P G w mem sh aa s x:=⟨v,w,G,h,hr,hi,G.le_refl,bK.refl G w⟩
theorem ck{ρ:bQ}{vals:List AV}{v:Value}(h:aw ρ G vals [v]):∃x,vals=[x]∧aB ρ G x v:=by
 cases vals with
 |nil=>simp[aw]at h
 |cons x r=>
   simp only[aw]at h;obtain⟨u,r',e,h1,h2⟩:=h;cases e;cases r with
   |nil=>exact⟨x,rfl,h1⟩
   |cons _ _=>simp[aw]at h2
theorem dw{ρ:bQ}{vals:List AV}{u v:Value}(h:aw ρ G vals [u,v]):∃x y,vals=[x,y]∧aB ρ G x u∧aB ρ G y v:=by
 cases vals with
 |nil=>simp[aw]at h
 |cons x r=>
   simp only[aw]at h;obtain⟨u',r',e,h1,h2⟩:=h;cases e;obtain⟨y,rfl,h3⟩:=ck h2;exact⟨x,y,rfl,h1,h3⟩
theorem zG{ρ:bQ}{vals:List AV}{u v t:Value}(h:aw ρ G vals [u,v,t]):∃x y z,vals=[x,y,z]∧aB ρ G x u∧aB ρ G y v∧aB ρ G z t:=by
 cases vals with
 |nil=>simp[aw]at h
 |cons x r=>
   simp only[aw]at h;obtain⟨u',r',e,h1,h2⟩:=h;cases e;obtain⟨y,z,rfl,h3,h4⟩:=dw h2;exact⟨x,y,z,rfl,h1,h3,h4⟩
theorem J5{x1 x2 x3 x:AV}(h:bB .pick [x1,x2,x3]=some x):∃c,x1=.pv (.bool c)∧x=if c then x2 else x3:=by
 cases x1 with
 |pv p=>cases p with
   |bool c=>exact⟨c,rfl,by simpa[bB] using h.symm⟩
   |_=>simp[bB]at h
 |_=>simp[bB]at h
theorem NR{neg:Bool}{x1 x2 x:AV}(h:bB (.beq neg) [x1,x2]=some x):∃p q,x1=.pv (.bool p)∧x2=.pv (.bool q)∧x=.pv (.bool (if neg then !(p == q) else (p == q))):=by
 cases x1 with
 |pv p=>cases p with
   |bool c=>cases x2 with
     |pv q=>cases q with
       |bool d=>exact⟨c,d,rfl,rfl,by simpa[bB] using h.symm⟩
       |_=>simp[bB]at h
     |_=>simp[bB]at h
   |_=>simp[bB]at h
 |_=>simp[bB]at h
theorem J6{k:IntKind}{x1 x:AV}(h:bB (.conv k) [x1]=some x):∃k' n,x1=.pv (.int k' n)∧x=.pv (.int k (k.wrap n)):=by
 cases x1 with
 |pv p=>cases p with
   |int k' n=>exact⟨k',n,rfl,by simpa[bB] using h.symm⟩
   |_=>simp[bB]at h
 |_=>simp[bB]at h
theorem Gy{sz:Nat}{x1 x2 x:AV}(h:bB (.eg sz) [x1,x2]=some x):∃k i,x2=.pv (.int k i):=by
 cases x2 with
 |pv p=>cases p with
   |int k n=>exact⟨k,n,rfl⟩
   |_=>simp[bB]at h
 |_=>simp[bB]at h
theorem Gz{x1 x2 x:AV}(h:bB .index [x1,x2]=some x):∃s k i,x1=.pv (.str s)∧x2=.pv (.int k i):=by
 cases x1 with
 |pv q=>cases q with
   |str s=>cases x2 with
     |pv p=>cases p with
       |int k n=>exact⟨s,k,n,rfl,rfl⟩
       |_=>simp[bB]at h
     |_=>simp[bB]at h
   |_=>simp[bB]at h
 |_=>simp[bB]at h
theorem tz:∀{els:List PV} {s:List UInt8},fQ els=some s→els=s.map fun b=>.int .u8 (b.toNat:Int)
 |[],s,h=>by simp[fQ]at h;subst h;rfl
 | .int .u8 n::r,s,h=>by
   simp only[fQ,Option.ite_none_right_eq_some,Option.map_eq_some_iff]at h;obtain⟨⟨h0,h1⟩,q,h2,rfl⟩:=h
   have:((UInt8.ofNat n.toNat).toNat:Int)=n:=by
     simp;omega
   simp only[List.map_cons,this,←tz h2]
 | .int .i64 _::_,_,h=>by simp[fQ]at h
 | .int .i32 _::_,_,h=>by simp[fQ]at h
 | .int .i16 _::_,_,h=>by simp[fQ]at h
 | .int .i8 _::_,_,h=>by simp[fQ]at h
 | .int .u64 _::_,_,h=>by simp[fQ]at h
 | .int .u32 _::_,_,h=>by simp[fQ]at h
 | .int .u16 _::_,_,h=>by simp[fQ]at h
 | .bool _::_,_,h=>by simp[fQ]at h
 | .str _::_,_,h=>by simp[fQ]at h
 | .agg _::_,_,h=>by simp[fQ]at h
 | .au _::_,_,h=>by simp[fQ]at h
theorem b2s_inv{x1 x:AV}(h:bB .b2s [x1]=some x):∃s:List UInt8,cJ x1=some (s.map fun b=>.int .u8 (b.toNat:Int))∧x=.pv (.str s):=by
 simp only[bB,Option.map_eq_some_iff,Option.bind_eq_some_iff]at h;obtain⟨s,⟨els,h1,h2⟩,rfl⟩:=h;exact⟨s,by rw[h1,tz h2],rfl⟩
theorem b2s_run{s d e:TypeId}{l:List UInt8}{x:AV}{v:Value}(hs:P.underlying s=some (.slice e))(he:P.underlying e=some (.int .u8))(hd:P.underlying d=some .string)
   (hi:∀b o u,G.K b o=some u→w.cell? ⟨b,o,none⟩=some u) (hx:cJ x=some (l.map fun b=>.int .u8 (b.toNat:Int))) (hr:aB (num ns) G x v) :
   (convert s d v).run P w=.ok (.string ⟨l.toArray⟩) w:=by
 obtain⟨base,len,cap,rfl,_,hlen,hrow⟩:=cd.1 (eo hx hr);simp only[List.length_map]at hlen;subst hlen;cases base with
 |none=>
   have h0:l=[]:=by
     rcases hrow with h|⟨b,o,sz,e,_⟩
     ·simpa using h
     ·cases e
   subst h0;show (convert s d (.slice none 0 cap)).run P w=_;rw[run_convert_bytes_string w s d e none 0 cap hs he hd];simp[Conv.bytesToString];rfl
 |some a=>
   refine run_convert_bytes_back w s d e a cap l hs he hd fun j hj=>?_;rcases hrow with h|⟨b,o,sz,e,hrow⟩
   ·simp at h;subst h;simp at hj
   · cases e
     obtain⟨vs,g1,g2,g3⟩:=hrow.get (i:=j) (el:=.int .u8 (l[j].toNat:Int)) (by simp[hj]);simp only[R]at g3;subst g3;simp at g1;subst g1;rw[Addr.en];have:=g2 0 _ rfl;simp at this;exact hi _ _ _ this
theorem NU{i:Nat}{x1 x:AV}(h:bB (.ext i) [x1]=some x):∃vs,x1=.qW vs∧vs[i]?=some x:=by
 cases x1 with
 |qW vs=>exact⟨vs,rfl,by simpa[bB] using h⟩
 |_=>simp[bB]at h
theorem GA{sz:Nat}{ag:Bool}{x1 x:AV}(h:bB (.fH sz ag) [x1]=some x):∃cs,x1=.gf cs∧cO ag sz cs=some x:=by
 cases x1 with
 |gf vs=>exact⟨vs,rfl,by simpa[bB] using h⟩
 |_=>simp[bB]at h
theorem J7{x1 x:AV}(h:bB .Cs [x1]=some x):∃s,x1=.pv (.str s)∧x=.pv (.int .i64 (s.length:Int)):=by
 cases x1 with
 |pv q=>cases q with
   |str s=>exact⟨s,rfl,by simpa[bB] using h.symm⟩
   |_=>simp[bB]at h
 |_=>simp[bB]at h
theorem QZ{x1 x2 x:AV}(h:bB .mn [x1,x2]=some x):∃k p q,x1=.pv (.int k p)∧x2=.pv (.int k q)∧x=.pv (.int k (if q<p then q else p)):=by
 cases x1 with
 |pv q=>cases q with
   |int k s=>cases x2 with
     |pv p=>cases p with
       |int k' n=>
         simp only[bB,Option.ite_none_right_eq_some,Option.some.injEq]at h;obtain⟨rfl,rfl⟩:=h;exact⟨k,s,n,rfl,rfl,rfl⟩
       |_=>simp[bB]at h
     |_=>simp[bB]at h
   |_=>simp[bB]at h
 |_=>simp[bB]at h
theorem Q0{x1 x2 x:AV}(h:bB .mx [x1,x2]=some x):∃k p q,x1=.pv (.int k p)∧x2=.pv (.int k q)∧x=.pv (.int k (if q > p then q else p)):=by
 cases x1 with
 |pv q=>cases q with
   |int k s=>cases x2 with
     |pv p=>cases p with
       |int k' n=>
         simp only[bB,Option.ite_none_right_eq_some,Option.some.injEq]at h;obtain⟨rfl,rfl⟩:=h;exact⟨k,s,n,rfl,rfl,rfl⟩
       |_=>simp[bB]at h
     |_=>simp[bB]at h
   |_=>simp[bB]at h
 |_=>simp[bB]at h
theorem zH{A:ko}{o:Oper}{vo:NK}{args:List Operand}(hc:bH P ns A o.dst o.op=some (.v vo,args)){a:Act}{vals:List AV}{x:AV}
   {mem:List (Nat×List AV)} {sh:Sh} {aa:aG} (hr:aw (num ns) G vals (args.map a.eval)) (hi:Inv (num ns) G w mem sh aa) (h:bB vo vals=some x) :
   ∃v w' G',(execOp a.eval o).run P w=.ok (.value v) w'∧aB (num ns) G' x v∧Inv (num ns) G' w' mem sh aa∧G.le G'∧bK G w G' w':=by
 obtain⟨dst,op,type,pos,after,guard⟩:=o
 have lift:∀{s:Sem Value},zF ns P G w mem sh aa s x→(execOp a.eval ⟨dst,op,type,pos,after,guard⟩=(do pure (.value (←s)):Sem Next)) →
     ∃v w' G',(execOp a.eval ⟨dst,op,type,pos,after,guard⟩).run P w=.ok (.value v) w'∧aB (num ns) G' x v∧Inv (num ns) G' w' mem sh aa∧G.le G'∧bK G w G' w':=by
   rintro s ⟨v,w',G',h1,h2,h3,h4,h5⟩ he
   exact⟨v,w',G',by rw[he];simp only[Sem.run_bind,h1,Result.andThen_ok,Sem.run_pure],h2,h3,h4,h5⟩
 cases op<;>simp only[bH]at hc
 case move y=>
   simp at hc;obtain⟨rfl,rfl⟩:=hc;obtain⟨x',rfl,h1⟩:=ck (by simpa using hr);simp[bB]at h;subst h;exact⟨_,w,G,by simp[execOp],h1,hi,G.le_refl,bK.refl G w⟩
 case assign y=>
   simp at hc;obtain⟨rfl,rfl⟩:=hc;obtain⟨x',rfl,h1⟩:=ck (by simpa using hr);simp[bB]at h;subst h;exact⟨_,w,G,by simp[execOp],h1,hi,G.le_refl,bK.refl G w⟩
 case pick c y z=>
   simp at hc;obtain⟨rfl,rfl⟩:=hc;obtain⟨x1,x2,x3,rfl,h1,h2,h3⟩:=zG (by simpa using hr);obtain⟨b,rfl,rfl⟩:=J5 h;simp only[aB,jq]at h1;refine⟨if b then a.eval y else a.eval z,w,G,by simp[execOp,h1,asBool],?_,hi,G.le_refl,bK.refl G w⟩;cases b<;>simp[h2,h3]
 case binOp op t y z ty=>
   simp only[Option.map_eq_some_iff]at hc;obtain⟨vo',h0,he⟩:=hc;simp at he;obtain⟨rfl,rfl⟩:=he;obtain⟨x1,x2,rfl,h1,h2⟩:=dw (by simpa using hr);unfold Fw at h0;refine lift (s:=do eqGuard op t y z (a.eval y) (a.eval z);binOp op t (a.eval y) (a.eval z)) ?_ rfl;split at h0
   ·simp at h0;subst h0;simp only[bB]at h;obtain⟨v,g1,g2⟩:=rb (P:=P) (w:=w) (t:=t) h1 h2 h y z;exact .stay hi g1 g2
   ·simp at h0;subst h0;simp only[bB]at h;obtain⟨v,g1,g2⟩:=rb (P:=P) (w:=w) (t:=t) h1 h2 h y z;exact .stay hi g1 g2
   · rename_i hu
     have key:∀neg,vo'=.beq neg→((op=.eql∧neg=false)∨(op=.neq∧neg=true))→zF ns P G w mem sh aa (do eqGuard op t y z (a.eval y) (a.eval z);binOp op t (a.eval y) (a.eval z)) x:=by
       intro neg hvo hop;subst hvo;obtain⟨p,q,rfl,rfl,rfl⟩:=NR h;simp only[aB,jq]at h1 h2;rw[h1,h2];exact .stay hi (zo hu hop p q y z) mR
     split at h0
     ·simp at h0;exact key false h0.symm (.inl ⟨‹_›,rfl⟩)
     · split at h0
       ·simp at h0;exact key true h0.symm (.inr ⟨‹_›,rfl⟩)
       ·simp at h0
   ·simp at h0
 case unOp op t y=>
   simp at hc;obtain⟨rfl,rfl⟩:=hc;obtain⟨x',rfl,h1⟩:=ck (by simpa using hr);refine lift (s:=Op.unary op (a.eval y)) ?_ rfl;simp only[bB]at h;unfold S_ at h;split at h
   · split at h<;>simp at h
     subst h;simp only[aB,jq]at h1;rw[h1];exact .stay hi (by simp[Op.unary]) mR
   · split at h<;>simp at h
     subst h;simp only[aB,bW]at h1;rw[h1];exact .stay hi (by simp[Op.unary,Op.intArith]) dj
   ·simp at h
 case convert s d y=>
   split at hc
   ·rename_i k1 k2 hs hd;simp at hc;obtain⟨rfl,rfl⟩:=hc;obtain⟨x',rfl,h1⟩:=ck (by simpa using hr);obtain⟨k',n,rfl,rfl⟩:=J6 h;simp only[aB,bW]at h1;refine lift (s:=convert s d (a.eval y)) ?_ rfl;rw[h1];exact .stay hi (by simp[convert,run_underlying hs,run_underlying hd,Conv.intToInt]) dj
   · rename_i e hs hd;split at hc
     ·rename_i he;simp at hc;obtain⟨rfl,rfl⟩:=hc;obtain⟨x',rfl,h1⟩:=ck (by simpa using hr);obtain⟨l,hl,rfl⟩:=b2s_inv h;refine lift (s:=convert s d (a.eval y)) ?_ rfl;exact .stay hi (b2s_run hs he hd hi.known hl h1) tt
     ·simp at hc
   ·simp at hc
 case extract y i=>
   simp at hc;obtain⟨rfl,rfl⟩:=hc;obtain⟨x',rfl,h1⟩:=ck (by simpa using hr);obtain⟨vs,rfl,h2⟩:=NU h;simp only[aB]at h1;obtain⟨us,h3,h4⟩:=h1;obtain⟨u,h5,h6⟩:=h4.get h2;refine lift (s:=Instr.extract (a.eval y) i) ?_ rfl;rw[h3];exact .stay hi (by simp[Instr.extract,h5]) h6
 case field t y f=>
   split at hc
   · rename_i fd hf;split at hc
     ·rename_i sz ag hsz hag;simp at hc;obtain⟨rfl,rfl⟩:=hc;obtain⟨x',rfl,h1⟩:=ck (by simpa using hr);obtain⟨u,g1,g2⟩:=zq (w:=w) hf hsz hag h h1;exact lift (s:=Instr.field t (a.eval y) f) (.stay hi g1 g2) rfl
     ·simp at hc
   ·simp at hc
 case fieldAddr t y f=>
   split at hc
   · rename_i fd hf;split at hc
     · rename_i sz hsz;split at hc
       ·simp at hc
       ·rename_i hs0;simp at hc;obtain⟨rfl,rfl⟩:=hc;obtain⟨x',rfl,h1⟩:=ck (by simpa using hr);obtain⟨u,g1,g2⟩:=zt (w:=w) hf hsz hs0 h h1;exact lift (s:=Instr.fieldAt t (a.eval y) f) (.stay hi g1 g2) rfl
     ·simp at hc
   ·simp at hc
 case indexAddr t y i=>
   split at hc
   ·rename_i e he;simp only[Option.map_eq_some_iff]at hc;obtain⟨sz,hsz,hc⟩:=hc;simp at hc;obtain⟨rfl,rfl⟩:=hc;obtain⟨x1,x2,rfl,h1,h2⟩:=dw (by simpa using hr);obtain⟨k,i',rfl⟩:=Gy h;obtain⟨u,g1,g2⟩:=zu (w:=w) he hsz h h1;simp only[aB,bW]at h2;refine lift (s:=Instr.indexAt t (a.eval y) (a.eval i)) ?_ rfl;rw[h2];exact .stay hi g1 g2
   ·simp at hc
 case index t y i=>
   split at hc
   ·rename_i hu;simp at hc;obtain⟨rfl,rfl⟩:=hc;obtain⟨x1,x2,rfl,h1,h2⟩:=dw (by simpa using hr);obtain⟨s,k,i',rfl,rfl⟩:=Gz h;obtain⟨u,g1,g2⟩:=zw (ns:=ns) (G:=G) (w:=w) hu h;simp only[aB,bW,mQ]at h1 h2;refine lift (s:=Instr.index t (a.eval y) (a.eval i)) ?_ rfl;rw[h1,h2];exact .stay hi g1 g2
   ·simp at hc
 case build t ps=>
   split at hc
   · rename_i fs hu;split at hc
     · rename_i z pl hz hp;simp at hc;obtain⟨rfl,rfl⟩:=hc
       have hmap:(ps.map fun (i,x)=>(i,a.eval x))=((ps.toList.map (·.1)).zip ((ps.toList.map (·.2)).map a.eval)).toArray:=by
         apply Array.ext';rw[Array.toList_map];exact rm a.eval ps.toList
       refine lift (s:=Instr.build t (ps.map fun (i,x)=>(i,a.eval x))) ?_ rfl;rw[hmap];obtain⟨u,g1,g2⟩:=zz (w:=w) hz hp hr (by simp) h;exact .stay hi g1 g2
     ·simp at hc
   ·simp at hc
 case buildSlice t n ps=>
   split at hc
   · rename_i e he;split at hc
     · rename_i sz z hsz hz;simp only[Option.ite_none_right_eq_some,Option.some.injEq,Prod.mk.injEq]at hc;obtain⟨⟨hn,hord,h0,hb⟩,hvo,rfl⟩:=hc;simp at hvo;subst hvo
       have hmap:(ps.map fun (i,x)=>(i,a.eval x))=((List.range' 0 ((ps.toList.map (·.2)).map a.eval).length).zip ((ps.toList.map (·.2)).map a.eval)).toArray:=by
         apply Array.ext';rw[Array.toList_map];exact rl a.eval ps.toList 0 hord
       refine lift (s:=Instr.buildSlice t n (ps.map fun (i,x)=>(i,a.eval x))) ?_ rfl;rw[hmap];obtain⟨u,c,g1,g2⟩:=xC he hsz hz (by simp[hn]) h0 hb hr hi h;exact⟨u,_,_,g1,g2,hi.tv c e,Gh.sB hi c,bK.tv hi c e⟩
     ·simp at hc
   ·simp at hc
 case load t y=>
   split at hc
   · rename_i sz ag hsz hag;split at hc
     · rename_i tx;split at hc
       ·simp at hc
       · split at hc
         ·simp at hc
         ·simp at hc;obtain⟨rfl,rfl⟩:=hc;obtain⟨x',rfl,h1⟩:=ck (by simpa using hr);obtain⟨cs,rfl,h2⟩:=GA h;simp only[aB]at h1;obtain⟨b,o,vs,e,ha,hrl⟩:=h1;refine lift (s:=Instr.loadAt t (a.eval (.tmp tx))) ?_ rfl;rw[e];obtain⟨u,g1,g2⟩:=nF (ns:=ns) (w:=w) hsz hag h2 hrl (fun j v hj=>hi.known _ _ _ (ha j v hj));exact .stay hi (by simp[Instr.loadAt,Instr.sureAddr,g1]) g2
     ·simp at hc
   ·simp at hc
 case nilCheck y=>
   simp at hc;obtain⟨rfl,rfl⟩:=hc;obtain⟨x',rfl,h1⟩:=ck (by simpa using hr);simp only[bB]at h;split at h
   ·simp at h;subst h;have h1':=h1;simp only[aB]at h1;obtain⟨b,e,hv⟩:=h1;exact⟨a.eval y,w,G,by simp[execOp,hv],h1',hi,G.le_refl,bK.refl G w⟩
   ·simp at h;subst h;have h1':=h1;simp only[aB]at h1;obtain⟨b,e,hv⟩:=h1;exact⟨a.eval y,w,G,by simp[execOp,hv],h1',hi,G.le_refl,bK.refl G w⟩
   ·simp at h;subst h;have h1':=h1;simp only[aB]at h1;obtain⟨b,o,vs,hv,_⟩:=h1;exact⟨a.eval y,w,G,by simp[execOp,hv],h1',hi,G.le_refl,bK.refl G w⟩
   ·simp at h;subst h;have h1':=h1;simp only[aB]at h1;obtain⟨f,vs,_,hv,_⟩:=h1;exact⟨a.eval y,w,G,by simp[execOp,hv],h1',hi,G.le_refl,bK.refl G w⟩
   ·simp at h
 case makeFunc fn first cap=>
   split at hc
   · rename_i f;split at hc
     · rename_i hf;simp only[Option.map_eq_some_iff]at hc;obtain⟨g,hg,hc⟩:=hc;simp at hc;obtain⟨rfl,rfl⟩:=hc;simp[bB]at h;subst h;refine lift (s:=Instr.makeFunc (.func f) (first.map a.eval) (cap.map a.eval)) ?_ rfl;have hfirst:first=#[]:=by simpa using hf
       subst hfirst;refine .stay (v:=.func (.func f) #[] (cap.map a.eval)) hi (by simp[Instr.makeFunc]) ?_;simp only[aB];exact⟨f,cap.toList.map a.eval,hg,by congr 1;apply Array.ext';simp,hr⟩
     ·simp at hc
   ·simp at hc
 case slice t y lo hi' mx=>
   split at hc
   · rename_i e hu;split at hc
     · rename_i hhot;simp only[Option.map_eq_some_iff]at hc;obtain⟨sz,hsz,hc⟩:=hc;simp only[Prod.mk.injEq,AK.v.injEq]at hc;obtain⟨rfl,rfl⟩:=hc;cases vals with
       |nil=>simp[aw]at hr
       |cons x0 rest=>
         simp only[List.map_cons,aw]at hr;obtain⟨v,r,e1,h1,h2⟩:=hr;simp only[List.cons.injEq]at e1;obtain⟨rfl,rfl⟩:=e1;simp only[bB]at h;obtain⟨u,g1,g2⟩:=xD (w:=w) hu hsz hhot.1 h2 h1 h;exact lift (s:=Instr.sliceAt t (a.eval y) (lo.map a.eval) (hi'.map a.eval) (mx.map a.eval)) (.stay hi g1 g2) rfl
     · simp only[Option.map_eq_some_iff]at hc;obtain⟨sz,hsz,hc⟩:=hc;simp only[Prod.mk.injEq,AK.v.injEq]at hc;obtain⟨rfl,rfl⟩:=hc;cases vals with
       |nil=>simp[aw]at hr
       |cons x0 rest=>
         simp only[List.map_cons,aw]at hr;obtain⟨v,r,e1,h1,h2⟩:=hr;simp only[List.cons.injEq]at e1;obtain⟨rfl,rfl⟩:=e1;simp only[bB]at h;obtain⟨u,g1,g2⟩:=zD (w:=w) hu hsz h2 h1 h;exact lift (s:=Instr.sliceAt t (a.eval y) (lo.map a.eval) (hi'.map a.eval) (mx.map a.eval)) (.stay hi g1 g2) rfl
   · rename_i hu;split at hc
     ·simp at hc
     · rename_i hmx;simp only[Option.some.injEq,Prod.mk.injEq,AK.v.injEq]at hc;obtain⟨rfl,rfl⟩:=hc;cases vals with
       |nil=>simp[aw]at hr
       |cons x0 rest=>
         simp only[List.map_cons,aw]at hr;obtain⟨v,r,e1,h1,h2⟩:=hr;simp only[List.cons.injEq]at e1;obtain⟨rfl,rfl⟩:=e1;simp only[bB]at h;obtain⟨u,g1,g2⟩:=sb (w:=w) hu (by simpa using hmx) h2 h1 h;exact lift (s:=Instr.sliceAt t (a.eval y) (lo.map a.eval) (hi'.map a.eval) (mx.map a.eval)) (.stay hi g1 g2) rfl
   ·simp at hc
 case call c=>
   obtain⟨callee,cargs,ctypes⟩:=c;simp only at hc;split at hc
   · -- len
     split at hc
     · rename_i y e hcargs ht;simp only[Option.some.injEq,Prod.mk.injEq,AK.v.injEq]at hc;obtain⟨rfl,rfl⟩:=hc;simp only[Option.bind_eq_some_iff]at ht;obtain⟨t,ht1,ht2⟩:=ht;obtain⟨x',rfl,h1⟩:=ck (by simpa using hr);have hca:cargs=#[y]:=by apply Array.ext';simpa using hcargs
       subst hca
       have hrun:∀base n c,(Builtin.len_ ctypes type #[.slice base n c]).run P w=.ok (goInt n) w:=by
         intro base n c;simp[Builtin.len_,ht1,run_underlying ht2]
       refine lift (s:=Builtin.len_ ctypes type #[a.eval y]) ?_ ?_
       · simp only[bB]at h;split at h
         ·simp at h;subst h;simp only[aB]at h1;obtain⟨b,cap,_,hv,_⟩:=h1;rw[hv];exact .stay hi (hrun _ _ _) dj
         ·rename_i x0 _;simp only[Option.map_eq_some_iff]at h;obtain⟨l,hl,rfl⟩:=h;obtain⟨b,len,cap,hv,_,hlen,_⟩:=cd.1 (eo hl h1);rw[hv];refine .stay hi (hrun _ _ _) ?_;rw[hlen];exact dj
       ·simp[execOp,resolve,invoke,builtin]
     · rename_i y hcargs ht;simp only[Option.some.injEq,Prod.mk.injEq,AK.v.injEq]at hc;obtain⟨rfl,rfl⟩:=hc;simp only[Option.bind_eq_some_iff]at ht;obtain⟨t,ht1,ht2⟩:=ht;obtain⟨x',rfl,h1⟩:=ck (by simpa using hr);have hca:cargs=#[y]:=by apply Array.ext';simpa using hcargs
       subst hca;obtain⟨s,rfl,rfl⟩:=J7 h;simp only[aB,mQ]at h1;refine lift (s:=Builtin.len_ ctypes type #[a.eval y]) ?_ ?_
       · rw[h1];refine .stay (v:=goInt (ByteArray.mk s.toArray).size) hi (by simp[Builtin.len_,ht1,run_underlying ht2]) ?_;have:(ByteArray.mk s.toArray).size=s.length:=by simp[ByteArray.size]
         rw[this];exact dj
       ·simp[execOp,resolve,invoke,builtin]
     ·simp at hc
   · split at hc
     · rename_i y z hcargs;simp only[Option.some.injEq,Prod.mk.injEq,AK.v.injEq]at hc;obtain⟨rfl,rfl⟩:=hc;have hca:cargs=#[y,z]:=by apply Array.ext';simpa using hcargs
       subst hca;obtain⟨x1,x2,rfl,h1,h2⟩:=dw (by simpa using hr);obtain⟨k,p,q,rfl,rfl,rfl⟩:=QZ h;simp only[aB,bW]at h1 h2;refine lift (s:=Builtin.min_ ctypes type #[a.eval y,a.eval z]) ?_ ?_
       ·rw[h1,h2];exact .stay hi (by simp[Builtin.min_,Builtin.min2]) dj
       ·simp[execOp,resolve,invoke,builtin]
     ·simp at hc
   · split at hc
     · rename_i y z hcargs;simp only[Option.some.injEq,Prod.mk.injEq,AK.v.injEq]at hc;obtain⟨rfl,rfl⟩:=hc;have hca:cargs=#[y,z]:=by apply Array.ext';simpa using hcargs
       subst hca;obtain⟨x1,x2,rfl,h1,h2⟩:=dw (by simpa using hr);obtain⟨k,p,q,rfl,rfl,rfl⟩:=Q0 h;simp only[aB,bW]at h1 h2;refine lift (s:=Builtin.max_ ctypes type #[a.eval y,a.eval z]) ?_ ?_
       ·rw[h1,h2];exact .stay hi (by simp[Builtin.max_,Builtin.max2]) dj
       ·simp[execOp,resolve,invoke,builtin]
     ·simp at hc
   · split at hc
     · split at hc
       · split at hc
         · split at hc
           ·simp at hc
           ·split at hc<;>simp at hc
         ·simp at hc
       ·simp at hc
     ·simp at hc
   · split at hc
     · split at hc
       ·split at hc<;>simp at hc
       ·simp at hc
     ·simp at hc
   · split at hc
     ·split at hc<;>simp at hc
     ·simp at hc
   · split at hc
     · split at hc
       · rw[Option.ite_none_right_eq_some]at hc;obtain⟨_,hc⟩:=hc;split at hc
         · split at hc
           ·simp at hc
           ·simp at hc
         ·simp at hc
       · split at hc
         ·simp at hc
         · split at hc
           ·simp at hc
           ·split at hc<;>simp at hc
     ·simp at hc
   ·split at hc<;>simp at hc
   ·simp at hc
 case store t y v=>
   split at hc
   · split at hc
     ·simp at hc
     ·split at hc<;>simp at hc
   ·simp at hc
 case alloc t=>
   split at hc
   · split at hc
     ·split at hc<;>simp at hc
     ·simp at hc
     ·simp at hc
   ·simp at hc
 case box t y=>
   split at hc
   · split at hc
     ·split at hc<;>simp at hc
     ·simp at hc
     ·split at hc<;>simp at hc
   ·simp at hc
 case makeSlice t l c=>
   split at hc
   · split at hc
     · split at hc
       · split at hc
         ·split at hc<;>simp at hc
         ·simp at hc
         ·simp at hc
       ·simp at hc
     ·simp at hc
   ·simp at hc
 case makeMap t r=>split at hc<;>simp at hc
 case lookup t y i ok=>
   split at hc
   ·split at hc<;>simp at hc
   ·simp at hc
 case mapUpdate t m i y=>
   split at hc<;>simp at hc
 case insert t m i y=>
   split at hc<;>simp at hc
 all_goals simp at hc
end
end Go.Ab
namespace Go.Ab
section
variable {P:Program} {ns:Names} {G:Gh} {w:World}
theorem bu{α:Type}:∀(l:List (Nat×α)) (k:Nat) (v:α),look (cX l k v) k=some v
 |[],k,v=>by simp[cX,look]
 |(k',u)::r,k,v=>by
   simp only[cX];split
   ·rename_i h;simp[look,h]
   ·rename_i h;simp[look,h,bu r k v]
theorem bL{α:Type}:∀(l:List (Nat×α)) (k k':Nat) (v:α),k≠k'→look (cX l k v) k'=look l k'
 |[],k,k',v,h=>by simp[cX,look,h]
 |(k0,u)::r,k,k',v,h=>by
   simp only[cX];split
   ·rename_i h0;subst h0;simp[look,h]
   · simp only[look];split
     ·rfl
     ·exact bL r k k' v h
structure lH(G:Gh)(w w':World)(b:Nat):Prop where
 size:w'.heap.size=w.heap.size
 other:∀k,k≠b→w'.heap[k]?=w.heap[k]?
 os:w'.os=w.os
 tape:w'.tape=w.tape
 output:w'.output=w.output
theorem lH.setRow(b:Nat)(c:Array Value):lH G w (w.setRow b c) b:=
 ⟨setRow_size _ _ _,fun k h=>setRow_other _ _ _ _ h,rfl,rfl,rfl⟩
theorem lH.q_{w':World}{b:Nat}(h:lH G w w' b)(hb:G.role b≠.ez):bK G w G w' where
 size:=by rw[h.size];exact Nat.le_refl _
 os:=h.os
 tape:=h.tape
 output:=h.output
 K:=G.K.le_refl
 sm:=fun _ _ h=>h
 ez:=fun _ _ hr=>⟨hr,h.other _ (fun e=>hb (e ▸ hr))⟩
 iQ:=fun _ τ _ hr=>.inr ⟨τ,hr⟩
 gN:=fun _ _ _ _ _ hk=>hk
theorem lH.known{ρ:bQ}{mem:List (Nat×List AV)}{sh:Sh}{aa:aG}(hi:Inv ρ G w mem sh aa){w':World}{b:Nat}(h:lH G w w' b)
   (hb:G.role b≠.ez) (hbt:∀τ,G.role b≠.tok τ):∀b' o v,G.K b' o=some v→w'.cell? ⟨b',o,none⟩=some v:=by
 intro b' o v hk
 have hne:b'≠b:=by
   rintro rfl
   rcases hi.aZ _ _ _ hk with h1|⟨τ,h1⟩
   ·exact hb h1
   ·exact hbt τ h1
 have:=hi.known b' o v hk;unfold World.cell? at this⊢;simp only at this⊢;rw[h.other b' hne];exact this
theorem lH.tok{ρ:bQ}{mem:List (Nat×List AV)}{sh:Sh}{aa:aG}(hi:Inv ρ G w mem sh aa){w':World}{b:Nat}(h:lH G w w' b)
   (hbt:∀τ,G.role b≠.tok τ):∀τ n,aa[τ]?=some n→∃t,G.tk τ=some t∧t.len=n∧Td G w' τ t:=by
 intro τ n hn;obtain⟨t,e1,e2,e3⟩:=hi.dh τ n hn;refine⟨t,e1,e2,e3.cap,e3.zero,fun hlt=>?_⟩;obtain⟨b',o,c,ty,f1,f2,f3,f4,f5⟩:=e3.spare hlt;exact⟨b',o,c,ty,f1,f2,by rw[h.other b' (fun e=>hbt τ (e ▸ f2))];exact f3,f4,f5⟩
theorem Inv.GB{ρ:bQ}{mem:List (Nat×List AV)}{sh:Sh}{aa:aG}(hi:Inv ρ G w mem sh aa){d b:Nat}{cells cells':List AV}{c':Array Value}
   (hl:look mem d=some cells) (hp:G.pm d=some b) (hr:aw ρ G cells' c'.toList) (hb:cells'.all aT=true) :
   Inv ρ G (w.setRow b c') (cX mem d cells') sh aa∧bK G w G (w.setRow b c'):=by
 obtain⟨b0,e1,e2,e3⟩:=hi.cT d cells hl;have:b0=b:=by rw[hp]at e1;simpa using e1.symm
 subst this;obtain⟨hrole,c,t,hh,_⟩:=e2;have hne:G.role b0≠.ez:=by rw[hrole];simp
 have hnt:∀τ,G.role b0≠.tok τ:=by intro τ;rw[hrole];simp
 have hA:=lH.setRow (G:=G) (w:=w) b0 c';refine⟨⟨hA.known hi hne hnt,hi.aZ,?_,?_,?_,?_,hi.eF,hA.tok hi hnt,hi.e_,hi.ic (hA.q_ hne)⟩,hA.q_ hne⟩
 ·intro k hk;rw[hA.size]at hk;exact hi.fresh k hk
 · intro d' cs hd';by_cases hdd:d=d'
   ·subst hdd;rw[bu]at hd';simp at hd';subst hd';exact⟨b0,hp,⟨hrole,c',t,setRow_heap _ _ _ _ _ _ hh,hr⟩,hb⟩
   · rw[bL _ _ _ _ hdd]at hd';obtain⟨b',g1,g2,g3⟩:=hi.cT d' cs hd';refine⟨b',g1,⟨g2.role,?_⟩,g3⟩;obtain⟨c2,t2,hh2,hr2⟩:=g2.at_;refine⟨c2,t2,?_,hr2⟩;rw[hA.other b']
     ·exact hh2
     · rintro rfl
       have:=g2.role;rw[hrole]at this;simp at this;exact hdd this
 · intro d' b' hd';by_cases hdd:d=d'
   ·subst hdd;rw[bu];rfl
   ·rw[bL _ _ _ _ hdd];exact hi.gM d' b' hd'
 · intro s cs hs;obtain⟨b',g1,g2,g3⟩:=hi.dq s cs hs;refine⟨b',g1,⟨g2.role,?_⟩,g3⟩;obtain⟨o2,hh2,hr2⟩:=g2.at_;refine⟨o2,?_,hr2⟩;rw[hA.other b'.1]
   ·exact hh2
   ·intro he;have:=g2.role;rw[he,hrole]at this;simp at this
theorem Inv.GC{ρ:bQ}{mem:List (Nat×List AV)}{sh:Sh}{aa:aG}(hi:Inv ρ G w mem sh aa){s:Nat}{b:Nat×Nat}{cells cells':List AV}{w':World}{o':Obj}
   (hl:sh[s]?=some (some cells)) (hp:G.sm s=some b) (hA:lH G w w' b.1) (ho:w'.heap[b.1]?=some o') (hr:Holds ρ G o' b.2 cells') (hb:cells'.all cN=true) (hf:cells'.all (aK (s+1))=true) :
   Inv ρ G w' mem (sh.set s (some cells')) aa∧bK G w G w':=by
 obtain⟨b0,e1,e2,e3⟩:=hi.dq s cells hl;have:b0=b:=by rw[hp]at e1;simpa using e1.symm
 subst this;have hrole:=e2.role;have hne:G.role b0.1≠.ez:=by rw[hrole];simp
 have hnt:∀τ,G.role b0.1≠.tok τ:=by intro τ;rw[hrole];simp
 refine⟨⟨hA.known hi hne hnt,hi.aZ,?_,?_,hi.gM,?_,?_,hA.tok hi hnt,hi.e_,hi.ic (hA.q_ hne)⟩,hA.q_ hne⟩
 ·intro k hk;rw[hA.size]at hk;exact hi.fresh k hk
 · intro d' cs hd';obtain⟨b',g1,g2,g3⟩:=hi.cT d' cs hd';refine⟨b',g1,⟨g2.role,?_⟩,g3⟩;obtain⟨c2,t2,hh2,hr2⟩:=g2.at_;refine⟨c2,t2,?_,hr2⟩;rw[hA.other b']
   ·exact hh2
   · rintro rfl
     have:=g2.role;rw[hrole]at this;simp at this
 · intro s' cs hs;rw[List.getElem?_set]at hs;split at hs
   · rename_i he;subst he;split at hs
     ·simp at hs;subst hs;exact⟨b0,hp,⟨hrole,o',ho,hr⟩,hb,hf⟩
     ·simp at hs
   · rename_i hne';obtain⟨b',g1,g2,g3⟩:=hi.dq s' cs hs;refine⟨b',g1,⟨g2.role,?_⟩,g3⟩;obtain⟨o2,hh2,hr2⟩:=g2.at_;refine⟨o2,?_,hr2⟩;rw[hA.other b'.1]
     ·exact hh2
     ·intro he;have:=g2.role;rw[he,hrole]at this;simp at this;exact hne' this
 ·intro s' b' h;simpa using hi.eF s' b' h
theorem Inv.oX{ρ:bQ}{mem:List (Nat×List AV)}{sh:Sh}{aa:aG}(hi:Inv ρ G w mem sh aa){s:Nat}{b:Nat×Nat}{cells cells':List AV}{c c':Array Value}{t:TypeId}{vs suf:List Value}
   (hl:sh[s]?=some (some cells)) (hp:G.sm s=some b) (hh:w.heap[b.1]?=some (.cells c t (0,0))) (hsz:c'.size=b.2) (hsp:c'.toList=vs++suf) (hr:aw ρ G cells' vs) (hb:cells'.all cN=true) (hf:cells'.all (aK (s+1))=true) :
   Inv ρ G (w.setRow b.1 c') mem (sh.set s (some cells')) aa∧bK G w G (w.setRow b.1 c'):=
 hi.GC hl hp (lH.setRow b.1 c') (setRow_heap _ _ _ _ _ _ hh) (.inl ⟨c',t,vs,suf,rfl,hsz,hsp,hr⟩) hb hf
def Gh.cY(G:Gh)(d b:Nat):Gh:={ G with role:=fun k=>if k=b then .lO d else G.role k,pm:=fun k=>if k=d then some b else G.pm k }
def Gh.dr(G:Gh)(s b n:Nat):Gh:={ G with role:=fun k=>if k=b then .shr s else G.role k,sm:=fun k=>if k=s then some (b,n) else G.sm k }
theorem Inv.qg{ρ:bQ}{mem:List (Nat×List AV)}{sh:Sh}{aa:aG}(hi:Inv ρ G w mem sh aa){d:Nat}{cells:List AV}{c:Array Value}(t:TypeId)
   (hl:look mem d=none) (hr:aw ρ G cells c.toList) (hb:cells.all aT=true) :
   Inv ρ (G.cY d w.heap.size) (w.alloc (.cells c t)) (cX mem d cells) sh aa∧G.le (G.cY d w.heap.size)∧bK G w (G.cY d w.heap.size) (w.alloc (.cells c t)):=by
 have hpm:G.pm d=none:=by
   cases h:G.pm d with
   |none=>rfl
   |some b=>have:=hi.gM d b h;rw[hl]at this;simp at this
 have hle:G.le (G.cY d w.heap.size):=⟨G.K.le_refl,fun k b h=>by
   simp only[Gh.cY];split
   ·rename_i e;subst e;rw[hpm]at h;simp at h
   ·exact h,fun _ _ h=>h,fun _ t h=>⟨t,h,⟨Nat.le_refl _,t.gL⟩,fun _=>rfl⟩⟩
 have hevo:bK G w (G.cY d w.heap.size) (w.alloc (.cells c t)):={
           size:=by simp,os:=rfl,tape:=rfl,output:=rfl,K:=G.K.le_refl,sm:=fun _ _ h=>h,
           ez:=fun b hb hr=>⟨by simp only[Gh.cY];rw[if_neg (by omega)];exact hr,br hb⟩
           iQ:=fun b τ hb hr=>.inr ⟨τ,by simp only[Gh.cY];rw[if_neg (by omega)];exact hr⟩
           gN:=fun _ _ _ _ _ hk=>hk }
 refine⟨⟨?_,?_,?_,?_,?_,?_,hi.eF,?_,hi.e_,hi.ic hevo⟩,hle,hevo⟩
 ·intro b o v hk;have hlt:b<w.heap.size:=hi.jr (o:=o) (v:=v) hk;rw[World.cell?_alloc_lt _ _ ⟨b,o,none⟩ hlt];exact hi.known b o v hk
 ·intro b o v hk;have:=hi.jr (o:=o) (v:=v) hk;simp only[Gh.cY];rw[if_neg (by omega)];exact hi.aZ b o v hk
 ·intro b hb';simp at hb';simp only[Gh.cY];rw[if_neg (by omega)];exact hi.fresh b (by omega)
 · intro d' cs hd';by_cases hdd:d=d'
   ·subst hdd;rw[bu]at hd';simp at hd';subst hd';exact⟨w.heap.size,by simp[Gh.cY],⟨by simp[Gh.cY],c,t,heap_alloc_new,aw.mono hle hr⟩,hb⟩
   · rw[bL _ _ _ _ hdd]at hd';obtain⟨b',g1,g2,g3⟩:=hi.cT d' cs hd';have hlt:b'<w.heap.size:=by obtain⟨_,_,hh,_⟩:=g2.at_;exact cr hh
     exact⟨b',by simp only[Gh.cY];rw[if_neg (Ne.symm hdd)];exact g1,g2.mono hle (by simp only[Gh.cY];rw[if_neg (by omega)]) (br hlt),g3⟩
 · intro d' b' hd';by_cases hdd:d=d'
   ·subst hdd;rw[bu];rfl
   ·rw[bL _ _ _ _ hdd];simp only[Gh.cY]at hd';rw[if_neg (Ne.symm hdd)]at hd';exact hi.gM d' b' hd'
 ·intro s cs hs;obtain⟨b',g1,g2,g3⟩:=hi.dq s cs hs;have hlt:b'.1<w.heap.size:=g2.lt;exact⟨b',g1,g2.mono hle (by simp only[Gh.cY];rw[if_neg (by omega)]) (br hlt),g3⟩
 ·intro τ n hn;obtain⟨tk,e1,e2,e3⟩:=hi.dh τ n hn;refine⟨tk,e1,e2,e3.cap,e3.zero,fun hlt=>?_⟩;obtain⟨b,o,cc,ty,f1,f2,f3,f4,f5⟩:=e3.spare hlt;have hb:=cr f3;exact⟨b,o,cc,ty,f1,by simp only[Gh.cY];rw[if_neg (by omega)];exact f2,(br hb).trans f3,f4,f5⟩
theorem Inv.CD{ρ:bQ}{mem:List (Nat×List AV)}{sh:Sh}{aa:aG}(hi:Inv ρ G w mem sh aa){cells:List AV}{o':Obj}{N:Nat}
   (hr:Holds ρ G o' N cells) (hb:cells.all cN=true) (hf:cells.all (aK (sh.length+1))=true) :
   Inv ρ (G.dr sh.length w.heap.size N) (w.alloc o') mem (sh++[some cells]) aa∧G.le (G.dr sh.length w.heap.size N)∧bK G w (G.dr sh.length w.heap.size N) (w.alloc o'):=by
 have hsm:G.sm sh.length=none:=by
   cases h:G.sm sh.length with
   |none=>rfl
   |some b=>have:=hi.eF _ b h;omega
 have hle:G.le (G.dr sh.length w.heap.size N):=⟨G.K.le_refl,fun _ _ h=>h,fun k b h=>by
   simp only[Gh.dr];split
   ·rename_i e;subst e;rw[hsm]at h;simp at h
   ·exact h,fun _ t h=>⟨t,h,⟨Nat.le_refl _,t.gL⟩,fun _=>rfl⟩⟩
 have hevo:bK G w (G.dr sh.length w.heap.size N) (w.alloc o'):={
           size:=by simp,os:=rfl,tape:=rfl,output:=rfl,K:=G.K.le_refl,sm:=hle.sm,
           ez:=fun b hb hr=>⟨by simp only[Gh.dr];rw[if_neg (by omega)];exact hr,br hb⟩
           iQ:=fun b τ hb hr=>.inr ⟨τ,by simp only[Gh.dr];rw[if_neg (by omega)];exact hr⟩
           gN:=fun _ _ _ _ _ hk=>hk }
 refine⟨⟨?_,?_,?_,?_,hi.gM,?_,?_,?_,hi.e_,hi.ic hevo⟩,hle,hevo⟩
 ·intro b o v hk;have hlt:b<w.heap.size:=hi.jr (o:=o) (v:=v) hk;rw[World.cell?_alloc_lt _ _ ⟨b,o,none⟩ hlt];exact hi.known b o v hk
 ·intro b o v hk;have:=hi.jr (o:=o) (v:=v) hk;simp only[Gh.dr];rw[if_neg (by omega)];exact hi.aZ b o v hk
 ·intro b hb';simp at hb';simp only[Gh.dr];rw[if_neg (by omega)];exact hi.fresh b (by omega)
 · intro d' cs hd';obtain⟨b',g1,g2,g3⟩:=hi.cT d' cs hd';have hlt:b'<w.heap.size:=by obtain⟨_,_,hh,_⟩:=g2.at_;exact cr hh
   exact⟨b',g1,g2.mono hle (by simp only[Gh.dr];rw[if_neg (by omega)]) (br hlt),g3⟩
 · intro s cs hs;rw[List.getElem?_append]at hs;split at hs
   ·obtain⟨b',g1,g2,g3⟩:=hi.dq s cs hs;have hlt:b'.1<w.heap.size:=g2.lt;exact⟨b',hle.sm _ _ g1,g2.mono hle (by simp only[Gh.dr];rw[if_neg (by omega)]) (br hlt),g3⟩
   · rename_i hge
     have hs':s=sh.length:=by
       rcases Nat.lt_or_ge (s-sh.length) 1 with h|h
       ·omega
       ·rw[List.getElem?_eq_none (by simpa using h)]at hs;simp at hs
     subst hs';simp at hs;subst hs;exact⟨(w.heap.size,N),by simp[Gh.dr],⟨by simp[Gh.dr],o',heap_alloc_new,hr.mono hle⟩,hb,hf⟩
 · intro s b h;simp only[Gh.dr]at h;split at h
   ·rename_i e;subst e;simp
   ·have:=hi.eF s b h;simp;omega
 ·intro τ n hn;obtain⟨tk,e1,e2,e3⟩:=hi.dh τ n hn;refine⟨tk,e1,e2,e3.cap,e3.zero,fun hlt=>?_⟩;obtain⟨b,o,cc,ty,f1,f2,f3,f4,f5⟩:=e3.spare hlt;have hb:=cr f3;exact⟨b,o,cc,ty,f1,by simp only[Gh.dr];rw[if_neg (by omega)];exact f2,(br hb).trans f3,f4,f5⟩
theorem Inv.tD{ρ:bQ}{mem:List (Nat×List AV)}{sh:Sh}{aa:aG}(hi:Inv ρ G w mem sh aa){cells:List AV}{c:Array Value}(t:TypeId)
   (hr:aw ρ G cells c.toList) (hb:cells.all cN=true) (hf:cells.all (aK (sh.length+1))=true) :
   Inv ρ (G.dr sh.length w.heap.size c.size) (w.alloc (.cells c t)) mem (sh++[some cells]) aa∧G.le (G.dr sh.length w.heap.size c.size)∧bK G w (G.dr sh.length w.heap.size c.size) (w.alloc (.cells c t)):=
 hi.CD (Holds.full hr) hb hf
end
end Go.Ab
namespace Go.Ab
section
variable {P:Program} {ns:Names} {G:Gh} {w:World}
structure nU(G:Gh)(aa toks':aG)(τ n:Nat):Prop where
 at_:toks'[τ]?=some n
 other:∀σ,σ≠τ→toks'[σ]?=aa[σ]?
 aI:∀t,G.tk τ=some t→t.len<n
def Gh.bw(G:Gh)(τ:Nat)(t:Tk)(role:Nat→l3)(K:bl):Gh:=
 { G with K,role,tk:=fun σ=>if σ=τ then some t else G.tk σ }
theorem Gh.qh{τ:Nat}{t:Tk}{role:Nat→l3}{K:bl}(hK:G.K.le K)(ho:∀t0,G.tk τ=some t0→(t0.len≤t.len∧t0.on t)∧(t0.len=t.len→t=t0)):G.le (G.bw τ t role K) where
 K:=hK
 pm:=fun _ _ h=>h
 sm:=fun _ _ h=>h
 tk:=fun σ t0 h=>by
   simp only[Gh.bw];by_cases hσ:σ=τ
   ·subst hσ;simp only[if_true];obtain⟨h1,h2⟩:=ho t0 h;exact⟨t,rfl,h1,h2⟩
   ·rw[if_neg hσ];exact⟨t0,h,⟨Nat.le_refl _,Tk.gL _⟩,fun _=>rfl⟩
def eL(G:Gh)(b τ:Nat):Nat→l3:=fun k=>if k=b then .tok τ else if G.role k=.tok τ then .ez else G.role k
def js(G:Gh)(b m:Nat)(c:Array Value):bl:=fun k o=>if k=b then (if o<m then c[o]? else none) else G.K k o
theorem Inv.grow{ρ:bQ}{mem:List (Nat×List AV)}{sh:Sh}{aa toks':aG}(hi:Inv ρ G w mem sh aa){τ:Nat}{t:Tk}{c:Array Value}(ty:TypeId)
   (hb:t.base=some ⟨w.heap.size,0,none⟩) (hc:t.cap*t.sz≤c.size) (hl:t.len≤t.cap) (h0:0<t.len) (hu:nU G aa toks' τ t.len) (hg:∀t0,G.tk τ=some t0→¬t0.dead∧t0.cap<t.len) :
   Inv ρ (G.bw τ t (eL G w.heap.size τ) (js G w.heap.size (t.len*t.sz) c)) (w.alloc (.cells c ty)) mem sh toks' ∧
   G.le (G.bw τ t (eL G w.heap.size τ) (js G w.heap.size (t.len*t.sz) c)) ∧
   bK G w (G.bw τ t (eL G w.heap.size τ) (js G w.heap.size (t.len*t.sz) c)) (w.alloc (.cells c ty)):=by
 have hK:G.K.le (js G w.heap.size (t.len*t.sz) c):=fun b o v hk=>by
   have:=hi.jr hk;simp only[js];rw[if_neg (by omega)];exact hk
 have hle:G.le (G.bw τ t (eL G w.heap.size τ) (js G w.heap.size (t.len*t.sz) c)):=
   Gh.qh hK fun t0 h=>by have:=hu.aI t0 h;exact⟨⟨by omega,fun d=>absurd d (hg t0 h).1,.inr (.inl (hg t0 h).2)⟩,by omega⟩
 have hrole:∀b r,b<w.heap.size→G.role b=r→(∀σ,r≠.tok σ)→eL G w.heap.size τ b=r:=by
   intro b r hb hr hn;simp only[eL];rw[if_neg (by omega),if_neg (by rw[hr];exact hn τ),hr]
 have hevo:bK G w (G.bw τ t (eL G w.heap.size τ) (js G w.heap.size (t.len*t.sz) c)) (w.alloc (.cells c ty)):={
           size:=by simp,os:=rfl,tape:=rfl,output:=rfl,K:=hK,sm:=fun _ _ h=>h,
           ez:=fun b hb hr=>⟨hrole b _ hb hr (by simp),br hb⟩
           iQ:=fun b σ hb hr=>by
             simp only[Gh.bw,eL];rw[if_neg (by omega)];split
             ·exact .inl rfl
             ·exact .inr ⟨σ,hr⟩
           gN:=fun b o v hb _ hk=>by
             simp only[Gh.bw,js]at hk
             rwa [if_neg (by omega)]at hk }
 refine⟨⟨?_,?_,?_,?_,hi.gM,?_,hi.eF,?_,?_,hi.ic hevo⟩,hle,hevo⟩
 · intro b o v hk;simp only[Gh.bw,js]at hk;split at hk
   · rename_i e;subst e;split at hk
     ·simp[hk]
     ·simp at hk
   ·have hlt:b<w.heap.size:=hi.jr (o:=o) (v:=v) hk;rw[World.cell?_alloc_lt _ _ ⟨b,o,none⟩ hlt];exact hi.known b o v hk
 · intro b o v hk;simp only[Gh.bw,js]at hk;simp only[Gh.bw,eL];split at hk
   ·rename_i e;subst e;exact .inr ⟨τ,by simp⟩
   · rename_i e;rw[if_neg e];split
     ·exact .inl rfl
     ·exact hi.aZ b o v hk
 ·intro b hb';simp at hb';simp only[Gh.bw,eL];rw[if_neg (by omega)];have:=hi.fresh b (by omega);rw[this];simp
 · intro d cs hd;obtain⟨b',g1,g2,g3⟩:=hi.cT d cs hd;have hlt:b'<w.heap.size:=by obtain⟨_,_,hh,_⟩:=g2.at_;exact cr hh
   exact⟨b',g1,g2.mono hle ((hrole b' _ hlt g2.role (by simp)).trans g2.role.symm) (br hlt),g3⟩
 ·intro s cs hs;obtain⟨b',g1,g2,g3⟩:=hi.dq s cs hs;have hlt:b'.1<w.heap.size:=g2.lt;exact⟨b',g1,g2.mono hle ((hrole b'.1 _ hlt g2.role (by simp)).trans g2.role.symm) (br hlt),g3⟩
 · intro σ n hn;by_cases hσ:σ=τ
   · subst hσ;rw[hu.at_]at hn;simp at hn;refine⟨t,by simp[Gh.bw],hn,hl,fun h=>by omega,fun hlt=>⟨w.heap.size,0,c,ty,hb,by simp[Gh.bw,eL],heap_alloc_new,by omega,fun j v hk=>?_⟩⟩;simp only[Gh.bw,js,if_true]at hk;split at hk
     ·omega
     ·simp at hk
   · rw[hu.other σ hσ]at hn;obtain⟨t0,e1,e2,e3⟩:=hi.dh σ n hn;refine⟨t0,by simp only[Gh.bw];rw[if_neg hσ];exact e1,e2,e3.cap,e3.zero,fun hlt=>?_⟩;obtain⟨b',o,cc,ty',f1,f2,f3,f4,f5⟩:=e3.spare hlt;have hb':=cr f3;refine⟨b',o,cc,ty',f1,?_,(br hb').trans f3,f4,fun j v hk=>f5 j v ?_⟩
     ·simp only[Gh.bw,eL];rw[if_neg (by omega),if_neg (by rw[f2];simp;exact hσ)];exact f2
     · simp only[Gh.bw,js]at hk
       rwa [if_neg (by omega)]at hk
 · intro σ t0 h;simp only[Gh.bw]at h;split at h
   ·rename_i e;subst e;simp at h;subst h;exact hu.at_
   ·rename_i e;rw[hu.other σ e];exact hi.e_ σ t0 h
theorem Inv.NV{ρ:bQ}{mem:List (Nat×List AV)}{sh:Sh}{aa toks':aG}(hi:Inv ρ G w mem sh aa){τ:Nat}{t:Tk}
   (hl:t.cap=t.len) (hown:t.own=false) (hn:G.tk τ=none) (h1:toks'[τ]?=some t.len) (h2:∀σ,σ≠τ→toks'[σ]?=aa[σ]?) :
   Inv ρ (G.bw τ t G.role G.K) w mem sh toks'∧G.le (G.bw τ t G.role G.K)∧bK G w (G.bw τ t G.role G.K) w:=by
 have hle:G.le (G.bw τ t G.role G.K):=Gh.qh G.K.le_refl fun t0 h=>by rw[hn]at h;simp at h
 have hevo:bK G w (G.bw τ t G.role G.K) w:={
           size:=Nat.le_refl _,os:=rfl,tape:=rfl,output:=rfl,K:=G.K.le_refl,sm:=fun _ _ h=>h,
           ez:=fun b hb hr=>⟨hr,rfl⟩,iQ:=fun b σ hb hr=>.inr ⟨σ,hr⟩,gN:=fun _ _ _ _ _ hk=>hk }
 refine⟨⟨hi.known,hi.aZ,hi.fresh,?_,hi.gM,?_,hi.eF,?_,?_,hi.ic hevo⟩,hle,hevo⟩
 ·intro d cs hd;obtain⟨b',g1,g2,g3⟩:=hi.cT d cs hd;exact⟨b',g1,g2.mono hle rfl rfl,g3⟩
 ·intro d cs hd;obtain⟨b',g1,g2,g3⟩:=hi.dq d cs hd;exact⟨b',g1,g2.mono hle rfl rfl,g3⟩
 · intro σ n hn';by_cases hσ:σ=τ
   ·subst hσ;rw[h1]at hn';simp at hn';exact⟨t,by simp[Gh.bw],hn',by omega,fun _=>by omega,fun h=>h.elim (fun h=>by omega) (fun h=>by rw[hown]at h;cases h)⟩
   ·rw[h2 σ hσ]at hn';obtain⟨t0,e1,e2,e3⟩:=hi.dh σ n hn';exact⟨t0,by simp only[Gh.bw];rw[if_neg hσ];exact e1,e2,e3.cap,e3.zero,e3.spare⟩
 · intro σ t0 h;simp only[Gh.bw]at h;split at h
   ·rename_i e;subst e;simp at h;subst h;exact h1
   ·rename_i e;rw[h2 σ e];exact hi.e_ σ t0 h
def jt(G:Gh)(b o:Nat)(l:List Value):bl:=fun k j=>if k=b∧o≤j∧j<o+l.length then l[j-o]? else G.K k j
theorem Inv.fill{ρ:bQ}{mem:List (Nat×List AV)}{sh:Sh}{aa toks':aG}(hi:Inv ρ G w mem sh aa){τ b o n:Nat}{t:Tk}{c c':Array Value}{ty:TypeId}{l:List Value}
   (ht:G.tk τ=some t) (hb:t.base=some ⟨b,o,none⟩) (hrole:G.role b=.tok τ) (hh:w.heap[b]?=some (.cells c ty (0,0))) (hcap:o+t.cap*t.sz≤c.size)
   (hfree:∀j v,G.K b j=some v→j<o+t.len*t.sz) (hl:l.length=n*t.sz) (hn:0<n) (hfit:t.len+n≤t.cap)
   (hc':c'=(c.toList.take (o+t.len*t.sz)++l++c.toList.drop (o+t.len*t.sz+l.length)).toArray) (hu:nU G aa toks' τ (t.len+n)) :
   Inv ρ (G.bw τ { t with len:=t.len+n,own:=true } G.role (jt G b (o+t.len*t.sz) l)) (w.setRow b c') mem sh toks' ∧
   G.le (G.bw τ { t with len:=t.len+n,own:=true } G.role (jt G b (o+t.len*t.sz) l)) ∧
   bK G w (G.bw τ { t with len:=t.len+n,own:=true } G.role (jt G b (o+t.len*t.sz) l)) (w.setRow b c'):=by
 have hne:G.role b≠.ez:=by rw[hrole];simp
 have hmul:(t.len+n)*t.sz=t.len*t.sz+n*t.sz:=Nat.add_mul _ _ _;have hmul2:(t.len+n)*t.sz≤t.cap*t.sz:=Nat.mul_le_mul_right _ hfit
 have hsz:c'.size=c.size:=by
   subst hc';simp;omega
 have hK:G.K.le (jt G b (o+t.len*t.sz) l):=fun k j v hk=>by
   simp only[jt];rw[if_neg]
   ·exact hk
   · rintro⟨rfl,h1,_⟩
     have:=hfree j v hk;omega
 have hle:G.le (G.bw τ { t with len:=t.len+n,own:=true } G.role (jt G b (o+t.len*t.sz) l)):=
   Gh.qh hK fun t0 h=>by rw[ht]at h;simp at h;subst h;exact⟨⟨by simp,fun d=>(by rw[Tk.dead,hb]at d;simp at d),.inr (.inr ⟨rfl,rfl,.inr rfl⟩)⟩,by simp;omega⟩
 have hA:=lH.setRow (G:=G) (w:=w) b c';have hnew:(w.setRow b c').heap[b]?=some (.cells c' ty (0,0)):=setRow_heap _ _ _ _ _ _ hh
 have hevo:bK G w (G.bw τ { t with len:=t.len+n,own:=true } G.role (jt G b (o+t.len*t.sz) l)) (w.setRow b c'):={
           size:=by rw[hA.size];exact Nat.le_refl _,os:=rfl,tape:=rfl,output:=rfl,K:=hK,sm:=fun _ _ h=>h,
           ez:=fun k hk hr=>⟨hr,hA.other k (fun e=>hne (e ▸ hr))⟩
           iQ:=fun k σ hk hr=>.inr ⟨σ,hr⟩
           gN:=fun k j v hk hr hkk=>by
             simp only[Gh.bw,jt]at hkk
             rwa [if_neg (by rintro⟨e,_⟩;subst e;exact hne hr)]at hkk }
 refine⟨⟨?_,?_,?_,?_,hi.gM,?_,hi.eF,?_,?_,hi.ic hevo⟩,hle,hevo⟩
 · intro k j v hk;simp only[Gh.bw,jt]at hk;split at hk
   · rename_i e;obtain⟨rfl,e1,e2⟩:=e;simp only[World.cell?,hnew];subst hc';simp only[Option.isSome_none,Bool.false_eq_true,if_false,List.getElem?_toArray];rw[List.getElem?_append_left (by simp;omega),List.getElem?_append_right (by simp;omega)];have:(c.toList.take (o+t.len*t.sz)).length=o+t.len*t.sz:=by simp;omega
     rw[this];exact hk
   · rename_i e;by_cases hkb:k=b
     ·subst hkb;have hj:=hfree j v hk;have hold:=hi.known k j v hk;simp only[World.cell?,hh,Option.isSome_none,Bool.false_eq_true,if_false]at hold;simp only[World.cell?,hnew];subst hc';simp only[Option.isSome_none,Bool.false_eq_true,if_false,List.getElem?_toArray];rw[List.getElem?_append_left (by simp;omega),List.getElem?_append_left (by simp;omega),List.getElem?_take,if_pos hj];simpa using hold
     ·have hold:=hi.known k j v hk;unfold World.cell? at hold⊢;simp only at hold⊢;rw[hA.other k hkb];exact hold
 · intro k j v hk;simp only[Gh.bw,jt]at hk;split at hk
   ·rename_i e;obtain⟨rfl,_⟩:=e;exact .inr ⟨τ,hrole⟩
   ·exact hi.aZ k j v hk
 ·intro k hk;rw[hA.size]at hk;exact hi.fresh k hk
 · intro d cs hd;obtain⟨b',g1,g2,g3⟩:=hi.cT d cs hd;refine⟨b',g1,g2.mono hle rfl (hA.other b' ?_),g3⟩
   rintro rfl
   have:=g2.role;rw[hrole]at this;simp at this
 ·intro d cs hd;obtain⟨b',g1,g2,g3⟩:=hi.dq d cs hd;refine⟨b',g1,g2.mono hle rfl (hA.other b'.1 ?_),g3⟩;intro he;have:=g2.role;rw[he,hrole]at this;simp at this
 · intro σ m hm;by_cases hσ:σ=τ
   · subst hσ;rw[hu.at_]at hm;simp at hm;refine⟨{ t with len:=t.len+n,own:=true },by simp[Gh.bw],hm,hfit,fun h=>by simp at h;omega,fun hlt=>⟨b,o,c',ty,hb,hrole,hnew,by rw[hsz];exact hcap,fun j v hk=>?_⟩⟩;simp only[Gh.bw,jt]at hk;show j<o+(t.len+n)*t.sz;split at hk
     ·rename_i e;rw[hmul];omega
     ·have:=hfree j v hk;rw[hmul];omega
   · rw[hu.other σ hσ]at hm;obtain⟨t0,e1,e2,e3⟩:=hi.dh σ m hm;refine⟨t0,by simp only[Gh.bw];rw[if_neg hσ];exact e1,e2,e3.cap,e3.zero,fun hlt=>?_⟩;obtain⟨b',o',cc,ty',f1,f2,f3,f4,f5⟩:=e3.spare hlt;have hbb:b'≠b:=by rintro rfl;rw[hrole]at f2;simp at f2;exact hσ f2.symm
     refine⟨b',o',cc,ty',f1,f2,(hA.other b' hbb).trans f3,f4,fun j v hk=>f5 j v ?_⟩;simp only[Gh.bw,jt]at hk
     rwa [if_neg (by rintro⟨e,_⟩;exact hbb e)]at hk
 · intro σ t0 h;simp only[Gh.bw]at h;split at h
   ·rename_i e;subst e;simp at h;subst h;exact hu.at_
   ·rename_i e;rw[hu.other σ e];exact hi.e_ σ t0 h
end
end Go.Ab
namespace Go.Ab
section
variable {P:Program} {ns:Names} {G:Gh} {w:World}
theorem vX(n:Nat):∀(r c:Nat),c≤2*n→256≤c→Builtin.growBy n r c≤2*n
 |0,c,h,_=>h
 |r+1,c,h,h2=>by
   simp only[Builtin.growBy];split
   ·exact h
   ·exact vX n r _ (by omega) (by omega)
theorem nextslicecap_le(n c:Nat)(h:c<n):Builtin.nextslicecap n c≤2*n:=by
 unfold Builtin.nextslicecap;split
 ·omega
 · split
   ·omega
   ·exact vX n 4 c (by omega) (by omega)
theorem jv{els:List PV}{v:Value}{sz n:Nat}(hk:∀b o u,G.K b o=some u→w.cell? ⟨b,o,none⟩=some u)(hr:Rel G.K (.au els) v)(hs:bf sz els=true)(hn:els.length=n) :
   ∃vss:List Value,(Builtin.firstCells sz n v).run P w=.ok vss.toArray w∧vss.length=n*sz ∧
     (∀(K':bl) (b' o':Nat),G.K.le K'→At K' b' o' vss→Row K' b' o' sz els)∧(∀u∈vss,u.oneCell'=true):=by
 obtain⟨base,len,cap,rfl,_,hlen,hrow'⟩:=cd.1 hr;by_cases hnil:els=[]
 · subst hnil;simp at hn;subst hn;refine⟨[],?_,by simp,fun _ _ _ _ _=>by simp only[Row],by simp⟩;cases base with
   |none=>simp[Builtin.firstCells]
   |some a=>simp[Builtin.firstCells,loadCells,loadCellsFrom]
 ·obtain⟨b,o,sz',rfl,hrow⟩:=hrow'.resolve_left hnil;have:=hrow.sz hs hnil;subst this;obtain⟨vss,g1,g2,g3,g4⟩:=hrow.flat;refine⟨vss,?_,by rw[g1,hn],g3,g4⟩;have hl:=run_loadCells_list (P:=P) w ⟨b,o,none⟩ vss (fun j u hj=>by rw[Addr.en];exact hk _ _ _ (g2 j u hj));rw[g1,hn]at hl;simpa[Builtin.firstCells] using hl
theorem fq{argTypes:Array TypeId}{type t e e1 t1 sz:Nat}{base:Option Addr}{len cap n:Nat}{x:Value}{new:Array Value}{xb:Option Addr}{xc:Nat}(h0:argTypes[0]?=some t)(h1:argTypes[1]?=some t1)
   (hu:P.underlying t=some (.slice e)) (hu1:P.underlying t1=some (.slice e1)) (hsz:cE P e=some sz) (hx:x=.slice xb n xc)
   (hnew:(Builtin.firstCells sz n x).run P w=.ok new w) (hfit:len+n≤cap) :
   (Builtin.append_ argTypes type #[.slice base len cap,x]).run P w =
     match base with
     |some a=>((storeCells (a.add (len*sz)) new.toList).run P w).andThen fun _ w'=>.ok (.slice base (len+n) cap) w'
     |none=>.ok (.slice base (len+n) cap) w:=by
 subst hx;cases base with
 |none=>simp[Builtin.append_,h0,h1,run_underlying hu,run_underlying hu1,di hsz,Builtin.lenOf,hfit,hnew]
 |some a=>simp[Builtin.append_,h0,h1,run_underlying hu,run_underlying hu1,di hsz,Builtin.lenOf,hfit,hnew]
theorem kO{argTypes:Array TypeId}{type t e e1 t1 sz by_:Nat}{base:Option Addr}{len cap n:Nat}{x:Value}{aI new:Array Value}{xb:Option Addr}{xc:Nat}{z:List PV}(h0:argTypes[0]?=some t)(h1:argTypes[1]?=some t1)
   (hu:P.underlying t=some (.slice e)) (hu1:P.underlying t1=some (.slice e1)) (hsz:cE P e=some sz) (hby:eW P e=some by_) (hz:cx P e=some z) (hzl:z.length=sz) (hx:x=.slice xb n xc)
   (hold:∀w',w'=w.drew→(Builtin.firstCells sz len (.slice base len cap)).run P w'=.ok aI w') (hnew:∀w',w'=w.drew→(Builtin.firstCells sz n x).run P w'=.ok new w')
   (hfit:cap<len+n) (hb0:0<by_) (hbytes:(len+n)*by_≤140737488355328) :
   ∃(rest:Array Value) (newCap:Nat),len+n≤newCap∧rest.size=(newCap-(len+n))*sz ∧
     (Builtin.append_ argTypes type #[.slice base len cap,x]).run P w =
       .ok (.slice (some ⟨w.heap.size,0,none⟩) (len+n) newCap) (w.drew.alloc (.cells (aI++new++rest) e)):=by
 subst hx;obtain⟨i,hi,hib,hirun⟩:=l6 hby w
 have hcap:¬Builtin.nextslicecap (len+n) cap*i.bytes > 2 ^ 48:=by
   have h1:=nextslicecap_le (len+n) cap hfit;have h2:Builtin.nextslicecap (len+n) cap*i.bytes≤2*(len+n)*i.bytes:=Nat.mul_le_mul_right _ h1;have h3:2*(len+n)*i.bytes=2*((len+n)*by_):=(by rw[hib,Nat.mul_assoc]);rw[h3]at h2;have:(2:Nat)^48=281474976710656:=(by decide);omega
 have hnf:(Question.appendCap (len+n) cap e).forced=false:=rfl;have hir:∀w',(typeInfo e).run P w'=.ok i w':=fun w'=>by simp[typeInfo,hi]
 obtain⟨zv,hzv,hz2⟩:=gC (P:=P) (w:=w.drew) hz;have hzs:zv.cells.size=sz:=by have:=gB hz2;simp at this;omega
 refine⟨Builtin.zeroCells zv.cells ((Question.appendCap (len+n) cap e).cut (w.tape w.drawn (.appendCap (len+n) cap e))-(len+n)),(Question.appendCap (len+n) cap e).cut (w.tape w.drawn (.appendCap (len+n) cap e)),?_,?_,?_⟩
 ·simp only[Question.cut];omega
 ·simp[Builtin.zeroCells,hzs]
 ·have ho:=hold w.drew rfl;have hn:=hnew w.drew rfl;have hi0:i.bytes≠0:=(by omega);simp[Builtin.append_,h0,h1,run_underlying hu,run_underlying hu1,di hsz,Builtin.lenOf,Nat.not_le.2 hfit,hir,hi0,hcap,hnf];simp only[ho,hn,hzv,Result.andThen_ok];rfl
theorem jO{x:AV}{v:Value}{els:List PV}(h:cJ x=some els)(hr:aB (num ns) G x v):∃xb xc,v=.slice xb els.length xc:=by
 obtain⟨b,l,c,rfl,_,hl,_⟩:=cd.1 (eo h hr);exact⟨b,c,by rw[hl]⟩
theorem CE{c:Call}{A:ko}{dst:Option Nat}{args:List Operand}{sz by_:Nat}(h:bH P ns A dst (.call c)=some (.append sz by_,args)) :
   ∃x y t e t1 e1 z,c.callee=.builtin .append∧c.args=#[x,y]∧args=[x,y]∧c.argTypes[0]?=some t∧c.argTypes[1]?=some t1∧P.underlying t=some (.slice e) ∧
     P.underlying t1=some (.slice e1)∧cE P e=some sz∧eW P e=some by_∧cx P e=some z∧z.length=sz∧0<sz∧0<by_:=by
 obtain⟨callee,cargs,ctypes⟩:=c;simp only[bH]at h;split at h
 ·split at h<;>simp at h
 ·split at h<;>simp at h
 ·split at h<;>simp at h
 · rename_i hcal;split at h
   · rename_i x y e e1 ha ht ht1;split at h
     · rename_i sz' by' z hs hb hz;rw[Option.ite_none_right_eq_some]at h;obtain⟨⟨h1,h2,h3⟩,h⟩:=h;split at h
       ·simp at h
       split at h
       ·simp at h
       simp only[Option.some.injEq,Prod.mk.injEq,AK.append.injEq]at h;obtain⟨⟨rfl,rfl⟩,rfl⟩:=h;simp only[Option.bind_eq_some_iff]at ht ht1;obtain⟨t,ht,htu⟩:=ht;obtain⟨t1,ht1,ht1u⟩:=ht1;exact⟨x,y,t,e,t1,e1,z,rfl,by apply Array.ext';simpa using ha,rfl,ht,ht1,dD htu,dD ht1u,hs,hb,hz,h1,h2,h3⟩
     ·simp at h
   ·simp at h
 · split at h
   · split at h
     ·split at h<;>simp at h
     ·simp at h
   ·simp at h
 · split at h
   ·split at h<;>simp at h
   ·simp at h
 · split at h
   · split at h
     ·(repeat' (split at h))<;>simp at h
     · split at h
       ·simp at h
       · split at h
         ·simp at h
         ·split at h<;>simp at h
   ·simp at h
 ·split at h<;>simp at h
 ·simp at h
theorem zI{c:Call}{A:ko}{dst:Option Nat}{args:List Operand}{sz by_:Nat}{ag:Bool}(h:bH P ns A dst (.call c)=some (.dI sz by_ ag,args)) :
   ∃x y t e t1 e1 z,c.callee=.builtin .append∧c.args=#[x,y]∧args=[x,y]∧c.argTypes[0]?=some t∧c.argTypes[1]?=some t1∧P.underlying t=some (.slice e) ∧
     P.underlying t1=some (.slice e1)∧cE P e=some sz∧eW P e=some by_∧cx P e=some z∧z.length=sz∧0<sz∧0<by_:=by
 obtain⟨callee,cargs,ctypes⟩:=c;simp only[bH]at h;split at h
 ·split at h<;>simp at h
 ·split at h<;>simp at h
 ·split at h<;>simp at h
 · rename_i hcal;split at h
   · rename_i x y e e1 ha ht ht1;split at h
     · rename_i sz' by' z hs hb hz;rw[Option.ite_none_right_eq_some]at h;obtain⟨⟨h1,h2,h3⟩,h⟩:=h;split at h
       ·simp only[Option.map_eq_some_iff,Prod.mk.injEq,AK.dI.injEq]at h;obtain⟨ag',hag,⟨rfl,rfl,rfl⟩,rfl⟩:=h;simp only[Option.bind_eq_some_iff]at ht ht1;obtain⟨t,ht,htu⟩:=ht;obtain⟨t1,ht1,ht1u⟩:=ht1;exact⟨x,y,t,e,t1,e1,z,rfl,by apply Array.ext';simpa using ha,rfl,ht,ht1,dD htu,dD ht1u,hs,hb,hz,h1,h2,h3⟩
       ·split at h<;>simp at h
     ·simp at h
   ·simp at h
 · split at h
   · split at h
     ·split at h<;>simp at h
     ·simp at h
   ·simp at h
 · split at h
   ·split at h<;>simp at h
   ·simp at h
 · split at h
   · split at h
     ·(repeat' (split at h))<;>simp at h
     · split at h
       ·simp at h
       · split at h
         ·simp at h
         ·split at h<;>simp at h
   ·simp at h
 ·split at h<;>simp at h
 ·simp at h
theorem NW{K:bl}{els:List PV}{base:Option Addr}{len sz:Nat}(h:PX K els base len)(hs:bf sz els=true):els=[]∨∃b o,base=some ⟨b,o,none⟩∧Row K b o sz els:=by
 rcases h.2 with h1|⟨b,o,sz',e,hr⟩
 ·exact .inl h1
 · by_cases hn:els=[]
   ·exact .inl hn
   ·have:=hr.sz hs hn;subst this;exact .inr ⟨b,o,e,hr⟩
theorem GD{mem:List (Nat×List AV)}{sh:Sh}{aa toks':aG}(hi:Inv (num ns) G w mem sh aa){τ:Nat}{l xs:List PV}{sz newCap:Nat}{aI new:List Value}{rest:Array Value}(e:TypeId)
   (ho:aI.length=l.length*sz) (hn:new.length=xs.length*sz) (ho':∀(K':bl) (b' o':Nat),G.K.le K'→At K' b' o' aI→Row K' b' o' sz l)
   (hn':∀(K':bl) (b' o':Nat),G.K.le K'→At K' b' o' new→Row K' b' o' sz xs) (hcap:l.length+xs.length≤newCap) (hr:rest.size=(newCap-(l.length+xs.length))*sz) (h0:0<xs.length)
   (hu:nU G aa toks' τ (l.length+xs.length)) (hg:∀t0,G.tk τ=some t0→¬t0.dead∧t0.cap<l.length+xs.length) :
   ∃G',aB (num ns) G' (.own (l++xs) τ) (.slice (some ⟨w.heap.size,0,none⟩) (l.length+xs.length) newCap) ∧
     Inv (num ns) G' (w.alloc (.cells (aI.toArray++new.toArray++rest) e)) mem sh toks'∧G.le G'∧bK G w G' (w.alloc (.cells (aI.toArray++new.toArray++rest) e)):=by
 let t:Tk:={ base:=some ⟨w.heap.size,0,none⟩,len:=l.length+xs.length,cap:=newCap,sz:=sz,own:=true }
 have hsz:(aI.toArray++new.toArray++rest).size=newCap*sz:=by
   simp[ho,hn,hr];have:newCap=(l.length+xs.length)+(newCap-(l.length+xs.length)):=by omega
   conv=>rhs;rw[this,Nat.add_mul,Nat.add_mul]
 obtain⟨h1,h2,h3⟩:=hi.grow (t:=t) (c:=aI.toArray++new.toArray++rest) e rfl (by rw[hsz];exact Nat.le_refl _) hcap (by show 0<l.length+xs.length;omega) hu hg;refine⟨_,?_,h1,h2,h3⟩
 have hat:At (js G w.heap.size (t.len*t.sz) (aI.toArray++new.toArray++rest)) w.heap.size 0 (aI++new):=by
   intro j v hj;have hlt:=(List.getElem?_eq_some_iff.1 hj).1;simp only[List.length_append,ho,hn]at hlt;simp only[js,if_true,Nat.zero_add];rw[if_pos (by show j<(l.length+xs.length)*sz;rw[Nat.add_mul];exact hlt)];rw[Array.getElem?_append_left (by simp[ho,hn];exact hlt)];simpa using hj
 have hrow:Row (js G w.heap.size (t.len*t.sz) (aI.toArray++new.toArray++rest)) w.heap.size 0 sz (l++xs):=by
   refine Row.append (ho' _ _ _ h2.K fun j v hj=>hat j v ?_) (hn' _ _ _ h2.K fun j v hj=>?_)
   ·rw[List.getElem?_append_left (List.getElem?_eq_some_iff.1 hj).1];exact hj
   · have:=hat (l.length*sz+j) v (by rw[List.getElem?_append_right (by omega),ho,Nat.add_sub_cancel_left];exact hj)
     rwa [Nat.zero_add,←Nat.zero_add (l.length*sz+j),←Nat.add_assoc]at this
 simp only[aB];refine⟨t,by simp[Gh.bw],⟨by simp[t],t.sA⟩,cd.2 ⟨_,_,_,rfl,hcap,by simp,.inr ⟨_,_,_,rfl,hrow⟩⟩,fun _=>⟨rfl,.inr ⟨_,_,rfl,hrow⟩⟩⟩
theorem CF{ρ:bQ}{mem:List (Nat×List AV)}{sh:Sh}{aa:aG}(hi:Inv ρ G w mem sh aa)(n:Nat):nU G aa (aa++[n]) aa.length n:=by
 refine⟨by simp,fun σ hσ=>?_,fun t h=>?_⟩
 · rcases Nat.lt_or_ge σ aa.length with h|h
   ·rw[List.getElem?_append_left h]
   ·rw[List.getElem?_eq_none (by simp;omega),List.getElem?_eq_none h]
 ·have:=hi.e_ _ t h;rw[List.getElem?_eq_none (Nat.le_refl _)]at this;simp at this
theorem xE{argTypes:Array TypeId}{type t e e1 t1 sz by_:Nat}{z:List PV}{s x y:AV}{vs vx:Value}{mem:List (Nat×List AV)}{sh:Sh}{aa toks':aG}
   (h0:argTypes[0]?=some t) (h1:argTypes[1]?=some t1)
   (hu:P.underlying t=some (.slice e)) (hu1:P.underlying t1=some (.slice e1)) (hsz:cE P e=some sz) (hby:eW P e=some by_) (hz:cx P e=some z) (hzl:z.length=sz) (hb0:0<by_)
   (hs:aB (num ns) G s vs) (hx:aB (num ns) G x vx) (hi:Inv (num ns) G w mem sh aa) (h:bS sz by_ s x aa=some (y,toks')) :
   ∃v w' G',(Builtin.append_ argTypes type #[vs,vx]).run P w=.ok v w'∧aB (num ns) G' y v∧Inv (num ns) G' w' mem sh toks'∧G.le G'∧bK G w G' w':=by
 unfold bS at h;split at h
 ·simp at h
 · rename_i xs hxs;simp only[Option.ite_none_right_eq_some]at h;obtain⟨hhx,h⟩:=h;obtain⟨xb,xc,rfl⟩:=jO hxs hx;have hrx:=eo hxs hx;have known':∀w',w'=w.drew→∀b o u,G.K b o=some u→w'.cell? ⟨b,o,none⟩=some u:=fun w' e b o u hk=>by subst e;exact hi.known b o u hk
   obtain⟨new,n1,n2,n3,n4⟩:=jv (P:=P) hi.known hrx hhx rfl
   have n1':∀w',w'=w.drew→(Builtin.firstCells sz xs.length (.slice xb xs.length xc)).run P w'=.ok new.toArray w':=by
     intro w' e;obtain⟨new',m1,_,_⟩:=jv (P:=P) (known' w' e) hrx hhx rfl;have hsame:(Builtin.firstCells sz xs.length (.slice xb xs.length xc)).run P w'=.ok new'.toArray w':=m1
     have:new'=new:=by
       subst e;obtain⟨base,len,cap,e1,_,hlen,hrow'⟩:=cd.1 hrx;cases e1;by_cases hnil:xs=[]
       · subst hnil;have a1:new=[]:=by apply List.eq_nil_of_length_eq_zero;simpa using n2
         have a2:new'=[]:=by
           cases xb with
           |none=>simpa[Builtin.firstCells] using m1.symm
           |some a=>simpa[Builtin.firstCells,loadCells,loadCellsFrom] using m1.symm
         rw[a1,a2]
       ·obtain⟨b,o,sz',e2,hrow⟩:=hrow'.resolve_left hnil;cases e2;have:=hrow.sz hhx hnil;subst this;obtain⟨vss,g1,g2,_,_⟩:=hrow.flat;have l1:=run_loadCells_list (P:=P) w ⟨b,o,none⟩ vss (fun j u hj=>by rw[Addr.en];exact hi.known _ _ _ (g2 j u hj));have l2:=run_loadCells_list (P:=P) w.drew ⟨b,o,none⟩ vss (fun j u hj=>by rw[Addr.en];exact hi.known _ _ _ (g2 j u hj));rw[g1]at l1 l2;simp only[Builtin.firstCells]at n1 m1;rw[l1]at n1;rw[l2]at m1;simp at n1 m1;rw[←n1,←m1]
     rw[hsame,this]
   have grows:∀(l:List PV) (base:Option Addr) (cap τ:Nat),Rel G.K (.au l) (.slice base l.length cap)→bf sz l=true→cap<l.length+xs.length→(l.length+xs.length)*by_≤140737488355328 →
       nU G aa toks' τ (l.length+xs.length)→(∀t0,G.tk τ=some t0→¬t0.dead∧t0.cap<l.length+xs.length)→y=.own (l++xs) τ →
       ∃v w' G',(Builtin.append_ argTypes type #[.slice base l.length cap,.slice xb xs.length xc]).run P w=.ok v w'∧aB (num ns) G' y v∧Inv (num ns) G' w' mem sh toks'∧G.le G'∧bK G w G' w':=by
     intro l base cap τ hrl hhl hfit hbytes hup hg hy;obtain⟨aI,o1,o2,o3,o4⟩:=jv (P:=P) (w:=w.drew) (known' _ rfl) hrl hhl rfl
     obtain⟨rest,newCap,p1,p2,p3⟩:=kO (type:=type) (aI:=aI.toArray) (new:=new.toArray) h0 h1 hu hu1 hsz hby hz hzl (base:=base) (len:=l.length) (cap:=cap) (n:=xs.length) (xb:=xb) (xc:=xc) rfl
       (fun w' e=>by subst e;exact o1) n1' hfit hb0 hbytes
     have hpos:0<xs.length:=by
       rcases Nat.eq_zero_or_pos xs.length with hz'|hz'
       ·have:=(cd.1 hrl);obtain⟨b',l',c',e',hle,hlen,_⟩:=this;cases e';omega
       ·exact hz'
     obtain⟨G',q1,q2,q3,q4⟩:=GD (ns:=ns) (w:=w.drew) hi.drew e o2 n2 o3 n3 p1 p2 hpos hup hg;exact⟨_,_,G',p3,by rw[hy];exact q1,q2,q3,(bK.drew G w).trans q4⟩
   split at h
   · -- a slice without room to spare
     rename_i l;split at h
     · rename_i hemp;have hxs0:xs=[]:=List.isEmpty_iff.1 hemp;subst hxs0;simp only[Option.some.injEq,Prod.mk.injEq]at h;obtain⟨rfl,rfl⟩:=h;have hs':=hs;simp only[aB]at hs;obtain⟨base,len,rfl,hsl⟩:=hs;have hlen:=hsl.1;subst hlen;have hnew:new=[]:=by apply List.eq_nil_of_length_eq_zero;simpa using n2
       subst hnew;have hrun:=fq (type:=type) h0 h1 hu hu1 hsz (base:=base) (len:=l.length) (cap:=l.length) (n:=0) (xb:=xb) (xc:=xc) rfl n1 (by omega);refine⟨.slice base l.length l.length,w,G,?_,hs',hi,G.le_refl,bK.refl G w⟩;refine Eq.trans hrun ?_;cases base<;>simp[storeCells]
     simp only[Option.ite_none_right_eq_some,Option.some.injEq,Prod.mk.injEq]at h;obtain⟨⟨hhl,hbytes⟩,rfl,rfl⟩:=h;have hs':=hs;simp only[aB]at hs;obtain⟨base,len,rfl,hsl⟩:=hs;have hlen:=hsl.1;subst hlen;have hlen2:(l++xs).length=l.length+xs.length:=by simp
     have hup:nU G aa (aa++[(l++xs).length]) aa.length (l.length+xs.length):=by
       rw[hlen2];exact CF hi (l.length+xs.length)
     have htk:G.tk aa.length=none:=by
       cases hh:G.tk aa.length with
       |none=>rfl
       |some t0=>have:=hi.e_ _ t0 hh;rw[List.getElem?_eq_none (Nat.le_refl _)]at this;simp at this
     by_cases hn0:xs.length=0
     · have hxs0:xs=[]:=by cases xs with|nil=>rfl|cons _ _=>simp at hn0
       subst hxs0;have hnew:new=[]:=by apply List.eq_nil_of_length_eq_zero;simpa using n2
       subst hnew;have hrun:=fq (type:=type) h0 h1 hu hu1 hsz (base:=base) (len:=l.length) (cap:=l.length) (n:=0) (xb:=xb) (xc:=xc) rfl n1 (by omega);let tk:Tk:={ base,len:=l.length,cap:=l.length,sz };obtain⟨g1,g2,g3⟩:=hi.NV (τ:=aa.length) (t:=tk) (toks':=aa++[(l++[]).length]) rfl rfl htk hup.at_ hup.other;refine⟨.slice base l.length l.length,w,_,?_,?_,g1,g2,g3⟩
       ·refine Eq.trans hrun ?_;cases base<;>simp[storeCells]
       · simp only[aB];refine⟨tk,by simp[Gh.bw],⟨by simp[tk],tk.sA⟩,?_,fun _=>⟨rfl,?_⟩⟩
         ·simp only[List.append_nil];exact cd.2 ⟨_,_,_,rfl,Nat.le_refl _,hsl⟩
         ·simp only[List.append_nil];exact NW hsl hhl
     ·exact grows l base l.length aa.length (cd.2 ⟨_,_,_,rfl,Nat.le_refl _,hsl⟩) hhl (by omega) hbytes hup (fun t0 h=>by rw[htk]at h;cases h) rfl
   · -- a slice that has its room to spare to itself
     rename_i l τ;simp only[Option.ite_none_right_eq_some,Option.some.injEq,Prod.mk.injEq]at h;obtain⟨⟨htok,hhl,hbytes⟩,rfl,rfl⟩:=h;have hs':=hs;simp only[aB]at hs;obtain⟨tk,e1,e2,e3,e4⟩:=hs
     have hlen:l.length=tk.len:=by
       have:=hi.e_ τ tk e1;rw[htok]at this;simpa using this
     obtain⟨hv,hrow⟩:=e4 hlen;obtain⟨tk',f1,f2,f3⟩:=hi.dh τ _ htok;rw[e1]at f1;cases f1;have hlen2:(l++xs).length=l.length+xs.length:=by simp
     obtain⟨base,tlen,cap,tsz,town⟩:=tk;simp only[Tk.val]at hv hlen f2 f3;subst hv;subst hlen;by_cases hn0:xs.length=0
     · have hxs0:xs=[]:=by cases xs with|nil=>rfl|cons _ _=>simp at hn0
       subst hxs0;have hnew:new=[]:=by apply List.eq_nil_of_length_eq_zero;simpa using n2
       subst hnew;have hrun:=fq (type:=type) h0 h1 hu hu1 hsz (base:=base) (len:=l.length) (cap:=cap) (n:=0) (xb:=xb) (xc:=xc) rfl n1 (by have:=f3.cap;simpa using this)
       have hset:aa.set τ (l++([]:List PV)).length=aa:=by
         apply List.ext_getElem?
         intro j;rw[List.getElem?_set];split
         ·rename_i e;subst e;have:=(List.getElem?_eq_some_iff.1 htok);obtain⟨hlt,_⟩:=this;rw[if_pos hlt,htok];simp
         ·rfl
       rw[hset];refine⟨.slice base l.length cap,w,G,?_,?_,hi,G.le_refl,bK.refl G w⟩
       ·refine Eq.trans hrun ?_;cases base<;>simp[storeCells]
       ·simpa using hs'
     · have hpos:0<xs.length:=by omega
       have hup:nU G aa (aa.set τ (l++xs).length) τ (l.length+xs.length):=by
         rw[hlen2];have hlt:=(List.getElem?_eq_some_iff.1 htok).1;refine⟨by rw[List.getElem?_set];simp[hlt],fun σ hσ=>by rw[List.getElem?_set,if_neg (Ne.symm hσ)],fun t0 h=>?_⟩;rw[e1]at h;cases h;simp;omega
       rcases Nat.lt_or_ge cap (l.length+xs.length) with hfit|hfit
       · refine grows l base cap τ e3 hhl hfit hbytes hup (fun t0 h=>?_) rfl;rw[e1]at h;cases h;refine⟨?_,hfit⟩
         rintro⟨d1,d2⟩
         rcases hrow with rfl|⟨b,o,e,_⟩
         ·simp at d2
         ·rw[d1]at e;cases e
       · have hl0:l≠[]:=by
           rintro rfl
           have:=f3.zero rfl;simp at this hfit;omega
         obtain⟨b,o,hbase,hrow⟩:=hrow.resolve_left hl0;simp only at hbase;subst hbase;have:=hrow.sz hhl hl0;subst this;obtain⟨b',o',c,ty,p1,p2,p3,p4,p5⟩:=f3.spare (.inl (by simp;omega));simp only[Option.some.injEq,Addr.mk.injEq]at p1;obtain⟨rfl,rfl,_⟩:=p1;simp only at p4 p5;have hmul:(l.length+xs.length)*sz≤cap*sz:=Nat.mul_le_mul_right _ hfit;rw[Nat.add_mul]at hmul;have vY:=run_storeCells_at (P:=P) b (o+l.length*sz) ty new 0 c w p3 (by rw[n2];omega) n4;have hrun:=fq (type:=type) h0 h1 hu hu1 hsz (base:=some ⟨b,o,none⟩) (len:=l.length) (cap:=cap) (n:=xs.length) (xb:=xb) (xc:=xc) rfl n1 hfit;simp only[Nat.add_zero]at vY;obtain⟨g1,g2,g3⟩:=hi.fill (t:=⟨some ⟨b,o,none⟩,l.length,cap,sz,town⟩) (n:=xs.length) e1 rfl p2 p3 p4 p5 n2 hpos hfit rfl hup;refine⟨.slice (some ⟨b,o,none⟩) (l.length+xs.length) cap,_,_,?_,?_,g1,g2,g3⟩
         ·refine Eq.trans hrun ?_;simp only[Addr.en,vY,Result.andThen_ok]
         · have hat:At (jt G b (o+l.length*sz) new) b (o+l.length*sz) new:=by
             intro j v hj;have hlt:=(List.getElem?_eq_some_iff.1 hj).1;simp only[jt];rw[if_pos ⟨trivial,by omega,by omega⟩,Nat.add_sub_cancel_left];exact hj
           have hrow':Row (jt G b (o+l.length*sz) new) b o sz (l++xs):=Row.append (Row.mono g2.K _ _ _ _ hrow) (n3 _ _ _ g2.K hat);simp only[aB];exact⟨⟨some ⟨b,o,none⟩,l.length+xs.length,cap,sz,true⟩,by simp[Gh.bw],⟨by simp,Tk.sA _⟩,cd.2 ⟨_,_,_,rfl,hfit,by simp,.inr ⟨_,_,_,rfl,hrow'⟩⟩,fun _=>⟨rfl,.inr ⟨_,_,rfl,hrow'⟩⟩⟩
   ·simp at h
end
end Go.Ab
namespace Go.Ab
section
variable {P:Program} {ns:Names} {G:Gh} {w:World}
theorem GF{ρ:bQ}{x:AV}{v:Value}(h:aB ρ G x v)(hl:aT x=true):v.oneCell'=true:=by
 cases x with
 |pv p=>
   simp only[aB]at h;cases p with
   |agg _=>simp[aT]at hl
   |au _=>obtain⟨b,l,c,rfl,_⟩:=cd.1 h;rfl
   |bool _=>rw[jq]at h;subst h;rfl
   |int _ _=>rw[bW]at h;subst h;rfl
   |str _=>rw[mQ]at h;subst h;rfl
 |dH _=>simp only[aB]at h;obtain⟨_,_,rfl,_⟩:=h;rfl
 |own _ _=>simp only[aB]at h;obtain⟨_,_,_,h,_⟩:=h;obtain⟨b,l,c,rfl,_⟩:=cd.1 h;rfl
 |aW _ _=>simp only[aB]at h;obtain⟨_,_,rfl⟩:=h;rfl
 |aP _ _ _ _=>simp only[aB]at h;obtain⟨_,_,_,rfl,_⟩:=h;rfl
 |fn _ _=>simp only[aB]at h;obtain⟨_,_,_,rfl,_⟩:=h;rfl
 |kr=>simp only[aB]at h;rcases h with rfl|rfl<;>rfl
 |ku _=>simp only[aB]at h;obtain⟨_,_,rfl⟩:=h;rfl
 |gg _=>simp only[aB]at h
 |_=>simp[aT]at hl
theorem kP{ρ:bQ}:∀{xs:List AV} {vs:List Value},aw ρ G xs vs→xs.all aT=true→∀u∈vs,u.oneCell'=true
 |[],_,h,_,u,hu=>by simp only[aw]at h;subst h;simp at hu
 |x::xs,_,h,hl,u,hu=>by
   simp only[aw]at h;obtain⟨v,r,rfl,e1,e2⟩:=h;simp only[List.all_cons,Bool.and_eq_true]at hl;simp only[List.mem_cons]at hu;rcases hu with rfl|hu
   ·exact GF e1 hl.1
   ·exact kP e2 hl.2 u hu
theorem jb{xs:List AV}(h:xs.all cN=true):xs.all aT=true:=by
 rw[List.all_eq_true]at *;intro x hx;have:=h x hx;cases x<;>simp_all[cN,aT,bN]
def Te(ns:Names)(P:Program)(G:Gh)(w:World)(mem:List (Nat×List AV))(sh:Sh)(aa:aG)(s:Sem Next)(x:AV):Prop:=
 ∃n v w' G',s.run P w=.ok n w'∧(n=.value v∨(n=.skip∧v=undef))∧aB (num ns) G' x v∧Inv (num ns) G' w' mem sh aa∧G.le G'∧bK G w G' w'
theorem oY{t sz b off:Nat}{v:Value}{c:Array Value}{ty:TypeId}(hsz:cE P t=some sz)(hv:v.cells.size=sz)(hh:w.heap[b]?=some (.cells c ty (0,0)))
   (hl:off+sz≤c.size) (h1:∀u∈v.cells.toList,u.oneCell'=true) :
   (storeVar t ⟨b,off,none⟩ v).run P w=.ok () (w.setRow b (c.toList.take off++v.cells.toList++c.toList.drop (off+v.cells.toList.length)).toArray):=by
 have:=run_storeCells_at (P:=P) b off ty v.cells.toList 0 c w hh (by simp[hv];omega) h1;simp only[Nat.add_zero]at this;simp only[storeVar,Sem.run_bind,di hsz,Result.andThen_ok];rw[if_neg (by simp[hv])];simpa using this
theorem ig{t:TypeId}{v:Value}:(newVar t v).run P w=.ok ⟨w.heap.size,0,none⟩ (w.alloc (.cells v.cells t)):=rfl
theorem jc{ρ:bQ}:∀{xs:List AV} {vs:List Value},vs.length=xs.length→(∀(j:Nat) (x:AV) (v:Value),xs[j]?=some x→vs[j]?=some v→aB ρ G x v)→aw ρ G xs vs
 |[],vs,hl,_=>by
   have:vs=[]:=by cases vs<;>simp_all
   subst this;simp[aw]
 |x::xs,[],hl,_=>by simp at hl
 |x::xs,v::vs,hl,h=>by
   simp only[aw];exact⟨v,vs,rfl,h 0 x v rfl rfl,jc (by simpa using hl) fun j y u hy hu=>h (j+1) y u (by simpa using hy) (by simpa using hu)⟩
theorem dM{α:Type}(l:List α):∀(n j:Nat),j<n*l.length→(List.replicate n l).flatten[j]?=l[j % l.length]?
 |0,j,h=>by simp at h
 |n+1,j,h=>by
   rw[List.replicate_succ,List.flatten_cons];by_cases hj:j<l.length
   ·rw[List.getElem?_append_left hj,Nat.mod_eq_of_lt hj]
   ·rw[List.getElem?_append_right (by omega),dM l n (j-l.length) (by rw[Nat.add_mul]at h;omega)];congr 1;exact (Nat.mod_eq_sub_mod (by omega)).symm
theorem vZ{n:Int}(h0:0≤n)(h1:n≤9223372036854775807):IntKind.i64.wrap n=n:=by
 unfold IntKind.wrap;have e1:(2:Int) ^ IntKind.i64.bits=18446744073709551616:=by decide
 have e2:(2:Int) ^ (IntKind.i64.bits-1)=9223372036854775808:=by decide
 have e3:IntKind.i64.signed=true:=rfl;simp only[e1,e2,e3];have:n % 18446744073709551616=n:=Int.emod_eq_of_lt h0 (by omega);simp only[this];rw[if_neg];simp;omega
theorem kQ{ρ:bQ}:∀{l:List Value} {z:List PV},cf dC l=some z→aw ρ G (z.map .pv) l∧(z.map AV.pv).all cN=true
 |[],_,h=>by simp[cf]at h;subst h;simp[aw]
 |v::l,z,h=>by
   simp only[cf]at h;split at h
   · rename_i y ys h1 h2;simp at h;subst h;obtain⟨g1,g2⟩:=kQ (ρ:=ρ) h2;obtain⟨g3,g4⟩:=nS (K:=G.K) h1;have g5:cN (.pv y)=true:=by cases y<;>simp_all[cN,aT,de]
     simp only[List.map_cons,aw,List.all_cons,g5,g2,Bool.and_true,and_true];exact⟨v,l,rfl,by simp only[aB];exact Rel.Sz g3,g1⟩
   ·simp at h
theorem xF(n:Nat)(z:List PV):(z.map AV.pv).all (aK n)=true:=by
 rw[List.all_eq_true];intro x hx;simp only[List.mem_map]at hx;obtain⟨p,_,rfl⟩:=hx;simp[aK]
theorem GG(n:Nat)(z:List PV):(z.map bB.zeroCell).all (aK n)=true:=by
 rw[List.all_eq_true];intro x hx;simp only[List.mem_map]at hx;obtain⟨p,_,rfl⟩:=hx;unfold bB.zeroCell;split<;>simp[aK]
end
mutual
theorem rn{n m:Nat}(h:n≤m):∀{x:AV},aK n x=true→aK m x=true
 | .un,_=>by simp[aK]
 | .pv _,_=>by simp[aK]
 | .dH _,_=>by simp[aK]
 | .own ..,_=>by simp[aK]
 | .kr,_=>by simp[aK]
 | .gf _,_=>by simp[aK]
 | .aW b _,hx=>by simp[aK]at hx⊢;omega
 | .aP b _ _ _,hx=>by simp[aK]at hx⊢;omega
 | .fn _ cap,hx=>by simp only[aK]at hx⊢;exact kR h hx
 | .agg cs,hx=>by simp only[aK]at hx⊢;exact kR h hx
 | .az ..,hx=>by simp[aK]at hx
 | .qW _,hx=>by simp[aK]at hx
 | .ku b,hx=>by simp[aK]at hx⊢;omega
 | .gg _,_=>by simp[aK]
 | .p_ ..,hx=>by simp[aK]at hx
theorem kR{n m:Nat}(h:n≤m):∀{xs:List AV},aK.cB n xs=true→aK.cB m xs=true
 |[],_=>by simp[aK.cB]
 |x::xs,hx=>by
   simp only[aK.cB,Bool.and_eq_true]at hx⊢;exact⟨rn h hx.1,kR h hx.2⟩
end
theorem kS{n m:Nat}(h:n≤m){xs:List AV}(hx:xs.all (aK n)=true):xs.all (aK m)=true:=by
 rw[List.all_eq_true]at *;exact fun x hm=>rn h (hx x hm)
section
variable {P:Program} {ns:Names} {G:Gh} {w:World}
theorem jP{ρ:bQ}{k:IntKind}{n:Int}{v:Value}(h:aB ρ G (.pv (.int k n)) v):v=.int k n:=by
 simp only[aB]at h;exact bW.1 h
theorem zJ{t e sz by_:Nat}{ag:Bool}{z:List PV}{k k':IntKind}{n:Int}{mem:List (Nat×List AV)}{sh:Sh}{aa:aG}(hu:P.underlying t=some (.slice e))(hsz:cE P e=some sz)
   (hby:eW P e=some by_) (hz:cx P e=some z) (hzl:z.length=sz) (hs0:0<sz) (h0:0≤n) (h1:n≤9223372036854775807) (h2:n*by_≤140737488355328) (hi:Inv (num ns) G w mem sh aa) :
   ∃v w' G',(Instr.makeSlice t (.int k n) (.int k' n)).run P w=.ok v w'∧aB (num ns) G' (.aP sh.length sz n.toNat ag) v ∧
     Inv (num ns) G' w' mem (sh++[some ((List.replicate n.toNat (z.map .pv)).flatten)]) aa∧G.le G'∧bK G w G' w':=by
 obtain⟨i,hii,hib,hirun⟩:=l6 hby w;obtain⟨zv,hz1,hz2⟩:=gC (P:=P) (w:=w) hz;have hzs:zv.cells.size=sz:=by have:=gB hz2;simp at this;omega
 obtain⟨zr,zl⟩:=kQ (G:=G) (ρ:=num ns) hz2;let z0:Array Value:=if n.toNat*sz=0 then #[] else zv.cells;let c:Array Value:=(Array.range (n.toNat*sz)).map (z0[· % z0.size]!);have hw:IntKind.i64.wrap n=n:=vZ h0 h1;have hbytes:(i.bytes:Int)*n≤281474976710656:=by rw[hib,Int.mul_comm];omega
 have hlen:((List.replicate n.toNat (z.map AV.pv)).flatten).length=n.toNat*sz:=by simp[hzl]
 have hrel:aw (num ns) G ((List.replicate n.toNat (z.map .pv)).flatten) c.toList:=by
   refine jc (by simp[c,hzl]) fun j x v hx hv=>?_;have hlt:j<n.toNat*sz:=by have:=(List.getElem?_eq_some_iff.1 hx).1;omega
   rw[dM _ _ _ (by simpa[hzl] using hlt)]at hx;have hn0:¬n.toNat*sz=0:=by omega
   have hz0:z0=zv.cells:=if_neg hn0;obtain⟨v',g1,g2⟩:=zr.get hx
   have:v=v':=by
     simp only[c,hz0,Array.toList_map,List.getElem?_map,Array.toList_range,Option.map_eq_some_iff]at hv;obtain⟨j',hj',hv⟩:=hv;rw[List.getElem?_range hlt]at hj';cases hj';simp only[List.length_map,hzl]at g1;rw[hzs]at hv;have hm:j % sz<zv.cells.size:=by rw[hzs];exact Nat.mod_lt _ hs0
     rw[getElem!_pos zv.cells (j % sz) hm]at hv;have g1':zv.cells[j % sz]?=some v':=by simpa using g1
     rw[Array.getElem?_eq_getElem hm]at g1';simp at g1';rw[←hv,g1']
   subst this;exact g2
 have hall:((List.replicate n.toNat (z.map AV.pv)).flatten).all cN=true:=by
   rw[List.all_eq_true]at *;intro x hx;simp only[List.mem_flatten,List.mem_replicate]at hx;obtain⟨l,⟨_,rfl⟩,hx⟩:=hx;exact zl x hx
 have href:((List.replicate n.toNat (z.map AV.pv)).flatten).all (aK (sh.length+1))=true:=by
   have:=xF (sh.length+1) z;rw[List.all_eq_true]at *;intro x hx;simp only[List.mem_flatten,List.mem_replicate]at hx;obtain⟨l,⟨_,rfl⟩,hx⟩:=hx;exact this x hx
 obtain⟨g1,g2,g3⟩:=hi.tD (cells:=(List.replicate n.toNat (z.map .pv)).flatten) (c:=c) e hrel hall href;refine⟨.slice (some ⟨w.heap.size,0,none⟩) n.toNat n.toNat,_,_,?_,?_,g1,g2,g3⟩
 · have hp:(2:Int) ^ 48=281474976710656:=by decide
   have ht:(decide (n<0) || decide ((i.bytes:Int)*n > 2 ^ 48))=false:=by
     rw[hp];simp;omega
   have hir:∀w',(typeInfo e).run P w'=.ok i w':=fun w'=>by simp[typeInfo,hii]
   have hcond:¬((decide (n<0) || decide ((i.bytes:Int)*n > 2 ^ 48)) || decide (n<0) || decide (n > n))=true:=by
     rw[ht];simp;omega
   simp only[Instr.makeSlice,Sem.run_bind,run_underlying hu,Result.andThen_ok,asInt,asIntOf,Sem.run_pure,hir,hw];rw[if_neg hcond];simp only[Sem.run_bind,run_askRoom,Result.andThen_ok,di hsz];by_cases h00:n.toNat*sz=0
   ·rw[if_pos h00];simp only[Sem.run_bind,Sem.run_pure,Result.andThen_ok];have hz0:z0=#[]:=if_pos h00;simp only[c,hz0];rfl
   ·rw[if_neg h00];simp only[Sem.run_bind,Sem.run_pure,hz1,Result.andThen_ok];have hz0:z0=zv.cells:=if_neg h00;simp only[c,hz0];rfl
 ·simp only[aB];exact⟨(w.heap.size,c.size),0,by simp[Gh.dr],rfl,by simp[c]⟩
theorem zL{t e sz by_ d:Nat}{z:List PV}{k k':IntKind}{n:Int}{mem:List (Nat×List AV)}{sh:Sh}{aa:aG}(hu:P.underlying t=some (.slice e))(hsz:cE P e=some sz)
   (hby:eW P e=some by_) (hz:cx P e=some z) (hzl:z.length=sz) (hs0:0<sz) (h0:0≤n) (h1:n≤9223372036854775807) (h2:n*by_≤140737488355328) (hi:Inv (num ns) G w mem sh aa) (hl:look mem d=none) :
   ∃v w' G',(Instr.makeSlice t (.int k n) (.int k' n)).run P w=.ok v w'∧aB (num ns) G' (.jH d n.toNat) v ∧
     Inv (num ns) G' w' (cX mem d ((List.replicate n.toNat (z.map .pv)).flatten)) sh aa∧G.le G'∧bK G w G' w':=by
 obtain⟨i,hii,hib,hirun⟩:=l6 hby w;obtain⟨zv,hz1,hz2⟩:=gC (P:=P) (w:=w) hz;have hzs:zv.cells.size=sz:=by have:=gB hz2;simp at this;omega
 obtain⟨zr,zl⟩:=kQ (G:=G) (ρ:=num ns) hz2;let z0:Array Value:=if n.toNat*sz=0 then #[] else zv.cells;let c:Array Value:=(Array.range (n.toNat*sz)).map (z0[· % z0.size]!);have hw:IntKind.i64.wrap n=n:=vZ h0 h1;have hbytes:(i.bytes:Int)*n≤281474976710656:=by rw[hib,Int.mul_comm];omega
 have hlen:((List.replicate n.toNat (z.map AV.pv)).flatten).length=n.toNat*sz:=by simp[hzl]
 have hrel:aw (num ns) G ((List.replicate n.toNat (z.map .pv)).flatten) c.toList:=by
   refine jc (by simp[c,hzl]) fun j x v hx hv=>?_;have hlt:j<n.toNat*sz:=by have:=(List.getElem?_eq_some_iff.1 hx).1;omega
   rw[dM _ _ _ (by simpa[hzl] using hlt)]at hx;have hn0:¬n.toNat*sz=0:=by omega
   have hz0:z0=zv.cells:=if_neg hn0;obtain⟨v',g1,g2⟩:=zr.get hx
   have:v=v':=by
     simp only[c,hz0,Array.toList_map,List.getElem?_map,Array.toList_range,Option.map_eq_some_iff]at hv;obtain⟨j',hj',hv⟩:=hv;rw[List.getElem?_range hlt]at hj';cases hj';simp only[List.length_map,hzl]at g1;rw[hzs]at hv;have hm:j % sz<zv.cells.size:=by rw[hzs];exact Nat.mod_lt _ hs0
     rw[getElem!_pos zv.cells (j % sz) hm]at hv;have g1':zv.cells[j % sz]?=some v':=by simpa using g1
     rw[Array.getElem?_eq_getElem hm]at g1';simp at g1';rw[←hv,g1']
   subst this;exact g2
 have hall:((List.replicate n.toNat (z.map AV.pv)).flatten).all cN=true:=by
   rw[List.all_eq_true]at *;intro x hx;simp only[List.mem_flatten,List.mem_replicate]at hx;obtain⟨l,⟨_,rfl⟩,hx⟩:=hx;exact zl x hx
 obtain⟨g1,g2,g3⟩:=hi.qg (d:=d) (cells:=(List.replicate n.toNat (z.map .pv)).flatten) (c:=c) e hl hrel (jb hall);refine⟨.slice (some ⟨w.heap.size,0,none⟩) n.toNat n.toNat,_,_,?_,?_,g1,g2,g3⟩
 · have hp:(2:Int) ^ 48=281474976710656:=by decide
   have ht:(decide (n<0) || decide ((i.bytes:Int)*n > 2 ^ 48))=false:=by
     rw[hp];simp;omega
   have hir:∀w',(typeInfo e).run P w'=.ok i w':=fun w'=>by simp[typeInfo,hii]
   have hcond:¬((decide (n<0) || decide ((i.bytes:Int)*n > 2 ^ 48)) || decide (n<0) || decide (n > n))=true:=by
     rw[ht];simp;omega
   simp only[Instr.makeSlice,Sem.run_bind,run_underlying hu,Result.andThen_ok,asInt,asIntOf,Sem.run_pure,hir,hw];rw[if_neg hcond];simp only[Sem.run_bind,run_askRoom,Result.andThen_ok,di hsz];by_cases h00:n.toNat*sz=0
   ·rw[if_pos h00];simp only[Sem.run_bind,Sem.run_pure,Result.andThen_ok];have hz0:z0=#[]:=if_pos h00;simp only[c,hz0];rfl
   ·rw[if_neg h00];simp only[Sem.run_bind,Sem.run_pure,hz1,Result.andThen_ok];have hz0:z0=zv.cells:=if_neg h00;simp only[c,hz0];rfl
 ·simp only[aB];exact⟨w.heap.size,by simp[Gh.cY],rfl⟩
end
end Go.Ab
namespace Go.Ab
section
variable {P:Program} {ns:Names} {G:Gh} {w:World}
theorem kB{K:bl}:∀{cs:List PV} {vs:List Value},dL K cs vs→∀p∈cs,de p=true
 |[],_,_,p,hp=>by simp at hp
 |c::cs,_,h,p,hp=>by
   simp only[dL]at h;obtain⟨v,r,rfl,e2,e3⟩:=h;simp only[List.mem_cons]at hp;rcases hp with rfl|hp
   · cases p with
     |agg _=>simp[R]at e2
     |_=>rfl
   ·exact kB e3 p hp
theorem Row.tE{K:bl}:∀{els:List PV} {b o sz:Nat},Row K b o sz els →
   ∃vss:List Value,vss.length=els.length*sz∧At K b o vss∧dL K (els.flatMap aX) vss∧∀u∈vss,u.oneCell'=true
 |[],b,o,sz,_=>⟨[],by simp,by intro j v h;simp at h,by simp[dL],by simp⟩
 |el::r,b,o,sz,hr=>by
   simp only[Row]at hr;obtain⟨⟨vs,h1,h2,h3⟩,h4⟩:=hr;obtain⟨vss,g1,g2,g3,g4⟩:=Row.tE h4;refine⟨vs++vss,by simp[h1,g1,Nat.add_mul];omega,?_,by rw[List.flatMap_cons];exact dL.append h3.cells g3,?_⟩
   · intro j v hj;rw[List.getElem?_append]at hj;split at hj
     ·exact h2 j v hj
     · have:=g2 _ v hj;rw[h1]at this
       rwa [show o+sz+(j-sz)=o+j from by omega]at this
   · intro u hu;simp only[List.mem_append]at hu;rcases hu with hu|hu
     ·exact dL.one h3.cells u hu
     ·exact g4 u hu
theorem qi{els:List PV}{base:Option Addr}{cap:Nat}{sz:Nat}(hr:Rel G.K (.au els) (.slice base els.length cap))(hs:bf sz els=true) :
   ∃vss:List Value,vss.length=els.length*sz∧dL G.K (els.flatMap aX) vss∧(∀u∈vss,u.oneCell'=true) ∧
     ∀w:World,(∀b o u,G.K b o=some u→w.cell? ⟨b,o,none⟩=some u)→(Builtin.firstCells sz els.length (.slice base els.length cap)).run P w=.ok vss.toArray w:=by
 obtain⟨base',len,cap',e,_,hlen,hrow'⟩:=cd.1 hr;cases e;by_cases hnil:els=[]
 · subst hnil;refine⟨[],by simp,by simp[dL],by simp,fun w _=>?_⟩;cases base with
   |none=>simp[Builtin.firstCells]
   |some a=>simp[Builtin.firstCells,loadCells,loadCellsFrom]
 ·obtain⟨b,o,sz',rfl,hrow⟩:=hrow'.resolve_left hnil;have:=hrow.sz hs hnil;subst this;obtain⟨vss,g1,g2,g3,g4⟩:=hrow.tE;refine⟨vss,g1,g3,g4,fun w hk=>?_⟩;have hl:=run_loadCells_list (P:=P) w ⟨b,o,none⟩ vss (fun j u hj=>by rw[Addr.en];exact hk _ _ _ (g2 j u hj));rw[g1]at hl;simpa[Builtin.firstCells] using hl
theorem tF{b n cap sz:Nat}{c:Array Value}{t:TypeId}{vs suf:List Value}(hh:w.heap[b]?=some (.cells c t (0,0)))(hsp:c.toList=vs++suf)(hn:n*sz≤vs.length) :
   (Builtin.firstCells sz n (.slice (some ⟨b,0,none⟩) n cap)).run P w=.ok (vs.take (n*sz)).toArray w:=by
 have hl:=run_loadCells_list (P:=P) w ⟨b,0,none⟩ (vs.take (n*sz)) (fun j u hj=>by
   rw[Addr.en,Nat.zero_add];rw[List.getElem?_take]at hj;split at hj
   · have:c.toList[j]?=some u:=by rw[hsp,List.getElem?_append_left (List.getElem?_eq_some_iff.1 hj).1];exact hj
     simp only[World.cell?,hh];simpa using this
   ·simp at hj)
 rw[List.length_take,Nat.min_eq_left hn]at hl;simpa[Builtin.firstCells] using hl
theorem Inv.Tf{ρ:bQ}{mem:List (Nat×List AV)}{sh:Sh}{aa:aG}(hi:Inv ρ G w mem sh aa)(s:Nat):Inv ρ G w mem (sh.set s none) aa:=
 { hi with
   dq:=fun s' cs hs'=>by
     rw[List.getElem?_set]at hs';split at hs'
     ·split at hs'<;>simp at hs'
     ·exact hi.dq s' cs hs'
   eF:=fun s' b h=>by simpa using hi.eF s' b h }
def Gh.iF(G:Gh)(s':Nat)(b:Nat×Nat):Gh:={ G with role:=fun k=>if k=b.1 then .shr s' else G.role k,sm:=fun k=>if k=s' then some b else G.sm k }
theorem Inv.iF{ρ:bQ}{mem:List (Nat×List AV)}{sh:Sh}{aa:aG}(hi:Inv ρ G w mem sh aa){s:Nat}{b:Nat×Nat}{cells:List AV}(hs:sh[s]?=some (some cells))(hb:G.sm s=some b) :
   Inv ρ (G.iF sh.length b) w mem (sh.set s none++[some cells]) aa∧G.le (G.iF sh.length b)∧bK G w (G.iF sh.length b) w:=by
 obtain⟨b0,e1,e2,e3,e4⟩:=hi.dq s cells hs;rw[hb]at e1;cases e1;have hr:G.role b.1=.shr s:=e2.role
 have hsm:G.sm sh.length=none:=by
   cases h:G.sm sh.length with
   |none=>rfl
   |some b=>have:=hi.eF _ b h;omega
 have hle:G.le (G.iF sh.length b):=⟨G.K.le_refl,fun _ _ h=>h,fun k b h=>by
   simp only[Gh.iF];split
   ·rename_i e;subst e;rw[hsm]at h;simp at h
   ·exact h,fun _ t h=>⟨t,h,⟨Nat.le_refl _,t.gL⟩,fun _=>rfl⟩⟩
 have hrole:∀k r,G.role k=r→r≠.shr s→(G.iF sh.length b).role k=r:=by
   intro k r hk hn;simp only[Gh.iF];rw[if_neg]
   ·exact hk
   ·rintro rfl;exact hn (hk.symm.trans hr)
 have hslt:s<sh.length:=(List.getElem?_eq_some_iff.1 hs).1
 have hevo:bK G w (G.iF sh.length b) w:={
           size:=Nat.le_refl _,os:=rfl,tape:=rfl,output:=rfl,K:=G.K.le_refl,sm:=hle.sm,
           ez:=fun k _ hk=>⟨hrole k _ hk (by simp),rfl⟩
           iQ:=fun k τ _ hk=>.inr ⟨τ,hrole k _ hk (by simp)⟩
           gN:=fun _ _ _ _ _ h=>h }
 refine⟨⟨hi.known,?_,?_,?_,hi.gM,?_,?_,?_,hi.e_,hi.ic hevo⟩,hle,hevo⟩
 · intro k o v hk;rcases hi.aZ k o v hk with h|⟨τ,h⟩
   ·exact .inl (hrole k _ h (by simp))
   ·exact .inr ⟨τ,hrole k _ h (by simp)⟩
 ·intro k hk;exact hrole k _ (hi.fresh k hk) (by simp)
 ·intro d cs hd;obtain⟨b',e1,e2,e3⟩:=hi.cT d cs hd;exact⟨b',e1,e2.mono hle ((hrole b' _ e2.role (by simp)).trans e2.role.symm) rfl,e3⟩
 · intro s' cs hs';rw[List.getElem?_append]at hs';split at hs'
   · rw[List.getElem?_set]at hs';split at hs'
     ·simp at hs'
     ·rename_i hne;obtain⟨b',f1,f2,f3⟩:=hi.dq s' cs hs';exact⟨b',hle.sm _ _ f1,f2.mono hle ((hrole b'.1 _ f2.role (by simp;exact fun h=>hne h.symm)).trans f2.role.symm) rfl,f3⟩
   · rename_i hge
     have hs'':s'=sh.length:=by
       rcases Nat.eq_or_lt_of_le (Nat.le_of_not_lt hge) with h|h
       ·simpa using h.symm
       ·rw[List.getElem?_eq_none (by simp at h⊢;omega)]at hs';simp at hs'
     subst hs'';simp at hs';subst hs';obtain⟨_,o,hh,hold⟩:=e2;exact⟨b,by simp[Gh.iF],⟨by simp[Gh.iF],o,hh,hold.mono hle⟩,e3,kS (by omega) e4⟩
 · intro s' b' h;simp only[Gh.iF]at h;split at h
   ·rename_i e;subst e;simp
   ·have:=hi.eF s' b' h;simp;omega
 ·intro τ n hn;obtain⟨tk,e1,e2,e3⟩:=hi.dh τ n hn;refine⟨tk,e1,e2,e3.cap,e3.zero,fun hlt=>?_⟩;obtain⟨b',o,cc,ty,f1,f2,f3,f4,f5⟩:=e3.spare hlt;exact⟨b',o,cc,ty,f1,hrole b' _ f2 (by simp),f3,f4,f5⟩
theorem zM{cs:List PV}(h:∀p∈cs,de p=true):(cs.map AV.pv).all cN=true:=by
 rw[List.all_eq_true];intro x hx;obtain⟨p,hp,rfl⟩:=List.mem_map.1 hx;have:=h p hp;cases p<;>simp_all[cN,aT,de]
theorem vB{argTypes:Array TypeId}{type t e e1 t1 sz by_:Nat}{ag:Bool}{z:List PV}{s x y:AV}{xs:List PV}{vs vx:Value}{mem:List (Nat×List AV)}{sh sh':Sh}{aa:aG}
   (h0:argTypes[0]?=some t) (h1:argTypes[1]?=some t1)
   (hu:P.underlying t=some (.slice e)) (hu1:P.underlying t1=some (.slice e1)) (hsz:cE P e=some sz) (hby:eW P e=some by_) (hz:cx P e=some z) (hzl:z.length=sz) (hb0:0<by_)
   (hs:aB (num ns) G s vs) (hx:aB (num ns) G x vx) (hi:Inv (num ns) G w mem sh aa) (hxs:cJ x=some xs) (hhx:bf sz xs=true) (h:rZ sz by_ ag s xs sh aa=some (y,sh')) :
   ∃v w' G',(Builtin.append_ argTypes type #[vs,vx]).run P w=.ok v w'∧aB (num ns) G' y v∧Inv (num ns) G' w' mem sh' aa∧G.le G'∧bK G w G' w':=by
 obtain⟨xb,xc,rfl⟩:=jO hxs hx;have hrx:=eo hxs hx;have knownD:∀w',w'=w.drew→∀b o u,G.K b o=some u→w'.cell? ⟨b,o,none⟩=some u:=fun w' e b o u hk=>by subst e;exact hi.known b o u hk
 obtain⟨new,n1,n2,n3,n4⟩:=qi (P:=P) hrx hhx;have hleaf:((xs.flatMap aX).map AV.pv).all cN=true:=zM (kB n2)
 have hrefs:∀k,((xs.flatMap aX).map AV.pv).all (aK k)=true:=by
   intro k;rw[List.all_eq_true];intro x hx;obtain⟨p,_,rfl⟩:=List.mem_map.1 hx;rfl
 have onto:∀base,vs=.slice base 0 0→rY sz by_ ag s xs sh=some (y,sh') →
     ∃v w' G',(Builtin.append_ argTypes type #[vs,.slice xb xs.length xc]).run P w=.ok v w'∧aB (num ns) G' y v∧Inv (num ns) G' w' mem sh' aa∧G.le G'∧bK G w G' w':=by
   rintro base rfl ha
   unfold rY at ha;split at ha
   · rename_i hemp;have hxs0:xs=[]:=List.isEmpty_iff.1 hemp;subst hxs0;simp only[Option.some.injEq,Prod.mk.injEq]at ha;obtain⟨rfl,rfl⟩:=ha;have hnew:new=[]:=by apply List.eq_nil_of_length_eq_zero;simpa using n1
     subst hnew;have hrun:=fq (type:=type) h0 h1 hu hu1 hsz (base:=base) (len:=0) (cap:=0) (n:=0) (xb:=xb) (xc:=xc) rfl (n4 w hi.known) (by omega);refine⟨.slice base 0 0,w,G,?_,hs,hi,G.le_refl,bK.refl G w⟩;refine Eq.trans hrun ?_;cases base<;>simp[storeCells]
   · rename_i hemp;simp only[Option.ite_none_right_eq_some,Option.some.injEq,Prod.mk.injEq]at ha;obtain⟨hbytes,rfl,rfl⟩:=ha
     have hpos:0<xs.length:=by
       cases xs with
       |nil=>simp at hemp
       |cons _ _=>simp
     obtain⟨rest,newCap,p1,p2,p3⟩:=kO (type:=type) (aI:=#[]) (new:=new.toArray) h0 h1 hu hu1 hsz hby hz hzl (base:=base) (len:=0) (cap:=0) (n:=xs.length) (xb:=xb) (xc:=xc) rfl
       (fun w' e=>by cases base<;>simp[Builtin.firstCells,loadCells,loadCellsFrom]) (fun w' e=>n4 w' (knownD w' e)) (by omega) hb0 (by simpa using hbytes)
     have hrel:aw (num ns) G ((xs.flatMap aX).map .pv) new:=iD n2
     obtain⟨g1,g2,g3⟩:=hi.drew.CD (o':=.cells (#[]++new.toArray++rest) e) (N:=(#[]++new.toArray++rest).size) (cells:=(xs.flatMap aX).map .pv)
       (.inl ⟨_,e,new,rest.toList,rfl,rfl,by simp,hrel⟩) hleaf (hrefs _)
     refine⟨_,_,_,p3,?_,g1,g2,(bK.drew G w).trans g3⟩;simp only[aB];refine⟨(w.drew.heap.size,(#[]++new.toArray++rest).size),newCap-xs.length,by simp[Gh.dr],?_,?_⟩
     · have:xs.length+(newCap-xs.length)=newCap:=by omega
       show Value.slice (some ⟨w.heap.size,0,none⟩) (0+xs.length) newCap=Value.slice (some ⟨w.heap.size,0,none⟩) xs.length (xs.length+(newCap-xs.length));simp[this]
     · have:xs.length+(newCap-xs.length)=newCap:=by omega
       rw[this];simp[n1,p2];have:newCap=xs.length+(newCap-xs.length):=by omega
       conv=>lhs;rw[this,Nat.add_mul]
       omega
 unfold rZ at h;split at h
 · have hs':=hs;simp only[aB]at hs;obtain⟨base,len,rfl,hsl⟩:=hs;have hlen:len=0:=by have:=hsl.1;simpa using this.symm
   subst hlen;exact onto base rfl h
 · rename_i τ;simp only[Option.ite_none_right_eq_some]at h;obtain⟨htok,h⟩:=h;simp only[aB]at hs;obtain⟨tk,e1,e2,e3,e4⟩:=hs
   have hlen:([]:List PV).length=tk.len:=by
     have:=hi.e_ τ tk e1;rw[htok]at this;simpa using this
   obtain⟨hv,_⟩:=e4 hlen;obtain⟨tk',f1,f2,f3⟩:=hi.dh τ _ htok;rw[e1]at f1;cases f1;have hcap:=f3.zero (by simpa using hlen.symm);refine onto tk.base ?_ h;rw[hv];simp only[Tk.val];rw[hcap,←hlen];rfl
 · rename_i b z' n g;split at h
   · rename_i cells hcs;simp only[Option.ite_none_right_eq_some]at h;obtain⟨⟨rfl,rfl,hmb,hnc,hbytes⟩,h⟩:=h;have hs':=hs;simp only[aB]at hs;obtain⟨blk,cap,hsm,rfl,hroom⟩:=hs;obtain⟨blk',hp',hblk,hlf,hrf⟩:=hi.dq _ _ hcs;rw[hsm]at hp';cases hp';obtain⟨_,c,ty,us,suf,hh,hcz,hsp,hrel⟩:=hblk.cells hmb;have hul:us.length=cells.length:=hrel.length;split at h
     · rename_i hemp;have hxs0:xs=[]:=List.isEmpty_iff.1 hemp;subst hxs0;simp only[Option.some.injEq,Prod.mk.injEq]at h;obtain⟨rfl,rfl⟩:=h;have hnew:new=[]:=by apply List.eq_nil_of_length_eq_zero;simpa using n1
       subst hnew;have hrun:=fq (type:=type) h0 h1 hu hu1 hsz (base:=some ⟨blk.1,0,none⟩) (len:=n) (cap:=n+cap) (n:=0) (xb:=xb) (xc:=xc) rfl (n4 w hi.known) (by omega);refine⟨.slice (some ⟨blk.1,0,none⟩) n (n+cap),w,G,?_,hs',hi,G.le_refl,bK.refl G w⟩;refine Eq.trans hrun ?_;simp[storeCells]
     · rename_i hemp;simp only[Option.some.injEq,Prod.mk.injEq]at h;obtain⟨rfl,rfl⟩:=h
       have hpos:0<xs.length:=by
         cases xs with
         |nil=>simp at hemp
         |cons _ _=>simp
       have hrel1:aw (num ns) G (cells.take (n*z')) (us.take (n*z')):=hrel.take _
       have hlf1:(cells.take (n*z')).all cN=true:=by
         rw[List.all_eq_true]at hlf⊢;exact fun x hx=>hlf x (List.mem_of_mem_take hx)
       have hrf1:(cells.take (n*z')).all (aK (b+1))=true:=by
         rw[List.all_eq_true]at hrf⊢;exact fun x hx=>hrf x (List.mem_of_mem_take hx)
       have hblt:b<sh.length:=(List.getElem?_eq_some_iff.1 hcs).1
       have hlfN:(cells.take (n*z')++(xs.flatMap aX).map AV.pv).all cN=true:=by
         rw[List.all_append,hlf1,hleaf];rfl
       have hrfN:(cells.take (n*z')++(xs.flatMap aX).map AV.pv).all (aK (sh.length+1))=true:=by
         rw[List.all_append,kS (by omega) hrf1,hrefs];rfl
       have htl:(us.take (n*z')).length=n*z':=(by rw[List.length_take];omega);rcases Nat.lt_or_ge (n+cap) (n+xs.length) with hfit|hfit
       · -- a new block
         obtain⟨rest,newCap,p1,p2,p3⟩:=kO (type:=type) (aI:=(us.take (n*z')).toArray) (new:=new.toArray) h0 h1 hu hu1 hsz hby hz hzl (base:=some ⟨blk.1,0,none⟩) (len:=n) (cap:=n+cap) (n:=xs.length) (xb:=xb) (xc:=xc) rfl
           (fun w' e=>by subst e;exact tF (w:=w.drew) hh hsp (by omega)) (fun w' e=>n4 w' (knownD w' e)) hfit hb0 hbytes
         have hrel:aw (num ns) G (cells.take (n*z')++(xs.flatMap aX).map .pv) (us.take (n*z')++new):=hrel1.append (iD n2);have hi1:=hi.drew.Tf b;have hlen:(sh.set b none).length=sh.length:=by simp
         obtain⟨g1,g2,g3⟩:=hi1.CD (o':=.cells ((us.take (n*z')).toArray++new.toArray++rest) e) (N:=((us.take (n*z')).toArray++new.toArray++rest).size) (cells:=cells.take (n*z')++(xs.flatMap aX).map .pv)
           (.inl ⟨_,e,us.take (n*z')++new,rest.toList,rfl,rfl,by simp,hrel⟩) hlfN (by rw[hlen];exact hrfN)
         rw[hlen]at g1 g2 g3;refine⟨_,_,_,p3,?_,g1,g2,(bK.drew G w).trans g3⟩;simp only[aB];refine⟨(w.drew.heap.size,((us.take (n*z')).toArray++new.toArray++rest).size),newCap-(n+xs.length),by simp[Gh.dr],?_,?_⟩
         · have:n+xs.length+(newCap-(n+xs.length))=newCap:=by omega
           show Value.slice (some ⟨w.heap.size,0,none⟩) (n+xs.length) newCap=Value.slice (some ⟨w.heap.size,0,none⟩) (n+xs.length) (n+xs.length+(newCap-(n+xs.length)));simp[this]
         · have:n+xs.length+(newCap-(n+xs.length))=newCap:=by omega
           rw[this];simp only[Array.size_append,List.size_toArray,htl,n1,p2];have:newCap=n+xs.length+(newCap-(n+xs.length)):=by omega
           conv=>lhs;rw[this,Nat.add_mul,Nat.add_mul]
           omega
       · -- in its place
         have hmul:(n+xs.length)*z'≤(n+cap)*z':=Nat.mul_le_mul_right _ hfit;rw[Nat.add_mul]at hmul;have hcsz:n*z'+xs.length*z'≤c.size:=(by omega);obtain⟨m1,m2,m3⟩:=hi.iF hcs hsm;have vY:=run_storeCells_at (P:=P) blk.1 (n*z') ty new 0 c w hh (by rw[n1];omega) n3;have hrun:=fq (type:=type) h0 h1 hu hu1 hsz (base:=some ⟨blk.1,0,none⟩) (len:=n) (cap:=n+cap) (n:=xs.length) (xb:=xb) (xc:=xc) rfl (n4 w hi.known) hfit;simp only[Nat.add_zero]at vY
         have hget:(sh.set b none++[some cells])[sh.length]?=some (some cells):=by
           rw[List.getElem?_append_right (by simp)];simp
         have hct:c.toList.take (n*z')=us.take (n*z'):=by
           rw[hsp,List.take_append_of_le_length (by omega)]
         obtain⟨g1,g2⟩:=m1.oX (cells':=cells.take (n*z')++(xs.flatMap aX).map .pv) (c':=(c.toList.take (n*z')++new++c.toList.drop (n*z'+new.length)).toArray) (vs:=us.take (n*z')++new) (suf:=c.toList.drop (n*z'+new.length))
           hget (by simp[Gh.iF]) hh (by
             have:c.toList.length=c.size:=by simp
             simp only[List.size_toArray,List.length_append,List.length_take,List.length_drop,n1,this];omega)
           (by simp[hct]) (aw.mono m2 (hrel1.append (iD n2))) hlfN hrfN
         have hset:(sh.set b none++[some cells]).set sh.length (some (cells.take (n*z')++(xs.flatMap aX).map .pv))=sh.set b none++[some (cells.take (n*z')++(xs.flatMap aX).map .pv)]:=by
           rw[List.set_append_right _ _ (by simp)];simp
         rw[hset]at g1;refine⟨.slice (some ⟨blk.1,0,none⟩) (n+xs.length) (n+cap),_,_,?_,?_,g1,m2,m3.trans g2⟩
         ·refine Eq.trans hrun ?_;simp only[Addr.en,Nat.zero_add,vY,Result.andThen_ok]
         · simp only[aB];refine⟨blk,cap-xs.length,by simp[Gh.iF],?_,?_⟩
           · have:n+xs.length+(cap-xs.length)=n+cap:=by omega
             rw[this]
           · have:n+xs.length+(cap-xs.length)=n+cap:=by omega
             rw[this];exact hroom
   ·simp at h
 ·simp at h
theorem CG{c:Call}{A:ko}{dst:Option Nat}{args:List Operand}{sz:Nat}{z:List PV}(h:bH P ns A dst (.call c)=some (.gK sz z,args)) :
   ∃x t e,c.callee=.builtin .clear∧c.args=#[x]∧args=[x]∧c.argTypes[0]?=some t∧P.underlying t=some (.slice e)∧cE P e=some sz∧cx P e=some z∧z.length=sz∧0<sz:=by
 obtain⟨callee,cargs,ctypes⟩:=c;simp only[bH]at h;split at h
 ·split at h<;>simp at h
 ·split at h<;>simp at h
 ·split at h<;>simp at h
 · split at h
   · split at h
     · rw[Option.ite_none_right_eq_some]at h;obtain⟨_,h⟩:=h;split at h
       ·simp at h
       ·split at h<;>simp at h
     ·simp at h
   ·simp at h
 · rename_i hcal;split at h
   · rename_i x e ha ht;split at h
     ·rename_i sz' z' hs hz;simp only[Option.ite_none_right_eq_some,Option.some.injEq,Prod.mk.injEq,AK.gK.injEq]at h;obtain⟨⟨h1,h2⟩,⟨rfl,rfl⟩,rfl⟩:=h;simp only[Option.bind_eq_some_iff]at ht;obtain⟨t,ht,htu⟩:=ht;exact⟨x,t,e,rfl,by apply Array.ext';simpa using ha,rfl,ht,dD htu,hs,hz,h1,h2⟩
     ·simp at h
   ·simp at h
 · split at h
   ·split at h<;>simp at h
   ·simp at h
 · split at h
   · split at h
     ·(repeat' (split at h))<;>simp at h
     · split at h
       ·simp at h
       · split at h
         ·simp at h
         ·split at h<;>simp at h
   ·simp at h
 ·split at h<;>simp at h
 ·simp at h
theorem GH{l:Array Value}{z:List PV}{n:Nat}(hz:cf dC l.toList=some z)(hs0:0<z.length) :
   aw (num ns) G ((List.replicate n (z.map AV.pv)).flatten) (Builtin.zeroCells l n).toList∧((List.replicate n (z.map AV.pv)).flatten).all cN=true∧∀k,((List.replicate n (z.map AV.pv)).flatten).all (aK k)=true:=by
 obtain⟨zr,zl⟩:=kQ (G:=G) (ρ:=num ns) hz;have hzs:l.size=z.length:=by have:=gB hz;simp at this;omega
 refine⟨?_,?_,?_⟩
 · refine jc (by simp[Builtin.zeroCells,hzs]) fun j x v hx hv=>?_;have hlt:j<n*z.length:=by have:=(List.getElem?_eq_some_iff.1 hx).1;simpa using this
   rw[dM _ _ _ (by simpa using hlt)]at hx;obtain⟨v',g1,g2⟩:=zr.get hx
   have:v=v':=by
     simp only[Builtin.zeroCells,Array.toList_map,List.getElem?_map,Array.toList_range,Option.map_eq_some_iff]at hv;obtain⟨j',hj',hv⟩:=hv;rw[List.getElem?_range (by rw[hzs];exact hlt)]at hj';cases hj';simp only[List.length_map]at g1;rw[hzs]at hv;have hm:j % z.length<l.size:=by rw[hzs];exact Nat.mod_lt _ hs0
     rw[getElem!_pos l (j % z.length) hm]at hv;have g1':l[j % z.length]?=some v':=by simpa using g1
     rw[Array.getElem?_eq_getElem hm]at g1';simp at g1';rw[←hv,g1']
   subst this;exact g2
 ·rw[List.all_eq_true]at *;intro x hx;simp only[List.mem_flatten,List.mem_replicate]at hx;obtain⟨l,⟨_,rfl⟩,hx⟩:=hx;exact zl x hx
 ·intro k;have:=xF k z;rw[List.all_eq_true]at *;intro x hx;simp only[List.mem_flatten,List.mem_replicate]at hx;obtain⟨l,⟨_,rfl⟩,hx⟩:=hx;exact this x hx
theorem xG{argTypes:Array TypeId}{type t e sz:Nat}{z:List PV}{x:AV}{v:Value}{mem:List (Nat×List AV)}{sh sh':Sh}{aa:aG}
   (h0:argTypes[0]?=some t) (hu:P.underlying t=some (.slice e)) (hz:cx P e=some z) (hzl:z.length=sz) (hs0:0<sz)
   (hx:aB (num ns) G x v) (hi:Inv (num ns) G w mem sh aa) (h:nR sz z sh (s_ sz x)=some sh') :
   ∃w',(Builtin.clear_ argTypes type #[v]).run P w=.ok (.tuple #[]) w'∧Inv (num ns) G w' mem sh' aa∧bK G w G w':=by
 cases hsub:s_ sz x with
 |none=>rw[hsub]at h;simp[nR]at h
 |some q=>
   obtain⟨b,off,n⟩:=q;rw[hsub]at h
   have hv:∃blk base cap,G.sm b=some blk∧v=.slice base n cap∧(n=0∨base=some ⟨blk.1,off,none⟩):=by
     unfold s_ at hsub;split at hsub
     ·simp only[Option.ite_none_right_eq_some,Option.some.injEq,Prod.mk.injEq]at hsub;obtain⟨rfl,rfl,rfl,rfl⟩:=hsub;simp only[aB]at hx;obtain⟨blk,cap,e1,e2,_⟩:=hx;exact⟨blk,_,_,e1,e2,.inr rfl⟩
     ·simp only[Option.some.injEq,Prod.mk.injEq]at hsub;obtain⟨rfl,rfl,rfl⟩:=hsub;simpa only[aB] using hx
     ·simp at hsub
   obtain⟨blk,base,cap,hsm,rfl,hbase⟩:=hv;simp only[nR]at h;split at h
   · rename_i cells hcs;simp only[Option.ite_none_right_eq_some,Option.some.injEq]at h;obtain⟨⟨hmb,hle,_⟩,rfl⟩:=h;by_cases hn:n=0
     · subst hn;have e1:aQ cells off ((List.replicate 0 (z.map AV.pv)).flatten)=cells:=by simp[aQ]
       have e2:sh.set b (some cells)=sh:=by
         apply List.ext_getElem?
         intro j;rw[List.getElem?_set];split
         · rename_i e;subst e;split
           ·exact hcs.symm
           ·rename_i hj;rw[List.getElem?_eq_none (by omega)]at hcs;simp at hcs
         ·rfl
       rw[e1,e2];refine⟨w,?_,hi,bK.refl G w⟩;cases base<;>simp[Builtin.clear_,h0,run_underlying hu]
     · have hb:=hbase.resolve_left hn;subst hb;obtain⟨blk',hp',hblk,hlf,hrf⟩:=hi.dq _ _ hcs;rw[hsm]at hp';cases hp';obtain⟨_,c,ty,us,suf,hh,hcz,hsp,hrel⟩:=hblk.cells hmb;have hul:us.length=cells.length:=hrel.length;obtain⟨zv,hz1,hz2⟩:=gC (P:=P) (w:=w) hz;have hz0:0<z.length:=(by omega);obtain⟨zr,zl,zf⟩:=GH (ns:=ns) (G:=G) (n:=n) hz2 hz0;have hone:∀u∈(Builtin.zeroCells zv.cells n).toList,u.oneCell'=true:=kP zr (jb zl);have hzn:(Builtin.zeroCells zv.cells n).toList.length=n*sz:=(by rw[zr.length];simp[hzl]);have hcl:c.toList.length=us.length+suf.length:=(by rw[hsp];simp);have hcl':c.size=us.length+suf.length:=(by simpa using hcl);have vY:=run_storeCells_at (P:=P) blk.1 off ty (Builtin.zeroCells zv.cells n).toList 0 c w hh (by rw[hzn];omega) hone;simp only[Nat.add_zero]at vY;have hctt:c.toList.take off=us.take off:=by rw[hsp,List.take_append_of_le_length (by omega)]
       have hcd:c.toList.drop (off+(Builtin.zeroCells zv.cells n).toList.length)=us.drop (off+(Builtin.zeroCells zv.cells n).toList.length)++suf:=by
         rw[hsp,List.drop_append_of_le_length (by rw[hzn];omega)]
       have hleaf:(aQ cells off ((List.replicate n (z.map AV.pv)).flatten)).all cN=true:=by
         rw[List.all_eq_true]at *;intro y hy;simp only[aQ,List.mem_append]at hy;rcases hy with (hy|hy)|hy
         ·exact hlf y (List.mem_of_mem_take hy)
         ·exact zl y hy
         ·exact hlf y (List.mem_of_mem_drop hy)
       have hrefs:(aQ cells off ((List.replicate n (z.map AV.pv)).flatten)).all (aK (b+1))=true:=by
         have zf':=zf (b+1);rw[List.all_eq_true]at *;intro y hy;simp only[aQ,List.mem_append]at hy;rcases hy with (hy|hy)|hy
         ·exact hrf y (List.mem_of_mem_take hy)
         ·exact zf' y hy
         ·exact hrf y (List.mem_of_mem_drop hy)
       have hrel':aw (num ns) G (aQ cells off ((List.replicate n (z.map AV.pv)).flatten)) (us.take off++(Builtin.zeroCells zv.cells n).toList++us.drop (off+(Builtin.zeroCells zv.cells n).toList.length)):=fp off hrel zr
       obtain⟨g1,g2⟩:=hi.oX (cells':=aQ cells off ((List.replicate n (z.map AV.pv)).flatten)) (c':=(c.toList.take off++(Builtin.zeroCells zv.cells n).toList++c.toList.drop (off+(Builtin.zeroCells zv.cells n).toList.length)).toArray)
         (vs:=us.take off++(Builtin.zeroCells zv.cells n).toList++us.drop (off+(Builtin.zeroCells zv.cells n).toList.length)) (suf:=suf) hcs hsm hh (by
           simp only[List.size_toArray,List.length_append,List.length_take,List.length_drop,hzn,hcl];rw[←hcz,hcl'];omega)
         (by simp only[hctt,hcd,List.append_assoc]) hrel' hleaf hrefs
       refine⟨_,?_,g1,g2⟩;cases n with
       |zero=>exact absurd rfl hn
       |succ n=>
         simp only[Builtin.clear_,h0];simp[run_underlying hu,hz1,vY]
   ·simp at h
end
end Go.Ab
namespace Go.Ab
section
variable {P:Program} {ns:Names} {G:Gh} {w:World} {A:ko}
theorem sd{els:List PV}{base:Option Addr}{len cap sz k:Nat}(hr:Rel G.K (.au els) (.slice base len cap))(hs:bf sz els=true)(hk:k≤els.length) :
   ∃vss:List Value,vss.length=k*sz∧dL G.K ((els.take k).flatMap aX) vss∧(∀u∈vss,u.oneCell'=true) ∧
     ∀w:World,(∀b o u,G.K b o=some u→w.cell? ⟨b,o,none⟩=some u)→(Builtin.firstCells sz k (.slice base len cap)).run P w=.ok vss.toArray w:=by
 obtain⟨base',len',cap',e,_,hlen,hrow'⟩:=cd.1 hr;cases e;by_cases hnil:els=[]
 · subst hnil;have:k=0:=by simpa using hk
   subst this;refine⟨[],by simp,by simp[dL],by simp,fun w _=>?_⟩;cases base with
   |none=>simp[Builtin.firstCells]
   |some a=>simp[Builtin.firstCells,loadCells,loadCellsFrom]
 ·obtain⟨b,o,sz',rfl,hrow⟩:=hrow'.resolve_left hnil;have:=hrow.sz hs hnil;subst this;obtain⟨vss,g1,g2,g3,g4⟩:=(hrow.take k).tE;rw[List.length_take,Nat.min_eq_left hk]at g1;refine⟨vss,g1,g3,g4,fun w hk=>?_⟩;have hl:=run_loadCells_list (P:=P) w ⟨b,o,none⟩ vss (fun j u hj=>by rw[Addr.en];exact hk _ _ _ (g2 j u hj));rw[g1]at hl;simpa[Builtin.firstCells] using hl
theorem zN{argTypes:Array TypeId}{type t e sz k:Nat}{xs:List PV}{x y:AV}{v u:Value}{mem:List (Nat×List AV)}{sh sh':Sh}{aa:aG}
   (h0:argTypes[0]?=some t) (hu:P.underlying t=some (.slice e)) (hsz:cE P e=some sz)
   (hx:aB (num ns) G x v) (hy:aB (num ns) G y u) (hi:Inv (num ns) G w mem sh aa) (hxs:cJ y=some xs) (h:oS sz sh xs x=some (k,sh')) :
   ∃w',(Builtin.copy_ argTypes type #[v,u]).run P w=.ok (.int .i64 k) w'∧Inv (num ns) G w' mem sh' aa∧bK G w G w':=by
 obtain⟨xb,xc,rfl⟩:=jO hxs hy;have hrx:=eo hxs hy;unfold oS at h;split at h
 · rename_i b z n _;split at h
   · rename_i cells hcs;simp only[Option.ite_none_right_eq_some,Option.some.injEq,Prod.mk.injEq]at h;obtain⟨⟨rfl,hhx,hmb,hle⟩,rfl,rfl⟩:=h;simp only[aB]at hx;obtain⟨blk,cap,hsm,rfl,_⟩:=hx;have hkx:min xs.length n≤xs.length:=Nat.min_le_left _ _;have hkn:min xs.length n≤n:=Nat.min_le_right _ _;obtain⟨new,n1,n2,n3,n4⟩:=sd (P:=P) hrx hhx hkx
     have htk:xs.take (min xs.length n)=xs.take n:=by
       rcases Nat.le_total xs.length n with h|h
       ·rw[Nat.min_eq_left h,List.take_of_length_le h,List.take_of_length_le (Nat.le_refl _)]
       ·rw[Nat.min_eq_right h]
     rw[htk]at n2;generalize hk:min xs.length n=k at *;have hleafN:(((xs.take n).flatMap aX).map AV.pv).all cN=true:=zM (kB n2)
     have hrefsN:∀k,(((xs.take n).flatMap aX).map AV.pv).all (aK k)=true:=by
       intro k;rw[List.all_eq_true];intro x hx;obtain⟨p,_,rfl⟩:=List.mem_map.1 hx;rfl
     have hrelN:aw (num ns) G (((xs.take n).flatMap aX).map .pv) new:=iD n2;obtain⟨blk',hp',hblk,hlf,hrf⟩:=hi.dq _ _ hcs;rw[hsm]at hp';cases hp';obtain⟨_,c,ty,us,suf,hh,hcz,hsp,hrel⟩:=hblk.cells hmb;have hul:us.length=cells.length:=hrel.length;have hkz:k*z≤n*z:=Nat.mul_le_mul_right z hkn;have hcl:c.toList.length=us.length+suf.length:=(by rw[hsp];simp);have hcl':c.size=us.length+suf.length:=(by simpa using hcl);have vY:=run_storeCells_at (P:=P) blk.1 0 ty new 0 c w hh (by rw[n1];omega) n3;simp only[Nat.add_zero]at vY;have hctt:c.toList.take 0=us.take 0:=by simp
     have hcd:c.toList.drop (0+new.length)=us.drop (0+new.length)++suf:=by
       rw[hsp,List.drop_append_of_le_length (by rw[n1];omega)]
     have hleaf:(aQ cells 0 (((xs.take n).flatMap aX).map AV.pv)).all cN=true:=by
       rw[List.all_eq_true]at *;intro y hy;simp only[aQ,List.mem_append]at hy;rcases hy with (hy|hy)|hy
       ·exact hlf y (List.mem_of_mem_take hy)
       ·exact hleafN y hy
       ·exact hlf y (List.mem_of_mem_drop hy)
     have hrefs:(aQ cells 0 (((xs.take n).flatMap aX).map AV.pv)).all (aK (b+1))=true:=by
       have zf':=hrefsN (b+1);rw[List.all_eq_true]at *;intro y hy;simp only[aQ,List.mem_append]at hy;rcases hy with (hy|hy)|hy
       ·exact hrf y (List.mem_of_mem_take hy)
       ·exact zf' y hy
       ·exact hrf y (List.mem_of_mem_drop hy)
     have hrel':=fp 0 hrel hrelN
     obtain⟨g1,g2⟩:=hi.oX (cells':=aQ cells 0 (((xs.take n).flatMap aX).map AV.pv)) (c':=(c.toList.take 0++new++c.toList.drop (0+new.length)).toArray)
       (vs:=us.take 0++new++us.drop (0+new.length)) (suf:=suf) hcs hsm hh (by
         simp only[List.size_toArray,List.length_append,List.length_take,List.length_drop,n1,hcl];rw[←hcz,hcl'];omega)
       (by simp only[hctt,hcd,List.append_assoc]) hrel' hleaf hrefs
     refine⟨_,?_,g1,g2⟩;have hmin:Nat.min xs.length n=k:=hk;have hl:=n4 w hi.known;simp[Builtin.copy_,h0,run_underlying hu,Builtin.lenOf,hmin,di hsz,hl,vY,goInt]
   ·simp at h
 ·simp at h
theorem GI{c:Call}{dst:Option Nat}{args:List Operand}{sz:Nat}(h:bH P ns A dst (.call c)=some (.jK sz,args)) :
   ∃x y t e t1 e1,c.callee=.builtin .copy∧c.args=#[x,y]∧args=[x,y]∧c.argTypes[0]?=some t∧c.argTypes[1]?=some t1∧P.underlying t=some (.slice e)∧P.underlying t1=some (.slice e1)∧cE P e=some sz:=by
 obtain⟨callee,cargs,ctypes⟩:=c;simp only[bH]at h
 repeat' (split at h)
 all_goals try (simp at h;done)
 rename_i x y e e1 ha ht ht1 _ sz' hs;simp only[Option.some.injEq,Prod.mk.injEq,AK.jK.injEq]at h;obtain⟨rfl,rfl⟩:=h;simp only[Option.bind_eq_some_iff]at ht ht1;obtain⟨t,ht,htu⟩:=ht;obtain⟨t1,ht1,htu1⟩:=ht1;exact⟨x,y,t,e,t1,e1,rfl,by apply Array.ext';simpa using ha,rfl,ht,ht1,dD htu,dD htu1,hs⟩
end
end Go.Ab
namespace Go.Ab
section
variable {P:Program} {ns:Names} {A:ko} {dst:Option Nat} {op:Op} {args:List Operand}
theorem zQ{k o sz:Nat}{ag:Bool}(h:bH P ns A dst op=some (.bY k o sz ag,args)) :
   ∃t tx,op=.load t (.tmp tx)∧args=[.tmp tx]∧cE P t=some sz∧hZ P t=some ag:=by
 cases op<;>simp only[bH]at h
 all_goals (repeat' (split at h))
 all_goals (try (simp at h;done))
 all_goals
   simp only[Option.some.injEq,Prod.mk.injEq,AK.bY.injEq]at h;obtain⟨⟨rfl,rfl,rfl,rfl⟩,rfl⟩:=h;exact⟨_,_,rfl,rfl,by assumption,by assumption⟩
theorem zR{sz:Nat}{ag:Bool}(h:bH P ns A dst op=some (.d7 sz ag,args)) :
   ∃t tx,op=.load t (.tmp tx)∧args=[.tmp tx]∧cE P t=some sz∧hZ P t=some ag:=by
 cases op<;>simp only[bH]at h
 all_goals (repeat' (split at h))
 all_goals (try (simp at h;done))
 all_goals
   simp only[Option.some.injEq,Prod.mk.injEq,AK.d7.injEq]at h;obtain⟨⟨rfl,rfl⟩,rfl⟩:=h;exact⟨_,_,rfl,rfl,by assumption,by assumption⟩
theorem xH{k o sz:Nat}(h:bH P ns A dst op=some (.bC k o sz,args)) :
   ∃t tx v,op=.store t (.tmp tx) v∧args=[.tmp tx,v]∧cE P t=some sz:=by
 cases op<;>simp only[bH]at h
 all_goals (repeat' (split at h))
 all_goals (try (simp at h;done))
 all_goals
   simp only[Option.some.injEq,Prod.mk.injEq,AK.bC.injEq]at h;obtain⟨⟨rfl,rfl,rfl⟩,rfl⟩:=h;exact⟨_,_,_,rfl,rfl,by assumption⟩
theorem xI{sz:Nat}(h:bH P ns A dst op=some (.fK sz,args)) :
   ∃t tx v,op=.store t (.tmp tx) v∧args=[.tmp tx,v]∧cE P t=some sz:=by
 cases op<;>simp only[bH]at h
 all_goals (repeat' (split at h))
 all_goals (try (simp at h;done))
 all_goals
   simp only[Option.some.injEq,Prod.mk.injEq,AK.fK.injEq]at h;obtain⟨rfl,rfl⟩:=h;exact⟨_,_,_,rfl,rfl,by assumption⟩
theorem zT{k:Nat}{z:List PV}(h:bH P ns A dst op=some (.alloc k z,args)) :
   ∃t,op=.alloc t∧args=[]∧cx P t=some z∧dst=some k:=by
 cases op<;>simp only[bH]at h
 all_goals (repeat' (split at h))
 all_goals (try (simp at h;done))
 all_goals
   simp only[Option.some.injEq,Prod.mk.injEq,AK.alloc.injEq]at h;obtain⟨⟨rfl,rfl⟩,rfl⟩:=h;exact⟨_,rfl,rfl,by assumption,rfl⟩
theorem xJ{z:List PV}(h:bH P ns A dst op=some (.jk z,args)) :
   ∃t,op=.alloc t∧args=[]∧cx P t=some z:=by
 cases op<;>simp only[bH]at h
 all_goals (repeat' (split at h))
 all_goals (try (simp at h;done))
 all_goals
   simp only[Option.some.injEq,Prod.mk.injEq,AK.jk.injEq]at h;obtain⟨rfl,rfl⟩:=h;exact⟨_,rfl,rfl,by assumption⟩
theorem GJ{k sz:Nat}(h:bH P ns A dst op=some (.box k sz,args)) :
   ∃t x,op=.box t x∧args=[x]∧cE P t=some sz∧dst=some k:=by
 cases op<;>simp only[bH]at h
 all_goals (repeat' (split at h))
 all_goals (try (simp at h;done))
 all_goals
   simp only[Option.some.injEq,Prod.mk.injEq,AK.box.injEq]at h;obtain⟨⟨rfl,rfl⟩,rfl⟩:=h;exact⟨_,_,rfl,rfl,by assumption,rfl⟩
theorem CH{sz:Nat}(h:bH P ns A dst op=some (.oQ sz,args)) :
   ∃t x,op=.box t x∧args=[x]∧cE P t=some sz:=by
 cases op<;>simp only[bH]at h
 all_goals (repeat' (split at h))
 all_goals (try (simp at h;done))
 all_goals
   simp only[Option.some.injEq,Prod.mk.injEq,AK.oQ.injEq]at h;obtain⟨rfl,rfl⟩:=h;exact⟨_,_,rfl,rfl,by assumption⟩
theorem tG{k:AK}(h:bH P ns A dst op=some (k,args))(hk:(∃sz by_ ag z,k=.jl sz by_ ag z)∨∃d sz by_ z,k=.iC d sz by_ z) :
   ∃t e l c sz by_ ag z,op=.makeSlice t l c∧args=[l,c]∧P.underlying t=some (.slice e)∧cE P e=some sz∧eW P e=some by_∧cx P e=some z∧z.length=sz∧0<sz ∧
     (k=.jl sz by_ ag z∨∃d,dst=some d∧k=.iC d sz by_ z):=by
 have hno:∀{o:NK},k≠.v o:=by rintro o rfl;rcases hk with⟨_,_,_,_,e⟩|⟨_,_,_,_,e⟩<;>cases e
 cases op with
 |makeSlice t l c=>
   simp only[bH]at h;split at h
   · rename_i e he;split at h
     · rename_i sz by_ ag z h1 h2 h3 h4;rw[Option.ite_none_right_eq_some]at h;obtain⟨⟨h5,h6⟩,h⟩:=h;split at h
       ·rename_i k' d hd;rw[Option.ite_none_right_eq_some]at h;obtain⟨_,h⟩:=h;simp only[Option.some.injEq,Prod.mk.injEq]at h;exact⟨t,e,l,c,sz,by_,ag,z,rfl,h.2.symm,dD he,h1,h2,h4,h5,h6,.inr ⟨d,rfl,h.1.symm⟩⟩
       ·simp at h
       ·simp only[Option.some.injEq,Prod.mk.injEq]at h;exact⟨t,e,l,c,sz,by_,ag,z,rfl,h.2.symm,dD he,h1,h2,h4,h5,h6,.inl h.1.symm⟩
     ·simp at h
   ·simp at h
 |_=>
   exfalso;simp only[bH]at h
   (repeat' (split at h))
   all_goals (try (simp at h;done))
   all_goals (try simp only[Option.some.injEq,Prod.mk.injEq,Option.map_eq_some_iff,Option.ite_none_right_eq_some]at h)
   all_goals (rcases hk with⟨_,_,_,_,rfl⟩|⟨_,_,_,_,rfl⟩<;>simp at h)
theorem zU{sz by_:Nat}{ag:Bool}{z:List PV}(h:bH P ns A dst op=some (.jl sz by_ ag z,args)) :
   ∃t e l c,op=.makeSlice t l c∧args=[l,c]∧P.underlying t=some (.slice e)∧cE P e=some sz∧eW P e=some by_∧cx P e=some z∧z.length=sz∧0<sz:=by
 obtain⟨t,e,l,c,sz',by',ag',z',h1,h2,h3,h4,h5,h6,h7,h8,h9⟩:=tG h (.inl ⟨_,_,_,_,rfl⟩);rcases h9 with h9|⟨d,_,h9⟩<;>cases h9;exact⟨t,e,l,c,h1,h2,h3,h4,h5,h6,h7,h8⟩
theorem zV{d sz by_:Nat}{z:List PV}(h:bH P ns A dst op=some (.iC d sz by_ z,args)) :
   ∃t e l c,op=.makeSlice t l c∧args=[l,c]∧P.underlying t=some (.slice e)∧cE P e=some sz∧eW P e=some by_∧cx P e=some z∧z.length=sz∧0<sz∧dst=some d:=by
 obtain⟨t,e,l,c,sz',by',ag',z',h1,h2,h3,h4,h5,h6,h7,h8,h9⟩:=tG h (.inr ⟨_,_,_,_,rfl⟩);rcases h9 with h9|⟨d',h0,h9⟩<;>cases h9;exact⟨t,e,l,c,h1,h2,h3,h4,h5,h6,h7,h8,h0⟩
theorem xK{sz by_:Nat}(h:bH P ns A dst op=some (.append sz by_,args)):∃c,op=.call c:=by
 cases op<;>simp only[bH]at h
 all_goals (repeat' (split at h))
 all_goals (try (simp at h;done))
 all_goals exact⟨_,rfl⟩
theorem vD{sz by_:Nat}{ag:Bool}(h:bH P ns A dst op=some (.dI sz by_ ag,args)):∃c,op=.call c:=by
 cases op<;>simp only[bH]at h
 all_goals (repeat' (split at h))
 all_goals (try (simp at h;done))
 all_goals exact⟨_,rfl⟩
theorem zW{sz:Nat}(h:bH P ns A dst op=some (.jK sz,args)):∃c,op=.call c:=by
 cases op<;>simp only[bH]at h
 all_goals (repeat' (split at h))
 all_goals (try (simp at h;done))
 all_goals exact⟨_,rfl⟩
theorem xL{sz:Nat}{z:List PV}(h:bH P ns A dst op=some (.gK sz z,args)):∃c,op=.call c:=by
 cases op<;>simp only[bH]at h
 all_goals (repeat' (split at h))
 all_goals (try (simp at h;done))
 all_goals exact⟨_,rfl⟩
theorem CI{k:AK}(hk:(match k with| .aJ _| .eE _| .bA ..| .lX _| .fJ| .ff| .clone ..| .gJ ..=>true|_=>false)=true)(h:bH P ns A dst op=some (k,args)):∃c,op=.call c:=by
 cases op<;>simp only[bH]at h
 all_goals (repeat' (split at h))
 all_goals (try (simp at h;done))
 all_goals (first|exact⟨_,rfl⟩|skip)
 all_goals (simp at h;first|(obtain⟨rfl,_⟩:=h;simp at hk;done)|(obtain⟨_,_,rfl,_⟩:=h;simp at hk;done))
end
section
variable {orc:d9} {vals:List AV} {cells:Option (List AV)} {sh:Sh} {aa:aG} {out:Out}
theorem ij{key off sz:Nat}{ag:Bool}(h:exec orc (.bY key off sz ag) vals cells sh aa=some out) :
   ∃cs x,vals=[.az key off]∧cells=some cs∧bR ag sz cs off=some x∧out=⟨x,none,sh,aa⟩:=by
 rcases vals with _|⟨v,_|⟨u,r⟩⟩
 ·simp[exec]at h
 · cases v with
   |az d o=>
     simp only[exec,Option.ite_none_right_eq_some]at h;obtain⟨⟨rfl,rfl⟩,h⟩:=h;cases cells with
     |none=>simp at h
     |some cs=>
       simp only[Option.map_eq_some_iff]at h;obtain⟨x,h1,rfl⟩:=h;exact⟨cs,x,rfl,rfl,h1,rfl⟩
   |_=>simp[exec]at h
 ·cases v<;>simp[exec]at h
theorem iG{key off sz:Nat}(h:exec orc (.bC key off sz) vals cells sh aa=some out) :
   ∃cs v,vals=[.az key off,v]∧cells=some cs∧(a_ v).length=sz∧(a_ v).all aT=true∧off+sz≤cs.length∧out=⟨.un,some (aQ cs off (a_ v)),sh,aa⟩:=by
 rcases vals with _|⟨v,_|⟨u,_|⟨_,_⟩⟩⟩
 ·simp[exec]at h
 ·cases v<;>simp[exec]at h
 · cases v with
   |az d o=>
     simp only[exec,Option.ite_none_right_eq_some]at h;obtain⟨⟨rfl,rfl,h1,h2⟩,h⟩:=h;cases cells with
     |none=>simp at h
     |some cs=>
       simp only[Option.ite_none_right_eq_some,Option.some.injEq]at h;obtain⟨h3,rfl⟩:=h;exact⟨cs,u,rfl,rfl,h1,h2,h3,rfl⟩
   |_=>simp[exec]at h
 ·cases v<;>simp[exec]at h
theorem jw{key:Nat}{z:List PV}(h:exec orc (.alloc key z) vals cells sh aa=some out) :
   vals=[]∧cells=none∧out=⟨.az key 0,some (z.map bB.zeroCell),sh,aa⟩:=by
 cases vals with
 |nil=>cases cells with
   |none=>simp[exec]at h;exact⟨rfl,rfl,h.symm⟩
   |some _=>simp[exec]at h
 |cons _ _=>simp[exec]at h
theorem l7{key sz:Nat}(h:exec orc (.box key sz) vals cells sh aa=some out) :
   ∃v,vals=[v]∧cells=none∧(a_ v).length=sz∧(a_ v).all aT=true∧out=⟨.az key 0,some (a_ v),sh,aa⟩:=by
 rcases vals with _|⟨v,_|⟨u,r⟩⟩
 ·simp[exec]at h
 · cases cells with
   |none=>
     simp only[exec,Option.ite_none_right_eq_some,Option.some.injEq]at h;obtain⟨⟨h1,h2⟩,rfl⟩:=h;exact⟨v,rfl,rfl,h1,h2,rfl⟩
   |some _=>simp[exec]at h
 ·simp[exec]at h
theorem kT{sz:Nat}{ag:Bool}(h:exec orc (.d7 sz ag) vals cells sh aa=some out) :
   ∃p x,vals=[p]∧out=⟨x,none,sh,aa⟩∧((∃cs,p=.gf cs∧cO ag sz cs=some x)∨∃b off cs,p=.aW b off∧sh[b]?=some (some cs)∧bV cs=false∧bR ag sz cs off=some x):=by
 rcases vals with _|⟨v,_|⟨u,r⟩⟩
 ·simp[exec]at h
 · simp only[exec]at h;split at h
   ·rename_i cs;simp only[Option.map_eq_some_iff]at h;obtain⟨x,h1,rfl⟩:=h;exact⟨_,x,rfl,rfl,.inl ⟨cs,rfl,h1⟩⟩
   · rename_i b off;split at h
     · rename_i cs hcs;split at h
       ·cases h
       ·rename_i hm;simp only[Option.map_eq_some_iff]at h;obtain⟨x,h1,rfl⟩:=h;exact⟨_,x,rfl,rfl,.inr ⟨b,off,cs,rfl,hcs,by simpa using hm,h1⟩⟩
     ·simp at h
   ·simp at h
 ·simp[exec]at h
theorem iH{sz:Nat}(h:exec orc (.fK sz) vals cells sh aa=some out) :
   ∃b off v cs,vals=[.aW b off,v]∧sh[b]?=some (some cs)∧bV cs=false∧(cv v).length=sz∧off+sz≤cs.length∧(cv v).all cN=true∧(cv v).all (aK (b+1))=true ∧
     out=⟨.un,none,sh.set b (some (aQ cs off (cv v))),aa⟩:=by
 rcases vals with _|⟨v,_|⟨u,_|⟨_,_⟩⟩⟩
 ·simp[exec]at h
 ·cases v<;>simp[exec]at h
 · cases v with
   |aW b off=>
     simp only[exec]at h;split at h
     ·rename_i cs hcs;simp only[Option.ite_none_right_eq_some,Option.some.injEq]at h;obtain⟨⟨h0,h1,h2,h3,h4⟩,rfl⟩:=h;exact⟨b,off,u,cs,rfl,hcs,h0,h1,h2,h3,h4,rfl⟩
     ·simp at h
   |_=>simp[exec]at h
 ·cases v<;>simp[exec]at h
theorem mS{sz:Nat}(h:exec orc (.oQ sz) vals cells sh aa=some out) :
   ∃v,vals=[v]∧(cv v).length=sz∧(cv v).all cN=true∧(cv v).all (aK sh.length)=true∧out=⟨.aW sh.length 0,none,sh++[some (cv v)],aa⟩:=by
 rcases vals with _|⟨v,_|⟨u,r⟩⟩
 ·simp[exec]at h
 ·simp only[exec,Option.ite_none_right_eq_some,Option.some.injEq]at h;obtain⟨⟨h1,h2,h3⟩,rfl⟩:=h;exact⟨v,rfl,h1,h2,h3,rfl⟩
 ·simp[exec]at h
theorem jQ{z:List PV}(h:exec orc (.jk z) vals cells sh aa=some out):vals=[]∧out=⟨.aW sh.length 0,none,sh++[some (z.map bB.zeroCell)],aa⟩:=by
 cases vals with
 |nil=>simp[exec]at h;exact⟨rfl,h.symm⟩
 |cons _ _=>simp[exec]at h
theorem kU{sz by_:Nat}{ag:Bool}{z:List PV}(h:exec orc (.jl sz by_ ag z) vals cells sh aa=some out) :
   ∃k k' n,vals=[.pv (.int k n),.pv (.int k' n)]∧0≤n∧n≤9223372036854775807∧n*by_≤140737488355328∧z.length=sz ∧
     out=⟨.aP sh.length sz n.toNat ag,none,sh++[some ((List.replicate n.toNat (z.map .pv)).flatten)],aa⟩:=by
 rcases vals with _|⟨v,_|⟨u,_|⟨_,_⟩⟩⟩
 ·simp[exec]at h
 ·simp[exec]at h
 · cases v with
   |pv p=>cases p with
     |int k n=>cases u with
       |pv q=>cases q with
         |int k' n'=>
           simp only[exec,Option.ite_none_right_eq_some,Option.some.injEq]at h;obtain⟨⟨rfl,h1,h2,h3,h4⟩,rfl⟩:=h;exact⟨k,k',n,rfl,h1,h2,h3,h4,rfl⟩
         |_=>simp[exec]at h
       |_=>simp[exec]at h
     |_=>simp[exec]at h
   |_=>simp[exec]at h
 ·simp[exec]at h
theorem jx{d sz by_:Nat}{z:List PV}(h:exec orc (.iC d sz by_ z) vals cells sh aa=some out) :
   ∃k k' n,vals=[.pv (.int k n),.pv (.int k' n)]∧0≤n∧n≤9223372036854775807∧n*by_≤140737488355328∧z.length=sz∧cells=none ∧
     out=⟨.jH d n.toNat,some ((List.replicate n.toNat (z.map .pv)).flatten),sh,aa⟩:=by
 rcases vals with _|⟨v,_|⟨u,_|⟨_,_⟩⟩⟩
 ·simp[exec]at h
 ·simp[exec]at h
 · cases v with
   |pv p=>cases p with
     |int k n=>cases u with
       |pv q=>cases q with
         |int k' n'=>
           cases cells with
           |some _=>simp[exec]at h
           |none=>
           simp only[exec,Option.ite_none_right_eq_some,Option.some.injEq]at h;obtain⟨⟨rfl,h1,h2,h3,h4⟩,rfl⟩:=h;exact⟨k,k',n,rfl,h1,h2,h3,h4,rfl,rfl⟩
         |_=>simp[exec]at h
       |_=>simp[exec]at h
     |_=>simp[exec]at h
   |_=>simp[exec]at h
 ·simp[exec]at h
theorem nV{sz by_:Nat}(h:exec orc (.clone sz by_) vals cells sh aa=some out) :
   ∃x y ts,vals=[x]∧bS sz by_ (.dH []) x aa=some (y,ts)∧out=⟨y,none,sh,ts⟩:=by
 rcases vals with _|⟨v,_|⟨_,_⟩⟩
 ·simp[exec]at h
 ·simp only[exec,Option.map_eq_some_iff]at h;obtain⟨⟨y,ts⟩,h1,rfl⟩:=h;exact⟨v,y,ts,rfl,h1,rfl⟩
 ·simp[exec]at h
theorem jR{sz by_:Nat}(h:exec orc (.append sz by_) vals cells sh aa=some out) :
   ∃s x y ts,vals=[s,x]∧bS sz by_ s x aa=some (y,ts)∧out=⟨y,none,sh,ts⟩:=by
 rcases vals with _|⟨v,_|⟨u,_|⟨_,_⟩⟩⟩
 ·simp[exec]at h
 ·simp[exec]at h
 ·simp only[exec,Option.map_eq_some_iff]at h;obtain⟨⟨y,ts⟩,h1,rfl⟩:=h;exact⟨v,u,y,ts,rfl,h1,rfl⟩
 ·simp[exec]at h
theorem kV{sz:Nat}(h:exec orc (.jK sz) vals cells sh aa=some out) :
   ∃x y xs k sh',vals=[x,y]∧cJ y=some xs∧oS sz sh xs x=some (k,sh')∧out=⟨.pv (.int .i64 (k:Int)),none,sh',aa⟩:=by
 rcases vals with _|⟨v,_|⟨u,_|⟨_,_⟩⟩⟩
 ·simp[exec]at h
 ·simp[exec]at h
 · simp only[exec]at h;cases hx:cJ u with
   |none=>rw[hx]at h;simp at h
   |some xs=>
     rw[hx]at h;simp only[Option.map_eq_some_iff]at h;obtain⟨⟨k,sh'⟩,h1,rfl⟩:=h;exact⟨v,u,xs,k,sh',rfl,hx,h1,rfl⟩
 ·simp[exec]at h
theorem rq{sz:Nat}{z:List PV}(h:exec orc (.gK sz z) vals cells sh aa=some out) :
   ∃x sh',vals=[x]∧nR sz z sh (s_ sz x)=some sh'∧out=⟨.qW [],none,sh',aa⟩:=by
 rcases vals with _|⟨v,_|⟨u,_⟩⟩
 ·simp[exec]at h
 ·simp only[exec,Option.map_eq_some_iff]at h;obtain⟨sh',h1,rfl⟩:=h;exact⟨v,sh',rfl,h1,rfl⟩
 ·simp[exec]at h
theorem kW{sz by_:Nat}{ag:Bool}(h:exec orc (.dI sz by_ ag) vals cells sh aa=some out) :
   ∃s x xs y sh',vals=[s,x]∧cJ x=some xs∧bf sz xs=true∧rZ sz by_ ag s xs sh aa=some (y,sh')∧out=⟨y,none,sh',aa⟩:=by
 rcases vals with _|⟨v,_|⟨u,_|⟨_,_⟩⟩⟩
 ·simp[exec]at h
 ·simp[exec]at h
 · simp only[exec]at h;split at h
   ·rename_i xs hxs;simp only[Option.ite_none_right_eq_some,Option.map_eq_some_iff]at h;obtain⟨h0,⟨y,sh'⟩,h1,rfl⟩:=h;exact⟨v,u,xs,y,sh',rfl,hxs,h0,h1,rfl⟩
   ·simp at h
 ·simp[exec]at h
end
end Go.Ab
namespace Go.Ab
section
variable {P:Program} {ns:Names} {G:Gh} {w:World}
def AK.calls:AK→Bool
 | .aJ _| .eE _| .bA ..| .lX _| .fJ| .ff| .clone ..| .gJ ..=>true
 |_=>false
theorem fF{mem:List (Nat×List AV)}(k:Option Nat):e8 mem k none=mem:=by cases k<;>rfl
theorem ru{v:AV}{rv:Value}(h:aB (num ns) G v rv)(hl:(cv v).all aT=true):aw (num ns) G (cv v) rv.cells.toList:=by
 cases v with
 |dH l=>exact aB.cells (x:=.dH l) h hl
 |own l τ=>exact aB.cells (x:=.own l τ) h hl
 |_=>
   simp only[cv]at hl⊢;split
   ·rename_i p hp;simp only[hp]at hl;exact aB.cells (by simp only[aB];exact xB hp h) hl
   ·rename_i hp;simp only[hp]at hl;exact h.cells hl
theorem cP{mem:List (Nat×List AV)}{sh:Sh}{aa:aG}{s:Sem Value}{s':Sem Next}{x:AV}{v:Value}{w':World}{G':Gh}(hs:s'=(do pure (.value (←s))))(h1:s.run P w=.ok v w')(h2:aB (num ns) G' x v)
   (h3:Inv (num ns) G' w' mem sh aa) (h4:G.le G') (h5:bK G w G' w'):Te ns P G w mem sh aa s' x:=
 ⟨.value v,v,w',G',by rw[hs];simp only[Sem.run_bind,h1,Result.andThen_ok,Sem.run_pure],.inl rfl,h2,h3,h4,h5⟩
theorem ry{A:ko}{o:Oper}{k:AK}{args:List Operand}{orc:d9}(hc:bH P ns A o.dst o.op=some (k,args))(hk:k.calls=false){a:Act}{vals:List AV}{out:Out}
   {mem:List (Nat×List AV)} {sh:Sh} {aa:aG} (hr:aw (num ns) G vals (args.map a.eval)) (hi:Inv (num ns) G w mem sh aa)
   (h:exec orc k vals (k.key.bind (look mem)) sh aa=some out) :
   Te ns P G w (e8 mem k.key out.cells) out.sh out.aa (execOp a.eval o) out.val:=by
 obtain⟨dst,op,type,pos,after,guard⟩:=o;cases k with
 |v vo=>
   simp only[exec,Option.map_eq_some_iff]at h;obtain⟨x,h1,rfl⟩:=h;obtain⟨v,w',G',g1,g2,g3,g4,g5⟩:=zH hc hr hi h1;exact⟨.value v,v,w',G',g1,.inl rfl,g2,by simpa[fF] using g3,g4,g5⟩
 |aJ g=>simp[AK.calls]at hk
 |eE g=>simp[AK.calls]at hk
 |bA g own=>simp[AK.calls]at hk
 |lX g=>simp[AK.calls]at hk
 |fJ=>simp[AK.calls]at hk
 |ff=>simp[AK.calls]at hk
 |clone sz by_=>simp[AK.calls]at hk
 |gJ sz by_ ag=>simp[AK.calls]at hk
 |Fu=>first|(simp[exec]at h;done)|(simp[exec]at e;done)|(simp[exec];done)
 |s9 c ok z=>first|(simp[exec]at h;done)|(simp[exec]at e;done)|(simp[exec];done)
 |NM c=>first|(simp[exec]at h;done)|(simp[exec]at e;done)|(simp[exec];done)
 |bY key off sz ag=>
   obtain⟨t,tx,rfl,rfl,hsz,hag⟩:=zQ hc;obtain⟨cs,x,rfl,hcs,hx,rfl⟩:=ij h;simp only[AK.key,Option.bind_some]at hcs;obtain⟨x',e,h1⟩:=ck (by simpa using hr);cases e;simp only[aB]at h1;obtain⟨b,hp,hv⟩:=h1;obtain⟨b',hp',hblk,_⟩:=hi.cT _ _ hcs;rw[hp]at hp';cases hp';obtain⟨_,c,ty,hh,hrel⟩:=hblk;obtain⟨u,g1,g2⟩:=fE (w:=w) hsz hag hx hrel (gk hh);refine cP (s:=Instr.loadAt t (a.eval (.tmp tx))) (v:=u) (w':=w) rfl ?_ g2 (by simpa[fF] using hi) G.le_refl (bK.refl G w);rw[hv];simp[Instr.loadAt,Instr.sureAddr,g1]
 |d7 sz ag=>
   obtain⟨t,tx,rfl,rfl,hsz,hag⟩:=zR hc;obtain⟨p,x,rfl,rfl,hor⟩:=kT h;obtain⟨x',e,h1⟩:=ck (by simpa using hr);cases e;rcases hor with⟨cs,rfl,hx⟩|⟨s,off,cs,rfl,hcs,hx⟩
   ·simp only[aB]at h1;obtain⟨b,o,vs,hv,ha,hrl⟩:=h1;obtain⟨u,g1,g2⟩:=nF (ns:=ns) (w:=w) hsz hag hx hrl (fun j v hj=>hi.known _ _ _ (ha j v hj));refine cP (s:=Instr.loadAt t (a.eval (.tmp tx))) (v:=u) (w':=w) rfl ?_ g2 (by simpa[fF] using hi) G.le_refl (bK.refl G w);rw[hv];simp[Instr.loadAt,Instr.sureAddr,g1]
   ·obtain⟨hmb,hx⟩:=hx;simp only[aB]at h1;obtain⟨b,hp,hv⟩:=h1;obtain⟨b',hp',hblk,_⟩:=hi.dq _ _ hcs;rw[hp]at hp';cases hp';obtain⟨_,c,ty,vs,suf,hh,_,hsp,hrel⟩:=hblk.cells hmb;obtain⟨u,g1,g2⟩:=fE (w:=w) hsz hag hx hrel (oV hh hsp);refine cP (s:=Instr.loadAt t (a.eval (.tmp tx))) (v:=u) (w':=w) rfl ?_ g2 (by simpa[fF] using hi) G.le_refl (bK.refl G w);rw[hv];simp[Instr.loadAt,Instr.sureAddr,g1]
 |bC key off sz=>
   obtain⟨t,tx,v,rfl,rfl,hsz⟩:=xH hc;obtain⟨cs,x,rfl,hcs,hl,hlf,hle,rfl⟩:=iG h;simp only[AK.key,Option.bind_some]at hcs;obtain⟨x1,x2,e,h1,h2⟩:=dw (by simpa using hr);cases e;simp only[aB]at h1;obtain⟨b,hp,hv⟩:=h1;obtain⟨b',hp',hblk,hcl⟩:=hi.cT _ _ hcs;rw[hp]at hp';cases hp';obtain⟨_,c,ty,hh,hrel⟩:=hblk;have hcells:=h2.cells hlf;have hcsz:(a.eval v).cells.size=sz:=by have:=hcells.length;simp at this;omega
   have hsize:=hrel.length;simp at hsize;have hrun:=oY (P:=P) (w:=w) hsz hcsz hh (off:=off) (by omega) (kP hcells hlf)
   obtain⟨g1,g2⟩:=hi.GB (cells':=aQ cs off (a_ x)) hcs hp (c':=(c.toList.take off++(a.eval v).cells.toList++c.toList.drop (off+(a.eval v).cells.toList.length)).toArray)
     (by simpa using fp off hrel hcells) (i_ hcl hlf)
   refine⟨.skip,undef,_,G,?_,.inr ⟨rfl,rfl⟩,by simp[aB],g1,G.le_refl,g2⟩;simp[execOp,hv,Instr.storeAt,Instr.sureAddr,hrun]
 |fK sz=>
   obtain⟨t,tx,v,rfl,rfl,hsz⟩:=xI hc;obtain⟨s,off,x,cs,rfl,hcs,hmb,hl,hle,hlf,hrf,rfl⟩:=iH h;obtain⟨x1,x2,e,h1,h2⟩:=dw (by simpa using hr);cases e;simp only[aB]at h1;obtain⟨b,hp,hv⟩:=h1;obtain⟨b',hp',hblk,hcl,hcr⟩:=hi.dq _ _ hcs;rw[hp]at hp';cases hp';obtain⟨_,c,ty,vs,suf,hh,hcz,hsp,hrel⟩:=hblk.cells hmb;have hcells:=ru h2 (jb hlf);have hcsz:(a.eval v).cells.size=sz:=by have:=hcells.length;simp at this;omega
   have hsize:=hrel.length;have hcl2:c.size=vs.length+suf.length:=(by rw[←Array.length_toList,hsp,List.length_append]);have hnl:(a.eval v).cells.toList.length=sz:=(by simpa using hcsz);have hrun:=oY (P:=P) (w:=w) hsz hcsz hh (off:=off) (by omega) (kP hcells (jb hlf))
   obtain⟨g1,g2⟩:=hi.oX (cells':=aQ cs off (cv x)) hcs hp hh (c':=(c.toList.take off++(a.eval v).cells.toList++c.toList.drop (off+(a.eval v).cells.toList.length)).toArray)
     (suf:=suf) (vs:=vs.take off++(a.eval v).cells.toList++vs.drop (off+(a.eval v).cells.toList.length))
     (by rw[←hcz];simp;omega)
     (by
       show c.toList.take off++(a.eval v).cells.toList++c.toList.drop (off+(a.eval v).cells.toList.length)=_;rw[hsp,List.take_append_of_le_length (by omega),List.drop_append_of_le_length (by omega)];simp[List.append_assoc])
     (fp off hrel hcells) (i_ hcl hlf) (i_ hcr hrf)
   refine⟨.skip,undef,_,G,?_,.inr ⟨rfl,rfl⟩,by simp[aB],by simpa[AK.key,e8] using g1,G.le_refl,g2⟩;simp[execOp,hv,Instr.storeAt,Instr.sureAddr,hrun]
 |xt sz=>first|(simp[exec]at h;done)|(simp[exec]at e;done)|(simp[exec];done)
 |alloc key z=>
   obtain⟨t,rfl,rfl,hz,rfl⟩:=zT hc;obtain⟨rfl,hcs,rfl⟩:=jw h;simp only[AK.key,Option.bind_some]at hcs;obtain⟨zv,hz1,hz2⟩:=gC (P:=P) (w:=w) hz;obtain⟨zr,zl⟩:=iz (G:=G) (ρ:=num ns) hz2;obtain⟨g1,g2,g3⟩:=hi.qg (c:=zv.cells) t hcs zr zl;refine cP (s:=Instr.alloc t true (.tuple #[])) (v:=.pointer (some ⟨w.heap.size,0,none⟩)) rfl ?_ ?_ g1 g2 g3
   ·simp only[Instr.alloc,Sem.run_bind,hz1,Result.andThen_ok,ig,Sem.run_pure]
   ·simp only[aB];exact⟨_,by simp[Gh.cY],rfl⟩
 |box key sz=>
   obtain⟨t,y,rfl,rfl,hsz,rfl⟩:=GJ hc;obtain⟨x,rfl,hcs,hl,hlf,rfl⟩:=l7 h;simp only[AK.key,Option.bind_some]at hcs;obtain⟨x',e,h1⟩:=ck (by simpa using hr);cases e;have hcells:=h1.cells hlf;obtain⟨g1,g2,g3⟩:=hi.qg (c:=(a.eval y).cells) t hcs hcells hlf;refine cP (s:=Instr.box t (a.eval y)) (v:=.pointer (some ⟨w.heap.size,0,none⟩)) rfl ?_ ?_ g1 g2 g3
   ·simp only[Instr.box,Sem.run_bind,ig,Result.andThen_ok,Sem.run_pure]
   ·simp only[aB];exact⟨_,by simp[Gh.cY],rfl⟩
 |jk z=>
   obtain⟨t,rfl,rfl,hz⟩:=xJ hc;obtain⟨rfl,rfl⟩:=jQ h;obtain⟨zv,hz1,hz2⟩:=gC (P:=P) (w:=w) hz;obtain⟨zr,zl⟩:=iz (G:=G) (ρ:=num ns) hz2;obtain⟨g1,g2,g3⟩:=hi.tD (c:=zv.cells) t zr zl (GG _ z);refine cP (s:=Instr.alloc t true (.tuple #[])) (v:=.pointer (some ⟨w.heap.size,0,none⟩)) rfl ?_ ?_ g1 g2 g3
   ·simp only[Instr.alloc,Sem.run_bind,hz1,Result.andThen_ok,ig,Sem.run_pure]
   ·simp only[aB];exact⟨(w.heap.size,zv.cells.size),by simp[Gh.dr],rfl⟩
 |oQ sz=>
   obtain⟨t,y,rfl,rfl,hsz⟩:=CH hc;obtain⟨x,rfl,hl,hlf,hrf,rfl⟩:=mS h;obtain⟨x',e,h1⟩:=ck (by simpa using hr);cases e;have hcells:=ru h1 (jb hlf);obtain⟨g1,g2,g3⟩:=hi.tD (c:=(a.eval y).cells) t hcells hlf (kS (Nat.le_succ _) hrf);refine cP (s:=Instr.box t (a.eval y)) (v:=.pointer (some ⟨w.heap.size,0,none⟩)) rfl ?_ ?_ g1 g2 g3
   ·simp only[Instr.box,Sem.run_bind,ig,Result.andThen_ok,Sem.run_pure]
   ·simp only[aB];exact⟨(w.heap.size,(a.eval y).cells.size),by simp[Gh.dr],rfl⟩
 |NL sz=>first|(simp[exec]at h;done)|(simp[exec]at e;done)|(simp[exec];done)
 |jl sz by_ ag z=>
   obtain⟨t,e,l,c,rfl,rfl,hu,hsz,hby,hz,hzl,h0⟩:=zU hc;obtain⟨k,k',n,rfl,h1,h2,h3,_,rfl⟩:=kU h;obtain⟨x1,x2,e',r1,r2⟩:=dw (by simpa using hr);cases e';obtain⟨v,w',G',g1,g2,g3,g4,g5⟩:=zJ (k:=k) (k':=k') (ag:=ag) hu hsz hby hz hzl h0 h1 h2 h3 hi;refine cP (s:=Instr.makeSlice t (a.eval l) (a.eval c)) rfl ?_ g2 g3 g4 g5;rw[jP r1,jP r2];exact g1
 |iC d sz by_ z=>
   obtain⟨t,e,l,c,rfl,rfl,hu,hsz,hby,hz,hzl,h0,rfl⟩:=zV hc;obtain⟨k,k',n,rfl,h1,h2,h3,_,hcs,rfl⟩:=jx h;simp only[AK.key,Option.bind_some]at hcs;obtain⟨x1,x2,e',r1,r2⟩:=dw (by simpa using hr);cases e';obtain⟨v,w',G',g1,g2,g3,g4,g5⟩:=zL (k:=k) (k':=k') hu hsz hby hz hzl h0 h1 h2 h3 hi hcs;refine cP (s:=Instr.makeSlice t (a.eval l) (a.eval c)) rfl ?_ g2 g3 g4 g5;rw[jP r1,jP r2];exact g1
 |append sz by_=>
   obtain⟨c,rfl⟩:=xK hc;obtain⟨x,y,t,e,t1,e1,z,hcal,hargs,rfl,h0,h1,hu,hu1,hsz,hby,hz,hzl,hs0,hb0⟩:=CE hc;obtain⟨s,x',y',ts,rfl,happ,rfl⟩:=jR h;obtain⟨x1,x2,e',r1,r2⟩:=dw (by simpa using hr);cases e';obtain⟨v,w',G',g1,g2,g3,g4,g5⟩:=xE (type:=type) h0 h1 hu hu1 hsz hby hz hzl hb0 r1 r2 hi happ;refine cP (s:=Builtin.append_ c.argTypes type #[a.eval x,a.eval y]) ?_ g1 g2 g3 g4 g5;obtain⟨callee,cargs,ctypes⟩:=c;simp only at hcal hargs;subst hcal;subst hargs;simp[execOp,resolve,invoke,builtin]
 |dI sz by_ ag=>
   obtain⟨c,rfl⟩:=vD hc;obtain⟨x,y,t,e,t1,e1,z,hcal,hargs,rfl,h0,h1,hu,hu1,hsz,hby,hz,hzl,hs0,hb0⟩:=zI hc;obtain⟨s,x',xs,y',sh',rfl,hxs,hhx,happ,rfl⟩:=kW h;obtain⟨x1,x2,e',r1,r2⟩:=dw (by simpa using hr);cases e';obtain⟨v,w',G',g1,g2,g3,g4,g5⟩:=vB (type:=type) h0 h1 hu hu1 hsz hby hz hzl hb0 r1 r2 hi hxs hhx happ;refine cP (s:=Builtin.append_ c.argTypes type #[a.eval x,a.eval y]) ?_ g1 g2 g3 g4 g5;obtain⟨callee,cargs,ctypes⟩:=c;simp only at hcal hargs;subst hcal;subst hargs;simp[execOp,resolve,invoke,builtin]
 |oR sz by_=>first|(simp[exec]at h;done)|(simp[exec]at e;done)|(simp[exec];done)
 |jK sz=>
   obtain⟨c,rfl⟩:=zW hc;obtain⟨x,y,t,e,t1,e1,hcal,hargs,rfl,h0,h1,hu,hu1,hsz⟩:=GI hc;obtain⟨x',y',xs,k,sh',rfl,hxs,hcp,rfl⟩:=kV h;obtain⟨x1,x2,e',r1,r2⟩:=dw (by simpa using hr);cases e';obtain⟨w',g1,g2,g3⟩:=zN (type:=type) h0 hu hsz r1 r2 hi hxs hcp;refine cP (s:=Builtin.copy_ c.argTypes type #[a.eval x,a.eval y]) (v:=.int .i64 k) ?_ g1 (by simp only[aB];exact bW.2 rfl) g2 G.le_refl g3;obtain⟨callee,cargs,ctypes⟩:=c;simp only at hcal hargs;subst hcal;subst hargs;simp[execOp,resolve,invoke,builtin]
 |gK sz z=>
   obtain⟨c,rfl⟩:=xL hc;obtain⟨x,t,e,hcal,hargs,rfl,h0,hu,hsz,hz,hzl,hs0⟩:=CG hc;obtain⟨x',sh',rfl,hcl,rfl⟩:=rq h;obtain⟨x1,e',r1⟩:=ck (by simpa using hr);cases e';obtain⟨w',g1,g2,g3⟩:=xG (type:=type) h0 hu hz hzl hs0 r1 hi hcl;refine cP (s:=Builtin.clear_ c.argTypes type #[a.eval x]) (v:=.tuple #[]) ?_ g1 (by simp only[aB];exact⟨[],rfl,by simp[aw]⟩) g2 G.le_refl g3;obtain⟨callee,cargs,ctypes⟩:=c;simp only at hcal hargs;subst hcal;subst hargs;simp[execOp,resolve,invoke,builtin]
end
end Go.Ab
namespace Go.Ab
section
variable {P:Program} {ns:Names} {G:Gh} {w:World}
def Cl(K:bl)(w:World):Prop:=∀b o v,K b o=some v→w.cell? ⟨b,o,none⟩=some v
def nW(p:Nat→Option (Array Value))(w:World):Prop:=∀b c,p b=some c→∃t z,w.heap[b]?=some (.cells c t z)
theorem nW.below{p:Nat→Option (Array Value)}{w w':World}(h:nW p w)(hb:RowKit.Below w.heap.size w w'):nW p w':=fun b c e=>by
 obtain⟨t,z,h1⟩:=h b c e;exact⟨t,z,(hb.block b (Array.getElem?_eq_some_iff.1 h1).1).trans h1⟩
def ik(K:bl)(rs:List PV)(v:Value):Prop:=
 match rs with
 |[r]=>Rel K r v
 |rs=>∃vs:List Value,v=.tuple vs.toArray∧jo K rs vs
def cU(ρ:bQ)(G:Gh)(rs:List AV)(v:Value):Prop:=
 match rs with
 |[r]=>aB ρ G r v
 |rs=>∃vs:List Value,v=.tuple vs.toArray∧aw ρ G rs vs
def v5(P:Program)(ns:Names)(f:FuncId)(cW rs:List PV):Prop:=
 ∀(K:bl) (w:World) (vs:List Value),nW ns.kz w→Cl K w→jo K cW vs →
   Calls P f vs.toArray w fun e w'=>∃v K',e=.returned v∧ik K' rs v∧K.le K'∧(∀b o u,b<w.heap.size→K' b o=some u→K b o=some u)∧Cl K' w'∧RowKit.Below w.heap.size w w'
def Wl(P:Program)(ns:Names)(f:FuncId)(args:List AV)(ts:aG)(rs:List AV)(sh sh':Sh)(ts':aG):Prop:=
 ∀(G:Gh) (w:World) (vs:List Value),Inv (num ns) G w [] sh ts→aw (num ns) G args vs →
   Calls P f vs.toArray w fun e w'=>∃v G',e=.returned v∧cU (num ns) G' rs v∧Inv (num ns) G' w' [] sh' ts'∧bK G w G' w'
def J8(P:Program)(ns:Names)(f sz bytes:Nat):Prop:=
 ∀(o:Option Bool) (G:Gh) (w:World) (mem:List (Nat×List AV)) (sh sh':Sh) (aa toks':aG) (x y:AV) (v:Value),Inv (num ns) G w mem sh aa→aB (num ns) G x v→fR o sz bytes x sh aa=some (y,sh',toks') →
   Calls P f #[v] w fun e w'=>∃u G',e=.returned u∧aB (num ns) G' y u∧Inv (num ns) G' w' mem sh' toks'∧G.le G'∧bK G w G' w'
structure gD(P:Program)(ns:Names)(orc:d9):Prop where
 p:∀g f cW rs,ns.of f=some g→orc.p g cW=some rs→v5 P ns f cW rs
 i:∀g f args ts rs sh sh' ts',ns.of f=some g→args.all bJ=true→orc.i g args sh ts=some (rs,sh',ts')→Wl P ns f args ts rs sh sh' ts'∧rs.all bJ=true
 c:∀g sz bytes f,look ns.cl g=some (sz,bytes)→ns.of f=some g→J8 P ns f sz bytes
def eU (P:Program) (ns:Names):Prop:=∀f g,ns.of f=some g→∃fn b,P.funcs[f]?=some fn∧fn.body=some b∧fn.name ≠ "runtime.NumGoroutine"
theorem oZ{f:FuncId}{g:Nat}(hB:eU P ns)(hf:ns.of f=some g)(args:Array Value):(callFunc f args).run P w=.ok (.enter f args) w:=by
 obtain⟨fn,b,h1,h2,h3⟩:=hB f g hf;simp[callFunc,h1,h2,h3]
mutual
theorem mT{ρ:bQ}{G':Gh}(hK:G.K.le G'.K)(hs:∀s b,G.sm s=some b→G'.sm s=some b):∀{x:AV} {v:Value},bN x=true→aB ρ G x v→aB ρ G' x v
 | .pv p,_,_,h=>by simp only[aB]at h⊢;exact h.mono hK
 | .aW s o,_,_,h=>by simp only[aB]at h⊢;obtain⟨b,e,r⟩:=h;exact⟨b,hs _ _ e,r⟩
 | .aP s _ n _,_,_,h=>by simp only[aB]at h⊢;obtain⟨b,c,e,r⟩:=h;exact⟨b,c,hs _ _ e,r⟩
 | .kr,_,_,h=>by simpa only[aB] using h
 | .ku s,_,_,h=>by simp only[aB]at h⊢;obtain⟨b,e,r⟩:=h;exact⟨b,hs _ _ e,r⟩
 | .p_ ..,_,hp,_=>by simp[bN]at hp
 | .gg _,_,_,h=>by simp only[aB]at h
 | .fn g cap,_,hp,h=>by
   simp only[bN]at hp;simp only[aB]at h⊢;obtain⟨f,vs,e1,e2,r⟩:=h;exact⟨f,vs,e1,e2,qj hK hs hp r⟩
 | .un,_,hp,_=>by simp[bN]at hp
 | .dH _,_,_,h=>by simp only[aB]at h⊢;obtain⟨b,l,e,r⟩:=h;exact⟨b,l,e,r.mono hK⟩
 | .own _ _,_,hp,_=>by simp[bN]at hp
 | .agg _,_,hp,h=>by
   simp only[bN]at hp;simp only[aB]at h⊢;obtain⟨vs,e,r⟩:=h;exact⟨vs,e,qj hK hs hp r⟩
 | .qW _,_,hp,_=>by simp[bN]at hp
 | .az _ _,_,hp,_=>by simp[bN]at hp
 | .gf _,_,hp,_=>by simp[bN]at hp
theorem qj{ρ:bQ}{G':Gh}(hK:G.K.le G'.K)(hs:∀s b,G.sm s=some b→G'.sm s=some b):∀{xs:List AV} {vs:List Value},bN.iW xs=true→aw ρ G xs vs→aw ρ G' xs vs
 |[],_,_,h=>by simpa only[aw] using h
 |x::xs,_,hp,h=>by
   simp only[bN.iW,Bool.and_eq_true]at hp;simp only[aw]at h⊢;obtain⟨v,r,e,e1,e2⟩:=h;exact⟨v,r,e,mT hK hs hp.1 e1,qj hK hs hp.2 e2⟩
end
theorem Inv.pure{K':bl}{w1:World}{mem:List (Nat×List AV)}{sh:Sh}{aa:aG}(hi:Inv (num ns) G w mem sh aa)(hK:G.K.le K')(hold:∀b o u,b<w.heap.size→K' b o=some u→G.K b o=some u)
   (hk:Cl K' w1) (hb:RowKit.Below w.heap.size w w1):Inv (num ns) { G with K:=K' } w1 mem sh aa∧G.le { G with K:=K' }∧bK G w { G with K:=K' } w1:=by
 have hle:G.le { G with K:=K' }:=⟨hK,fun _ _ h=>h,fun _ _ h=>h,fun _ t h=>⟨t,h,⟨Nat.le_refl _,t.gL⟩,fun _=>rfl⟩⟩
 have hevo:bK G w { G with K:=K' } w1:={
           size:=hb.size,os:=hb.os,tape:=hb.tape,output:=hb.output,K:=hK,sm:=fun _ _ h=>h,
           ez:=fun b h hr=>⟨hr,hb.block b h⟩,iQ:=fun b τ _ hr=>.inr ⟨τ,hr⟩,gN:=fun b o v h _ hkk=>hold b o v h hkk }
 refine⟨⟨hk,?_,?_,?_,hi.gM,?_,hi.eF,?_,hi.e_,hi.ic hevo⟩,hle,hevo⟩
 · intro b o v hkk;by_cases h:b<w.heap.size
   ·exact hi.aZ b o v (hold b o v h hkk)
   ·exact .inl (hi.fresh b (by omega))
 ·intro b h;have:=hb.size;exact hi.fresh b (by omega)
 · intro d cs hd;obtain⟨b,e1,e2,e3⟩:=hi.cT d cs hd;have hlt:b<w.heap.size:=by obtain⟨_,_,_,hh,_⟩:=e2;exact cr hh
   exact⟨b,e1,e2.mono hle rfl (hb.block b hlt),e3⟩
 ·intro s cs hs;obtain⟨b,e1,e2,e3⟩:=hi.dq s cs hs;have hlt:b.1<w.heap.size:=e2.lt;exact⟨b,e1,e2.mono hle rfl (hb.block b.1 hlt),e3⟩
 ·intro τ n hn;obtain⟨t,e1,e2,e3⟩:=hi.dh τ n hn;refine⟨t,e1,e2,e3.cap,e3.zero,fun hlt=>?_⟩;obtain⟨b,o,c,ty,f1,f2,f3,f4,f5⟩:=e3.spare hlt;have hlt':=cr f3;exact⟨b,o,c,ty,f1,f2,(hb.block b hlt').trans f3,f4,fun j v hkk=>f5 j v (hold b j v hlt' hkk)⟩
end
end Go.Ab
