import GoSem.Core.Value
import GoSem.Core.Ast
import GoSem.Core.View
import Derived.Calls
import Derived.Laws.World
import Derived.Laws.Sem
import Derived.Below
import Derived.Laws.Cells
import Derived.Laws.CopyRow
import Derived.Laws.Entries
import Derived.Laws.Strings
import Derived.Laws.StructEq
import Derived.RangeFuncRecord
import Derived.Laws.IdiomStrings
import Derived.Laws.Tables
/-
  The abstract machine: pure data, abstract values, slim code, and an evaluator with fuel. Nothing here mentions a program.
  What an abstract value says of a value of the model: relations over what is known of memory for Wg.
  From the loaded program's code to slim code: types resolved, functions under their lasting numbers. 'compF' is what the kernel holds a function's slim code against.
  The relation between an abstract state and a state of the model.
  Operations on values alone: what the slim operation gives is what the model's gives.
  Parts, places, memory that is only read.
  Literals, cuts, and the rest of the operations on values.
  Comparisons of structs, and the entries of maps.
  Slices' literals and cuts; the operations on values, all together.
  Cuts of slices and strings; the operations on values, all together.
  The operations on values, all together.
  Operations with memory.
  append.
  append, run.
  The operations with memory that call nothing.
  append onto arrays that may still be written.
  The builtin copy: elements over the head of an array that may be written.
  The same strings appended once more onto a slice from before.
-/
set_option linter.unusedVariables false
set_option linter.unusedSimpArgs false
set_option linter.unnecessarySimpa false
set_option maxRecDepth 100000
set_option maxHeartbeats 8000000
namespace Go.Ab
inductive PV where
 |bool (b:Bool)
 |int (k:IntKind) (n:Int)
 |str (s:List UInt8)
 |agg (cs:List PV)
 |aw (els:List PV)
 deriving Inhabited
inductive AV where
 |un
 |pv (p:PV)
 |cY (els:List PV)
 |own (els:List PV) (tok:Nat)
 |agg (cs:List AV)
 |pJ (vs:List AV)
 |au (d off:Nat)
 |aM (b off:Nat)
 |dM (cs:List PV)
 |aT (b sz len:Nat) (ag:Bool)
 |fn (g:Nat) (cap:List AV)
 |fw
 |fR (s:Nat)
 |dB (kvs:List (PV×PV))
 |rb (b off n:Nat)
 |jJ (d n:Nat)
 deriving Inhabited
abbrev Sh:=List (Option (List AV))
abbrev aG:=List Nat
inductive eG where
 |t (n:Nat)
 |c (v:AV)
 deriving Inhabited
inductive CK where
 |int|str|bool
 deriving Inhabited,DecidableEq
inductive N2 where
 |mv|pick
 |bin (op:BinOp)
 |beq (neg:Bool)
 |un (op:UnOp)
 |conv (k:IntKind)
 |ext (i:Nat)
 |field (off sz:Nat) (ag:Bool)
 |gV (off:Nat)
 |fU (sz:Nat)
 |index
 |build (zero:List PV) (places:List (Nat×Nat))
 |dZ (sz:Nat)
 |fW (sz:Nat) (ag:Bool)
 |slice (str:Bool) (sz:Nat) (lo hi mx:Bool)
 |len|Ca|pK
 |mn|mx
 |Kb (g:Nat)
 |TX (cs:List CK) (neg:Bool)
 |Cb (sz:Nat) (lo hi:Bool)
 |b2s
 deriving Inhabited
inductive AK where
 |v (o:N2)
 |cd (key off sz:Nat) (ag:Bool)
 |bI (key off sz:Nat)
 |alloc (key:Nat) (zero:List PV)
 |box (key sz:Nat)
 |eK (sz:Nat) (ag:Bool)
 |eR (sz:Nat)
 |kX (sz:Nat)
 |re (sz:Nat)
 |su (sz:Nat)
 |iH (zero:List PV)
 |jb (sz bytes:Nat) (ag:Bool) (zero:List PV)
 |iq (key sz bytes:Nat) (zero:List PV)
 |append (sz bytes:Nat)
 |dQ (sz bytes:Nat) (ag:Bool)
 |ga (sz bytes:Nat)
 |oH
 |kz (c:CK) (ok:Bool) (zero:PV)
 |sv (c:CK)
 |clone (sz bytes:Nat)
 |jc (sz bytes:Nat) (ag:Bool)
 |jd (sz:Nat) (zero:List PV)
 |lS (sz:Nat)
 |aJ (g:Nat)
 |d0 (g:Nat)
 |bp (g:Nat) (own:List Nat)
 |je (g:Nat)
 |ir
 |eS
 deriving Inhabited
structure dN where
 dst:Option Nat
 guard:Option (Nat×Bool)
 args:List eG
 op:AK
 deriving Inhabited
inductive ae where
 |skip
 |oG (ops:List dN) (live:List Nat)
 |seq (a b:ae)
 |cond (c:eG) (a b:ae)
 |block (id:Nat) (b:ae)
 |loop (live:List Nat) (b:ae)
 |exit (id:Nat)
 |ret
 |back (f:eG) (gb pi px sz:Nat) (ag:Bool) (live:List Nat) (x y:ae)
 |bR (ts:List Nat)
 |N3 (ds:List (Nat×Nat))
 |lZ (ps:List (Nat×Nat×Bool))
 |mc (ts:List Nat)
 |RK (ts:List Nat)
 deriving Inhabited
inductive pL where
 |t (n:Nat)
 |c (key sz:Nat) (ag:Bool)
 deriving Inhabited
structure Prim where
 f:(Nat→List PV→Option (List PV))→List PV→Option (List PV)
 fin:∀o x r,f o x=some r→∃l:List (Nat×List PV×List PV),(∀c∈l,o c.1 c.2.1=some c.2.2)∧∀o',(∀c∈l,o' c.1 c.2.1=some c.2.2)→f o' x=some r
def Prim.pure(f:List PV→Option (List PV)):Prim:=⟨fun _=>f,fun _ _ _ h=>⟨[],by simp,fun _ _=>h⟩⟩
theorem Prim.mono(p:Prim){a b:Nat→List PV→Option (List PV)}(h:∀g x r,a g x=some r→b g x=some r){x:List PV}{r:List PV}(e:p.f a x=some r):p.f b x=some r:=by
 obtain⟨l,h1,h2⟩:=p.fin a x r e;exact h2 b fun c hc=>h _ _ _ (h1 c hc)
structure aC where
 nparams:Nat
 ntmps:Nat
 results:List pL
 body:ae
 rf:Option Prim:=none
 ks:Bool:=false
 deriving Inhabited
def look{α:Type}:List (Nat×α)→Nat→Option α
 |[],_=>none
 |(k,v)::r,t=>if k=t then some v else look r t
def di{α:Type}:List (Nat×α)→Nat→α→List (Nat×α)
 |[],t,u=>[(t,u)]
 |(k,v)::r,t,u=>if k=t then (k,u)::r else (k,v)::di r t u
structure St where
 env:List (Nat×AV)
 mem:List (Nat×List AV)
 sh:Sh
 aa:aG
 deriving Inhabited
def aZ:PV→List PV
 | .agg cs=>cs
 |p=>[p]
def aX:AV→List AV
 | .agg cs=>cs
 | .pv (.agg cs)=>cs.map .pv
 |v=>[v]
def bM:AV→Bool
 | .pv _| .cY _| .aM ..| .aT ..| .fw| .fR _| .dB _=>true
 | .fn _ cap=>iu cap
 | .agg cs=>iu cs
 |_=>false
where iu:List AV→Bool
 |[]=>true
 |v::r=>bM v && iu r
def a0:AV→Bool
 | .pv (.agg _)=>false
 | .pv _| .cY _| .aM ..| .aT ..| .fw| .fR _| .dB _=>true
 | .fn g cap=>bM (.fn g cap)
 | .own ..=>true
 |_=>false
def cI(v:AV):Bool:=a0 v
def bD:AV→Bool
 | .own ..| .au ..| .jJ ..=>false
 | .agg cs=>ew cs
 | .pJ cs=>ew cs
 | .fn _ cap=>ew cap
 |_=>true
where ew:List AV→Bool
 |[]=>true
 |v::r=>bD v && ew r
def jN:AV→Bool
 | .own ..=>true
 |v=>bD v
def eT:List AV→Bool
 |[]=>true
 |v::r=>jN v && eT r
def me:AV→Option PV
 | .pv p=>some p
 | .cY l=>some (.aw l)
 | .own l _=>some (.aw l)
 |_=>none
def gW:PV→Bool
 | .agg _=>false
 |_=>true
def chunk(sz:Nat):Nat→List PV→List (List PV)
 |0,_=>[]
 |n+1,l=>l.take sz::chunk sz n (l.drop sz)
def fC:List AV→Option (List PV)
 |[]=>some []
 |v::r=>match me v,fC r with
   |some p,some ps=>some (p::ps)
   |_,_=>none
def fD(sz:Nat)(ag:Bool)(n:Nat)(cells:List PV):Option (List PV):=
 if ag then some ((chunk sz n cells).map .agg)
 else if sz=1 then some cells else none
def bY:List AV→Bool
 | .dB _::_=>true
 |_=>false
def dR(sh:Sh):AV→Option PV
 | .aT b sz n ag=>match sh[b]? with
   |some (some cells)=>if cells.length=n*sz then ((fC cells).bind (fD sz ag n)).map .aw
     else if bY cells=false∧n*sz≤cells.length then ((fC (cells.take (n*sz))).bind (fD sz ag n)).map .aw else none
   |_=>none
 |v=>me v
def dF(sh:Sh):List AV→Option (List PV)
 |[]=>some []
 |v::r=>if a0 v=true then
     match dR sh v,dF sh r with
     |some p,some ps=>some (p::ps)
     |_,_=>none
   else none
def bR(sh:Sh):AV→Option PV
 | .agg cs=>(dF sh cs).map .agg
 |v=>dR sh v
def cU(sh:Sh):List AV→Option (List PV)
 |[]=>some []
 |v::r=>match bR sh v,cU sh r with
   |some p,some ps=>some (p::ps)
   |_,_=>none
def ei:AV→List Nat
 | .aT b _ _ _=>[b]
 | .agg cs=>cs.flatMap fun| .aT b _ _ _=>[b]|_=>[]
 |_=>[]
def kill(sh:Sh)(l:List Nat):Sh:=l.foldl (fun s b=>s.set b none) sh
def c_(sh:Sh)(vs:List AV):Sh:=kill sh (vs.flatMap ei)
def aI(n:Nat):AV→Bool
 | .un| .pv _| .cY _| .own ..| .fw| .dM _| .dB _=>true
 | .aM b _| .aT b _ _ _| .fR b=>decide (b<n)
 | .fn _ cap=>cD n cap
 | .agg cs=>cD n cs
 |_=>false
where cD (n:Nat):List AV→Bool
 |[]=>true
 |v::r=>aI n v && cD n r
def sB:CK→PV→PV→Option Bool
 | .int,.int k a,.int k' b=>if k=k' then some (a == b) else none
 | .str,.str a,.str b=>some (a == b)
 | .bool,.bool a,.bool b=>some (a == b)
 |_,_,_=>none
def dS:List CK→List PV→List PV→Option Bool
 |[],[],[]=>some true
 |c::cs,p::ps,q::qs=>match sB c p q with
   |some true=>dS cs ps qs
   |some false=>if ps.length=cs.length∧qs.length=cs.length then some false else none
   |none=>none
 |_,_,_=>none
def ki(c:CK):List (PV×PV)→PV→Option (Option PV)
 |[],_=>some none
 |(k',v)::r,k=>match sB c k k' with
   |some true=>some (some v)
   |some false=>ki c r k
   |none=>none
def mf(c:CK):List (PV×PV)→PV→PV→Option (List (PV×PV))
 |[],k,p=>some [(k,p)]
 |(k',v)::r,k,p=>match sB c k k' with
   |some true=>some ((k,p)::r)
   |some false=>(mf c r k p).map ((k',v)::·)
   |none=>none
def iR(ok:Bool)(zero:PV)(r:Option PV):AV:=if ok then .pJ [.pv (r.getD zero),.pv (.bool r.isSome)] else .pv (r.getD zero)
def dj(op:BinOp):AV→AV→Option AV
 | .pv (.int k a),.pv (.int k' b)=>
   if k=k'∨op=.shl∨op=.shr then
     match op with
     | .add=>some (.pv (.int k (k.wrap (a+b))))
     | .sub=>some (.pv (.int k (k.wrap (a-b))))
     | .mul=>some (.pv (.int k (k.wrap (a*b))))
     | .quo=>if b=0 then none else some (.pv (.int k (k.wrap (a.tdiv b))))
     | .rem=>if b=0 then none else some (.pv (.int k (a.tmod b)))
     | .eql=>some (.pv (.bool (a == b)))
     | .neq=>some (.pv (.bool (a != b)))
     | .lss=>some (.pv (.bool (decide (a<b))))
     | .leq=>some (.pv (.bool (decide (a≤b))))
     | .gtr=>some (.pv (.bool (decide (a > b))))
     | .geq=>some (.pv (.bool (decide (a≥b))))
     | .and=>some (.pv (.int k (k.wrap (BitVec.ofInt k.bits a &&& BitVec.ofInt k.bits b).toNat)))
     | .shl=>if b<0 then none else some (.pv (.int k (k.wrap (a*2 ^ (min b.toNat k.bits)))))
     | .shr=>if b<0 then none else some (.pv (.int k (a.fdiv (2 ^ (min b.toNat k.bits)))))
     |_=>none
   else none
 | .pv (.str a),.pv (.str b)=>
   match op with
   | .add=>if a.length+b.length≤9223372036854775807 then some (.pv (.str (a++b))) else none
   | .eql=>some (.pv (.bool (a == b)))
   | .neq=>some (.pv (.bool (!(a == b))))
   | .lss=>some (.pv (.bool (gB a b)))
   | .gtr=>some (.pv (.bool (!(gB a b || a == b))))
   | .leq=>some (.pv (.bool (gB a b || a == b)))
   | .geq=>some (.pv (.bool (!gB a b)))
   |_=>none
 |_,_=>none
where gB:List UInt8→List UInt8→Bool
 |_,[]=>false
 |[],_::_=>true
 |a::x,b::y=>a<b || (a == b && gB x y)
def TY(op:UnOp):AV→Option AV
 | .pv (.bool b)=>match op with| .not=>some (.pv (.bool !b))|_=>none
 | .pv (.int k n)=>match op with| .neg=>some (.pv (.int k (k.wrap (0-n))))|_=>none
 |_=>none
def cf:AV→Option (List PV)
 | .pv (.aw l)=>some l
 | .cY l=>some l
 | .own l _=>some l
 |_=>none
def a_(sz:Nat):List PV→Bool
 |[]=>true
 |p::_=>(aZ p).length == sz
def aR(cells:List AV)(off:Nat)(vs:List AV):List AV:=cells.take off++vs++cells.drop (off+vs.length)
def lT(cells:List AV):List (Nat×Nat)→List AV→Option (List AV)
 |[],[]=>some cells
 |(off,sz)::ps,v::vs=>
   if (aX v).length=sz∧off+sz≤cells.length∧(aX v).all a0=true then lT (aR cells off (aX v)) ps vs else none
 |_,_=>none
def bO(ag:Bool)(sz:Nat)(cs:List AV)(off:Nat):Option AV:=
 if off+sz≤cs.length then
   if ag then some (.agg ((cs.drop off).take sz))
   else if sz=1 then cs[off]? else none
 else none
def cJ(ag:Bool)(sz:Nat)(cs:List PV):Option AV:=
 if sz≤cs.length then
   if ag then some (.pv (.agg (cs.take sz)))
   else if sz=1 then (cs[0]?).map .pv else none
 else none
def fY(lo hi mx:Bool)(n:Nat)(rest:List AV):Option (Int×Int×Option Int):=
 match lo,hi,mx,rest with
 |false,false,false,[]=>some (0,n,none)
 |true,false,false,[.pv (.int _ l)]=>some (l,n,none)
 |false,true,false,[.pv (.int _ h)]=>some (0,h,none)
 |true,true,false,[.pv (.int _ l),.pv (.int _ h)]=>some (l,h,none)
 |false,true,true,[.pv (.int _ h),.pv (.int _ m)]=>some (0,h,some m)
 |true,true,true,[.pv (.int _ l),.pv (.int _ h),.pv (.int _ m)]=>some (l,h,some m)
 |_,_,_,_=>none
def dT(str:Bool)(sz:Nat)(lo hi mx:Bool):List AV→Option AV
 |x::rest=>if str then
     match x with
     | .pv (.str s)=>match fY lo hi mx s.length rest with
       |some (l,h,none)=>if 0≤l∧l≤h∧h≤s.length then some (.pv (.str ((s.take h.toNat).drop l.toNat))) else none
       |_=>none
     |_=>none
   else match cf x with
     |some els=>match fY lo hi mx els.length rest with
       |some (l,h,m)=>if 0≤l∧l≤h∧h≤els.length∧(l=0∨a_ sz els=true) then
           match m with
           |some m=>if m=h then some (.cY ((els.take h.toNat).drop l.toNat)) else none
           |none=>some (.pv (.aw ((els.take h.toNat).drop l.toNat)))
         else none
       |none=>none
     |none=>none
 |[]=>none
def oI(sz:Nat)(lo hi:Bool):List AV→Option AV
 | .aT b z n ag::rest=>if z=sz then
     match fY lo hi false n rest with
     |some (l,h,none)=>if 0≤l∧l≤h∧h≤n then some (if l=0 then .aT b z h.toNat ag else .rb b (l.toNat*sz) (h.toNat-l.toNat)) else none
     |_=>none
   else none
 |_=>none
def y1(sz:Nat):AV→Option (Nat×Nat×Nat)
 | .aT b z n _=>if z=sz then some (b,0,n) else none
 | .rb b off n=>some (b,off,n)
 |_=>none
def sD(sz:Nat)(zero:List PV)(sh:Sh):Option (Nat×Nat×Nat)→Option Sh
 |some (b,off,n)=>match sh[b]? with
   |some (some cells)=>if bY cells=false∧off+n*sz≤cells.length∧zero.length=sz then some (sh.set b (some (aR cells off (List.replicate n (zero.map .pv)).flatten))) else none
   |_=>none
 |none=>none
def sF(sz:Nat)(sh:Sh)(xs:List PV):AV→Option (Nat×Sh)
 | .aT b z n _=>match sh[b]? with
   |some (some cells)=>if z=sz∧a_ sz xs=true∧bY cells=false∧n*sz≤cells.length then
       some (min xs.length n,sh.set b (some (aR cells 0 (((xs.take n).flatMap aZ).map .pv)))) else none
   |_=>none
 |_=>none
def fE:List PV→Option (List UInt8)
 |[]=>some []
 | .int .u8 n::r=>if 0≤n∧n<256 then (fE r).map (UInt8.ofNat n.toNat::·) else none
 |_=>none
def bA:N2→List AV→Option AV
 | .mv,[x]=>some x
 | .pick,[.pv (.bool c),a,b]=>some (if c then a else b)
 | .bin op,[a,b]=>dj op a b
 | .beq neg,[.pv (.bool a),.pv (.bool b)]=>some (.pv (.bool (if neg then !(a == b) else (a == b))))
 | .un op,[a]=>TY op a
 | .conv k,[.pv (.int _ n)]=>some (.pv (.int k (k.wrap n)))
 | .ext i,[.pJ vs]=>vs[i]?
 | .field off sz ag,[x]=>match x with
   | .agg cs=>bO ag sz cs off
   | .pv (.agg cs)=>cJ ag sz (cs.drop off)
   |_=>none
 | .gV off,[x]=>match x with
   | .au d o=>some (.au d (o+off))
   | .aM b o=>some (.aM b (o+off))
   | .dM cs=>some (.dM (cs.drop off))
   |_=>none
 | .fU sz,[x,.pv (.int _ i)]=>
   if i<0 then none else
   match x with
   | .aT b sz' n _=>if sz=sz'∧i.toNat<n then some (.aM b (i.toNat*sz)) else none
   |x=>match cf x with
     |some els=>match els[i.toNat]? with
       |some el=>if (aZ el).length=sz then some (.dM (aZ el)) else none
       |none=>none
     |none=>none
 | .index,[.pv (.str s),.pv (.int _ i)]=>if i<0 then none else (s[i.toNat]?).map fun b=>.pv (.int .u8 b.toNat)
 | .build zero places,vs=>(lT (zero.map zeroCell) places vs).map .agg
 | .dZ sz,vs=>(cU [] vs).bind fun els=>if els.all (fun e=>(aZ e).length == sz) then some (.cY els) else none
 | .fW sz ag,[.dM cs]=>cJ ag sz cs
 | .slice str sz lo hi mx,vs=>dT str sz lo hi mx vs
 | .Cb sz lo hi,vs=>oI sz lo hi vs
 | .Ca,[.pv (.str s)]=>some (.pv (.int .i64 s.length))
 | .len,[x]=>match x with
   | .aT _ _ n _=>some (.pv (.int .i64 n))
   |x=>(cf x).map fun l=>.pv (.int .i64 l.length)
 | .pK,[x]=>match x with
   | .au ..| .aM ..| .dM _| .fn ..=>some x
   |_=>none
 | .mn,[.pv (.int k x),.pv (.int k' y)]=>if k=k' then some (.pv (.int k (if y<x then y else x))) else none
 | .mx,[.pv (.int k x),.pv (.int k' y)]=>if k=k' then some (.pv (.int k (if y > x then y else x))) else none
 | .Kb g,cap=>some (.fn g cap)
 | .b2s,[x]=>((cf x).bind fE).map fun s=>.pv (.str s)
 | .TX cs neg,[x,y]=>match bR [] x,bR [] y with
   |some (.agg ps),some (.agg qs)=>(dS cs ps qs).map fun b=>.pv (.bool (if neg then !b else b))
   |_,_=>none
 |_,_=>none
where zeroCell:PV→AV
 | .aw []=>.cY []
 |p=>.pv p
structure Out where
 val:AV
 cells:Option (List AV)
 sh:Sh
 aa:aG
structure eH where
 p:Nat→List PV→Option (List PV)
 i:Nat→List AV→Sh→aG→Option (List AV×Sh×aG)
def sG:List PV→AV
 |[r]=>.pv r
 |rs=>.pJ (rs.map .pv)
def oJ:List AV→AV
 |[r]=>r
 |rs=>.pJ rs
def kA(v:AV):AV:=match bR [] v with|some p=>.pv p|none=>v
def AK.key:AK→Option Nat
 | .cd k _ _ _| .bI k _ _| .alloc k _| .box k _| .iq k _ _ _=>some k
 |_=>none
def bS(sz bytes:Nat)(s x:AV)(aa:aG):Option (AV×aG):=
 match cf x with
 |none=>none
 |some xs=>if a_ sz xs=true then
   match s with
   | .cY l=>if xs.isEmpty=true then some (.cY l,aa) else if a_ sz l=true∧(l.length+xs.length)*bytes≤140737488355328 then
       some (.own (l++xs) aa.length,aa++[(l++xs).length]) else none
   | .own l τ=>if aa[τ]?=some l.length∧a_ sz l=true∧(l.length+xs.length)*bytes≤140737488355328 then
       some (.own (l++xs) τ,aa.set τ (l++xs).length) else none
   |_=>none
   else none
def dK:List PV→List PV→Bool
 |[],[]=>true
 | .str a::r,.str b::q=>(a == b) && dK r q
 |_,_=>false
def nS(sz bytes:Nat)(xs:List PV)(s e:AV)(aa:aG):Option PV:=
 match s,e with
 | .own l τ,.own m σ=>if τ=σ∧aa[τ]?=some m.length∧m.length=l.length+xs.length∧a_ 1 l=true∧a_ 1 xs=true∧sz=1 ∧
     dK (m.drop l.length) xs=true∧xs.isEmpty=false∧m.length*bytes≤140737488355328 then some (.aw (l++xs)) else none
 |_,_=>none
def rm(sz bytes:Nat)(ag:Bool)(s:AV)(xs:List PV)(sh:Sh):Option (AV×Sh):=
 if xs.isEmpty=true then some (s,sh) else if xs.length*bytes≤140737488355328 then some (.aT sh.length sz xs.length ag,sh++[some ((xs.flatMap aZ).map .pv)]) else none
def rn(sz bytes:Nat)(ag:Bool)(s:AV)(xs:List PV)(sh:Sh)(aa:aG):Option (AV×Sh):=
 match s with
 | .cY []=>rm sz bytes ag s xs sh
 | .own [] τ=>if aa[τ]?=some 0 then rm sz bytes ag s xs sh else none
 | .aT b z n g=>match sh[b]? with
   |some (some cells)=>if z=sz∧g=ag∧bY cells=false∧n*sz≤cells.length∧(n+xs.length)*bytes≤140737488355328 then
       if xs.isEmpty=true then some (.aT b sz n ag,sh) else some (.aT sh.length sz (n+xs.length) ag,sh.set b none++[some (cells.take (n*sz)++(xs.flatMap aZ).map .pv)])
     else none
   |_=>none
 |_=>none
def fF(o:Option Bool)(sz bytes:Nat)(x:AV)(sh:Sh)(aa:aG):Option (AV×Sh×aG):=match o with
 |none=>(bS sz bytes (.cY []) x aa).map fun (v,ts)=>(v,sh,ts)
 |some ag=>match cf x with
   |some xs=>if a_ sz xs=true then (rm sz bytes ag (.cY []) xs sh).map fun (v,sh')=>(v,sh',aa) else none
   |none=>none
def d7(aN ts:aG):AV→AV×aG×aG
 | .own l τ=>if aN[τ]?=some l.length then (.own l ts.length,aN.set τ (l.length+1),ts++[l.length]) else (.pv (.aw l),aN,ts)
 |v=>(v,aN,ts)
def cK(aN ts:aG):List AV→List AV×aG×aG
 |[]=>([],aN,ts)
 |v::r=>((d7 aN ts v).1::(cK (d7 aN ts v).2.1 (d7 aN ts v).2.2 r).1,(cK (d7 aN ts v).2.1 (d7 aN ts v).2.2 r).2)
def bF(aN ts:aG):AV→AV×aG×aG
 | .own l τ=>if aN[τ]?=some l.length then (.own l ts.length,aN.set τ (l.length+1),ts++[l.length]) else (.pv (.aw l),aN,ts)
 | .cY l=>(.own l ts.length,aN,ts++[l.length])
 | .agg cs=>if bD.ew cs=true then (.agg cs,aN,ts) else (.agg (cK aN ts cs).1,(cK aN ts cs).2.1,(cK aN ts cs).2.2)
 |v=>(v,aN,ts)
def bn(aN ts:aG):List AV→List AV×aG×aG
 |[]=>([],aN,ts)
 |v::r=>((bF aN ts v).1::(bn (bF aN ts v).2.1 (bF aN ts v).2.2 r).1,(bn (bF aN ts v).2.1 (bF aN ts v).2.2 r).2)
def cg(aN ts:aG):Sh→Sh×aG×aG
 |[]=>([],aN,ts)
 |none::r=>(none::(cg aN ts r).1,(cg aN ts r).2)
 |some cs::r=>(some (bn aN ts cs).1::(cg (bn aN ts cs).2.1 (bn aN ts cs).2.2 r).1,(cg (bn aN ts cs).2.1 (bn aN ts cs).2.2 r).2)
def cZ(aa:aG)(xs:List AV)(sh:Sh):List AV×Sh×aG×aG:=
 ((bn aa [] xs).1,(cg (bn aa [] xs).2.1 (bn aa [] xs).2.2 sh).1,(cg (bn aa [] xs).2.1 (bn aa [] xs).2.2 sh).2.1,(cg (bn aa [] xs).2.1 (bn aa [] xs).2.2 sh).2.2)
def kB:AV→Bool
 | .own ..=>true
 |v=>bM v
def eU:List AV→Bool
 |[]=>true
 |v::r=>kB v && eU r
def bE:AV→Bool
 | .own ..=>true
 | .agg cs=>eU cs
 |v=>bM v
def iI(n:Nat):AV→AV
 | .own l τ=>.own l (τ+n)
 |v=>v
def cm(n:Nat):AV→AV
 | .own l τ=>.own l (τ+n)
 | .agg cs=>if bD.ew cs=true then .agg cs else .agg (cs.map (iI n))
 |v=>v
def gi(n:Nat)(sh:Sh):Sh:=sh.map fun o=>o.map fun cs=>cs.map (cm n)
def dO(own:List Nat):Nat→List AV→List AV
 |_,[]=>[]
 |i,v::r=>(if own.contains i then v else kA v)::dO own (i+1) r
def dU(orc:eH)(g:Nat)(own:List Nat)(vals:List AV)(sh:Sh)(aa:aG):Option (AV×Sh×aG):=
 if (dO own 0 vals).all bE=true then
   (orc.i g (cZ aa (dO own 0 vals) sh).1 (cZ aa (dO own 0 vals) sh).2.1 (cZ aa (dO own 0 vals) sh).2.2.2).map fun (rs,sh',ts)=>
     (oJ (rs.map (cm aa.length)),gi aa.length sh',(cZ aa (dO own 0 vals) sh).2.2.1++ts)
 else none
def cE(v:AV):List AV:=match v with
 | .cY l=>[.cY l]
 | .own l τ=>[.own l τ]
 |v=>match bR [] v with|some p=>aX (.pv p)|none=>aX v
mutual
def uL:PV→PV→Bool
 | .bool a,.bool b=>a == b
 | .int k a,.int l b=>decide (k=l) && (a == b)
 | .str a,.str b=>a == b
 | .agg a,.agg b=>sH a b
 | .aw a,.aw b=>sH a b
 |_,_=>false
def sH:List PV→List PV→Bool
 |[],[]=>true
 |a::r,b::q=>uL a b && sH r q
 |_,_=>false
end
def TZ:AV→AV→Bool
 | .pv a,.pv b=>uL a b
 |_,_=>false
def uM:List AV→List AV→Bool
 |[],[]=>true
 |a::r,b::q=>TZ a b && uM r q
 |_,_=>false
def nF:Sh→Sh→Bool
 |[],[]=>true
 |none::r,none::q=>nF r q
 |some a::r,some b::q=>uM a b && nF r q
 |_,_=>false
def Wh(sh:Sh):AV×Sh×aG→Option Out
 |(v,sh',ts)=>if nF sh' sh=true then some ⟨v,none,sh,ts⟩ else none
def exec(orc:eH)(op:AK)(vals:List AV)(cells:Option (List AV))(sh:Sh)(aa:aG):Option Out:=
 match op,vals with
 | .v o,vals=>(bA o vals).map fun x=>⟨x,none,sh,aa⟩
 | .cd key off sz ag,[.au d o]=>if d=key∧o=off then
     match cells with
     |some cs=>(bO ag sz cs off).map fun x=>⟨x,none,sh,aa⟩
     |none=>none
   else none
 | .bI key off sz,[.au d o,v]=>if d=key∧o=off∧(aX v).length=sz∧(aX v).all a0=true then
     match cells with
     |some cs=>if off+sz≤cs.length then some ⟨.un,some (aR cs off (aX v)),sh,aa⟩ else none
     |none=>none
   else none
 | .alloc key zero,[]=>match cells with
   |none=>some ⟨.au key 0,some (zero.map bA.zeroCell),sh,aa⟩
   |some _=>none
 | .box key sz,[v]=>match cells with
   |none=>if (aX v).length=sz∧(aX v).all a0=true then some ⟨.au key 0,some (aX v),sh,aa⟩ else none
   |some _=>none
 | .eK sz ag,[p]=>match p with
   | .dM cs=>(cJ ag sz cs).map fun x=>⟨x,none,sh,aa⟩
   | .aM b off=>match sh[b]? with
     |some (some cs)=>if bY cs=true then none else (bO ag sz cs off).map fun x=>⟨x,none,sh,aa⟩
     |_=>none
   |_=>none
 | .eR sz,[.aM b off,v]=>match sh[b]? with
   |some (some cs)=>
     let vs:=cE v
     if bY cs=false∧vs.length=sz∧off+sz≤cs.length∧vs.all cI=true∧vs.all (aI (b+1))=true then
       some ⟨.un,none,sh.set b (some (aR cs off vs)),aa⟩ else none
   |_=>none
 | .kX sz,[.aM b off,v]=>match sh[b]? with
   |some (some cs)=>
     let vs:=aX v
     if bY cs=false∧vs.length=sz∧off+sz≤cs.length∧vs.all cI=true∧vs.all (aI (b+1))=true then
       some ⟨.un,none,sh.set b (some (aR cs off vs)),aa⟩ else none
   |_=>none
 | .re sz,[v]=>
   let vs:=cE v
   if vs.length=sz∧vs.all cI=true∧vs.all (aI sh.length)=true then
     some ⟨.aM sh.length 0,none,sh++[some vs],aa⟩ else none
 | .su sz,[v]=>
   let vs:=aX v
   if vs.length=sz∧vs.all cI=true∧vs.all (aI sh.length)=true then
     some ⟨.aM sh.length 0,none,sh++[some vs],aa⟩ else none
 | .iH zero,[]=>some ⟨.aM sh.length 0,none,sh++[some (zero.map bA.zeroCell)],aa⟩
 | .jb sz bytes ag zero,[.pv (.int _ n),.pv (.int _ n')]=>
   if n=n'∧0≤n∧n≤9223372036854775807∧n*bytes≤140737488355328∧zero.length=sz then
     some ⟨.aT sh.length sz n.toNat ag,none,sh++[some ((List.replicate n.toNat (zero.map .pv)).flatten)],aa⟩ else none
 | .iq key sz bytes zero,[.pv (.int _ n),.pv (.int _ n')]=>match cells with
   |none=>if n=n'∧0≤n∧n≤9223372036854775807∧n*bytes≤140737488355328∧zero.length=sz then
       some ⟨.jJ key n.toNat,some ((List.replicate n.toNat (zero.map .pv)).flatten),sh,aa⟩ else none
   |some _=>none
 | .append sz bytes,[s,x]=>(bS sz bytes s x aa).map fun (v,ts)=>⟨v,none,sh,ts⟩
 | .dQ sz bytes ag,[s,x]=>match cf x with
   |some xs=>if a_ sz xs=true then (rn sz bytes ag s xs sh aa).map fun (v,sh')=>⟨v,none,sh',aa⟩ else none
   |none=>none
 | .ga sz bytes,[s,x,e]=>match cf x with
   |some xs=>(nS sz bytes xs s e aa).map fun p=>⟨.pv p,none,sh,aa⟩
   |none=>none
 | .clone sz bytes,[x]=>(bS sz bytes (.cY []) x aa).map fun (v,ts)=>⟨v,none,sh,ts⟩
 | .jc sz bytes ag,[x]=>(fF (some ag) sz bytes x sh aa).map fun (v,sh',ts)=>⟨v,none,sh',ts⟩
 | .jd sz zero,[x]=>(sD sz zero sh (y1 sz x)).map fun sh'=>⟨.pJ [],none,sh',aa⟩
 | .lS sz,[x,y]=>match cf y with
   |some xs=>(sF sz sh xs x).map fun (k,sh')=>⟨.pv (.int .i64 (k:Int)),none,sh',aa⟩
   |none=>none
 | .oH,[]=>some ⟨.fR sh.length,none,sh++[some [.dB []]],aa⟩
 | .kz c ok zero,[m,k]=>match m,k with
   | .fR s,.pv k=>match sh[s]? with
     |some (some [.dB kvs])=>(ki c kvs k).map fun r=>⟨iR ok zero r,none,sh,aa⟩
     |_=>none
   |_,_=>none
 | .sv c,[m,k,v]=>match m,k with
   | .fR s,.pv k=>match sh[s]?,bR [] v with
     |some (some [.dB kvs]),some p=>(mf c kvs k p).map fun kvs'=>⟨.un,none,sh.set s (some [.dB kvs']),aa⟩
     |_,_=>none
   |_,_=>none
 | .aJ g,vals=>match cU [] vals with
   |some cz=>(orc.p g cz).map fun rs=>⟨sG rs,none,sh,aa⟩
   |none=>none
 | .d0 g,vals=>match cU sh vals with
   |some cz=>(orc.p g cz).map fun rs=>⟨sG rs,none,c_ sh vals,aa⟩
   |none=>none
 | .bp g own,vals=>(dU orc g own vals sh aa).map fun (v,sh',ts)=>⟨v,none,sh',ts⟩
 | .je g,vals=>match cU [] vals with
   |some cz=>match orc.i g (cz.map .pv) [] [] with
     |some (rs,[],ts)=>some ⟨oJ (rs.map (cm aa.length)),none,sh,aa++ts⟩
     |_=>none
   |none=>none
 | .eS,f::vals=>match f with
   | .fn g cap=>(dU orc g [] (vals++cap) sh aa).bind (Wh sh)
   |_=>none
 | .ir,f::vals=>match f with
   | .fn g cap=>(dU orc g [] (vals++cap) sh aa).map fun (v,sh',ts)=>⟨v,none,sh',ts⟩
   |_=>none
 |_,_=>none
def gX(env:List (Nat×AV)):eG→Option AV
 | .t n=>look env n
 | .c v=>some v
def d3(env:List (Nat×AV)):List eG→Option (List AV)
 |[]=>some []
 |x::r=>match gX env x,d3 env r with
   |some v,some vs=>some (v::vs)
   |_,_=>none
def fh(env:List (Nat×AV)):Option (Nat×Bool)→Option Bool
 |none=>some true
 |some (t,b)=>match look env t with
   |some (.pv (.bool c))=>some (c == b)
   |some .un=>some false
   |_=>none
def fG(env:List (Nat×AV)):Option Nat→AV→List (Nat×AV)
 |some d,v=>di env d v
 |none,_=>env
def ez(mem:List (Nat×List AV)):Option Nat→Option (List AV)→List (Nat×List AV)
 |some k,some cs=>di mem k cs
 |_,_=>mem
def dV(orc:eH)(o:dN)(st:St):Option St:=
 match fh st.env o.guard with
 |none=>none
 |some false=>some { st with env:=fG st.env o.dst .un }
 |some true=>
   match d3 st.env o.args with
   |none=>none
   |some vals=>
     match exec orc o.op vals (o.op.key.bind (look st.mem)) st.sh st.aa with
     |none=>none
     |some out=>some { env:=fG st.env o.dst out.val,mem:=ez st.mem o.op.key out.cells,sh:=out.sh,aa:=out.aa }
def bt(orc:eH):List dN→St→Option St
 |[],st=>some st
 |o::r,st=>match dV orc o st with
   |none=>none
   |some st'=>bt orc r st'
def dW(live:List Nat):AV→Bool
 | .au d _=>live.contains d
 | .jJ d _=>live.contains d
 | .own ..=>true
 | .agg cs=>eT cs
 |v=>bD v
def bB(live:List Nat)(env:List (Nat×AV)):List Nat→List (Nat×AV)
 |[]=>[]
 |t::r=>match look env t with
   |some v=>if dW live v=true then (t,v)::bB live env r else bB live env r
   |none=>bB live env r
def bJ(mem:List (Nat×List AV)):List Nat→List (Nat×List AV)
 |[]=>[]
 |t::r=>match look mem t with
   |some v=>(t,v)::bJ mem r
   |none=>bJ mem r
def restrict(live:List Nat)(st:St):St:=
 { st with env:=bB live st.env live,mem:=bJ st.mem live }
def dr(aN ts:aG):List (Nat×AV)→List (Nat×AV)×aG×aG
 |[]=>([],aN,ts)
 |(t,v)::r=>((t,(bF aN ts v).1)::(dr (bF aN ts v).2.1 (bF aN ts v).2.2 r).1,(dr (bF aN ts v).2.1 (bF aN ts v).2.2 r).2)
def eV(aN ts:aG):List (Nat×List AV)→List (Nat×List AV)×aG×aG
 |[]=>([],aN,ts)
 |(t,v)::r=>((t,(bn aN ts v).1)::(eV (bn aN ts v).2.1 (bn aN ts v).2.2 r).1,(eV (bn aN ts v).2.1 (bn aN ts v).2.2 r).2)
def norm(st:St):St:=
 { env:=(dr st.aa [] st.env).1,
   mem:=(eV (dr st.aa [] st.env).2.1 (dr st.aa [] st.env).2.2 st.mem).1,
   sh:=(cg (eV (dr st.aa [] st.env).2.1 (dr st.aa [] st.env).2.2 st.mem).2.1 (eV (dr st.aa [] st.env).2.1 (dr st.aa [] st.env).2.2 st.mem).2.2 st.sh).1,
   aa:=(cg (eV (dr st.aa [] st.env).2.1 (dr st.aa [] st.env).2.2 st.mem).2.1 (eV (dr st.aa [] st.env).2.1 (dr st.aa [] st.env).2.2 st.mem).2.2 st.sh).2.2 }
inductive aU where
 |normal|ret|exit (id:Nat)
 deriving Inhabited,DecidableEq
def eW(f:St→Option (aU×St))(pre:St→St):Nat→St→Option (aU×St)
 |0,_=>none
 |n+1,st=>match f (pre st) with
   |some (.normal,st')=>eW f pre n st'
   |r=>r
def uP(sz:Nat)(ag:Bool)(el:PV):Option AV:=if (aZ el).length=sz then cJ ag sz (aZ el) else none
def jf(f:St→Option (aU×St))(live:List Nat)(pi px sz:Nat)(ag:Bool)(env:List (Nat×AV)):List (PV×Nat)→St→Option (aU×St)
 |[],st=>some (.normal,{ st with env:=env })
 |(el,i)::r,st=>match uP sz ag el with
   |none=>none
   |some v=>match f (norm (restrict live { st with env:=di (di env pi (.pv (.int .i64 i))) px v })) with
     |some (.normal,st')=>jf f live pi px sz ag env r st'
     |some (e,st')=>some (e,{ st' with env:=env })
     |none=>none
def andThen(f g:St→Option (aU×St))(st:St):Option (aU×St):=match f st with
 |some (.normal,st')=>g st'
 |_=>none
def mY(live:List Nat)(env:List (Nat×AV)):List (Nat×AV):=(bB live env live).filter fun p=>bD p.2
def jg(f:St→Option (aU×St))(v:Option AV)(gb pi px sz:Nat)(ag:Bool)(live:List Nat)(st:St):Option (aU×St):=
 match v with
 |some (.fn g [.aM s 0])=>if g=gb then
     match st.sh[s]? with
     |some (some [.pv (.aw l)])=>if l.length<4611686018427387904 then jf f live pi px sz ag (mY live st.env) l.zipIdx.reverse { st with sh:=kill st.sh [s] } else none
     |_=>none
   else none
 |_=>none
def nJ:AV→AV
 | .cY l=>.pv (.aw l)
 |v=>v
def w5:AV→St→St
 | .aM b 0,st=>match st.sh[b]? with
   |some (some cs)=>{ st with sh:=st.sh.set b (some ((cs.take (cs.length / 2)).map nJ++cs.drop (cs.length / 2))) }
   |_=>st
 | .au d 0,st=>match look st.mem d with
   |some cs=>match dF st.sh cs with
     |some ps=>{ st with mem:=di st.mem d (ps.map .pv),sh:=c_ st.sh [.agg cs] }
     |none=>st
   |none=>st
 |_,st=>st
def nG:List Nat→St→St
 |[],st=>st
 |t::r,st=>match look st.env t with
   |some v=>match bR st.sh v with
     |some p=>nG r { st with env:=di st.env t (.pv p),sh:=c_ st.sh [v] }
     |none=>nG r (w5 v st)
   |none=>nG r st
def apart:Option AV→Option AV→Bool
 |some (.aM b _),some (.aM b' _)=>b != b'
 |_,_=>false
def fH(env:List (Nat×AV)):List (Nat×Nat)→Bool
 |[]=>true
 |(a,b)::r=>apart (look env a) (look env b) && fH env r
def y3(d s sz n:Nat)(ag:Bool):AV→Option AV
 | .au d' o=>some (if d'=d then .aM s o else .au d' o)
 | .jJ d' m=>if d'=d then (if m*sz≤n then some (.aT s sz m ag) else none) else some (.jJ d' m)
 |v=>if dW [] v=true then some v else none
def rp(d s sz n:Nat)(ag:Bool)(env:List (Nat×AV)):List Nat→List (Nat×AV)
 |[]=>[]
 |t::r=>match (look env t).bind (y3 d s sz n ag) with
   |some v=>(t,v)::rp d s sz n ag env r
   |none=>rp d s sz n ag env r
def rq{α:Type}(d:Nat):List (Nat×α)→List (Nat×α)
 |[]=>[]
 |(k,v)::r=>if k=d then rq d r else (k,v)::rq d r
def GA(d sz:Nat)(ag:Bool)(st:St):St:=match look st.mem d with
 |some cells=>if cells.all cI=true∧cells.all (aI (st.sh.length+1))=true then
     { st with env:=rp d st.sh.length sz cells.length ag st.env (st.env.map (·.1)),mem:=rq d st.mem,sh:=st.sh++[some cells] } else st
 |none=>st
def w6:List (Nat×Nat×Bool)→St→St
 |[],st=>st
 |(d,sz,ag)::r,st=>w6 r (GA d sz ag st)
def nH(b b':Nat):List Nat→List (Nat×AV)→List (Nat×AV)
 |[],env=>env
 |t::r,env=>match look env t with
   |some (.aT s z n ag)=>if s=b then nH b b' r (di env t (.aT b' z n ag)) else nH b b' r env
   |_=>nH b b' r env
def GB:List Nat→St→St
 |[],st=>st
 |t::r,st=>match look st.env t with
   |some (.aT b _ _ _)=>match st.sh[b]? with
     |some (some cells)=>if bY cells=false then { st with env:=nH b st.sh.length (t::r) st.env,sh:=st.sh.set b none++[some cells] } else st
     |_=>st
   |_=>st
def jK:List Nat→St→St
 |[],st=>st
 |t::r,st=>match look st.env t with
   |some (.aT b _ _ _)=>match st.sh[b]? with
     |some (some cells)=>if bY cells=false∧(ei (.agg cells)).contains b=false then
         match dF st.sh cells with
         |some ps=>jK r { st with sh:=(c_ st.sh [.agg cells]).set b (some (ps.map .pv)) }
         |none=>jK r st
       else jK r st
     |_=>jK r st
   |_=>jK r st
def cP(orc:eH)(k:Nat):ae→St→Option (aU×St)
 | .skip,st=>some (.normal,st)
 | .oG ops live,st=>match bt orc ops st with
   |some st'=>some (.normal,restrict live st')
   |none=>none
 | .seq a b,st=>match cP orc k a st with
   |some (.normal,st')=>cP orc k b st'
   |r=>r
 | .cond c a b,st=>match gX st.env c with
   |some (.pv (.bool t))=>if t then cP orc k a st else cP orc k b st
   |_=>none
 | .block id b,st=>match cP orc k b st with
   |some (.exit id',st')=>if id'=id then some (.normal,st') else some (.exit id',st')
   |r=>r
 | .loop live b,st=>eW (cP orc k b) (fun s=>norm (restrict live s)) k st
 | .exit id,st=>some (.exit id,st)
 | .ret,st=>some (.ret,st)
 | .back c gb pi px sz ag live x y,st=>jg (andThen (cP orc k x) (cP orc k y)) (gX st.env c) gb pi px sz ag live st
 | .bR ts,st=>some (.normal,nG ts st)
 | .N3 ds,st=>if fH st.env ds=true then some (.normal,st) else none
 | .lZ ps,st=>some (.normal,w6 ps st)
 | .mc ts,st=>some (.normal,GB ts st)
 | .RK ts,st=>some (.normal,jK ts st)
def ca:Nat→List AV→List (Nat×AV)
 |_,[]=>[]
 |i,v::r=>(i,v)::ca (i+1) r
def qk(st:St):pL→Option AV
 | .t n=>look st.env n
 | .c key sz ag=>match look st.env key with
   |some (.au d 0)=>match look st.mem key with
     |some cs=>if d=key then bO ag sz cs 0 else none
     |none=>none
   |some (.aM s 0)=>match st.sh[s]? with
     |some (some cs)=>if bY cs=true then none else bO ag sz cs 0
     |_=>none
   |_=>none
def d9(st:St):List pL→Option (List AV)
 |[]=>some []
 |r::rs=>match qk st r,d9 st rs with
   |some v,some vs=>some (v::vs)
   |_,_=>none
def sI(sh:Sh)(v:AV):AV:=match bR sh v with|some p=>.pv p|none=>v
def ru(sh:Sh)(v:AV):AV:=match v with
 | .cY l=>.cY l
 |v=>if a0 v=true then sI sh v else v
def sJ(sh:Sh)(v:AV):AV:=match v with
 | .cY l=>.cY l
 | .own l τ=>.own l τ
 | .agg cs=>.agg (cs.map (ru sh))
 |v=>sI sh v
def cA(aV ks:Bool)(sh:Sh)(vs:List AV):List AV:=if aV then (if ks then vs else vs.map (sJ sh)) else vs.map (sI sh)
def eL(aV ks:Bool)(sh:Sh)(vs:List AV):Sh:=if aV && ks then sh else c_ sh vs
def cb(orc:eH)(k:Nat)(aV:Bool)(af:aC)(args:List AV)(sh:Sh)(ts:aG):Option (List AV×Sh×aG):=
 match cP orc k af.body { env:=ca 0 args,mem:=[],sh,aa:=ts } with
 |some (e,st)=>
   if e=.ret∨e=.normal then
     match d9 st af.results with
     |some vs=>
       let rs:=cA aV af.ks st.sh vs
       let sh':=if rs.all (aI sh.length)=true then (eL aV af.ks st.sh vs).take sh.length else eL aV af.ks st.sh vs
       if rs.all bE=true then some ((cZ st.aa rs sh').1,(cZ st.aa rs sh').2.1,(cZ st.aa rs sh').2.2.2) else none
     |none=>none
   else none
 |none=>none
def fJ:List AV→Option (List PV)
 |[]=>some []
 | .pv p::r=>(fJ r).map (p::·)
 |_=>none
def run(AP:Nat→Option aC)(k:Nat):Nat→eH
 |0=>{ p:=fun _ _=>none,i:=fun _ _ _ _=>none }
 |n+1=>
   { p:=fun g cz=>match AP g with
       |some af=>match af.rf with
         |some f=>f.f (run AP k n).p cz
         |none=>if cz.length=af.nparams∧cz.length≤af.ntmps then
             match cb (run AP k n) k false af (cz.map .pv) [] [] with
             |some (rs,_)=>fJ rs
             |none=>none
           else none
       |none=>none
     i:=fun g args sh ts=>match AP g with
       |some af=>if args.length≤af.ntmps then cb (run AP k n) k true af args sh ts else none
       |none=>none }
theorem N4{a b c:Prop}(h:a∨b)(f:b→c):a∨c:=h.elim .inl fun x=>.inr (f x)
abbrev bm:=Nat→Nat→Option Value
def At(K:bm)(b o:Nat)(vs:List Value):Prop:=∀j v,vs[j]?=some v→K b (o+j)=some v
mutual
def R(K:bm)(top:Bool):PV→List Value→Prop
 | .bool b,vs=>vs=[.bool b]
 | .int k n,vs=>vs=[.int k n]
 | .str s,vs=>vs=[.string ⟨s.toArray⟩]
 | .agg cs,vs=>top=true∧dd K cs vs
 | .aw els,vs=>∃base len cap,vs=[.slice base len cap]∧len≤cap∧els.length=len∧(els=[]∨∃b o sz,base=some ⟨b,o,none⟩∧Row K b o sz els)
def dd(K:bm):List PV→List Value→Prop
 |[],vs=>vs=[]
 |c::cs,vs=>∃v r,vs=v::r∧R K false c [v]∧dd K cs r
def Row(K:bm)(b o sz:Nat):List PV→Prop
 |[]=>True
 |el::r=>(∃vs,vs.length=sz∧At K b o vs∧R K true el vs)∧Row K b (o+sz) sz r
end
def Rel(K:bm):PV→Value→Prop
 | .agg cs,v=>∃vs:List Value,v=.agg vs.toArray∧dd K cs vs
 |p,v=>R K false p [v]
def jL(K:bm):List PV→List Value→Prop
 |[],vs=>vs=[]
 |c::cs,vs=>∃v r,vs=v::r∧Rel K c v∧jL K cs r
def bm.le(K K':bm):Prop:=∀b o v,K b o=some v→K' b o=some v
theorem bm.le_refl(K:bm):K.le K:=fun _ _ _ h=>h
theorem bm.le_trans{a b c:bm}(h:a.le b)(k:b.le c):a.le c:=fun x y z w=>k x y z (h x y z w)
theorem At.mono{K K':bm}(h:K.le K'){b o:Nat}{vs:List Value}(ha:At K b o vs):At K' b o vs:=fun j v hj=>h _ _ _ (ha j v hj)
mutual
theorem R.mono{K K':bm}(h:K.le K'):∀(p:PV) (top:Bool) (vs:List Value),R K top p vs→R K' top p vs
 | .bool _,_,_,hr=>by simpa only[R] using hr
 | .int _ _,_,_,hr=>by simpa only[R] using hr
 | .str _,_,_,hr=>by simpa only[R] using hr
 | .agg cs,_,vs,hr=>by
   simp only[R]at hr⊢;exact⟨hr.1,dd.mono h cs vs hr.2⟩
 | .aw els,_,vs,hr=>by
   simp only[R]at hr⊢;obtain⟨base,len,cap,e1,e0,e2,e3⟩:=hr;refine⟨base,len,cap,e1,e0,e2,N4 e3 ?_⟩
   rintro⟨b,o,sz,e4,e5⟩
   exact⟨b,o,sz,e4,Row.mono h els b o sz e5⟩
theorem dd.mono{K K':bm}(h:K.le K'):∀(cs:List PV) (vs:List Value),dd K cs vs→dd K' cs vs
 |[],_,hr=>by simpa only[dd] using hr
 |c::cs,vs,hr=>by
   simp only[dd]at hr⊢;obtain⟨v,r,e1,e2,e3⟩:=hr;exact⟨v,r,e1,R.mono h c false [v] e2,dd.mono h cs r e3⟩
theorem Row.mono{K K':bm}(h:K.le K'):∀(els:List PV) (b o sz:Nat),Row K b o sz els→Row K' b o sz els
 |[],_,_,_,_=>by simp only[Row]
 |el::r,b,o,sz,hr=>by
   simp only[Row]at hr⊢;obtain⟨⟨vs,e1,e2,e3⟩,e4⟩:=hr;exact⟨⟨vs,e1,e2.mono h,R.mono h el true vs e3⟩,Row.mono h r b (o+sz) sz e4⟩
end
theorem Rel.mono{K K':bm}(h:K.le K'){p:PV}{v:Value}(hr:Rel K p v):Rel K' p v:=by
 cases p with
 |agg cs=>obtain⟨vs,e1,e2⟩:=hr;exact⟨vs,e1,dd.mono h _ _ e2⟩
 |_=>exact R.mono h _ _ _ hr
theorem jL.mono{K K':bm}(h:K.le K'):∀{cs:List PV} {vs:List Value},jL K cs vs→jL K' cs vs
 |[],_,hr=>hr
 |_::_,_,⟨v,r,e1,e2,e3⟩=>⟨v,r,e1,e2.mono h,jL.mono h e3⟩
theorem dd.length{K:bm}:∀{cs:List PV} {vs:List Value},dd K cs vs→vs.length=cs.length
 |[],_,hr=>by simp only[dd]at hr;simp[hr]
 |_::cs,_,hr=>by
   simp only[dd]at hr;obtain⟨v,r,rfl,_,e3⟩:=hr;simp[dd.length e3]
theorem jL.length{K:bm}:∀{cs:List PV} {vs:List Value},jL K cs vs→vs.length=cs.length
 |[],_,hr=>by cases hr;rfl
 |_::_,_,⟨v,r,rfl,_,e3⟩=>by simp[jL.length e3]
theorem R.length{K:bm}{p:PV}{vs:List Value}(h:R K true p vs):vs.length=(aZ p).length:=by
 cases p with
 |agg cs=>simp only[R]at h;simp[aZ,h.2.length]
 |aw els=>simp only[R]at h;obtain⟨b,l,c,rfl,_⟩:=h;rfl
 |_=>simp only[R]at h;subst h;rfl
theorem R.cells{K:bm}{p:PV}{vs:List Value}(h:R K true p vs):dd K (aZ p) vs:=by
 cases p with
 |agg cs=>simp only[R]at h;exact h.2
 |aw els=>
   have h':=h;simp only[R]at h;obtain⟨b,l,c,rfl,e⟩:=h;simp only[aZ,dd];exact⟨_,[],rfl,by simp only[R];exact⟨b,l,c,rfl,e⟩,rfl⟩
 |_=>simp only[R]at h;subst h;simp[aZ,dd,R]
theorem R.top{K:bm}{p:PV}{vs:List Value}(h:R K false p vs):R K true p vs:=by
 cases p with
 |agg cs=>simp[R]at h
 |_=>simp only[R]at h⊢;exact h
theorem dd.get{K:bm}:∀{cs:List PV} {vs:List Value},dd K cs vs→∀{j:Nat} {c:PV},cs[j]?=some c→∃v,vs[j]?=some v∧R K false c [v]
 |[],_,_,j,c,hc=>by simp at hc
 |c0::cs,vs,h,j,c,hc=>by
   simp only[dd]at h;obtain⟨v,r,rfl,e2,e3⟩:=h;cases j with
   |zero=>simp at hc;subst hc;exact⟨v,by simp,e2⟩
   |succ j=>simpa using dd.get e3 (by simpa using hc)
theorem dd.drop{K:bm}:∀(n:Nat) {cs:List PV} {vs:List Value},dd K cs vs→dd K (cs.drop n) (vs.drop n)
 |0,_,_,h=>by simpa using h
 |n+1,[],_,h=>by simp only[dd]at h;subst h;simp[dd]
 |n+1,_::cs,_,h=>by
   simp only[dd]at h;obtain⟨v,r,rfl,_,e3⟩:=h;simpa using dd.drop n e3
theorem dd.take{K:bm}:∀(n:Nat) {cs:List PV} {vs:List Value},dd K cs vs→dd K (cs.take n) (vs.take n)
 |0,_,_,_=>by simp[dd]
 |n+1,[],_,h=>by simp only[dd]at h;subst h;simp[dd]
 |n+1,_::cs,_,h=>by
   simp only[dd]at h;obtain⟨v,r,rfl,e2,e3⟩:=h;simp only[List.take_succ_cons,dd];exact⟨v,_,rfl,e2,dd.take n e3⟩
theorem dd.append{K:bm}:∀{cs:List PV} {vs:List Value} {ds:List PV} {us:List Value},dd K cs vs→dd K ds us→dd K (cs++ds) (vs++us)
 |[],_,_,_,h,k=>by simp only[dd]at h;subst h;simpa using k
 |_::cs,_,_,_,h,k=>by
   simp only[dd]at h;obtain⟨v,r,rfl,e2,e3⟩:=h;simp only[List.cons_append,dd];exact⟨v,_,rfl,e2,dd.append e3 k⟩
theorem Row.get{K:bm}:∀{els:List PV} {b o sz:Nat},Row K b o sz els→∀{i:Nat} {el:PV},els[i]?=some el →
   ∃vs,vs.length=sz∧At K b (o+i*sz) vs∧R K true el vs
 |[],_,_,_,_,i,el,h=>by simp at h
 |e0::r,b,o,sz,hr,i,el,h=>by
   simp only[Row]at hr;obtain⟨e1,e2⟩:=hr;cases i with
   |zero=>simp at h;subst h;simpa using e1
   |succ i=>
     obtain⟨vs,h1,h2,h3⟩:=Row.get e2 (i:=i) (by simpa using h);exact⟨vs,h1,by rw[show o+(i+1)*sz=o+sz+i*sz from by rw[Nat.add_mul];omega];exact h2,h3⟩
theorem dd.one{K:bm}:∀{cs:List PV} {vs:List Value},dd K cs vs→∀u∈vs,u.oneCell'=true
 |[],_,h,u,hu=>by simp only[dd]at h;subst h;simp at hu
 |c::cs,_,h,u,hu=>by
   simp only[dd]at h;obtain⟨v,r,rfl,e2,e3⟩:=h;simp only[List.mem_cons]at hu;rcases hu with rfl|hu
   · cases c with
     |agg _=>simp[R]at e2
     |aw _=>simp only[R]at e2;obtain⟨b,l,c,e,_⟩:=e2;simp at e;subst e;rfl
     |_=>simp[R]at e2;subst e2;rfl
   ·exact dd.one e3 u hu
theorem Row.flat{K:bm}:∀{els:List PV} {b o sz:Nat},Row K b o sz els →
   ∃vss:List Value,vss.length=els.length*sz∧At K b o vss∧(∀(K':bm) (b' o':Nat),K.le K'→At K' b' o' vss→Row K' b' o' sz els)∧∀u∈vss,u.oneCell'=true
 |[],b,o,sz,_=>⟨[],by simp,by intro j v h;simp at h,by intros;simp only[Row],by simp⟩
 |el::r,b,o,sz,hr=>by
   simp only[Row]at hr;obtain⟨⟨vs,h1,h2,h3⟩,h4⟩:=hr;obtain⟨vss,g1,g2,g3,g4⟩:=Row.flat h4;refine⟨vs++vss,by simp[h1,g1,Nat.add_mul];omega,?_,?_,?_⟩
   · intro j v hj;rw[List.getElem?_append]at hj;split at hj
     ·exact h2 j v hj
     · have:=g2 _ v hj;rw[h1]at this
       rwa [show o+sz+(j-sz)=o+j from by omega]at this
   · intro K' b' o' hle ha;simp only[Row];refine⟨⟨vs,h1,?_,R.mono hle _ _ _ h3⟩,?_⟩
     ·intro j v hj;exact ha j v (by rw[List.getElem?_append_left];exact hj;exact (List.getElem?_eq_some_iff.1 hj).1)
     · refine g3 K' b' (o'+sz) hle ?_;intro j v hj;have:=ha (sz+j) v (by rw[List.getElem?_append_right (by omega),h1];simpa using hj)
       rwa [show o'+sz+j=o'+(sz+j) from by omega]
   · intro u hu;simp only[List.mem_append]at hu;rcases hu with hu|hu
     ·exact dd.one h3.cells u hu
     ·exact g4 u hu
theorem Row.append{K:bm}:∀{els:List PV} {b o sz:Nat} {els':List PV},Row K b o sz els→Row K b (o+els.length*sz) sz els'→Row K b o sz (els++els')
 |[],_,_,_,_,_,k=>by simpa using k
 |el::r,b,o,sz,els',h,k=>by
   simp only[Row,List.cons_append]at h⊢;refine⟨h.1,Row.append h.2 ?_⟩;rw[show o+sz+r.length*sz=o+(el::r).length*sz from by simp[Nat.add_mul];omega];exact k
theorem Row.drop{K:bm}:∀(n:Nat) {els:List PV} {b o sz:Nat},Row K b o sz els→Row K b (o+n*sz) sz (els.drop n)
 |0,_,_,_,_,h=>by simpa using h
 |n+1,[],_,_,_,_=>by simp only[List.drop_nil,Row]
 |n+1,el::r,b,o,sz,h=>by
   simp only[Row]at h;simp only[List.drop_succ_cons];rw[show o+(n+1)*sz=o+sz+n*sz from by rw[Nat.add_mul];omega];exact Row.drop n h.2
theorem Row.take{K:bm}:∀(n:Nat) {els:List PV} {b o sz:Nat},Row K b o sz els→Row K b o sz (els.take n)
 |0,_,_,_,_,_=>by simp only[List.take_zero,Row]
 |n+1,[],_,_,_,_=>by simp only[List.take_nil,Row]
 |n+1,el::r,b,o,sz,h=>by
   simp only[Row]at h;simp only[List.take_succ_cons,Row];exact⟨h.1,Row.take n h.2⟩
theorem Row.sz{K:bm}{els:List PV}{b o sz s:Nat}(h:Row K b o sz els)(hs:a_ s els=true)(hne:els≠[]):s=sz:=by
 cases els with
 |nil=>exact absurd rfl hne
 |cons el r=>
   simp only[Row]at h;obtain⟨⟨vs,h1,_,h3⟩,_⟩:=h;have:=h3.length;simp[a_]at hs;omega
def P9(K:bm)(els:List PV)(base:Option Addr)(len:Nat):Prop:=
 els.length=len∧(els=[]∨∃b o sz,base=some ⟨b,o,none⟩∧Row K b o sz els)
theorem P9.mono{K K':bm}(h:K.le K'){els:List PV}{base:Option Addr}{len:Nat}(hr:P9 K els base len):P9 K' els base len:=
 ⟨hr.1,N4 hr.2 fun⟨b,o,sz,e,r⟩=>⟨b,o,sz,e,Row.mono h _ _ _ _ r⟩⟩
theorem bP{K:bm}{els:List PV}{v:Value}:Rel K (.aw els) v↔∃base len cap,v=.slice base len cap∧len≤cap∧P9 K els base len:=by
 simp only[Rel,R,P9];constructor
 ·rintro⟨b,l,c,e,h⟩;exact⟨b,l,c,by simpa using e,h⟩
 ·rintro⟨b,l,c,e,h⟩;exact⟨b,l,c,by simpa using e,h⟩
theorem Kc{K:bm}{p:PV}{v:Value}(h:gW p=true):Rel K p v↔R K false p [v]:=by
 cases p with
 |agg cs=>simp[gW]at h
 |_=>exact Iff.rfl
theorem Rel.Kd{K:bm}{p:PV}{v:Value}(h:R K false p [v]):Rel K p v:=by
 cases p with
 |agg cs=>simp[R]at h
 |_=>exact h
structure kD where
 l0:List (Nat×Nat×Nat)
 P_:List Nat
 ps:List Nat
 live:List (Nat×List Nat)
 loops:List (Nat×List Nat)
 site:List Nat
 own:List (Nat×List Nat)
 Fz:List (Nat×Nat):=[]
 ks:Bool:=false
 q:List Nat:=[]
 Wi:List Nat:=[]
 fz:List (Nat×List Nat):=[]
 dup:List (Nat×Nat):=[]
 ro:List Nat:=[]
 Wj:List (Nat×List (Nat×Nat)):=[]
 lZ:List (Nat×List (Nat×Nat×Bool)):=[]
 pr:List (Nat×List (Nat×Nat×Nat)):=[]
 cut:List (Nat×Nat×List Nat×List Nat):=[]
 fs:List (Nat×List Nat):=[]
 kp:List Nat:=[]
def kD.at(A:kD)(id:Nat):kD:=match look A.pr id with
 |some l=>{ A with l0:=l++A.l0 }
 |none=>A
structure Names where
 g:List (Nat×Nat)
 Xh:List Nat
 bk:List (Nat×Nat×Bool):=[]
 cl:List (Nat×Nat×Nat):=[]
 l5:Nat→Option (Array Value):=fun _=>none
def Names.of(ρ:Names)(f:Nat):Option Nat:=look ρ.g f
def cQ(P:Program)(t:TypeId):Option Nat:=(P.info? t).map (·.size)
def d6(P:Program)(t:TypeId):Option Nat:=(P.info? t).map (·.bytes)
def gp(P:Program)(t:TypeId):Option Bool:=(P.underlying t).map fun| .struct _| .array ..=>true|_=>false
def df:Value→Option PV
 | .bool b=>some (.bool b)
 | .int k n=>some (.int k n)
 | .string s=>some (.str s.data.toList)
 | .slice none 0 0=>some (.aw [])
 |_=>none
def cC{α β:Type}(f:α→Option β):List α→Option (List β)
 |[]=>some []
 |x::r=>match f x,cC f r with
   |some y,some ys=>some (y::ys)
   |_,_=>none
def Cc(v:Value):Option AV:=
 match v with
 | .slice none 0 0=>some (.cY [])
 | .pointer none=>some .fw
 | .nilFunc=>some .fw
 | .agg cs=>(cC df cs.toList).map fun l=>.pv (.agg l)
 |v=>(df v).map .pv
def ck(P:Program)(t:TypeId):Option (List PV):=
 match (P.info? t).bind (·.zero) with
 |some z=>cC df z.cells.toList
 |none=>none
def iS(ρ:Names):Operand→Option eG
 | .tmp t=>some (.t t)
 | .const v=>(Cc v).map .c
 | .func f=>(ρ.of f).map fun g=>.c (.fn g [])
 | .global _=>none
def eM(P:Program)(t:TypeId):Option TypeId:=match P.underlying t with|some (.slice e)=>some e|_=>none
def jh(P:Program)(t:TypeId)(f:Nat):Option Field:=match P.underlying t with|some (.struct fs)=>fs[f]?|_=>none
def gC(P:Program)(t:TypeId):Option CK:=if cQ P t=some 1 then match P.underlying t with
 |some (.int _)=>some .int
 |some .string=>some .str
 |some .bool=>some .bool
 |_=>none
 else none
def gZ(P:Program):Nat→List Field→Option (List CK)
 |_,[]=>some []
 | i,f::r=>if f.name ≠ "_"∧f.offset=i then match gC P f.type,gZ P (i+1) r with
   |some c,some cs=>some (c::cs)
   |_,_=>none
   else none
def zeroOf(P:Program)(t:TypeId):Option PV:=match (P.info? t).bind (·.zero) with
 |some (.agg cs)=>(cC df cs.toList).map .agg
 |some v=>df v
 |none=>none
def FA(P:Program)(op:BinOp)(t:TypeId):Option N2:=
 match P.underlying t with
 |some (.int _)|some .string=>some (.bin op)
 |some .bool=>if op=.eql then some (.beq false) else if op=.neq then some (.beq true) else none
 |some (.struct fs)=>if P.stoodInHeld t=false∧P.eqGuardType P.depth t=false then match gZ P 0 fs.toList with
     |some cs=>if op=.eql then some (.TX cs false) else if op=.neq then some (.TX cs true) else none
     |none=>none
   else none
 |_=>none
def fieldsOf(P:Program)(t:TypeId):Option (List (Nat×Nat)):=
 match P.underlying t with
 |some (.struct fs)=>cC (fun f=>(cQ P f.type).map fun s=>(f.offset,s)) fs.toList
 |_=>none
def placesOf(P:Program)(t:TypeId)(is:List Nat):Option (List (Nat×Nat)):=
 match fieldsOf P t with
 |some all=>cC (fun i=>all[i]?) is
 |none=>none
def rM:Nat→List (Nat×Operand)→Bool
 |_,[]=>true
 |i,(j,_)::r=>i == j && rM (i+1) r
def bo(P:Program)(ρ:Names)(A:kD)(dst:Option Nat):Op→Option (AK×List Operand)
 | .move x| .assign x=>some (.v .mv,[x])
 | .pick c a b=>some (.v .pick,[c,a,b])
 | .binOp op t x y _=>(FA P op t).map fun o=>(.v o,[x,y])
 | .unOp op _ x=>some (.v (.un op),[x])
 | .convert s d x=>match P.underlying s,P.underlying d with
   |some (.int _),some (.int k)=>some (.v (.conv k),[x])
   |some (.slice e),some .string=>match P.underlying e with
     |some (.int .u8)=>some (.v .b2s,[x])
     |_=>none
   |_,_=>none
 | .extract x i=>some (.v (.ext i),[x])
 | .field t x f=>match jh P t f with
   |some fd=>match cQ P fd.type,gp P fd.type with
     |some sz,some ag=>some (.v (.field fd.offset sz ag),[x])
     |_,_=>none
   |none=>none
 | .fieldAddr t x f=>match jh P t f with
   |some fd=>match cQ P fd.type with
     |some s=>if s=0 then none else some (.v (.gV fd.offset),[x])
     |none=>none
   |none=>none
 | .indexAddr t x i=>match eM P t with
   |some e=>(cQ P e).map fun sz=>(.v (.fU sz),[x,i])
   |none=>none
 | .index t x i=>match P.underlying t with
   |some .string=>some (.v .index,[x,i])
   |_=>none
 | .build t ps=>match P.underlying t with
   |some (.struct _)=>match ck P t,placesOf P t (ps.toList.map (·.1)) with
     |some z,some pl=>some (.v (.build z pl),ps.toList.map (·.2))
     |_,_=>none
   |_=>none
 | .buildSlice t n ps=>match eM P t with
   |some e=>match cQ P e,ck P e with
     |some sz,some _=>if ps.size=n∧rM 0 ps.toList=true∧0<sz∧n*sz≤16777216 then some (.v (.dZ sz),ps.toList.map (·.2)) else none
     |_,_=>none
   |none=>none
 | .load t x=>match cQ P t,gp P t with
   |some sz,some ag=>match x with
     | .tmp tx=>match look A.l0 tx with
       |some (k,o)=>some (.cd k o sz ag,[x])
       |none=>if A.P_.contains tx then some (.eK sz ag,[x]) else some (.v (.fW sz ag),[x])
     |_=>none
   |_,_=>none
 | .store t x v=>match cQ P t,x with
   |some sz,.tmp tx=>match look A.l0 tx with
     |some (k,o)=>some (.bI k o sz,[x,v])
     |none=>if A.kp.contains tx=true then some (.kX sz,[x,v]) else some (.eR sz,[x,v])
   |_,_=>none
 | .alloc t=>match ck P t,dst with
   |some z,some d=>match look A.l0 d with
     |some (k,0)=>if k=d then some (.alloc d z,[]) else none
     |some _=>none
     |none=>some (.iH z,[])
   |_,_=>none
 | .box t x=>match cQ P t,dst with
   |some sz,some d=>match look A.l0 d with
     |some (k,0)=>if k=d then some (.box d sz,[x]) else none
     |some _=>none
     |none=>if A.kp.contains d=true then some (.su sz,[x]) else some (.re sz,[x])
   |_,_=>none
 | .makeMap _ r=>if r.isNone=true then some (.oH,[]) else none
 | .lookup t x i ok=>match P.underlying t with
   |some (.map k e)=>match gC P k,zeroOf P e with
     |some c,some z=>some (.kz c ok z,[x,i])
     |_,_=>none
   |_=>none
 | .mapUpdate t m i x| .insert t m i x=>match P.underlying t with
   |some (.map k _)=>(gC P k).map fun c=>(.sv c,[m,i,x])
   |_=>none
 | .nilCheck x=>some (.v .pK,[x])
 | .makeFunc fn first cap=>match fn with
   | .func f=>if first.size=0 then (ρ.of f).map fun g=>(.v (.Kb g),cap.toList) else none
   |_=>none
 | .makeSlice t l c=>match eM P t with
   |some e=>match cQ P e,d6 P e,gp P e,ck P e with
     |some sz,some by_,some ag,some z=>if z.length=sz∧0<sz then match dst.bind (look A.l0),dst with
         |some (k,0),some d=>if k=d then some (.iq d sz by_ z,[l,c]) else none
         |some _,_=>none
         |none,_=>some (.jb sz by_ ag z,[l,c])
       else none
     |_,_,_,_=>none
   |none=>none
 | .slice t x lo hi mx=>match P.underlying t with
   |some (.slice e)=>if mx.isSome=false∧(dst.map (A.Wi.contains ·)).getD false=true then (cQ P e).map fun sz=>(.v (.Cb sz lo.isSome hi.isSome),x::(lo.toList++hi.toList++mx.toList))
     else (cQ P e).map fun sz=>(.v (.slice false sz lo.isSome hi.isSome mx.isSome),x::(lo.toList++hi.toList++mx.toList))
   |some .string=>if mx.isSome then none else some (.v (.slice true 0 lo.isSome hi.isSome false),x::(lo.toList++hi.toList++mx.toList))
   |_=>none
 | .call c=>match c.callee with
   | .builtin .len=>match c.args.toList,(c.argTypes[0]?).bind P.underlying with
     |[x],some (.slice _)=>some (.v .len,[x])
     |[x],some .string=>some (.v .Ca,[x])
     |_,_=>none
   | .builtin .min=>match c.args.toList with
     |[x,y]=>some (.v .mn,[x,y])
     |_=>none
   | .builtin .max=>match c.args.toList with
     |[x,y]=>some (.v .mx,[x,y])
     |_=>none
   | .builtin .append=>match c.args.toList,(c.argTypes[0]?).bind (eM P),(c.argTypes[1]?).bind (eM P) with
     |[x,y],some e,some _=>match cQ P e,d6 P e,ck P e with
       |some sz,some by_,some z=>if z.length=sz∧0<sz∧0<by_ then
           if (dst.map (A.Wi.contains ·)).getD false then (gp P e).map fun ag=>(.dQ sz by_ ag,[x,y]) else match dst.bind (look A.dup) with
             |some u=>some (.ga sz by_,[x,y,.tmp u])
             |none=>some (.append sz by_,[x,y])
         else none
       |_,_,_=>none
     |_,_,_=>none
   | .builtin .clear=>match c.args.toList,(c.argTypes[0]?).bind (eM P) with
     |[x],some e=>match cQ P e,ck P e with
       |some sz,some z=>if z.length=sz∧0<sz then some (.jd sz z,[x]) else none
       |_,_=>none
     |_,_=>none
   | .builtin .copy=>match c.args.toList,(c.argTypes[0]?).bind (eM P),(c.argTypes[1]?).bind (eM P) with
     |[x,y],some e,some _=>match cQ P e with
       |some sz=>some (.lS sz,[x,y])
       |none=>none
     |_,_,_=>none
   | .value (.func f)=>match ρ.of f with
     |some g=>match look ρ.cl g with
       |some (sz,by_)=>if c.args.size=1 then
           (if (dst.map (A.Wi.contains ·)).getD false=true then match (c.argTypes[0]?).bind (eM P) with
             |some e=>(gp P e).map fun ag=>(.jc sz by_ ag,c.args.toList)
             |none=>none
           else some (.clone sz by_,c.args.toList)) else none
       |none=>if (dst.map (A.q.contains ·)).getD false then some (.je g,c.args.toList)
       else if ρ.Xh.contains g || (dst.map (A.site.contains ·)).getD false then some (.bp g ((dst.bind (look A.own)).getD []),c.args.toList)
       else if (dst.map (A.ps.contains ·)).getD false then some (.d0 g,c.args.toList) else some (.aJ g,c.args.toList)
     |none=>none
   | .value (.tmp t)=>if (dst.map (A.ro.contains ·)).getD false=true then some (.eS,.tmp t::c.args.toList) else some (.ir,.tmp t::c.args.toList)
   |_=>none
 |_=>none
def eX(P:Program)(ρ:Names)(A:kD)(N:Nat)(ops:Array Oper)(o:Oper):Option dN:=
 match bo P ρ A o.dst o.op with
 |some (k,args)=>match cC (iS ρ) args with
   |some as=>
     if (o.dst.map (fun d=>decide (d<N))).getD true=true then
       match o.guard with
       |none=>some { dst:=o.dst,guard:=none,args:=as,op:=k }
       |some (j,b)=>match (ops[j]?).bind (·.dst) with
         |some t=>some { dst:=o.dst,guard:=some (t,b),args:=as,op:=k }
         |none=>none
     else none
   |none=>none
 |none=>none
def dN.looks(o:dN):List Nat:=
 (o.args.filterMap fun| .t n=>some n|_=>none)++(match o.guard with|some (t,_)=>[t]|none=>[])
def AK.iJ:AK→Bool
 | .eK ..| .eR _| .kX _| .re _| .su _| .iH _| .jb ..| .d0 _| .bp ..| .ir| .eS| .oH| .kz ..| .sv _| .dQ ..| .jc ..| .jd ..| .lS _=>true
 |_=>false
def AK.vB:AK→Bool
 | .eK ..| .kz ..| .eS=>true
 |_=>false
def AK.fK:AK→Bool
 | .append ..| .dQ ..| .ga ..| .clone ..| .bp ..| .je _| .ir| .eS=>true
 |_=>false
def AK.ij:AK→Bool
 | .bI ..| .alloc ..| .box ..| .iq ..=>true
 |_=>false
def indep(x y:dN):Bool:=
 (match x.dst with|some d=>!(y.looks).contains d && y.dst != some d|none=>true) &&
 (match y.dst with|some d=>!(x.looks).contains d|none=>true) &&
 (!(x.op.iJ && y.op.iJ) || (x.op.vB && y.op.vB)) && !(x.op.fK && y.op.fK) &&
 (match x.op.key,y.op.key with
  |some a,some b=>a != b || !(x.op.ij || y.op.ij)
  |_,_=>true)
def dN.addr(o:dN):Option Nat:=match o.op,o.args with
 | .eK ..,.t a::_| .eR _,.t a::_=>some a
 |_,_=>none
def y4(ds:List (Nat×Nat))(x y:dN):Bool:=
 (match x.dst with|some d=>!(y.looks).contains d && y.dst != some d|none=>true) &&
 (match y.dst with|some d=>!(x.looks).contains d|none=>true) &&
 (match x.addr,y.addr with
  |some a,some b=>ds.contains (a,b)
  |_,_=>false)
def w7:List dN→Bool
 |[]=>true
 |x::r=>(match x.addr with|some a=>(x::r).all (fun o=>o.dst != some a)|none=>true) && w7 r
def mg:List Oper→List Nat→List Nat
 |[],acc=>acc
 |o::r,acc=>mg r (acc++[o.after.toList.foldl (fun s e=>if Region.binds .any e then s ||| 2 ^ e.on ||| acc.getD e.on 0 else s) 0])
def rN(ds:List (Nat×Nat))(ms:List Nat)(i:Nat)(x:dN):Nat→List dN→Bool
 |_,[]=>true
 |j,y::r=>((ms.getD j 0).testBit i || indep x y || y4 ds x y) && rN ds ms i x (j+1) r
def mh(ds:List (Nat×Nat))(ms:List Nat):Nat→List dN→Bool
 |_,[]=>true
 |i,x::r=>rN ds ms i x (i+1) r && mh ds ms (i+1) r
def g_:Nat→List Oper→Bool
 |_,[]=>true
 |i,o::r=>o.after.toList.all (fun e=>!Region.binds .any e || decide (e.on<i)) && g_ (i+1) r
def w8(ds:List (Nat×Nat))(ops:List Oper)(as:List dN):Bool:=g_ 0 ops && (mh ds (mg ops []) 0 as && w7 as)
def ji:Code→Option Nat
 | .region id _ _=>some id
 | .seq a b| .cond _ a b=>match ji a with|some i=>some i|none=>ji b
 | .block _ c| .loop c| .scope c=>ji c
 |_=>none
def ae.en:ae→Bool
 | .seq a b| .cond _ a b=>a.en && b.en
 | .block _ b| .loop _ b=>b.en
 | .back ..=>false
 |_=>true
def jO(o:Option (List Nat))(c:ae):ae:=match o with
 |some ts=>.seq (.bR ts) c
 |none=>c
def rO(o:Option (List Nat))(c:ae):ae:=match o with
 |some ts=>.seq (.RK ts) c
 |none=>c
def Cd(o:Option (Nat×List Nat×List Nat))(as:List dN)(live:List Nat):ae:=match o with
 |some (k,l,ts)=>.seq (.oG (as.take k) l) (.seq (.mc ts) (.oG (as.drop k) live))
 |none=>.oG as live
def behind(ds:Option (List (Nat×Nat)))(ps:Option (List (Nat×Nat×Bool)))(c:ae):ae:=
 let c1:=match ds with
   |some ds=>.seq c (.N3 ds)
   |none=>c
 match ps with
 |some ps=>.seq c1 (.lZ ps)
 |none=>c1
def eN(P:Program)(ρ:Names)(A:kD)(N:Nat):Code→Option ae
 | .skip=>some .skip
 | .region id ops draw=>match cC (eX P ρ (A.at id) N ops) ops.toList with
   |some as=>if draw then (if w8 ((look A.Wj id).getD []) ops.toList as then some (jO (look A.fz id) (behind (look A.Wj id) (look A.lZ id) (.oG as ((look A.live id).getD [])))) else none)
     else match look A.cut id with
       |some q=>some (rO (look A.fs id) (jO (look A.fz id) (Cd (some q) as ((look A.live id).getD []))))
       |none=>some (rO (look A.fs id) (jO (look A.fz id) (behind (look A.Wj id) (look A.lZ id) (.oG as ((look A.live id).getD [])))))
   |none=>none
 | .seq a b=>match eN P ρ A N a,eN P ρ A N b with
   |some x,some y=>some (.seq x y)
   |_,_=>none
 | .cond c a b=>match iS ρ c,eN P ρ A N a,eN P ρ A N b with
   |some c,some x,some y=>some (.cond c x y)
   |_,_,_=>none
 | .block id b=>(eN P ρ A N b).map (.block id)
 | .loop b=>(eN P ρ A N b).map (.loop (((ji b).bind (look A.loops)).getD []))
 | .exit id=>some (.exit id)
 | .ret=>some .ret
 | .rangeFunc (.tmp t) ps a b=>match ps.toList,look A.Fz t with
   |[pi,px],some gb=>match look ρ.bk gb,eN P ρ A N a,eN P ρ A N b with
     |some (sz,ag),some x,some y=>if x.en=true∧y.en=true∧pi<N∧px<N then some (.back (.t t) gb pi px sz ag (((ji a).bind (look A.loops)).getD []) x y) else none
     |_,_,_=>none
   |_,_=>none
 |_=>none
def FB(P:Program):ResultVar→Option pL
 | .tmp t=>some (.t t)
 | .cell a t=>match cQ P t,gp P t with
   |some sz,some ag=>some (.c a sz ag)
   |_,_=>none
def ql(P:Program)(ρ:Names)(A:kD)(fn:Func):Option aC:=
 match fn.body,cC (FB P) fn.results.toList with
 | some b,some rs=>if fn.params.size+fn.nfree≤fn.ntmps∧fn.name != "runtime.NumGoroutine" then
     (eN P ρ A fn.ntmps b).map fun c=>{ nparams:=fn.params.size,ntmps:=fn.ntmps,results:=rs,body:=c,ks:=A.ks } else none
 |_,_=>none
inductive mi where
 |dH|l0 (d:Nat)|shr (b:Nat)|tok (τ:Nat)
 deriving DecidableEq
structure Tk where
 base:Option Addr
 len:Nat
 cap:Nat
 sz:Nat
 own:Bool:=false
def Tk.val(t:Tk):Value:=.slice t.base t.len t.cap
def Tk.dead(t:Tk):Prop:=t.base=none∧0<t.len
def Tk.on(t t':Tk):Prop:=(t.dead→t'.dead)∧(t'.dead∨t.cap<t'.len∨(t'.base=t.base∧t'.cap=t.cap∧(t'=t∨t'.own=true)))
def Tk.Tv(t:Tk)(v:Value):Prop:=t.dead∨∃base len cap,v=.slice base len cap∧(cap<t.len∨(base=t.base∧cap=t.cap∧(len=t.len∨t.own=true)))
theorem Tk.gD(t:Tk):t.on t:=⟨id,.inr (.inr ⟨rfl,rfl,.inl rfl⟩)⟩
theorem Tk.Ke{a b c:Tk}(h:a.on b)(k:b.on c)(hl:b.len≤c.len):a.on c:=by
 refine⟨fun d=>k.1 (h.1 d),?_⟩;rcases h.2 with d|hc|⟨e1,e2,e3⟩
 ·exact .inl (k.1 d)
 ·exact .inr (.inl (by omega))
 · rcases k.2 with d|hc|⟨f1,f2,f3⟩
   ·exact .inl d
   ·exact .inr (.inl (by omega))
   · refine .inr (.inr ⟨f1.trans e1,f2.trans e2,?_⟩);rcases f3 with rfl|f3
     ·exact e3
     ·exact .inr f3
theorem Tk.rP(t:Tk):t.Tv t.val:=.inr ⟨_,_,_,rfl,.inr ⟨rfl,rfl,.inl rfl⟩⟩
theorem Tk.RL{t t':Tk}{v:Value}(h:t.Tv v)(k:t.on t')(hl:t.len≤t'.len):t'.Tv v:=by
 rcases h with d|⟨base,len,cap,e,h⟩
 ·exact .inl (k.1 d)
 · rcases k.2 with d|hc|⟨e1,e2,e3⟩
   ·exact .inl d
   ·refine .inr ⟨base,len,cap,e,.inl ?_⟩;rcases h with h|⟨_,h,_⟩<;>omega
   · refine .inr ⟨base,len,cap,e,?_⟩;rcases h with h|⟨h1,h2,h3⟩
     ·exact .inl (by omega)
     · refine .inr ⟨h1.trans e1.symm,h2.trans e2.symm,?_⟩;rcases e3 with rfl|e3
       ·exact h3
       ·exact .inr e3
structure Gh where
 K:bm
 role:Nat→mi
 pm:Nat→Option Nat
 sm:Nat→Option (Nat×Nat)
 tk:Nat→Option Tk
structure bK where
 r:Nat→Nat→Prop
 l5:Nat→Option (Array Value)
mutual
def aA(ρ:bK)(G:Gh):AV→Value→Prop
 | .un,v=>v=undef
 | .pv p,v=>Rel G.K p v
 | .cY els,v=>∃base len,v=.slice base len len∧P9 G.K els base len
 | .own els τ,v=>∃t,G.tk τ=some t∧(els.length≤t.len∧t.Tv v)∧Rel G.K (.aw els) v ∧
     (els.length=t.len→v=t.val∧(els=[]∨∃b o,t.base=some ⟨b,o,none⟩∧Row G.K b o t.sz els))
 | .agg cs,v=>∃vs:List Value,v=.agg vs.toArray∧az ρ G cs vs
 | .pJ cs,v=>∃vs:List Value,v=.tuple vs.toArray∧az ρ G cs vs
 | .au d off,v=>∃b,G.pm d=some b∧v=.pointer (some ⟨b,off,none⟩)
 | .aM s off,v=>∃b,G.sm s=some b∧v=.pointer (some ⟨b.1,off,none⟩)
 | .dM cs,v=>∃b o vs,v=.pointer (some ⟨b,o,none⟩)∧At G.K b o vs∧dd G.K cs vs
 | .aT s z n _,v=>∃b cap,G.sm s=some b∧v=.slice (some ⟨b.1,0,none⟩) n (n+cap)∧(n+cap)*z≤b.2
 | .fn g cap,v=>∃f vs,ρ.r g f∧v=.func (.func f) #[] (List.toArray vs)∧az ρ G cap vs
 | .fw,v=>v=.pointer none∨v=.nilFunc
 | .fR s,v=>∃b,G.sm s=some b∧v=.map (some b.1)
 | .dB _,_=>False
 | .jJ d n,v=>∃b,G.pm d=some b∧v=.slice (some ⟨b,0,none⟩) n n
 | .rb s off n,v=>∃b base cap,G.sm s=some b∧v=.slice base n cap∧(n=0∨base=some ⟨b.1,off,none⟩)
def az(ρ:bK)(G:Gh):List AV→List Value→Prop
 |[],vs=>vs=[]
 |c::cs,vs=>∃v r,vs=v::r∧aA ρ G c v∧az ρ G cs r
end
structure Gh.le(G G':Gh):Prop where
 K:G.K.le G'.K
 pm:∀d b,G.pm d=some b→G'.pm d=some b
 sm:∀d b,G.sm d=some b→G'.sm d=some b
 tk:∀τ t,G.tk τ=some t→∃t',G'.tk τ=some t'∧(t.len≤t'.len∧t.on t')∧(t.len=t'.len→t'=t)
theorem Gh.le_refl(G:Gh):G.le G:=⟨G.K.le_refl,fun _ _ h=>h,fun _ _ h=>h,fun _ t h=>⟨t,h,⟨Nat.le_refl _,t.gD⟩,fun _=>rfl⟩⟩
theorem Gh.le_trans{a b c:Gh}(h:a.le b)(k:b.le c):a.le c:=
 ⟨bm.le_trans h.K k.K,fun x y e=>k.pm _ _ (h.pm x y e),fun x y e=>k.sm _ _ (h.sm x y e),fun τ t e=>by
   obtain⟨t',e1,e2,e3⟩:=h.tk τ t e;obtain⟨t'',f1,f2,f3⟩:=k.tk τ t' e1
   exact⟨t'',f1,⟨Nat.le_trans e2.1 f2.1,Tk.Ke e2.2 f2.2 f2.1⟩,fun hl=>by
     have h1:t.len=t'.len:=Nat.le_antisymm e2.1 (hl ▸ f2.1);have h2:t'.len=t''.len:=h1 ▸ hl;rw[f3 h2,e3 h1]⟩⟩
section
variable {ρ:bK} {G G':Gh}
mutual
theorem aA.mono(h:G.le G'):∀{x:AV} {v:Value},aA ρ G x v→aA ρ G' x v
 | .un,_,hr=>by simpa only[aA] using hr
 | .pv p,_,hr=>by simp only[aA]at hr⊢;exact hr.mono h.K
 | .cY els,_,hr=>by
   simp only[aA]at hr⊢;obtain⟨b,l,e,r⟩:=hr;exact⟨b,l,e,r.mono h.K⟩
 | .own els τ,v,hr=>by
   simp only[aA]at hr⊢;obtain⟨t,e1,e2,e3,e4⟩:=hr;obtain⟨t',f1,f2,f3⟩:=h.tk τ t e1;refine⟨t',f1,⟨Nat.le_trans e2.1 f2.1,Tk.RL e2.2 f2.2 f2.1⟩,e3.mono h.K,fun hl=>?_⟩;have h1:els.length=t.len:=Nat.le_antisymm e2.1 (hl ▸ f2.1);have h2:=f3 (h1 ▸ hl);subst h2;obtain⟨g1,g2⟩:=e4 h1;exact⟨g1,N4 g2 fun⟨b,o,e,r⟩=>⟨b,o,e,Row.mono h.K _ _ _ _ r⟩⟩
 | .agg cs,_,hr=>by
   simp only[aA]at hr⊢;obtain⟨vs,e,r⟩:=hr;exact⟨vs,e,az.mono h r⟩
 | .pJ cs,_,hr=>by
   simp only[aA]at hr⊢;obtain⟨vs,e,r⟩:=hr;exact⟨vs,e,az.mono h r⟩
 | .au d off,_,hr=>by
   simp only[aA]at hr⊢;obtain⟨b,e,r⟩:=hr;exact⟨b,h.pm _ _ e,r⟩
 | .aM d off,_,hr=>by
   simp only[aA]at hr⊢;obtain⟨b,e,r⟩:=hr;exact⟨b,h.sm _ _ e,r⟩
 | .dM cs,_,hr=>by
   simp only[aA]at hr⊢;obtain⟨b,o,vs,e,f,r⟩:=hr;exact⟨b,o,vs,e,f.mono h.K,dd.mono h.K _ _ r⟩
 | .aT s _ n _,_,hr=>by
   simp only[aA]at hr⊢;obtain⟨b,c,e,r⟩:=hr;exact⟨b,c,h.sm _ _ e,r⟩
 | .fn g cap,_,hr=>by
   simp only[aA]at hr⊢;obtain⟨f,vs,e1,e2,r⟩:=hr;exact⟨f,vs,e1,e2,az.mono h r⟩
 | .fw,_,hr=>by simpa only[aA] using hr
 | .fR s,_,hr=>by
   simp only[aA]at hr⊢;obtain⟨b,e,r⟩:=hr;exact⟨b,h.sm _ _ e,r⟩
 | .dB _,_,hr=>by simp only[aA]at hr
 | .rb s _ _,_,hr=>by
   simp only[aA]at hr⊢;obtain⟨b,x,c,e,r⟩:=hr;exact⟨b,x,c,h.sm _ _ e,r⟩
 | .jJ d _,_,hr=>by
   simp only[aA]at hr⊢;obtain⟨b,e,r⟩:=hr;exact⟨b,h.pm _ _ e,r⟩
theorem az.mono(h:G.le G'):∀{xs:List AV} {vs:List Value},az ρ G xs vs→az ρ G' xs vs
 |[],_,hr=>by simpa only[az] using hr
 |_::_,_,hr=>by
   simp only[az]at hr⊢;obtain⟨v,r,e,e1,e2⟩:=hr;exact⟨v,r,e,aA.mono h e1,az.mono h e2⟩
end
theorem az.length:∀{xs:List AV} {vs:List Value},az ρ G xs vs→vs.length=xs.length
 |[],_,hr=>by simp only[az]at hr;simp[hr]
 |_::_,_,hr=>by
   simp only[az]at hr;obtain⟨v,r,rfl,_,e2⟩:=hr;simp[az.length e2]
theorem az.get:∀{xs:List AV} {vs:List Value},az ρ G xs vs→∀{j:Nat} {x:AV},xs[j]?=some x→∃v,vs[j]?=some v∧aA ρ G x v
 |[],_,_,j,x,hc=>by simp at hc
 |x0::xs,_,hr,j,x,hc=>by
   simp only[az]at hr;obtain⟨v,r,rfl,e1,e2⟩:=hr;cases j with
   |zero=>simp at hc;subst hc;exact⟨v,by simp,e1⟩
   |succ j=>simpa using az.get e2 (by simpa using hc)
theorem az.drop:∀(n:Nat) {xs:List AV} {vs:List Value},az ρ G xs vs→az ρ G (xs.drop n) (vs.drop n)
 |0,_,_,h=>by simpa using h
 |n+1,[],_,h=>by simp only[az]at h;subst h;simp[az]
 |n+1,_::cs,_,h=>by
   simp only[az]at h;obtain⟨v,r,rfl,_,e3⟩:=h;simpa using az.drop n e3
theorem az.take:∀(n:Nat) {xs:List AV} {vs:List Value},az ρ G xs vs→az ρ G (xs.take n) (vs.take n)
 |0,_,_,_=>by simp[az]
 |n+1,[],_,h=>by simp only[az]at h;subst h;simp[az]
 |n+1,_::cs,_,h=>by
   simp only[az]at h;obtain⟨v,r,rfl,e2,e3⟩:=h;simp only[List.take_succ_cons,az];exact⟨v,_,rfl,e2,az.take n e3⟩
theorem az.append:∀{xs:List AV} {vs:List Value} {ys:List AV} {us:List Value},az ρ G xs vs→az ρ G ys us→az ρ G (xs++ys) (vs++us)
 |[],_,_,_,h,k=>by simp only[az]at h;subst h;simpa using k
 |_::cs,_,_,_,h,k=>by
   simp only[az]at h;obtain⟨v,r,rfl,e2,e3⟩:=h;simp only[List.cons_append,az];exact⟨v,_,rfl,e2,az.append e3 k⟩
theorem iv:∀{cs:List PV} {vs:List Value},dd G.K cs vs→az ρ G (cs.map .pv) vs
 |[],_,h=>by simp only[dd]at h;subst h;simp[az]
 |_::cs,_,h=>by
   simp only[dd]at h;obtain⟨v,r,rfl,e2,e3⟩:=h;simp only[List.map_cons,az];exact⟨v,r,rfl,by simp only[aA];exact Rel.Kd e2,iv e3⟩
theorem fZ:∀{cs:List PV} {vs:List Value},jL G.K cs vs→az ρ G (cs.map .pv) vs
 |[],_,h=>by cases h;simp[az]
 |_::cs,_,⟨v,r,e1,e2,e3⟩=>by
   subst e1;simp only[List.map_cons,az];exact⟨v,r,rfl,by simp only[aA];exact e2,fZ e3⟩
theorem aA.cells{x:AV}{v:Value}(h:aA ρ G x v)(hx:(aX x).all a0=true):az ρ G (aX x) v.cells.toList:=by
 cases x with
 |agg cs=>simp only[aA]at h;obtain⟨vs,rfl,r⟩:=h;simpa[aX,Value.cells] using r
 |pv p=>
   cases p with
   |agg cs=>
     simp only[aA,Rel]at h;obtain⟨vs,rfl,r⟩:=h;simpa[aX,Value.cells] using iv r
   |bool b=>have h':=h;simp only[aA,Rel,R]at h;simp at h;subst h;simp only[aX,Value.cells,az];exact⟨_,[],rfl,h',rfl⟩
   |int k n=>have h':=h;simp only[aA,Rel,R]at h;simp at h;subst h;simp only[aX,Value.cells,az];exact⟨_,[],rfl,h',rfl⟩
   |str s=>have h':=h;simp only[aA,Rel,R]at h;simp at h;subst h;simp only[aX,Value.cells,az];exact⟨_,[],rfl,h',rfl⟩
   |aw els=>
     have h':=h;simp only[aA]at h;obtain⟨b,l,c,rfl,_⟩:=bP.1 h;simp only[aX,Value.cells,az];exact⟨_,[],rfl,h',rfl⟩
 |cY els=>
   have h':=h;simp only[aA]at h;obtain⟨b,l,rfl,_⟩:=h;simp only[aX,Value.cells,az];exact⟨_,[],rfl,h',rfl⟩
 |own els τ=>
   have h':=h;simp only[aA]at h;obtain⟨t,_,_,h3,_⟩:=h;obtain⟨b,l,c,rfl,_⟩:=bP.1 h3;simp only[aX,Value.cells,az];exact⟨_,[],rfl,h',rfl⟩
 |aM s o=>
   have h':=h;simp only[aA]at h;obtain⟨b,_,rfl⟩:=h;simp only[aX,Value.cells,az];exact⟨_,[],rfl,h',rfl⟩
 |aT s z n ag=>
   have h':=h;simp only[aA]at h;obtain⟨b,c,_,rfl,_⟩:=h;simp only[aX,Value.cells,az];exact⟨_,[],rfl,h',rfl⟩
 |fn g cap=>
   have h':=h;simp only[aA]at h;obtain⟨f,vs,_,rfl,_⟩:=h;simp only[aX,Value.cells,az];exact⟨_,[],rfl,h',rfl⟩
 |fw=>
   have h':=h;simp only[aA]at h;rcases h with rfl|rfl
   ·simp only[aX,Value.cells,az];exact⟨_,[],rfl,h',rfl⟩
   ·simp only[aX,Value.cells,az];exact⟨_,[],rfl,h',rfl⟩
 |fR s=>
   have h':=h;simp only[aA]at h;obtain⟨b,_,rfl⟩:=h;simp only[aX,Value.cells,az];exact⟨_,[],rfl,h',rfl⟩
 |dB kvs=>simp only[aA]at h
 |_=>simp[aX,a0]at hx
end
structure V1(ρ:bK)(G:Gh)(w:World)(b:Nat)(r:mi)(cells:List AV):Prop where
 role:G.role b=r
 at_:∃c t,w.heap[b]?=some (.cells c t (0,0))∧az ρ G cells c.toList
def eY(K:bm):List (PV×PV)→List MapEntry→Prop
 |[],es=>es=[]
 |(k,p)::r,es=>∃e es',es=e::es'∧Rel K k e.key∧Rel K p e.val∧eY K r es'
theorem eY.mono{K K':bm}(h:K.le K'):∀{kvs:List (PV×PV)} {es:List MapEntry},eY K kvs es→eY K' kvs es
 |[],_,hr=>hr
 |(_,_)::_,_,⟨e,es',e1,e3,e4,e5⟩=>⟨e,es',e1,e3.mono h,e4.mono h,eY.mono h e5⟩
def Holds(ρ:bK)(G:Gh)(o:Obj)(n:Nat)(cells:List AV):Prop:=
 (∃c t vs suf,o=.cells c t (0,0)∧c.size=n∧c.toList=vs++suf∧az ρ G cells vs)∨∃es clock kvs,o=.map es clock∧cells=[.dB kvs]∧eY G.K kvs es.toList
theorem Holds.full{ρ:bK}{G:Gh}{c:Array Value}{t:TypeId}{cells:List AV}(h:az ρ G cells c.toList):Holds ρ G (.cells c t (0,0)) c.size cells:=
 .inl ⟨c,t,c.toList,[],rfl,rfl,by simp,h⟩
structure w9(ρ:bK)(G:Gh)(w:World)(b:Nat×Nat)(r:mi)(cells:List AV):Prop where
 role:G.role b.1=r
 at_:∃o,w.heap[b.1]?=some o∧Holds ρ G o b.2 cells
theorem Holds.to{ρ:bK}{G G':Gh}{o:Obj}{n:Nat}{cells cells':List AV}(h:Holds ρ G o n cells)(hK:G.K.le G'.K)(hm:∀kvs,cells=[.dB kvs]→cells'=[.dB kvs])
   (hc:∀vs,az ρ G cells vs→az ρ G' cells' vs):Holds ρ G' o n cells':=by
 rcases h with⟨c,t,vs,suf,e,e3,e4,r⟩|⟨es,cl,kvs,e,e2,r⟩
 ·exact .inl ⟨c,t,vs,suf,e,e3,e4,hc _ r⟩
 ·exact .inr ⟨es,cl,kvs,e,hm kvs e2,r.mono hK⟩
theorem Holds.mono{ρ:bK}{G G':Gh}{o:Obj}{n:Nat}{cells:List AV}(h:G.le G')(hh:Holds ρ G o n cells):Holds ρ G' o n cells:=
 hh.to h.K (fun _ e=>e) (fun _ r=>r.mono h)
structure T3(ρ:bK)(G:Gh)(w:World)(b:Nat×Nat)(r:mi)(cells:List AV):Prop where
 role:G.role b.1=r
 at_:∃c t vs suf,w.heap[b.1]?=some (.cells c t (0,0))∧c.size=b.2∧c.toList=vs++suf∧az ρ G cells vs
theorem w9.cells{ρ:bK}{G:Gh}{w:World}{b:Nat×Nat}{r:mi}{cells:List AV}(h:w9 ρ G w b r cells)(hm:bY cells=false):T3 ρ G w b r cells:=by
 obtain⟨h1,o,h2,h3⟩:=h;rcases h3 with⟨c,t,vs,suf,rfl,h4,h5,h6⟩|⟨es,cl,kvs,rfl,rfl,_⟩
 ·exact⟨h1,c,t,vs,suf,h2,h4,h5,h6⟩
 ·simp[bY]at hm
theorem sK{ρ:bK}{G:Gh}{cells:List AV}{vs:List Value}(h:az ρ G cells vs):bY cells=false:=by
 cases cells with
 |nil=>rfl
 |cons c r=>
   cases c with
   |dB kvs=>simp[az,aA]at h
   |_=>rfl
structure T4(G:Gh)(w:World)(τ:Nat)(t:Tk):Prop where
 cap:t.len≤t.cap
 zero:t.len=0→t.cap=0
 spare:t.len<t.cap∨t.own=true→∃b o c ty,t.base=some ⟨b,o,none⟩∧G.role b=.tok τ∧w.heap[b]?=some (.cells c ty (0,0)) ∧
   o+t.cap*t.sz≤c.size∧∀j v,G.K b j=some v→j<o+t.len*t.sz
structure Inv(ρ:bK)(G:Gh)(w:World)(mem:List (Nat×List AV))(sh:Sh)(aa:aG):Prop where
 known:∀b o v,G.K b o=some v→w.cell? ⟨b,o,none⟩=some v
 bh:∀b o v,G.K b o=some v→G.role b=.dH∨∃τ,G.role b=.tok τ
 fresh:∀b,w.heap.size≤b→G.role b=.dH
 cG:∀d cells,look mem d=some cells→∃b,G.pm d=some b∧V1 ρ G w b (.l0 d) cells∧cells.all a0=true
 gE:∀d b,G.pm d=some b→(look mem d).isSome=true
 cR:∀s cells,sh[s]?=some (some cells)→∃b,G.sm s=some b∧w9 ρ G w b (.shr s) cells∧cells.all cI=true∧cells.all (aI (s+1))=true
 eo:∀s b,G.sm s=some b→s<sh.length
 cT:∀τ n,aa[τ]?=some n→∃t,G.tk τ=some t∧t.len=n∧T4 G w τ t
 eI:∀τ t,G.tk τ=some t→aa[τ]?=some t.len
 l5:∀b c,ρ.l5 b=some c→G.role b=.dH∧∃t z,w.heap[b]?=some (.cells c t z)
structure mj(ρ:bK)(G:Gh)(N:Nat)(env:List (Nat×AV))(a:Act):Prop where
 size:a.tmps.size=N
 env:∀t x,look env t=some x→∃v,a.tmps[t]?=some v∧aA ρ G x v
def Marks(n0:Nat)(G:Gh)(a:Act)(w:World):Prop:=
 n0≤w.heap.size∧∃Ds:List Nat,a.defers=Ds.map (fun D=>{ target:=.collected D,args:=#[] })∧Ds.Nodup ∧
   ∀D∈Ds,n0≤D∧D<w.heap.size∧G.role D=.dH∧w.heap[D]?=some (.deferred (some []))
structure fM(ρ:bK)(n0 N:Nat)(G:Gh)(st:St)(a:Act)(w:World):Prop where
 env:mj ρ G N st.env a
 inv:Inv ρ G w st.mem st.sh st.aa
 marks:Marks n0 G a w
structure bu(G:Gh)(w:World)(G':Gh)(w':World):Prop where
 size:w.heap.size≤w'.heap.size
 os:w'.os=w.os
 tape:w'.tape=w.tape
 output:w'.output=w.output
 K:G.K.le G'.K
 sm:∀s b,G.sm s=some b→G'.sm s=some b
 dH:∀b,b<w.heap.size→G.role b=.dH→G'.role b=.dH∧w'.heap[b]?=w.heap[b]?
 iK:∀b τ,b<w.heap.size→G.role b=.tok τ→G'.role b=.dH∨∃τ',G'.role b=.tok τ'
 gF:∀b o v,b<w.heap.size→G.role b=.dH→G'.K b o=some v→G.K b o=some v
theorem bu.refl(G:Gh)(w:World):bu G w G w:=
 ⟨Nat.le_refl _,rfl,rfl,rfl,G.K.le_refl,fun _ _ h=>h,fun _ _ h=>⟨h,rfl⟩,fun _ τ _ h=>.inr ⟨τ,h⟩,fun _ _ _ _ _ h=>h⟩
theorem bu.trans{G₁ G₂ G₃:Gh}{w₁ w₂ w₃:World}(h:bu G₁ w₁ G₂ w₂)(k:bu G₂ w₂ G₃ w₃):bu G₁ w₁ G₃ w₃ where
 size:=Nat.le_trans h.size k.size
 os:=k.os.trans h.os
 tape:=k.tape.trans h.tape
 output:=k.output.trans h.output
 K:=bm.le_trans h.K k.K
 sm:=fun s b e=>k.sm _ _ (h.sm s b e)
 dH:=fun b hb hr=>by
   obtain⟨h1,h2⟩:=h.dH b hb hr;obtain⟨k1,k2⟩:=k.dH b (Nat.lt_of_lt_of_le hb h.size) h1;exact⟨k1,k2.trans h2⟩
 iK:=fun b τ hb hr=>by
   rcases h.iK b τ hb hr with h1|⟨τ',h1⟩
   ·exact .inl (k.dH b (Nat.lt_of_lt_of_le hb h.size) h1).1
   ·exact k.iK b τ' (Nat.lt_of_lt_of_le hb h.size) h1
 gF:=fun b o v hb hr hk=>h.gF b o v hb hr (k.gF b o v (Nat.lt_of_lt_of_le hb h.size) (h.dH b hb hr).1 hk)
theorem Marks.uQ{n0:Nat}{G G':Gh}{a a':Act}{w w':World}(h:Marks n0 G a w)(he:bu G w G' w')(hd:a'.defers=a.defers):Marks n0 G' a' w':=by
 obtain⟨e0,Ds,e1,e2,e3⟩:=h;refine⟨Nat.le_trans e0 he.size,Ds,hd.trans e1,e2,fun D hD=>?_⟩;obtain⟨f0,f1,f2,f3⟩:=e3 D hD;obtain⟨g1,g2⟩:=he.dH D f1 f2;exact⟨f0,Nat.lt_of_lt_of_le f1 he.size,g1,g2.trans f3⟩
theorem Inv.hU{ρ:bK}{G G':Gh}{w w':World}{mem:List (Nat×List AV)}{sh:Sh}{aa:aG}(h:Inv ρ G w mem sh aa)(he:bu G w G' w') :
   ∀b c,ρ.l5 b=some c→G'.role b=.dH∧∃t z,w'.heap[b]?=some (.cells c t z):=fun b c hb=>by
 obtain⟨h1,t,z,h2⟩:=h.l5 b c hb;obtain⟨k1,k2⟩:=he.dH b (Array.getElem?_eq_some_iff.1 h2).1 h1;exact⟨k1,t,z,k2.trans h2⟩
theorem bu.drew(G:Gh)(w:World):bu G w G w.drew:=
 ⟨Nat.le_refl _,rfl,rfl,rfl,G.K.le_refl,fun _ _ h=>h,fun _ _ h=>⟨h,rfl⟩,fun _ τ _ h=>.inr ⟨τ,h⟩,fun _ _ _ _ _ h=>h⟩
theorem Inv.drew{ρ:bK}{G:Gh}{w:World}{mem:List (Nat×List AV)}{sh:Sh}{aa:aG}(h:Inv ρ G w mem sh aa):Inv ρ G w.drew mem sh aa where
 known:=h.known
 bh:=h.bh
 fresh:=h.fresh
 cG:=fun d cells e=>by obtain⟨b,e1,e2,e3⟩:=h.cG d cells e;exact⟨b,e1,⟨e2.role,e2.at_⟩,e3⟩
 gE:=h.gE
 cR:=fun d cells e=>by obtain⟨b,e1,e2,e3⟩:=h.cR d cells e;exact⟨b,e1,⟨e2.role,e2.at_⟩,e3⟩
 eo:=h.eo
 cT:=fun τ n e=>by obtain⟨t,e1,e2,e3⟩:=h.cT τ n e;exact⟨t,e1,e2,⟨e3.cap,e3.zero,e3.spare⟩⟩
 eI:=h.eI
 l5:=h.l5
end Go.Ab
namespace Go.Ab
section
variable {P:Program} {ns:Names} {G:Gh} {w:World}
abbrev num(ns:Names):bK:=⟨fun g f=>ns.of f=some g,ns.l5⟩
theorem dt{t n:Nat}(h:cQ P t=some n)(w:World):(sizeOf t).run P w=.ok n w:=by
 unfold cQ at h;cases hi:P.info? t with
 |none=>simp[hi]at h
 |some i=>simp[hi]at h;simp[sizeOf,typeInfo,hi,h]
theorem ml{t n:Nat}(h:d6 P t=some n)(w:World):∃i,P.info? t=some i∧i.bytes=n∧(typeInfo t).run P w=.ok i w:=by
 unfold d6 at h;cases hi:P.info? t with
 |none=>simp[hi]at h
 |some i=>simp[hi]at h;exact⟨i,rfl,h,by simp[typeInfo,hi]⟩
theorem gq{t:Nat}{b:Bool}(h:gp P t=some b)(w:World):(isAgg t).run P w=.ok b w:=by
 unfold gp at h;cases hu:P.underlying t with
 |none=>simp[hu]at h
 |some d=>
   simp[hu]at h;simp only[isAgg,Sem.run_bind,run_underlying hu,Result.andThen_ok];cases d<;>simp_all
theorem hZ{K:bm}{v:Value}{p:PV}(h:df v=some p):R K false p [v]∧gW p=true:=by
 cases v with
 |bool b=>simp[df]at h;subst h;simp[R,gW]
 |int k n=>simp[df]at h;subst h;simp[R,gW]
 |string s=>simp[df]at h;subst h;simp[R,gW]
 |slice a l c=>
   cases a with
   |some a=>simp[df]at h
   |none=>
     cases l with
     |succ l=>simp[df]at h
     |zero=>
       cases c with
       |succ c=>simp[df]at h
       |zero=>
         simp[df]at h;subst h;refine⟨?_,rfl⟩;simp only[R];exact⟨none,0,0,rfl,Nat.le_refl _,rfl,by simp⟩
 |_=>simp[df]at h
theorem vD{K:bm}:∀{l:List Value} {z:List PV},cC df l=some z→dd K z l
 |[],_,h=>by simp[cC]at h;subst h;simp[dd]
 |v::l,z,h=>by
   simp only[cC]at h;split at h
   ·rename_i y ys h1 h2;cases h;simp only[dd];exact⟨v,l,rfl,(hZ h1).1,vD h2⟩
   ·cases h
theorem Ce{v:Value}{x:AV}(h:Cc v=some x):aA (num ns) G x v:=by
 unfold Cc at h;split at h
 ·simp at h;subst h;simp only[aA];exact⟨none,0,rfl,rfl,.inl rfl⟩
 ·simp at h;subst h;simp[aA]
 ·simp at h;subst h;simp[aA]
 ·rename_i cs;simp only[Option.map_eq_some_iff]at h;obtain⟨ps,h1,rfl⟩:=h;simp only[aA];exact⟨cs.toList,by simp,vD h1⟩
 · cases hc:df v with
   |none=>simp[hc]at h
   |some p=>simp[hc]at h;subst h;simp only[aA];exact Rel.Kd (hZ hc).1
theorem FC{N:Nat}{env:List (Nat×AV)}{a:Act}(he:mj (num ns) G N env a){x:Operand}{ax:eG}{v:AV}
   (hc:iS ns x=some ax) (hv:gX env ax=some v):aA (num ns) G v (a.eval x):=by
 cases x with
 |tmp t=>
   simp[iS]at hc;subst hc;obtain⟨rv,h1,h2⟩:=he.env t v (by simpa[gX] using hv);have:a.eval (.tmp t)=rv:=by simp[Act.eval,h1]
   rw[this];exact h2
 |const c=>
   simp only[iS,Option.map_eq_some_iff]at hc;obtain⟨x,h1,rfl⟩:=hc;simp[gX]at hv;subst hv;exact Ce h1
 |func f=>
   simp only[iS,Option.map_eq_some_iff]at hc;obtain⟨g,h1,rfl⟩:=hc;simp[gX]at hv;subst hv;simp only[aA];exact⟨f,[],h1,rfl,by simp[az]⟩
 |global g=>simp[iS]at hc
theorem y5{N:Nat}{env:List (Nat×AV)}{a:Act}(he:mj (num ns) G N env a):∀{xs:List Operand} {as:List eG} {vs:List AV},
   cC (iS ns) xs=some as→d3 env as=some vs→az (num ns) G vs (xs.map a.eval)
 |[],as,vs,hc,hv=>by
   simp[cC]at hc;subst hc;simp[d3]at hv;subst hv;simp[az]
 |x::xs,as,vs,hc,hv=>by
   simp only[cC]at hc;split at hc
   · rename_i ax axs h1 h2;simp at hc;subst hc;simp only[d3]at hv;split at hv
     ·rename_i v vs' g1 g2;simp at hv;subst hv;simp only[List.map_cons,az];exact⟨_,_,rfl,FC he h1 g1,y5 he h2 g2⟩
     ·simp at hv
   ·simp at hc
theorem toList_mk(l:List UInt8):(ByteArray.mk l.toArray).toList=l:=by
 rw[ByteArray.toList_eq]
theorem sL:∀(a b:List UInt8),dj.gB a b=Op.bytesLess a b
 |_,[]=>by simp[dj.gB,Op.bytesLess]
 |[],_::_=>by simp[dj.gB,Op.bytesLess]
 |a::x,b::y=>by simp[dj.gB,Op.bytesLess,sL x y]
theorem fm{K:bm}{k:IntKind}{n:Int}{v:Value}:Rel K (.int k n) v↔v=.int k n:=by simp[Rel,R]
theorem eZ{K:bm}{b:Bool}{v:Value}:Rel K (.bool b) v↔v=.bool b:=by simp[Rel,R]
theorem jP{K:bm}{s:List UInt8}{v:Value}:Rel K (.str s) v↔v=.string ⟨s.toArray⟩:=by simp[Rel,R]
theorem dw{ρ:bK}{k:IntKind}{n:Int}:aA ρ G (.pv (.int k n)) (.int k n):=by simp only[aA];exact fm.2 rfl
theorem kE{ρ:bK}{b:Bool}:aA ρ G (.pv (.bool b)) (.bool b):=by simp only[aA];exact eZ.2 rfl
theorem sM{ρ:bK}{s:List UInt8}:aA ρ G (.pv (.str s)) (.string ⟨s.toArray⟩):=by simp only[aA];exact jP.2 rfl
theorem qm{op:BinOp}{t:TypeId}{x y z:AV}{vx vy:Value}(hx:aA (num ns) G x vx)(hy:aA (num ns) G y vy)
   (h:dj op x y=some z) (ox oy:Operand):∃v,(do eqGuard op t ox oy vx vy;binOp op t vx vy:Sem Value).run P w=.ok v w∧aA (num ns) G z v:=by
 unfold dj at h;split at h
 · rename_i k a k' b;simp only[aA,fm]at hx hy;subst hx;subst hy;have hg:(eqGuard op t ox oy (.int k a) (.int k' b)).run P w=.ok () w:=by cases op<;>simp[eqGuard]
   simp only[Sem.run_bind,hg,Result.andThen_ok];split at h
   · rename_i hk;cases op<;>simp only[reduceCtorEq,or_false,or_self,or_true]at hk<;>simp at h;case add=>subst hk;subst h;exact⟨_,by simp[binOp,Op.intArith],dw⟩
     case sub=>subst hk;subst h;exact⟨_,by simp[binOp,Op.intArith],dw⟩
     case mul=>subst hk;subst h;exact⟨_,by simp[binOp,Op.intArith],dw⟩
     case quo=>subst hk;obtain⟨h1,h⟩:=h;subst h;exact⟨_,by simp[binOp,Op.intDiv,h1],dw⟩
     case rem=>subst hk;obtain⟨h1,h⟩:=h;subst h;exact⟨_,by simp[binOp,Op.intDiv,h1],dw⟩
     case and=>subst hk;subst h;exact⟨_,by simp[binOp,Op.intBits],dw⟩
     case shl=>obtain⟨h1,h⟩:=h;subst h;exact⟨_,by simp[binOp,Op.shift,Int.not_lt.2 h1],dw⟩
     case shr=>obtain⟨h1,h⟩:=h;subst h;exact⟨_,by simp[binOp,Op.shift,Int.not_lt.2 h1],dw⟩
     all_goals (subst hk;subst h;exact⟨_,by simp[binOp,Op.intCmp],kE⟩)
   ·simp at h
 · rename_i a b;simp only[aA,jP]at hx hy;subst hx;subst hy;have hg:(eqGuard op t ox oy (.string ⟨a.toArray⟩) (.string ⟨b.toArray⟩)).run P w=.ok () w:=by cases op<;>simp[eqGuard]
   simp only[Sem.run_bind,hg,Result.andThen_ok];cases op<;>simp at h
   case add=>
     obtain⟨h1,h⟩:=h;subst h
     have h2:¬((((ByteArray.mk a.toArray).size+(ByteArray.mk b.toArray).size:Nat):Int) > IntKind.i64.max):=by
       have e1:(ByteArray.mk a.toArray).size=a.length:=(by simp[ByteArray.size]);have e2:(ByteArray.mk b.toArray).size=b.length:=(by simp[ByteArray.size]);rw[e1,e2];have:IntKind.i64.max=9223372036854775807:=(by decide);rw[this];omega
     have h3:(ByteArray.mk a.toArray)++(ByteArray.mk b.toArray)=ByteArray.mk (a++b).toArray:=by
       apply ByteArray.ext;simp
     exact⟨_,by simp only[binOp,Op.stringOp,if_neg h2,h3];rfl,sM⟩
   all_goals (subst h;exact⟨_,by simp only[binOp,Op.stringOp,toList_mk,←sL,Sem.run_pure,Bool.not_or],kE⟩)
 ·simp at h
theorem run_equalIn_bool(d:Nat){t:TypeId}(hu:P.underlying t=some .bool)(a b:Bool):(Op.equalIn (d+1) t (.bool a) (.bool b)).run P w=.ok (a == b) w:=by
 simp only[Op.equalIn,Sem.run_bind,run_underlying hu,Result.andThen_ok,Sem.run_pure]
theorem run_equal_bool{t:TypeId}(hu:P.underlying t=some .bool)(a b:Bool):(Op.equal t (.bool a) (.bool b)).run P w=.ok (a == b) w:=
 run_equalIn_bool 9999 hu a b
theorem y6{op:BinOp}{t:TypeId}{neg:Bool}(hu:P.underlying t=some .bool)(hop:(op=.eql∧neg=false)∨(op=.neq∧neg=true))(a b:Bool)(ox oy:Operand) :
   (do eqGuard op t ox oy (.bool a) (.bool b);binOp op t (.bool a) (.bool b):Sem Value).run P w=.ok (.bool (if neg then !(a == b) else (a == b))) w:=by
 rcases hop with⟨rfl,rfl⟩|⟨rfl,rfl⟩
 ·have hg:(eqGuard .eql t ox oy (.bool a) (.bool b)).run P w=.ok () w:=(by simp[eqGuard]);simp only[Sem.run_bind,hg,Result.andThen_ok,binOp,run_equal_bool hu,Sem.run_pure];rfl
 ·have hg:(eqGuard .neq t ox oy (.bool a) (.bool b)).run P w=.ok () w:=(by simp[eqGuard]);simp only[Sem.run_bind,hg,Result.andThen_ok,binOp,run_equal_bool hu,Sem.run_pure];rfl
end
end Go.Ab
namespace Go.Ab
section
variable {P:Program} {ns:Names} {G:Gh} {w:World}
theorem Addr.dX(b o n:Nat):(⟨b,o,none⟩:Addr).add n=⟨b,o+n,none⟩:=by unfold Addr.add;split<;>simp_all
theorem qn(vs:List Value)(off sz:Nat):vs.toArray.extract off (off+sz)=((vs.drop off).take sz).toArray:=by
 simp[List.extract_toArray]
theorem Cf{t off sz:Nat}{ag:Bool}{cs:List AV}{vs:List Value}{x:AV}(hsz:cQ P t=some sz)(hag:gp P t=some ag)
   (h:bO ag sz cs off=some x) (hr:az (num ns) G cs vs) :
   ∃v,(part t vs.toArray off).run P w=.ok v w∧aA (num ns) G x v:=by
 unfold bO at h;split at h
 · rename_i hle;cases ag with
   |true=>
     simp at h;subst h;refine⟨.agg (vs.toArray.extract off (off+sz)),?_,?_⟩
     ·simp only[part,Sem.run_bind,gq hag,Result.andThen_ok,if_true,dt hsz,Sem.run_pure]
     ·simp only[aA];exact⟨(vs.drop off).take sz,by rw[qn],(hr.drop off).take sz⟩
   |false=>
     simp at h;obtain⟨_,h⟩:=h;obtain⟨v,h1,h2⟩:=hr.get h;refine⟨v,?_,h2⟩;simp only[part,Sem.run_bind,gq hag,Result.andThen_ok,Bool.false_eq_true,if_false];simp[h1]
 ·simp at h
theorem y7{t off sz:Nat}{ag:Bool}{cs:List PV}{vs:List Value}{x:AV}(hsz:cQ P t=some sz)(hag:gp P t=some ag)
   (h:cJ ag sz (cs.drop off)=some x) (hr:dd G.K cs vs) :
   ∃v,(part t vs.toArray off).run P w=.ok v w∧aA (num ns) G x v:=by
 unfold cJ at h;split at h
 · rename_i hle;cases ag with
   |true=>
     simp at h;subst h;refine⟨.agg (vs.toArray.extract off (off+sz)),?_,?_⟩
     ·simp only[part,Sem.run_bind,gq hag,Result.andThen_ok,if_true,dt hsz,Sem.run_pure]
     ·simp only[aA,Rel];exact⟨(vs.drop off).take sz,by rw[qn],dd.take sz (dd.drop off hr)⟩
   |false=>
     simp only[Bool.false_eq_true,if_false,Option.ite_none_right_eq_some,Option.map_eq_some_iff]at h;obtain⟨_,c,h,rfl⟩:=h;rw[List.getElem?_drop]at h;obtain⟨v,h1,h2⟩:=hr.get h;simp only[Nat.add_zero]at h1;refine⟨v,?_,by simp only[aA];exact Rel.Kd h2⟩;simp only[part,Sem.run_bind,gq hag,Result.andThen_ok,Bool.false_eq_true,if_false];simp[h1]
 ·simp at h
theorem jQ{t sz:Nat}{ag:Bool}{b o:Nat}{vs:List Value}(hsz:cQ P t=some sz)(hag:gp P t=some ag)
   (hc:∀j v,vs[j]?=some v→w.cell? ⟨b,o+j,none⟩=some v) (hl:sz≤vs.length) (h1:ag=false→sz=1) :
   (loadVar t ⟨b,o,none⟩).run P w=.ok (if ag then .agg (vs.take sz).toArray else vs.getD 0 undef) w:=by
 cases ag with
 |true=>
   have hlen:(vs.take sz).length=sz:=by simp;omega
   have:=run_loadCells_list (P:=P) w ⟨b,o,none⟩ (vs.take sz) (fun j v hj=>by
     rw[Addr.dX];rw[List.getElem?_take]at hj;split at hj
     ·exact hc j v hj
     ·simp at hj)
   rw[hlen]at this;simp only[loadVar,Sem.run_bind,gq hag,Result.andThen_ok,if_true,dt hsz,this,Sem.run_pure]
 |false=>
   have:=h1 rfl;subst this;cases vs with
   |nil=>simp at hl
   |cons v r=>
     have:=hc 0 v rfl;simp only[Nat.add_zero]at this;simp only[loadVar,Sem.run_bind,gq hag,Result.andThen_ok,Bool.false_eq_true,if_false,run_load,this];simp
theorem nK{t sz:Nat}{ag:Bool}{b o:Nat}{vs:List Value}{cs:List PV}{x:AV}(hsz:cQ P t=some sz)(hag:gp P t=some ag)
   (h:cJ ag sz cs=some x) (hr:dd G.K cs vs) (hc:∀j v,vs[j]?=some v→w.cell? ⟨b,o+j,none⟩=some v) :
   ∃v,(loadVar t ⟨b,o,none⟩).run P w=.ok v w∧aA (num ns) G x v:=by
 have hlen:=hr.length;unfold cJ at h;split at h
 · rename_i hle;cases ag with
   |true=>
     simp at h;subst h;refine⟨_,jQ hsz hag hc (by omega) (by simp),?_⟩;simp only[if_true,aA,Rel];exact⟨_,rfl,dd.take sz hr⟩
   |false=>
     simp only[Bool.false_eq_true,if_false,Option.ite_none_right_eq_some,Option.map_eq_some_iff]at h;obtain⟨h1,c,h,rfl⟩:=h;obtain⟨v,h3,h4⟩:=hr.get h;refine⟨_,jQ hsz hag hc (by omega) (fun _=>h1),?_⟩;simp only[Bool.false_eq_true,if_false,aA];have:vs.getD 0 undef=v:=by simp[List.getD,h3]
     rw[this];exact Rel.Kd h4
 ·simp at h
theorem iU{t sz:Nat}{ag:Bool}{b off:Nat}{vs:List Value}{cs:List AV}{x:AV}(hsz:cQ P t=some sz)(hag:gp P t=some ag)
   (h:bO ag sz cs off=some x) (hr:az (num ns) G cs vs) (hc:∀j v,vs[j]?=some v→w.cell? ⟨b,j,none⟩=some v) :
   ∃v,(loadVar t ⟨b,off,none⟩).run P w=.ok v w∧aA (num ns) G x v:=by
 have hlen:=hr.length
 have hc':∀j v,(vs.drop off)[j]?=some v→w.cell? ⟨b,off+j,none⟩=some v:=fun j v hj=>by
   rw[List.getElem?_drop]at hj;exact hc _ v hj
 unfold bO at h;split at h
 · rename_i hle;cases ag with
   |true=>
     simp at h;subst h;refine⟨_,jQ hsz hag hc' (by simp;omega) (by simp),?_⟩;simp only[if_true,aA];exact⟨_,rfl,az.take sz (az.drop off hr)⟩
   |false=>
     simp at h;obtain⟨h1,h⟩:=h;obtain⟨v,h3,h4⟩:=hr.get h;refine⟨_,jQ hsz hag hc' (by simp;omega) (fun _=>h1),?_⟩;simp only[Bool.false_eq_true,if_false];have:(vs.drop off).getD 0 undef=v:=by simp[List.getD,List.getElem?_drop,h3]
     rw[this];exact h4
 ·simp at h
theorem kj{b:Nat}{c:Array Value}{t:TypeId}{fr:Nat×Nat}(h:w.heap[b]?=some (.cells c t fr)):∀j v,c.toList[j]?=some v→w.cell? ⟨b,j,none⟩=some v:=by
 intro j v hj;simp[World.cell?,h];simpa using hj
theorem oK{b:Nat}{c:Array Value}{t:TypeId}{fr:Nat×Nat}{vs suf:List Value}(h:w.heap[b]?=some (.cells c t fr))(hs:c.toList=vs++suf):∀j v,vs[j]?=some v→w.cell? ⟨b,j,none⟩=some v:=by
 intro j v hj;refine kj h j v ?_;rw[hs,List.getElem?_append_left (List.getElem?_eq_some_iff.1 hj).1];exact hj
theorem qo{t f:Nat}{fd:Field}(h:jh P t f=some fd):∃fs,P.underlying t=some (.struct fs)∧fs[f]?=some fd:=by
 unfold jh at h;split at h
 ·rename_i fs hu;exact⟨fs,hu,h⟩
 ·simp at h
theorem cV{t e:Nat}(h:eM P t=some e):P.underlying t=some (.slice e):=by
 unfold eM at h;split at h
 ·rename_i hu;simp at h;subst h;exact hu
 ·simp at h
theorem y8{t f sz:Nat}{ag:Bool}{fd:Field}{x y:AV}{v:Value}(hf:jh P t f=some fd)(hsz:cQ P fd.type=some sz)(hag:gp P fd.type=some ag)
   (h:bA (.field fd.offset sz ag) [x]=some y) (hr:aA (num ns) G x v):∃u,(Instr.field t v f).run P w=.ok u w∧aA (num ns) G y u:=by
 obtain⟨fs,hu,hg⟩:=qo hf;simp only[bA]at h;split at h
 ·rename_i cs;simp only[aA]at hr;obtain⟨vs,rfl,hr⟩:=hr;obtain⟨u,h1,h2⟩:=Cf (w:=w) hsz hag h hr;refine⟨u,?_,h2⟩;simp only[Instr.field,Sem.run_bind,run_underlying hu,Result.andThen_ok,hg,asAgg,Sem.run_pure,h1]
 ·rename_i cs;simp only[aA,Rel]at hr;obtain⟨vs,rfl,hr⟩:=hr;obtain⟨u,h1,h2⟩:=y7 (ns:=ns) (w:=w) hsz hag h hr;refine⟨u,?_,h2⟩;simp only[Instr.field,Sem.run_bind,run_underlying hu,Result.andThen_ok,hg,asAgg,Sem.run_pure,h1]
 ·simp at h
theorem mm{t f s:Nat}{fd:Field}(hf:jh P t f=some fd)(hsz:cQ P fd.type=some s)(hs:s≠0)(b o:Nat) :
   (Instr.fieldAt t (.pointer (some ⟨b,o,none⟩)) f).run P w=.ok (.pointer (some ⟨b,o+fd.offset,none⟩)) w:=by
 obtain⟨fs,hu,hg⟩:=qo hf;simp only[Instr.fieldAt,Sem.run_bind,run_underlying hu,Result.andThen_ok,hg,Instr.sureAddr,Sem.run_pure,fieldPlace,dt hsz,hs,if_false,Addr.dX]
theorem y9{t f s:Nat}{fd:Field}{x y:AV}{v:Value}(hf:jh P t f=some fd)(hsz:cQ P fd.type=some s)(hs:s≠0)
   (h:bA (.gV fd.offset) [x]=some y) (hr:aA (num ns) G x v):∃u,(Instr.fieldAt t v f).run P w=.ok u w∧aA (num ns) G y u:=by
 simp only[bA]at h;split at h
 ·simp at h;subst h;simp only[aA]at hr;obtain⟨b,e,rfl⟩:=hr;exact⟨_,mm hf hsz hs _ _,by simp only[aA];exact⟨b,e,rfl⟩⟩
 ·simp at h;subst h;simp only[aA]at hr;obtain⟨b,e,rfl⟩:=hr;exact⟨_,mm hf hsz hs _ _,by simp only[aA];exact⟨b,e,rfl⟩⟩
 · simp at h;subst h;simp only[aA]at hr;obtain⟨b,o,vs,rfl,h1,h2⟩:=hr;refine⟨_,mm hf hsz hs _ _,?_⟩;simp only[aA];refine⟨b,_,vs.drop fd.offset,rfl,?_,dd.drop _ h2⟩;intro j u hj;rw[List.getElem?_drop]at hj;have:=h1 _ u hj
   rwa [Nat.add_assoc]
 ·simp at h
theorem qp{t e sz:Nat}{k:IntKind}{i:Int}{b o len cap:Nat}(he:eM P t=some e)(hsz:cQ P e=some sz)(h0:0≤i)(hi:i.toNat<len) :
   (Instr.indexAt t (.slice (some ⟨b,o,none⟩) len cap) (.int k i)).run P w=.ok (.pointer (some ⟨b,o+i.toNat*sz,none⟩)) w:=by
 have hu:=cV he;have:(0≤i∧i<(len:Int)):=⟨h0,by omega⟩;simp only[Instr.indexAt,Sem.run_bind,asIntOf,Sem.run_pure,Result.andThen_ok,run_underlying hu];simp[this,dt hsz,Addr.dX]
theorem dP{x:AV}{v:Value}{els:List PV}(h:cf x=some els)(hr:aA (num ns) G x v):Rel G.K (.aw els) v:=by
 unfold cf at h;split at h
 ·simp at h;subst h;simpa only[aA] using hr
 ·simp at h;subst h;simp only[aA]at hr;obtain⟨b,l,rfl,hr⟩:=hr;exact bP.2 ⟨b,l,l,rfl,Nat.le_refl _,hr⟩
 ·simp at h;subst h;simp only[aA]at hr;obtain⟨t,_,_,hr,_⟩:=hr;exact hr
 ·simp at h
theorem y_{t e sz:Nat}{k:IntKind}{i:Int}{x y:AV}{v:Value}(he:eM P t=some e)(hsz:cQ P e=some sz)
   (h:bA (.fU sz) [x,.pv (.int k i)]=some y) (hr:aA (num ns) G x v) :
   ∃u,(Instr.indexAt t v (.int k i)).run P w=.ok u w∧aA (num ns) G y u:=by
 simp only[bA]at h;split at h
 ·simp at h
 · rename_i h0;split at h
   ·rename_i s sz' n ag;simp only[aA]at hr;obtain⟨b,c,e1,rfl,_⟩:=hr;simp only[Option.ite_none_right_eq_some,Option.some.injEq]at h;obtain⟨⟨h1,h2⟩,rfl⟩:=h;refine⟨_,qp he hsz (by omega) h2,?_⟩;simp only[aA];exact⟨b,e1,by simp⟩
   · rename_i x' _;split at h
     · rename_i els hels;have hr':=dP hels hr;obtain⟨base,len,cap,rfl,_,hlen,hrow⟩:=bP.1 hr';split at h
       · rename_i el hel;simp only[Option.ite_none_right_eq_some,Option.some.injEq]at h;obtain⟨hl,rfl⟩:=h;have hlt:i.toNat<els.length:=(List.getElem?_eq_some_iff.1 hel).1;rcases hrow with hnil|⟨b,o,sz',rfl,hrow⟩
         ·subst hnil;simp at hlt
         · obtain⟨vs,g1,g2,g3⟩:=hrow.get hel;have:sz=sz':=by rw[←hl,←g3.length,g1]
           subst this;refine⟨_,qp he hsz (by omega) (by omega),?_⟩;simp only[aA];exact⟨b,_,vs,rfl,g2,g3.cells⟩
       ·simp at h
     ·simp at h
theorem za{t:Nat}{k:IntKind}{i:Int}{s:List UInt8}{y:AV}(hu:P.underlying t=some .string)
   (h:bA .index [.pv (.str s),.pv (.int k i)]=some y) :
   ∃u,(Instr.index t (.string ⟨s.toArray⟩) (.int k i)).run P w=.ok u w∧aA (num ns) G y u:=by
 simp only[bA]at h;split at h
 ·simp at h
 · rename_i h0;simp only[Option.map_eq_some_iff]at h;obtain⟨b,h1,rfl⟩:=h;refine⟨_,?_,dw⟩
   have h2:(ByteArray.mk s.toArray)[i.toNat]?=some b:=by
     have hlt:=(List.getElem?_eq_some_iff.1 h1).1;rw[getElem?_pos (ByteArray.mk s.toArray) i.toNat (by simpa[ByteArray.size] using hlt)];have:=(List.getElem?_eq_some_iff.1 h1).2;simp only[Option.some.injEq];rw[←this];rfl
   simp only[Instr.index,Sem.run_bind,asIntOf,Sem.run_pure,Result.andThen_ok,run_underlying hu];have h3:0≤i:=by omega
   simp only[h3,if_true,h2,Sem.run_pure]
end
end Go.Ab
namespace Go.Ab
section
variable {P:Program} {ns:Names} {G:Gh} {w:World}
theorem gr{α β:Type}{f:α→Option β}:∀{l:List α} {r:List β},cC f l=some r→r.length=l.length
 |[],_,h=>by simp[cC]at h;subst h;rfl
 |x::l,r,h=>by
   simp only[cC]at h;split at h
   ·rename_i y ys h1 h2;simp at h;subst h;simp[gr h2]
   ·simp at h
theorem zc{α β:Type}{f:α→Option β}:∀{l:List α} {r:List β},cC f l=some r→∀{i:Nat} {x:α},l[i]?=some x→∃y,r[i]?=some y∧f x=some y
 |[],_,_,i,x,hx=>by simp at hx
 |a::l,r,h,i,x,hx=>by
   simp only[cC]at h;split at h
   · rename_i y ys h1 h2;simp at h;subst h;cases i with
     |zero=>simp at hx;subst hx;exact⟨y,by simp,h1⟩
     |succ i=>simpa using zc h2 (by simpa using hx)
   ·simp at h
theorem zd{α β:Type}{f:α→Sem β}{g:α→Option β}(hf:∀x y,g x=some y→(f x).run P w=.ok y w):∀{l:List α} {r:List β},
   cC g l=some r→(l.mapM f).run P w=.ok r w
 |[],_,h=>by simp[cC]at h;subst h;simp
 |x::l,r,h=>by
   simp only[cC]at h;split at h
   ·rename_i y ys h1 h2;simp at h;subst h;simp only[List.mapM_cons,Sem.run_bind,hf x y h1,Result.andThen_ok,zd hf h2,Sem.run_pure]
   ·simp at h
theorem gv{t:Nat}{z:List PV}(h:ck P t=some z):∃zv,(zeroValue t).run P w=.ok zv w∧cC df zv.cells.toList=some z:=by
 unfold ck at h;split at h
 · rename_i zv hz;cases hi:P.info? t with
   |none=>simp[hi]at hz
   |some i=>
     simp[hi]at hz;exact⟨zv,by simp[zeroValue,typeInfo,hi,hz],h⟩
 ·simp at h
theorem w_{ρ:bK}{v:Value}{p:PV}(h:df v=some p):aA ρ G (bA.zeroCell p) v∧a0 (bA.zeroCell p)=true:=by
 obtain⟨h1,h2⟩:=hZ (K:=G.K) h;unfold bA.zeroCell;split
 · refine⟨?_,rfl⟩;cases v with
   |slice a l c=>
     cases a with
     |some a=>simp[df]at h
     |none=>
       cases l with
       |succ l=>simp[df]at h
       |zero=>
         cases c with
         |succ c=>simp[df]at h
         |zero=>simp only[aA];exact⟨none,0,rfl,rfl,.inl rfl⟩
   |_=>simp[df]at h
 ·refine⟨by simp only[aA];exact Rel.Kd h1,?_⟩;cases p<;>simp_all[a0,gW]
theorem ik{ρ:bK}:∀{l:List Value} {z:List PV},cC df l=some z→az ρ G (z.map bA.zeroCell) l∧(z.map bA.zeroCell).all a0=true
 |[],_,h=>by simp[cC]at h;subst h;simp[az]
 |v::l,z,h=>by
   simp only[cC]at h;split at h
   ·rename_i y ys h1 h2;simp at h;subst h;obtain⟨g1,g2⟩:=ik (ρ:=ρ) h2;obtain⟨g3,g4⟩:=w_ (G:=G) (ρ:=ρ) h1;simp only[List.map_cons,az,List.all_cons,g4,g2,Bool.and_true,and_true];exact⟨v,l,rfl,g3,g1⟩
   ·simp at h
theorem pM(off:Nat):∀(l:List Value) (k:Nat) (cs:Array Value),off+k+l.length≤cs.size →
   ((l.zipIdx k).foldl (fun cs (x:Value×Nat)=>cs.setIfInBounds (off+x.2) x.1) cs).toList=cs.toList.take (off+k)++l++cs.toList.drop (off+k+l.length)
 |[],k,cs,_=>by simp
 |v::l,k,cs,h=>by
   simp only[List.zipIdx_cons,List.foldl_cons];have h':off+(k+1)+l.length≤(cs.setIfInBounds (off+k) v).size:=by simp at h⊢;omega
   rw[pM off l (k+1) _ h'];have:=list_seg_step cs.toList (off+k) v l (by simp at h⊢;omega);simpa[Array.toList_setIfInBounds,Nat.add_assoc] using this
theorem d_{ρ:bK}{cs:List AV}{l:List Value}(off:Nat){us:List AV}{vs:List Value}(h:az ρ G cs l)(k:az ρ G us vs) :
   az ρ G (aR cs off us) (l.take off++vs++l.drop (off+vs.length)):=by
 unfold aR;rw[←k.length];exact az.append (az.append (h.take off) k) (h.drop _)
theorem fo{B:AV→Bool}{cs us:List AV}{off:Nat}(h:cs.all B=true)(k:us.all B=true):(aR cs off us).all B=true:=by
 unfold aR;rw[List.all_eq_true]at *;intro x hx;simp only[List.mem_append]at hx;rcases hx with (hx|hx)|hx
 ·exact h x (List.mem_of_mem_take hx)
 ·exact k x hx
 ·exact h x (List.mem_of_mem_drop hx)
theorem sN{place:Nat→Option (Nat×Nat)}:∀{is:List Nat} {pl:List (Nat×Nat)} {vals:List AV} {rvs:List Value} {cells:List AV} {rc:Array Value} {cs:List AV},
   cC place is=some pl→az (num ns) G vals rvs→az (num ns) G cells rc.toList→cells.all a0=true→is.length=rvs.length→lT cells pl vals=some cs →
   ∃rc',Instr.fill place rc (is.zip rvs)=some rc'∧az (num ns) G cs rc'.toList∧cs.all a0=true
 |[],pl,vals,rvs,cells,rc,cs,hp,hv,hc,hb,hl,h=>by
   simp[cC]at hp;subst hp;have:rvs=[]:=by cases rvs<;>simp_all
   subst this;have:=hv.length;have:vals=[]:=by cases vals<;>simp_all
   subst this;simp[lT]at h;subst h;exact⟨rc,by simp[Instr.fill],hc,hb⟩
 |i::is,pl,vals,rvs,cells,rc,cs,hp,hv,hc,hb,hl,h=>by
   simp only[cC]at hp;split at hp
   · rename_i y ys h1 h2;simp at hp;subst hp;obtain⟨off,sz⟩:=y;cases vals with
     |nil=>simp[lT]at h
     |cons v vals=>
       simp only[az]at hv;obtain⟨rv,rr,rfl,e1,e2⟩:=hv;simp only[lT,Option.ite_none_right_eq_some]at h;obtain⟨⟨g1,g2,g3⟩,h⟩:=h;have hcells:=e1.cells g3;have hlen:=hcells.length;have hsz:rv.cells.size=sz:=by rw[←g1,←hlen];simp
       have hrc:rc.size=cells.length:=by have:=hc.length;simpa using this
       simp only[List.zip_cons_cons,Instr.fill,h1]
       have hcond:(decide (rv.cells.size≠sz) || decide (off+rv.cells.size > rc.size))=false:=by
         simp[hsz];omega
       have hfold:(rv.cells.zipIdx.foldl (fun cs (x:Value×Nat)=>cs.setIfInBounds (off+x.2) x.1) rc).toList=rc.toList.take off++rv.cells.toList++rc.toList.drop (off+rv.cells.toList.length):=by
         have:=pM off rv.cells.toList 0 rc (by simp;omega);rw[←Array.foldl_toList];simpa using this
       rw[if_neg (by simp[hsz];omega)];refine sN (is:=is) h2 e2 (cells:=aR cells off (aX v)) ?_ (fo hb g3) (by simpa using hl) h;rw[hfold];exact d_ off hc hcells
   ·simp at hp
theorem xa{t:Nat}{all:List (Nat×Nat)}(h:fieldsOf P t=some all):∃fs,P.underlying t=some (.struct fs) ∧
   (fs.mapM fun f=>(do pure (f.offset,←sizeOf f.type):Sem (Nat×Nat))).run P w=.ok all.toArray w:=by
 unfold fieldsOf at h;split at h
 · rename_i fs hu;refine⟨fs,hu,?_⟩;rw[Array.mapM_eq_mapM_toList];simp only[Sem.run_map];rw[zd (g:=fun f=>(cQ P f.type).map fun s=>(f.offset,s)) ?_ h]
   ·rfl
   ·intro f y hy;simp only[Option.map_eq_some_iff]at hy;obtain⟨s,h1,rfl⟩:=hy;simp only[Sem.run_bind,dt h1,Result.andThen_ok,Sem.run_pure]
 ·simp at h
theorem ze{t:Nat}{z:List PV}{is:List Nat}{pl:List (Nat×Nat)}{vals:List AV}{rvs:List Value}{x:AV}
   (hz:ck P t=some z) (hp:placesOf P t is=some pl) (hr:az (num ns) G vals rvs) (hl:is.length=rvs.length) (h:bA (.build z pl) vals=some x) :
   ∃v,(Instr.build t (is.zip rvs).toArray).run P w=.ok v w∧aA (num ns) G x v:=by
 obtain⟨zv,hz1,hz2⟩:=gv (w:=w) hz;unfold placesOf at hp;split at hp
 · rename_i all hall;obtain⟨fs,hu,hm⟩:=xa (w:=w) hall;simp only[bA,Option.map_eq_some_iff]at h;obtain⟨cs,h1,rfl⟩:=h;obtain⟨g1,g2⟩:=ik (G:=G) (ρ:=num ns) hz2;obtain⟨rc,e1,e2,_⟩:=sN (place:=(all.toArray[·]?)) (rc:=zv.cells) (by simpa using hp) hr g1 g2 hl h1;refine⟨.agg rc,?_,?_⟩
   ·simp only[Instr.build,Sem.run_bind,hz1,Result.andThen_ok,run_underlying hu,hm];simp only[e1,Sem.run_pure]
   ·simp only[aA];exact⟨rc.toList,by simp,e2⟩
 ·simp at hp
theorem Rel.WO{K:bm}{p:PV}{v:Value}(h:Rel K p v):R K true p v.cells.toList:=by
 cases p with
 |agg cs=>obtain⟨vs,rfl,h⟩:=h;simp only[R,Value.cells];exact⟨trivial,by simpa using h⟩
 |bool b=>have h':=h;simp only[Rel,R]at h';simp at h';subst h';simpa[Value.cells] using R.top h
 |int k n=>have h':=h;simp only[Rel,R]at h';simp at h';subst h';simpa[Value.cells] using R.top h
 |str s=>have h':=h;simp only[Rel,R]at h';simp at h';subst h';simpa[Value.cells] using R.top h
 |aw els=>
   have h':=h;obtain⟨b,l,c,rfl,_⟩:=bP.1 h';simpa[Value.cells] using R.top h
theorem oL{x:AV}{p:PV}{v:Value}(h:me x=some p)(hr:aA (num ns) G x v):Rel G.K p v:=by
 unfold me at h;split at h<;>simp at h<;>subst h
 ·simpa only[aA] using hr
 ·exact dP (x:=.cY _) rfl hr
 ·exact dP (x:=.own _ _) rfl hr
theorem qq{x:AV}:dR [] x=me x:=by
 cases x<;>simp[dR,me]
theorem pN{x:AV}{p:PV}(h:me x=some p)(hl:a0 x=true):gW p=true:=by
 cases x with
 |pv q=>simp[me]at h;subst h;cases q<;>simp_all[a0,gW]
 |cY _=>simp[me]at h;subst h;rfl
 |own _ _=>simp[me]at h;subst h;rfl
 |_=>simp[me]at h
theorem Rel.Kf{K:bm}{p:PV}{v:Value}(h:Rel K p v)(hl:gW p=true):R K false p [v]:=(Kc hl).1 h
theorem vE:∀{cs:List AV} {ps:List PV} {vs:List Value},dF [] cs=some ps→az (num ns) G cs vs→dd G.K ps vs
 |[],ps,vs,h,hr=>by simp[dF]at h;subst h;simp only[az]at hr;simp[dd,hr]
 |c::cs,ps,vs,h,hr=>by
   simp only[dF,qq,Option.ite_none_right_eq_some]at h;obtain⟨hl,h⟩:=h;split at h
   ·rename_i p ps' h1 h2;simp at h;subst h;simp only[az]at hr;obtain⟨v,r,rfl,e1,e2⟩:=hr;simp only[dd];exact⟨v,r,rfl,(oL h1 e1).Kf (pN h1 hl),vE h2 e2⟩
   ·simp at h
theorem mZ{x:AV}{p:PV}{v:Value}(h:bR [] x=some p)(hr:aA (num ns) G x v):Rel G.K p v:=by
 cases x with
 |agg cs=>
   simp only[bR,Option.map_eq_some_iff]at h;obtain⟨ps,h1,rfl⟩:=h;simp only[aA]at hr;obtain⟨vs,rfl,hr⟩:=hr;simp only[Rel];exact⟨vs,rfl,vE h1 hr⟩
 |_=>simp only[bR,qq]at h;exact oL h hr
theorem kY:∀{xs:List AV} {ps:List PV} {vs:List Value},cU [] xs=some ps→az (num ns) G xs vs→jL G.K ps vs
 |[],ps,vs,h,hr=>by simp[cU]at h;subst h;simp only[az]at hr;exact hr
 |c::cs,ps,vs,h,hr=>by
   simp only[cU]at h;split at h
   ·rename_i p ps' h1 h2;simp at h;subst h;simp only[az]at hr;obtain⟨v,r,rfl,e1,e2⟩:=hr;exact⟨v,r,rfl,mZ h1 e1,kY h2 e2⟩
   ·simp at h
def Gh.oM(G:Gh)(b:Nat)(c:Array Value):Gh:={ G with K:=fun b' o=>if b'=b then c[o]? else G.K b' o }
theorem Inv.jj{ρ:bK}{mem:List (Nat×List AV)}{sh:Sh}{aa:aG}(h:Inv ρ G w mem sh aa){b o:Nat}{v:Value}(hk:G.K b o=some v):b<w.heap.size:=
 World.block_lt_of_cell? _ _ (h.known b o v hk)
theorem Gh.m4{ρ:bK}{mem:List (Nat×List AV)}{sh:Sh}{aa:aG}(h:Inv ρ G w mem sh aa)(c:Array Value):G.le (G.oM w.heap.size c) where
 K:=fun b o v hk=>by
   have:=h.jj hk;simp only[Gh.oM];rw[if_neg (by omega)];exact hk
 pm:=fun _ _ h=>h
 sm:=fun _ _ h=>h
 tk:=fun _ t h=>⟨t,h,⟨Nat.le_refl _,t.gD⟩,fun _=>rfl⟩
theorem bq{o:Obj}{b:Nat}(h:b<w.heap.size):(w.alloc o).heap[b]?=w.heap[b]?:=RowKit.Below.heap_alloc w o b h
theorem heap_alloc_new{o:Obj}:(w.alloc o).heap[w.heap.size]?=some o:=by
 show (w.heap.push o)[w.heap.size]?=some o;simp
theorem cB{b:Nat}{o:Obj}(h:w.heap[b]?=some o):b<w.heap.size:=by
 rcases Nat.lt_or_ge b w.heap.size with h'|h'
 ·exact h'
 ·simp[Array.getElem?_eq_none h']at h
theorem V1.mono{ρ:bK}{G':Gh}{w':World}{b:Nat}{r:mi}{cells:List AV}(h:V1 ρ G w b r cells)(hle:G.le G')(hr:G'.role b=G.role b)(hh:w'.heap[b]?=w.heap[b]?):V1 ρ G' w' b r cells:=by
 obtain⟨h1,c,t,h2,h3⟩:=h;exact⟨hr.trans h1,c,t,hh.trans h2,az.mono hle h3⟩
theorem w9.mono{ρ:bK}{G':Gh}{w':World}{b:Nat×Nat}{r:mi}{cells:List AV}(h:w9 ρ G w b r cells)(hle:G.le G')(hr:G'.role b.1=G.role b.1)(hh:w'.heap[b.1]?=w.heap[b.1]?):w9 ρ G' w' b r cells:=by
 obtain⟨h1,o,h2,h3⟩:=h;exact⟨hr.trans h1,o,hh.trans h2,h3.mono hle⟩
theorem w9.lt{ρ:bK}{b:Nat×Nat}{r:mi}{cells:List AV}(h:w9 ρ G w b r cells):b.1<w.heap.size:=by
 obtain⟨_,o,h2,_⟩:=h;exact cB h2
theorem Inv.mo{ρ:bK}{mem:List (Nat×List AV)}{sh:Sh}{aa:aG}(h:Inv ρ G w mem sh aa)(c:Array Value)(t:TypeId) :
   Inv ρ (G.oM w.heap.size c) (w.alloc (.cells c t)) mem sh aa:=by
 have hle:=Gh.m4 h c;constructor
 · intro b o v hk;simp only[Gh.oM]at hk;split at hk
   ·rename_i hb;subst hb;simp[hk]
   · rw[World.cell?_alloc_old]
     ·exact h.known b o v hk
     ·simpa using ‹¬b=w.heap.size›
 · intro b o v hk;simp only[Gh.oM]at hk;split at hk
   ·rename_i hb;subst hb;exact .inl (h.fresh _ (Nat.le_refl _))
   ·exact h.bh b o v hk
 ·intro b hb;simp at hb;exact h.fresh b (by omega)
 · intro d cells hd;obtain⟨b,e1,e2,e3⟩:=h.cG d cells hd;have hb:b<w.heap.size:=by obtain⟨c,t,hh,_⟩:=e2.at_;exact cB hh
   exact⟨b,e1,e2.mono hle rfl (bq hb),e3⟩
 ·exact h.gE
 ·intro d cells hd;obtain⟨b,e1,e2,e3⟩:=h.cR d cells hd;have hb:b.1<w.heap.size:=e2.lt;exact⟨b,e1,e2.mono hle rfl (bq hb),e3⟩
 ·exact h.eo
 · intro τ n hn;obtain⟨tk,e1,e2,e3⟩:=h.cT τ n hn;refine⟨tk,e1,e2,e3.cap,e3.zero,fun hlt=>?_⟩;obtain⟨b,o,cc,ty,f1,f2,f3,f4,f5⟩:=e3.spare hlt;have hb:=cB f3;refine⟨b,o,cc,ty,f1,f2,(bq hb).trans f3,f4,fun j v hk=>f5 j v ?_⟩;simp only[Gh.oM]at hk
   rwa [if_neg (by omega)]at hk
 ·exact h.eI
 ·intro b c' hb;obtain⟨h1,t',z,h2⟩:=h.l5 b c' hb;exact⟨h1,t',z,(bq (Array.getElem?_eq_some_iff.1 h2).1).trans h2⟩
theorem bu.mo{ρ:bK}{mem:List (Nat×List AV)}{sh:Sh}{aa:aG}(h:Inv ρ G w mem sh aa)(c:Array Value)(t:TypeId) :
   bu G w (G.oM w.heap.size c) (w.alloc (.cells c t)) where
 size:=by simp
 os:=rfl
 tape:=rfl
 output:=rfl
 K:=(Gh.m4 h c).K
 sm:=fun _ _ h=>h
 dH:=fun b hb hr=>⟨hr,bq hb⟩
 iK:=fun b τ _ hr=>.inr ⟨τ,hr⟩
 gF:=fun b o v hb _ hk=>by
   simp only[Gh.oM]at hk
   rwa [if_neg (by omega)]at hk
theorem N5{b:Nat}{l:List Value}:At (G.oM b l.toArray).K b 0 l:=by
 intro j v hj;simp only[Gh.oM,if_true,Nat.zero_add];simpa using hj
end
end Go.Ab
namespace Go.Ab
section
variable {P:Program} {G:Gh} {w:World}
theorem jk{t:TypeId}{c:CK}(h:gC P t=some c):cQ P t=some 1∧gp P t=some false ∧
   ((c=.int∧∃k,P.underlying t=some (.int k))∨(c=.str∧P.underlying t=some .string)∨(c=.bool∧P.underlying t=some .bool)):=by
 unfold gC at h;simp only[Option.ite_none_right_eq_some]at h;obtain⟨h1,h⟩:=h;refine⟨h1,?_⟩;split at h
 ·rename_i k hu;cases h;exact⟨by simp[gp,hu],.inl ⟨rfl,k,hu⟩⟩
 ·rename_i hu;cases h;exact⟨by simp[gp,hu],.inr (.inl ⟨rfl,hu⟩)⟩
 ·rename_i hu;cases h;exact⟨by simp[gp,hu],.inr (.inr ⟨rfl,hu⟩)⟩
 ·cases h
theorem vF{c:CK}{p q:PV}{b:Bool}(h:sB c p q=some b) :
   (∃k x y,c=.int∧p=.int k x∧q=.int k y∧b=(x == y))∨(∃x y,c=.str∧p=.str x∧q=.str y∧b=(x == y))∨(∃x y,c=.bool∧p=.bool x∧q=.bool y∧b=(x == y)):=by
 unfold sB at h;split at h
 ·rename_i k x k' y;simp only[Option.ite_none_right_eq_some,Option.some.injEq]at h;obtain⟨rfl,rfl⟩:=h;exact .inl ⟨k,x,y,rfl,rfl,rfl,rfl⟩
 ·rename_i x y;cases h;exact .inr (.inl ⟨x,y,rfl,rfl,rfl,rfl⟩)
 ·rename_i x y;cases h;exact .inr (.inr ⟨x,y,rfl,rfl,rfl,rfl⟩)
 ·cases h
theorem bytes_beq(a b:List UInt8):((⟨a.toArray⟩:ByteArray) == ⟨b.toArray⟩)=(a == b):=by
 rw[beq_toListBytes,toList_mk,toList_mk]
theorem vG{t:TypeId}{c:CK}(d:Nat)(ht:gC P t=some c){K:bm}{p q:PV}{x y:Value}{b:Bool}(hx:Rel K p x)(hy:Rel K q y)(h:sB c p q=some b) :
   (Op.equalIn (d+1) t x y).run P w=.ok b w:=by
 obtain⟨_,_,hk⟩:=jk ht;rcases vF h with⟨k,a,b',rfl,rfl,rfl,rfl⟩|⟨a,b',rfl,rfl,rfl,rfl⟩|⟨a,b',rfl,rfl,rfl,rfl⟩
 ·rw[fm]at hx hy;subst hx hy;simp only[true_and,reduceCtorEq,false_and,or_false]at hk;obtain⟨k',hu⟩:=hk;exact run_equalIn_int w d t k k' a b' hu
 ·rw[jP]at hx hy;subst hx hy;simp only[true_and,reduceCtorEq,false_and,or_false,false_or]at hk;rw[run_equalIn_string w d t _ _ hk,toList_mk,toList_mk]
 ·rw[eZ]at hx hy;subst hx hy;simp only[true_and,reduceCtorEq,false_and,false_or]at hk;exact run_equalIn_bool' w d t a b' hk
theorem qt:∀{cs:List CK} {ps qs:List PV} {b:Bool},dS cs ps qs=some b→ps.length=cs.length∧qs.length=cs.length
 |[],[],[],_,_=>by simp
 |c::cs,p::ps,q::qs,b,h=>by
   simp only[dS]at h;split at h
   ·have:=qt h;simp[this]
   ·simp only[Option.ite_none_right_eq_some]at h;simp[h.1]
   ·cases h
 |[],_::_,_,_,h=>by simp[dS]at h
 |[],[],_::_,_,h=>by simp[dS]at h
 |_::_,[],_,_,h=>by simp[dS]at h
 |_::_,_::_,[],_,h=>by simp[dS]at h
theorem oN(d:Nat):∀(fs:List Field) (i:Nat) {cs:List CK} {ps qs:List PV} {xs ys:List Value} {b:Bool},gZ P i fs=some cs →
   dd G.K ps (xs.drop i)→dd G.K qs (ys.drop i)→dS cs ps qs=some b→(Op.eqFields (d+1) xs.toArray ys.toArray fs).run P w=.ok b w
 |[],i,cs,ps,qs,xs,ys,b,hp,hx,hy,h=>by
   simp[gZ]at hp;subst hp;obtain⟨h1,h2⟩:=qt h;simp at h1 h2;subst h1 h2;simp[dS]at h;subst h;simp[Op.eqFields]
 |f::fs,i,cs,ps,qs,xs,ys,b,hp,hx,hy,h=>by
   simp only[gZ,Option.ite_none_right_eq_some]at hp;obtain⟨⟨hn,ho⟩,hp⟩:=hp;split at hp
   · rename_i c cs' hc hcs;cases hp;cases ps with
     |nil=>simp[dS]at h
     |cons p ps=>
       cases qs with
       |nil=>simp[dS]at h
       |cons q qs=>
         obtain⟨hsz,hag,_⟩:=jk hc;simp only[dd]at hx hy;obtain⟨x,xr,ex,rx,hx⟩:=hx;obtain⟨y,yr,ey,ry,hy⟩:=hy;have gx:xs[i]?=some x:=by have:=congrArg (·[0]?) ex;simpa using this
         have gy:ys[i]?=some y:=by have:=congrArg (·[0]?) ey;simpa using this
         have dx:xs.drop (i+1)=xr:=by have:=congrArg (List.drop 1) ex;simpa[List.drop_drop,Nat.add_comm] using this
         have dy:ys.drop (i+1)=yr:=by have:=congrArg (List.drop 1) ey;simpa[List.drop_drop,Nat.add_comm] using this
         have px:∀w:World,(part f.type xs.toArray f.offset).run P w=.ok x w:=fun w=>by
           simp only[part,Sem.run_bind,gq hag,Result.andThen_ok,Bool.false_eq_true,if_false,ho];simp[gx]
         have py:∀w:World,(part f.type ys.toArray f.offset).run P w=.ok y w:=fun w=>by
           simp only[part,Sem.run_bind,gq hag,Result.andThen_ok,Bool.false_eq_true,if_false,ho];simp[gy]
         simp only[dS]at h;simp only[Op.eqFields,if_pos hn,Sem.run_bind,px,py,Result.andThen_ok];split at h
         ·rename_i hk;rw[vG d hc (Rel.Kd rx) (Rel.Kd ry) hk];simp only[Result.andThen_ok,Bool.not_true,Bool.false_eq_true,if_false];exact oN d fs (i+1) hcs (dx ▸ hx) (dy ▸ hy) h
         ·rename_i hk;simp only[Option.ite_none_right_eq_some,Option.some.injEq]at h;obtain⟨_,rfl⟩:=h;rw[vG d hc (Rel.Kd rx) (Rel.Kd ry) hk];simp
         ·cases h
   ·cases hp
theorem GC{op:BinOp}{t:TypeId}{neg:Bool}{cs:List CK}{fs:Array Field}{ps qs:List PV}{x y:Value}{b:Bool}(hu:P.underlying t=some (.struct fs))(h1:P.stoodInHeld t=false)(h2:P.eqGuardType P.depth t=false)
   (hp:gZ P 0 fs.toList=some cs) (hop:(op=.eql∧neg=false)∨(op=.neq∧neg=true)) (hx:Rel G.K (.agg ps) x) (hy:Rel G.K (.agg qs) y) (h:dS cs ps qs=some b) (ox oy:Operand) :
   (do eqGuard op t ox oy x y;binOp op t x y:Sem Value).run P w=.ok (.bool (if neg then !b else b)) w:=by
 obtain⟨xs,rfl,hx⟩:=hx;obtain⟨ys,rfl,hy⟩:=hy;have hf:P.fieldsOf t=fs:=by simp[Program.fieldsOf,hu]
 have he:(Op.equalIn 10000 t (.agg xs.toArray) (.agg ys.toArray)).run P w=.ok b w:=by
   rw[show (10000:Nat)=9998+1+1 from rfl,run_equalIn_struct w (9998+1) t _ _ (by rw[hf];exact hu) h1,hf];exact oN 9998 fs.toList 0 hp (by simpa using hx) (by simpa using hy) h
 simp only[Sem.run_bind,run_eqGuard_agg w op t ox oy _ _ h2,Result.andThen_ok];rcases hop with⟨rfl,rfl⟩|⟨rfl,rfl⟩
 ·rw[run_eql_struct,he];rfl
 ·rw[run_neq_struct,he];rfl
theorem jR{t:TypeId}{c:CK}{d:TypeDesc}(ht:gC P t=some c)(hu:P.underlying t=some d){K:bm}{p q:PV}{x y:Value}{b:Bool}(hx:Rel K p x)(hy:Rel K q y)(h:sB c p q=some b) :
   Instr.sameNow d x y=some b∧(b=true→Instr.sameBits 10000 y x=true):=by
 obtain⟨_,_,hk⟩:=jk ht;rw[hu]at hk;rcases vF h with⟨k,a,b',rfl,rfl,rfl,rfl⟩|⟨a,b',rfl,rfl,rfl,rfl⟩|⟨a,b',rfl,rfl,rfl,rfl⟩
 ·rw[fm]at hx hy;subst hx hy;simp only[true_and,reduceCtorEq,false_and,or_false]at hk;obtain⟨k',hu⟩:=hk;cases hu;exact⟨by simp[Instr.sameNow],fun e=>by simp at e;subst e;simp[Instr.sameBits]⟩
 ·rw[jP]at hx hy;subst hx hy;simp only[true_and,reduceCtorEq,false_and,or_false,false_or,Option.some.injEq]at hk;subst hk;exact⟨by simp only[Instr.sameNow,bytes_beq],fun e=>by simp at e;subst e;simp only[Instr.sameBits,bytes_beq];simp⟩
 ·rw[eZ]at hx hy;subst hx hy;simp only[true_and,reduceCtorEq,false_and,false_or,Option.some.injEq]at hk;subst hk;exact⟨by simp[Instr.sameNow],fun e=>by simp at e;subst e;simp[Instr.sameBits]⟩
theorem qu{t:TypeId}{c:CK}{d:TypeDesc}(ht:gC P t=some c)(hu:P.underlying t=some d){K:bm}{k:PV}{kv:Value}(hk:Rel K k kv):∀{kvs:List (PV×PV)} {es:List MapEntry} {r:Option PV} (i:Nat),eY K kvs es→ki c kvs k=some r →
   (r=none∧Instr.findNow d kv es i=some none)∨∃p v j,r=some p∧Instr.findNow d kv es i=some (some (j,v))∧Rel K p v
 |[],es,r,i,hm,h=>by
   simp only[eY]at hm;subst hm;simp[ki]at h;subst h;exact .inl ⟨rfl,by simp[Instr.findNow]⟩
 |(k',v')::kvs,es,r,i,hm,h=>by
   simp only[eY]at hm;obtain⟨e,es',rfl,h1,h2,h3⟩:=hm;simp only[ki]at h;split at h
   ·rename_i hq;cases h;obtain⟨g1,_⟩:=jR ht hu hk h1 hq;exact .inr ⟨v',e.val,i,rfl,by simp[Instr.findNow,g1],h2⟩
   · rename_i hq;obtain⟨g1,_⟩:=jR ht hu hk h1 hq;rcases qu ht hu hk (i+1) h3 h with⟨a1,a2⟩|⟨p,v,j,a1,a2,a3⟩
     ·exact .inl ⟨a1,by simp[Instr.findNow,g1,a2]⟩
     ·exact .inr ⟨p,v,j,a1,by simp[Instr.findNow,g1,a2],a3⟩
   ·cases h
theorem gG{t:TypeId}{c:CK}(ht:gC P t=some c)(b:Bool)(n:Nat)(v:Value):(Instr.checkKey b (n+1) t v).run P w=.ok () w:=by
 obtain⟨_,_,hk⟩:=jk ht;rcases hk with⟨_,k,hu⟩|⟨_,hu⟩|⟨_,hu⟩<;>simp[Instr.checkKey,run_underlying hu]
theorem jS{t:TypeId}{kv:Value}{es:List MapEntry}{d:TypeDesc}{r:Option (Nat×Value)}(hu:P.underlying t=some d)(h:Instr.findNow d kv es 0=some r) :
   (Instr.findKey t kv es).run P w=.ok r w:=by
 simp[Instr.findKey,run_underlying hu,h]
theorem oO{t:TypeId}{c:CK}(h:gC P t=some c):∃d,P.underlying t=some d:=by
 obtain⟨_,_,hk⟩:=jk h;rcases hk with⟨_,k,hu⟩|⟨_,hu⟩|⟨_,hu⟩<;>exact⟨_,hu⟩
theorem vH{t:TypeId}{c:CK}{d:TypeDesc}(ht:gC P t=some c)(hu:P.underlying t=some d){K:bm}{k p:PV}{kv v:Value}(hk:Rel K k kv)(hp:Rel K p v)(clock:Nat):∀{kvs kvs':List (PV×PV)} {es:List MapEntry} (i:Nat),eY K kvs es→mf c kvs k p=some kvs' →
   (Instr.findNow d kv es i=some none∧eY K kvs' (es++[{ key:=kv,val:=v,born:=clock }])) ∨
   ∃j u e,Instr.findNow d kv es i=some (some (i+j,u))∧es[j]?=some e∧Instr.sameBits 10000 e.key kv=true∧eY K kvs' (es.modify j fun e=>{ e with key:=kv,val:=v })
 |[],kvs',es,i,hm,h=>by
   simp only[eY]at hm;subst hm;simp[mf]at h;subst h;exact .inl ⟨by simp[Instr.findNow],_,[],rfl,hk,hp,rfl⟩
 |(k',v')::kvs,kvs',es,i,hm,h=>by
   simp only[eY]at hm;obtain⟨e,es',rfl,h1,h2,h3⟩:=hm;simp only[mf]at h;split at h
   ·rename_i hq;cases h;obtain⟨g1,g2⟩:=jR ht hu hk h1 hq;exact .inr ⟨0,e.val,e,by simp[Instr.findNow,g1],rfl,g2 rfl,_,es',rfl,hk,hp,h3⟩
   · rename_i hq;simp only[Option.map_eq_some_iff]at h;obtain⟨kvs1,h,rfl⟩:=h;obtain⟨g1,_⟩:=jR ht hu hk h1 hq;rcases vH ht hu hk hp clock (i+1) h3 h with⟨a1,a2⟩|⟨j,u,e',a1,a2,a3,a4⟩
     ·exact .inl ⟨by simp[Instr.findNow,g1,a1],e,_,rfl,h1,h2,a2⟩
     ·refine .inr ⟨j+1,u,e',by simp[Instr.findNow,g1,a1];omega,by simpa using a2,a3,e,_,by simp,h1,h2,a4⟩
   ·cases h
theorem uS{t kt et:TypeId}{c:CK}{d:TypeDesc}{b clock:Nat}{es:Array MapEntry}{k p:PV}{kv v:Value}{kvs kvs':List (PV×PV)}(hu:P.underlying t=some (.map kt et))(ht:gC P kt=some c)(hd:P.underlying kt=some d)
   (hh:w.heap[b]?=some (.map es clock)) (hk:Rel G.K k kv) (hp:Rel G.K p v) (hm:eY G.K kvs es.toList) (h:mf c kvs k p=some kvs') :
   ∃es' clock',(Instr.mapUpdate t (.map (some b)) kv v).run P w=.ok () (w.putObj b (.map es' clock'))∧eY G.K kvs' es'.toList:=by
 have hget:(getObj b).run P w=.ok (.map es clock) w:=by simp[getObj,Sem.run,hh]
 have hset:∀o,(setObj b o).run P w=.ok () (w.putObj b o):=fun o=>by simp[setObj,Sem.run,hh,World.putObj]
 rcases vH ht hd hk hp clock 0 hm h with⟨a1,a2⟩|⟨j,u,e,a1,a2,a3,a4⟩
 ·refine⟨es.push { key:=kv,val:=v,born:=clock },clock+1,?_,by simpa using a2⟩;simp only[Instr.mapUpdate,Sem.run_bind,run_underlying hu,Result.andThen_ok,hget,gG ht,jS hd a1,hset]
 · refine⟨es.modify j fun e=>{ e with key:=kv,val:=v },clock,?_,by simpa using a4⟩;have he:es[0+j]?=some e:=by simpa using a2
   simp only[Instr.mapUpdate,Sem.run_bind,run_underlying hu,Result.andThen_ok,hget,gG ht,jS hd a1,hset,he,Option.map_some,Option.getD_some,Instr.keyThatStays,a3,if_true,Sem.run_pure];simp
theorem qv{K:bm}:∀{l:List Value} {z:List PV},cC df l=some z→dd K z l
 |[],_,h=>by simp[cC]at h;subst h;simp[dd]
 |v::l,z,h=>by
   simp only[cC]at h;split at h
   ·rename_i y ys h1 h2;cases h;simp only[dd];exact⟨v,l,rfl,(hZ h1).1,qv h2⟩
   ·cases h
theorem Cg{t:TypeId}{z:PV}{K:bm}(h:zeroOf P t=some z):∃zv,(zeroValue t).run P w=.ok zv w∧Rel K z zv:=by
 unfold zeroOf at h;cases hi:P.info? t with
 |none=>simp[hi]at h
 |some i=>
   simp only[hi,Option.bind_some]at h;cases hz:i.zero with
   |none=>simp[hz]at h
   |some zv=>
     refine⟨zv,by simp[zeroValue,typeInfo,hi,hz],?_⟩;simp only[hz]at h;split at h
     ·rename_i cs hcs;cases hcs;simp only[Option.map_eq_some_iff]at h;obtain⟨ps,h1,rfl⟩:=h;exact⟨cs.toList,by simp,qv h1⟩
     ·rename_i v _ hv;cases hv;exact Rel.Kd (hZ h).1
     ·cases ‹_›
end
end Go.Ab
namespace Go.Ab
section
variable {P:Program} {ns:Names} {G:Gh} {w:World}
theorem qw(sz:Nat):∀(rvs:List Value) (k:Nat) (rc:Array Value),rc.size=(k+rvs.length)*sz→(∀v∈rvs,v.cells.size=sz) →
   ∃rc',Instr.fill (fun i=>some (i*sz,sz)) rc ((List.range' k rvs.length).zip rvs)=some rc'∧rc'.toList=rc.toList.take (k*sz)++rvs.flatMap (fun v=>v.cells.toList)
 |[],k,rc,h,_=>⟨rc,by simp[Instr.fill],by simp at h;simp only[List.flatMap_nil,List.append_nil];rw[List.take_of_length_le];simp;omega⟩
 |v::rvs,k,rc,h,hs=>by
   have hv:=hs v (by simp);have hsz:rc.size=k*sz+(rvs.length+1)*sz:=(by rw[h,Nat.add_mul];simp);have hge:k*sz+sz≤rc.size:=by rw[hsz,Nat.add_mul];omega
   have hfold:(v.cells.zipIdx.foldl (fun cs (x:Value×Nat)=>cs.setIfInBounds (k*sz+x.2) x.1) rc).toList=rc.toList.take (k*sz)++v.cells.toList++rc.toList.drop (k*sz+sz):=by
     have:=pM (k*sz) v.cells.toList 0 rc (by simp[hv];omega);rw[←Array.foldl_toList];simpa[hv] using this
   have hsize:(v.cells.zipIdx.foldl (fun cs (x:Value×Nat)=>cs.setIfInBounds (k*sz+x.2) x.1) rc).size=rc.size:=by
     have hl:=congrArg List.length hfold;rw[List.length_append,List.length_append,List.length_take,List.length_drop]at hl;simp only[Array.length_toList,hv]at hl;omega
   obtain⟨rc',e1,e2⟩:=qw sz rvs (k+1) _ (by rw[hsize,h];congr 1;simp;omega) (fun u hu=>hs u (by simp[hu]));refine⟨rc',?_,?_⟩
   ·simp only[List.length_cons,List.range'_succ,List.zip_cons_cons,Instr.fill];rw[if_neg (by simp[hv];omega)];exact e1
   · rw[e2,hfold];simp only[List.flatMap_cons];rw[List.append_assoc,List.take_append];have h1:(rc.toList.take (k*sz)).length=k*sz:=by simp;omega
     rw[h1];have h2:(k+1)*sz-k*sz=sz:=by rw[Nat.add_mul];omega
     rw[h2,List.take_of_length_le (by rw[h1,Nat.add_mul];omega),List.take_append];simp[hv,List.append_assoc];exact List.take_of_length_le (by simp[hv])
theorem qx(f:Operand→Value):∀(l:List (Nat×Operand)) (k:Nat),rM k l=true →
   l.map (fun x=>(x.1,f x.2))=(List.range' k ((l.map (·.2)).map f).length).zip ((l.map (·.2)).map f)
 |[],k,_=>by simp
 |(i,x)::l,k,h=>by
   simp only[rM,Bool.and_eq_true,beq_iff_eq]at h;obtain⟨rfl,h⟩:=h;simp only[List.map_cons,List.length_cons,List.range'_succ,List.zip_cons_cons];rw[qx f l _ h]
theorem qy(f:Operand→Value):∀(l:List (Nat×Operand)),l.map (fun x=>(x.1,f x.2))=(l.map (·.1)).zip ((l.map (·.2)).map f)
 |[]=>by simp
 |x::l=>by simp[qy f l]
theorem zg{K:bm}{b sz:Nat}:∀{els:List PV} {vs:List Value} {o:Nat},jL K els vs→els.all (fun e=>(aZ e).length == sz)=true →
   At K b o (vs.flatMap fun v=>v.cells.toList)→Row K b o sz els
 |[],_,_,_,_,_=>by simp only[Row]
 |e::els,vs,o,⟨v,r,e1,e2,e3⟩,hs,ha=>by
   subst e1;simp only[List.all_cons,Bool.and_eq_true,beq_iff_eq]at hs;have hR:=e2.WO;have hlen:v.cells.toList.length=sz:=by rw[hR.length,hs.1]
   simp only[Row];refine⟨⟨v.cells.toList,hlen,?_,hR⟩,zg e3 hs.2 ?_⟩
   ·intro j u hj;exact ha j u (by simp only[List.flatMap_cons];rw[List.getElem?_append_left (List.getElem?_eq_some_iff.1 hj).1];exact hj)
   · intro j u hj;have:=ha (sz+j) u (by simp only[List.flatMap_cons];rw[List.getElem?_append_right (by omega),hlen,Nat.add_sub_cancel_left];exact hj)
     rwa [←Nat.add_assoc]at this
theorem sO{K:bm}{sz:Nat}:∀{els:List PV} {vs:List Value},jL K els vs→els.all (fun e=>(aZ e).length == sz)=true→∀v∈vs,v.cells.size=sz
 |[],vs,h,_,v,hv=>by cases h;simp at hv
 |e::els,vs,⟨u,r,e1,e2,e3⟩,hs,v,hv=>by
   subst e1;simp only[List.all_cons,Bool.and_eq_true,beq_iff_eq]at hs;simp only[List.mem_cons]at hv;rcases hv with rfl|hv
   ·have:=e2.WO.length;simp at this;rw[this,hs.1]
   ·exact sO e3 hs.2 v hv
theorem xd{ρ:bK}{mem:List (Nat×List AV)}{sh:Sh}{aa:aG}{t e sz n:Nat}{z:List PV}{vals:List AV}{rvs:List Value}{x:AV}
   (he:eM P t=some e) (hsz:cQ P e=some sz) (hz:ck P e=some z) (hn:rvs.length=n) (h0:0<sz) (hb:n*sz≤16777216)
   (hr:az (num ns) G vals rvs) (hi:Inv ρ G w mem sh aa) (h:bA (.dZ sz) vals=some x) :
   ∃v c,(Instr.buildSlice t n ((List.range' 0 rvs.length).zip rvs).toArray).run P w=.ok v (w.alloc (.cells c e)) ∧
     aA (num ns) (G.oM w.heap.size c) x v:=by
 have hu:=cV he;simp only[bA,Option.bind_eq_some_iff,Option.ite_none_right_eq_some,Option.some.injEq]at h;obtain⟨els,h1,h2,rfl⟩:=h;have hrl:=kY h1 hr;have hlen:=hrl.length;obtain⟨zv,hz1,hz2⟩:=gv (w:=w) hz;have hne:¬(n*sz=0∧0<n):=by rintro⟨a,b⟩;have:=Nat.mul_pos b h0;omega
 let z0:Array Value:=if n*sz=0 then #[] else zv.cells
 have hinit:((Array.range (n*sz)).map (z0[· % z0.size]!)).size=(0+rvs.length)*sz:=by simp[hn]
 obtain⟨rc,g1,g2⟩:=qw sz rvs 0 _ hinit (sO hrl h2);have g2':rc.toList=rvs.flatMap (fun v=>v.cells.toList):=by simpa using g2
 refine⟨.slice (some ⟨w.heap.size,0,none⟩) n n,rc,?_,?_⟩
 · simp only[Instr.buildSlice,Sem.run_bind,run_underlying hu,Result.andThen_ok,dt hsz];rw[if_neg (by omega)];by_cases h00:n*sz=0
   ·have hz0:z0=#[]:=if_pos h00;rw[hz0]at g1;rw[if_pos h00];simp only[Sem.run_bind,Sem.run_pure,Result.andThen_ok,g1];rfl
   ·have hz0:z0=zv.cells:=if_neg h00;rw[hz0]at g1;rw[if_neg h00];simp only[Sem.run_bind,Sem.run_pure,hz1,Result.andThen_ok,g1];rfl
 · simp only[aA];refine⟨_,n,rfl,by omega,?_⟩;by_cases hnil:els=[]
   ·exact .inl hnil
   ·refine .inr ⟨w.heap.size,0,sz,rfl,?_⟩;have hle:=(Gh.m4 hi rc).K;refine zg (jL.mono hle hrl) h2 ?_;rw[←g2'];have:=N5 (G:=G) (b:=w.heap.size) (l:=rc.toList);simpa using this
end
end Go.Ab
namespace Go.Ab
section
variable {P:Program} {ns:Names} {G:Gh} {w:World}
theorem cL{k:IntKind}{i:Int}{y:Nat}{code:BoundsCode}(h0:0≤i)(hy:i≤y):(Instr.sliceBound (.int k i) y code).run P w=.ok i.toNat w:=by
 simp only[Instr.sliceBound,Sem.run_bind,asIntOf,Sem.run_pure,Result.andThen_ok];rw[if_pos ⟨h0,hy⟩];rfl
theorem nT{lo hi mx:Option Operand}{f:Operand→Value}{rest:List AV}{n cap:Nat}{l h:Int}{m:Option Int}{b:Bool}
   (hr:az (num ns) G rest ((lo.toList++hi.toList++mx.toList).map f)) (he:fY lo.isSome hi.isSome mx.isSome n rest=some (l,h,m))
   (h0:0≤l) (h1:l≤h) (h2:h≤n) (h3:n≤cap) (hm:∀x,m=some x→x=h) :
   (Instr.sliceBounds b n cap (lo.map f) (hi.map f) (mx.map f)).run P w=.ok (l.toNat,h.toNat,(m.map Int.toNat).getD cap) w:=by
 cases lo<;>cases hi<;>cases mx<;>simp only[Option.isSome_none,Option.isSome_some,fY]at he <;>
   (try (split at he<;>first|(simp at he;done)|skip))<;>(try (simp at he;done))
 all_goals simp at he
 all_goals obtain⟨rfl,rfl,rfl⟩:=he
 all_goals (try contradiction)
 all_goals simp[az,aA,Rel,R]at hr
 ·simp only[Instr.sliceBounds,Option.map_none,Sem.run_bind,Sem.run_pure,Result.andThen_ok];simp
 ·rename_i k h _ _ _;have e1:=cL (P:=P) (w:=w) (k:=k) (i:=h) (y:=cap) (code:=if b then .sliceAcap else .sliceAlen) (by omega) (by omega);simp only[Instr.sliceBounds,Option.map_none,Option.map_some,hr,Sem.run_bind,Sem.run_pure,Result.andThen_ok,e1];simp
 ·rename_i k h k' m _ _ _;obtain⟨hr1,hr2⟩:=hr;have hmh:=hm m rfl;subst hmh;have e1:=cL (P:=P) (w:=w) (k:=k') (i:=m) (y:=cap) (code:=if b then .slice3Acap else .slice3Alen) (by omega) (by omega);have e2:=cL (P:=P) (w:=w) (k:=k) (i:=m) (y:=m.toNat) (code:=.slice3B) (by omega) (by omega);simp only[Instr.sliceBounds,Option.map_none,Option.map_some,hr1,hr2,Sem.run_bind,Sem.run_pure,Result.andThen_ok,e1,e2];simp
 ·rename_i k l _ _ _;have e1:=cL (P:=P) (w:=w) (k:=k) (i:=l) (y:=n) (code:=.sliceB) (by omega) (by omega);simp only[Instr.sliceBounds,Option.map_none,Option.map_some,hr,Sem.run_bind,Sem.run_pure,Result.andThen_ok,Option.isSome_none,Bool.false_eq_true,if_false,e1];simp
 ·rename_i k l k' h _ _ _;obtain⟨hr1,hr2⟩:=hr;have e1:=cL (P:=P) (w:=w) (k:=k') (i:=h) (y:=cap) (code:=if b then .sliceAcap else .sliceAlen) (by omega) (by omega);have e2:=cL (P:=P) (w:=w) (k:=k) (i:=l) (y:=h.toNat) (code:=.sliceB) (by omega) (by omega);simp only[Instr.sliceBounds,Option.map_none,Option.map_some,hr1,hr2,Sem.run_bind,Sem.run_pure,Result.andThen_ok,e1,Option.isSome_none,Bool.false_eq_true,if_false,e2];simp
 ·rename_i k l k' h k'' m _ _ _;obtain⟨hr1,hr2,hr3⟩:=hr;have hmh:=hm m rfl;subst hmh;have e1:=cL (P:=P) (w:=w) (k:=k'') (i:=m) (y:=cap) (code:=if b then .slice3Acap else .slice3Alen) (by omega) (by omega);have e2:=cL (P:=P) (w:=w) (k:=k') (i:=m) (y:=m.toNat) (code:=.slice3B) (by omega) (by omega);have e3:=cL (P:=P) (w:=w) (k:=k) (i:=l) (y:=m.toNat) (code:=.slice3C) (by omega) (by omega);simp only[Instr.sliceBounds,Option.map_some,hr1,hr2,hr3,Sem.run_bind,Sem.run_pure,Result.andThen_ok,e1,e2,Option.isSome_some,if_true,e3];simp
theorem N6{K:bm}{els:List PV}{b o sz l h:Nat}(hr:Row K b o sz els):Row K b (o+l*sz) sz ((els.take h).drop l):=Row.drop l (Row.take h hr)
theorem zh{t e sz:Nat}{lo hi mx:Option Operand}{f:Operand→Value}{x y:AV}{v:Value}{rest:List AV}(hu:P.underlying t=some (.slice e))(hsz:cQ P e=some sz)
   (hr:az (num ns) G rest ((lo.toList++hi.toList++mx.toList).map f)) (hx:aA (num ns) G x v)
   (h:dT false sz lo.isSome hi.isSome mx.isSome (x::rest)=some y) :
   ∃u,(Instr.sliceAt t v (lo.map f) (hi.map f) (mx.map f)).run P w=.ok u w∧aA (num ns) G y u:=by
 simp only[dT,Bool.false_eq_true,if_false]at h;split at h
 · rename_i els hels;obtain⟨base,len,cap,rfl,hcap,hlen,hrow⟩:=bP.1 (dP hels hx);split at h
   · rename_i l hh m hb;simp only[Option.ite_none_right_eq_some]at h;obtain⟨⟨h0,h1,h2,h3⟩,h⟩:=h
     have hm:∀x,m=some x→x=hh:=by
       intro x hx;subst hx;simp only[Option.ite_none_right_eq_some]at h;exact h.1
     rw[hlen]at hb h2;have hrun:=nT (P:=P) (w:=w) (b:=true) hr hb h0 h1 h2 (by omega:len≤cap) hm
     have gA:(Instr.sliceAt t (.slice base len cap) (lo.map f) (hi.map f) (mx.map f)).run P w =
         .ok (.slice (if (m.map Int.toNat).getD cap=l.toNat then base else base.map (·.add (l.toNat*sz))) (hh.toNat-l.toNat) ((m.map Int.toNat).getD cap-l.toNat)) w:=by
       simp only[Instr.sliceAt,Sem.run_bind,run_underlying hu,Result.andThen_ok,Instr.slice,hrun,dt hsz,Sem.run_pure]
     refine⟨_,gA,?_⟩
     have hsl:P9 G.K ((els.take hh.toNat).drop l.toNat) (if (m.map Int.toNat).getD cap=l.toNat then base else base.map (·.add (l.toNat*sz))) (hh.toNat-l.toNat):=by
       refine⟨by simp;omega,?_⟩;by_cases hnil:(els.take hh.toNat).drop l.toNat=[]
       ·exact .inl hnil
       · refine .inr ?_
         have hlt:l.toNat<hh.toNat:=by
           rcases Nat.lt_or_ge l.toNat hh.toNat with h'|h'
           ·exact h'
           ·exfalso;apply hnil;apply List.drop_of_length_le;simp;omega
         rcases hrow with hn|⟨b,o,sz',rfl,hrow⟩
         ·subst hn;simp at hnil
         · have hne:(m.map Int.toNat).getD cap≠l.toNat:=by
             cases m with
             |none=>simp;omega
             |some x=>have:=hm x rfl;subst this;simp;omega
           rw[if_neg hne];have hels':els≠[]:=by intro e;subst e;simp at hnil
           refine⟨b,o+l.toNat*sz',sz',?_,N6 hrow⟩;rcases h3 with h3|h3
           ·subst h3;simp[Addr.add]
           ·have:=hrow.sz h3 hels';subst this;simp[Addr.dX]
     cases m with
     |none=>
       simp at h;subst h;simp only[aA];exact bP.2 ⟨_,_,_,rfl,by simp;omega,hsl⟩
     |some x=>
       have:=hm x rfl;subst this;simp at h;subst h;simp only[aA];exact⟨_,_,rfl,hsl⟩
   ·simp at h
 ·simp at h
theorem xe{t e sz:Nat}{lo hi mx:Option Operand}{f:Operand→Value}{x y:AV}{v:Value}{rest:List AV}(hu:P.underlying t=some (.slice e))(hsz:cQ P e=some sz)(hmx:mx.isSome=false)
   (hr:az (num ns) G rest ((lo.toList++hi.toList++mx.toList).map f)) (hx:aA (num ns) G x v)
   (h:oI sz lo.isSome hi.isSome (x::rest)=some y) :
   ∃u,(Instr.sliceAt t v (lo.map f) (hi.map f) (mx.map f)).run P w=.ok u w∧aA (num ns) G y u:=by
 unfold oI at h;split at h
 · rename_i b z n ag rest' heq;simp only[List.cons.injEq]at heq;obtain⟨rfl,rfl⟩:=heq;rw[Option.ite_none_right_eq_some]at h;obtain⟨rfl,h⟩:=h;split at h
   · rename_i l hh hb;simp only[Option.ite_none_right_eq_some,Option.some.injEq]at h;obtain⟨⟨h0,h1,h2⟩,rfl⟩:=h;simp only[aA]at hx;obtain⟨blk,cap,hsm,rfl,hroom⟩:=hx;rw[←hmx]at hb;have hrun:=nT (P:=P) (w:=w) (b:=true) (cap:=n+cap) hr hb h0 h1 h2 (by omega) (by simp)
     have gA:(Instr.sliceAt t (.slice (some ⟨blk.1,0,none⟩) n (n+cap)) (lo.map f) (hi.map f) (mx.map f)).run P w =
         .ok (.slice (if n+cap=l.toNat then some ⟨blk.1,0,none⟩ else (some ⟨blk.1,0,none⟩:Option Addr).map (·.add (l.toNat*z))) (hh.toNat-l.toNat) (n+cap-l.toNat)) w:=by
       simp only[Instr.sliceAt,Sem.run_bind,run_underlying hu,Result.andThen_ok,Instr.slice,hrun,dt hsz,Sem.run_pure,Option.map_none,Option.getD_none]
     refine⟨_,gA,?_⟩;by_cases hl:l=0
     · subst hl;simp only[if_true,aA];refine⟨blk,n+cap-hh.toNat,hsm,?_,?_⟩
       ·have e1:hh.toNat+(n+cap-hh.toNat)=n+cap:=(by omega);rw[e1];simp[Addr.add]
       ·have e1:hh.toNat+(n+cap-hh.toNat)=n+cap:=(by omega);rw[e1];exact hroom
     · rw[if_neg hl];simp only[aA];refine⟨blk,_,_,hsm,rfl,?_⟩;by_cases hz:hh.toNat-l.toNat=0
       ·exact .inl hz
       ·right;rw[if_neg (by omega)];simp[Addr.add];exact fun e=>e.symm
   ·simp at h
 ·simp at h
theorem rz{t:Nat}{lo hi mx:Option Operand}{f:Operand→Value}{x y:AV}{v:Value}{rest:List AV}(hu:P.underlying t=some .string)(hmx:mx.isSome=false)
   (hr:az (num ns) G rest ((lo.toList++hi.toList++mx.toList).map f)) (hx:aA (num ns) G x v)
   (h:dT true 0 lo.isSome hi.isSome false (x::rest)=some y) :
   ∃u,(Instr.sliceAt t v (lo.map f) (hi.map f) (mx.map f)).run P w=.ok u w∧aA (num ns) G y u:=by
 simp only[dT,if_true]at h;split at h
 · rename_i s;simp only[aA,jP]at hx;subst hx;split at h
   · rename_i l hh hb;simp only[Option.ite_none_right_eq_some,Option.some.injEq]at h;obtain⟨⟨h0,h1,h2⟩,rfl⟩:=h;rw[←hmx]at hb;have hrun:=nT (P:=P) (w:=w) (b:=false) hr hb h0 h1 h2 (Nat.le_refl _) (by simp);have hmx':mx=none:=by cases mx<;>simp_all
     subst hmx';have hsize:(ByteArray.mk s.toArray).size=s.length:=by simp[ByteArray.size]
     refine⟨.string ((ByteArray.mk s.toArray).extract l.toNat hh.toNat),?_,?_⟩
     ·simp only[Instr.sliceAt,Sem.run_bind,run_underlying hu,Result.andThen_ok,Instr.slice,Option.map_none,Option.isSome_none,Bool.false_eq_true,if_false,hsize];simp only[Option.map_none]at hrun;simp[hrun]
     · have:(ByteArray.mk s.toArray).extract l.toNat hh.toNat=⟨((s.take hh.toNat).drop l.toNat).toArray⟩:=by
         apply ByteArray.ext;simp[ByteArray.data_extract];rw[List.drop_take]
       rw[this];exact sM
   ·simp at h
 ·simp at h
end
end Go.Ab
namespace Go.Ab
section
variable {P:Program} {ns:Names} {G:Gh} {w:World}
def zi(ns:Names)(P:Program)(G:Gh)(w:World)(mem:List (Nat×List AV))(sh:Sh)(aa:aG)(s:Sem Value)(x:AV):Prop:=
 ∃v w' G',s.run P w=.ok v w'∧aA (num ns) G' x v∧Inv (num ns) G' w' mem sh aa∧G.le G'∧bu G w G' w'
theorem zi.stay{mem:List (Nat×List AV)}{sh:Sh}{aa:aG}(hi:Inv (num ns) G w mem sh aa){s:Sem Value}{x:AV}{v:Value}(h:s.run P w=.ok v w)(hr:aA (num ns) G x v) :
   zi ns P G w mem sh aa s x:=⟨v,w,G,h,hr,hi,G.le_refl,bu.refl G w⟩
theorem bZ{ρ:bK}{vals:List AV}{v:Value}(h:az ρ G vals [v]):∃x,vals=[x]∧aA ρ G x v:=by
 cases vals with
 |nil=>simp[az]at h
 |cons x r=>
   simp only[az]at h;obtain⟨u,r',e,h1,h2⟩:=h;cases e;cases r with
   |nil=>exact⟨x,rfl,h1⟩
   |cons _ _=>simp[az]at h2
theorem cW{ρ:bK}{vals:List AV}{u v:Value}(h:az ρ G vals [u,v]):∃x y,vals=[x,y]∧aA ρ G x u∧aA ρ G y v:=by
 cases vals with
 |nil=>simp[az]at h
 |cons x r=>
   simp only[az]at h;obtain⟨u',r',e,h1,h2⟩:=h;cases e;obtain⟨y,rfl,h3⟩:=bZ h2;exact⟨x,y,rfl,h1,h3⟩
theorem mq{ρ:bK}{vals:List AV}{u v t:Value}(h:az ρ G vals [u,v,t]):∃x y z,vals=[x,y,z]∧aA ρ G x u∧aA ρ G y v∧aA ρ G z t:=by
 cases vals with
 |nil=>simp[az]at h
 |cons x r=>
   simp only[az]at h;obtain⟨u',r',e,h1,h2⟩:=h;cases e;obtain⟨y,z,rfl,h3,h4⟩:=cW h2;exact⟨x,y,z,rfl,h1,h3,h4⟩
theorem Kg{x1 x2 x3 x:AV}(h:bA .pick [x1,x2,x3]=some x):∃c,x1=.pv (.bool c)∧x=if c then x2 else x3:=by
 cases x1 with
 |pv p=>cases p with
   |bool c=>exact⟨c,rfl,by simpa[bA] using h.symm⟩
   |_=>simp[bA]at h
 |_=>simp[bA]at h
theorem N7{neg:Bool}{x1 x2 x:AV}(h:bA (.beq neg) [x1,x2]=some x):∃p q,x1=.pv (.bool p)∧x2=.pv (.bool q)∧x=.pv (.bool (if neg then !(p == q) else (p == q))):=by
 cases x1 with
 |pv p=>cases p with
   |bool c=>cases x2 with
     |pv q=>cases q with
       |bool d=>exact⟨c,d,rfl,rfl,by simpa[bA] using h.symm⟩
       |_=>simp[bA]at h
     |_=>simp[bA]at h
   |_=>simp[bA]at h
 |_=>simp[bA]at h
theorem Kh{k:IntKind}{x1 x:AV}(h:bA (.conv k) [x1]=some x):∃k' n,x1=.pv (.int k' n)∧x=.pv (.int k (k.wrap n)):=by
 cases x1 with
 |pv p=>cases p with
   |int k' n=>exact⟨k',n,rfl,by simpa[bA] using h.symm⟩
   |_=>simp[bA]at h
 |_=>simp[bA]at h
theorem GD{sz:Nat}{x1 x2 x:AV}(h:bA (.fU sz) [x1,x2]=some x):∃k i,x2=.pv (.int k i):=by
 cases x2 with
 |pv p=>cases p with
   |int k n=>exact⟨k,n,rfl⟩
   |_=>simp[bA]at h
 |_=>simp[bA]at h
theorem GF{x1 x2 x:AV}(h:bA .index [x1,x2]=some x):∃s k i,x1=.pv (.str s)∧x2=.pv (.int k i):=by
 cases x1 with
 |pv q=>cases q with
   |str s=>cases x2 with
     |pv p=>cases p with
       |int k n=>exact⟨s,k,n,rfl,rfl⟩
       |_=>simp[bA]at h
     |_=>simp[bA]at h
   |_=>simp[bA]at h
 |_=>simp[bA]at h
theorem sP:∀{els:List PV} {s:List UInt8},fE els=some s→els=s.map fun b=>.int .u8 (b.toNat:Int)
 |[],s,h=>by simp[fE]at h;subst h;rfl
 | .int .u8 n::r,s,h=>by
   simp only[fE,Option.ite_none_right_eq_some,Option.map_eq_some_iff]at h;obtain⟨⟨h0,h1⟩,q,h2,rfl⟩:=h
   have:((UInt8.ofNat n.toNat).toNat:Int)=n:=by
     simp;omega
   simp only[List.map_cons,this,←sP h2]
 | .int .i64 _::_,_,h=>by simp[fE]at h
 | .int .i32 _::_,_,h=>by simp[fE]at h
 | .int .i16 _::_,_,h=>by simp[fE]at h
 | .int .i8 _::_,_,h=>by simp[fE]at h
 | .int .u64 _::_,_,h=>by simp[fE]at h
 | .int .u32 _::_,_,h=>by simp[fE]at h
 | .int .u16 _::_,_,h=>by simp[fE]at h
 | .bool _::_,_,h=>by simp[fE]at h
 | .str _::_,_,h=>by simp[fE]at h
 | .agg _::_,_,h=>by simp[fE]at h
 | .aw _::_,_,h=>by simp[fE]at h
theorem b2s_inv{x1 x:AV}(h:bA .b2s [x1]=some x):∃s:List UInt8,cf x1=some (s.map fun b=>.int .u8 (b.toNat:Int))∧x=.pv (.str s):=by
 simp only[bA,Option.map_eq_some_iff,Option.bind_eq_some_iff]at h;obtain⟨s,⟨els,h1,h2⟩,rfl⟩:=h;exact⟨s,by rw[h1,sP h2],rfl⟩
theorem b2s_run{s d e:TypeId}{l:List UInt8}{x:AV}{v:Value}(hs:P.underlying s=some (.slice e))(he:P.underlying e=some (.int .u8))(hd:P.underlying d=some .string)
   (hi:∀b o u,G.K b o=some u→w.cell? ⟨b,o,none⟩=some u) (hx:cf x=some (l.map fun b=>.int .u8 (b.toNat:Int))) (hr:aA (num ns) G x v) :
   (convert s d v).run P w=.ok (.string ⟨l.toArray⟩) w:=by
 obtain⟨base,len,cap,rfl,_,hlen,hrow⟩:=bP.1 (dP hx hr);simp only[List.length_map]at hlen;subst hlen;cases base with
 |none=>
   have h0:l=[]:=by
     rcases hrow with h|⟨b,o,sz,e,_⟩
     ·simpa using h
     ·cases e
   subst h0;show (convert s d (.slice none 0 cap)).run P w=_;rw[run_convert_bytes_string w s d e none 0 cap hs he hd];simp[Conv.bytesToString];rfl
 |some a=>
   refine run_convert_bytes_back w s d e a cap l hs he hd fun j hj=>?_;rcases hrow with h|⟨b,o,sz,e,hrow⟩
   ·simp at h;subst h;simp at hj
   · cases e
     obtain⟨vs,g1,g2,g3⟩:=hrow.get (i:=j) (el:=.int .u8 (l[j].toNat:Int)) (by simp[hj]);simp only[R]at g3;subst g3;simp at g1;subst g1;rw[Addr.dX];have:=g2 0 _ rfl;simp at this;exact hi _ _ _ this
theorem N8{i:Nat}{x1 x:AV}(h:bA (.ext i) [x1]=some x):∃vs,x1=.pJ vs∧vs[i]?=some x:=by
 cases x1 with
 |pJ vs=>exact⟨vs,rfl,by simpa[bA] using h⟩
 |_=>simp[bA]at h
theorem GG{sz:Nat}{ag:Bool}{x1 x:AV}(h:bA (.fW sz ag) [x1]=some x):∃cs,x1=.dM cs∧cJ ag sz cs=some x:=by
 cases x1 with
 |dM vs=>exact⟨vs,rfl,by simpa[bA] using h⟩
 |_=>simp[bA]at h
theorem Ki{x1 x:AV}(h:bA .Ca [x1]=some x):∃s,x1=.pv (.str s)∧x=.pv (.int .i64 (s.length:Int)):=by
 cases x1 with
 |pv q=>cases q with
   |str s=>exact⟨s,rfl,by simpa[bA] using h.symm⟩
   |_=>simp[bA]at h
 |_=>simp[bA]at h
theorem N9{cs:List CK}{neg:Bool}{x1 x2 x:AV}(h:bA (.TX cs neg) [x1,x2]=some x):∃ps qs b,bR [] x1=some (.agg ps)∧bR [] x2=some (.agg qs)∧dS cs ps qs=some b∧x=.pv (.bool (if neg then !b else b)):=by
 simp only[bA]at h;split at h
 ·rename_i ps qs h1 h2;simp only[Option.map_eq_some_iff]at h;obtain⟨b,h3,rfl⟩:=h;exact⟨ps,qs,b,h1,h2,h3,rfl⟩
 ·cases h
theorem RM{x1 x2 x:AV}(h:bA .mn [x1,x2]=some x):∃k p q,x1=.pv (.int k p)∧x2=.pv (.int k q)∧x=.pv (.int k (if q<p then q else p)):=by
 cases x1 with
 |pv q=>cases q with
   |int k s=>cases x2 with
     |pv p=>cases p with
       |int k' n=>
         simp only[bA,Option.ite_none_right_eq_some,Option.some.injEq]at h;obtain⟨rfl,rfl⟩:=h;exact⟨k,s,n,rfl,rfl,rfl⟩
       |_=>simp[bA]at h
     |_=>simp[bA]at h
   |_=>simp[bA]at h
 |_=>simp[bA]at h
theorem RN{x1 x2 x:AV}(h:bA .mx [x1,x2]=some x):∃k p q,x1=.pv (.int k p)∧x2=.pv (.int k q)∧x=.pv (.int k (if q > p then q else p)):=by
 cases x1 with
 |pv q=>cases q with
   |int k s=>cases x2 with
     |pv p=>cases p with
       |int k' n=>
         simp only[bA,Option.ite_none_right_eq_some,Option.some.injEq]at h;obtain⟨rfl,rfl⟩:=h;exact⟨k,s,n,rfl,rfl,rfl⟩
       |_=>simp[bA]at h
     |_=>simp[bA]at h
   |_=>simp[bA]at h
 |_=>simp[bA]at h
theorem zj{A:kD}{o:Oper}{vo:N2}{args:List Operand}(hc:bo P ns A o.dst o.op=some (.v vo,args)){a:Act}{vals:List AV}{x:AV}
   {mem:List (Nat×List AV)} {sh:Sh} {aa:aG} (hr:az (num ns) G vals (args.map a.eval)) (hi:Inv (num ns) G w mem sh aa) (h:bA vo vals=some x) :
   ∃v w' G',(execOp a.eval o).run P w=.ok (.value v) w'∧aA (num ns) G' x v∧Inv (num ns) G' w' mem sh aa∧G.le G'∧bu G w G' w':=by
 obtain⟨dst,op,type,pos,after,guard⟩:=o
 have lift:∀{s:Sem Value},zi ns P G w mem sh aa s x→(execOp a.eval ⟨dst,op,type,pos,after,guard⟩=(do pure (.value (←s)):Sem Next)) →
     ∃v w' G',(execOp a.eval ⟨dst,op,type,pos,after,guard⟩).run P w=.ok (.value v) w'∧aA (num ns) G' x v∧Inv (num ns) G' w' mem sh aa∧G.le G'∧bu G w G' w':=by
   rintro s ⟨v,w',G',h1,h2,h3,h4,h5⟩ he
   exact⟨v,w',G',by rw[he];simp only[Sem.run_bind,h1,Result.andThen_ok,Sem.run_pure],h2,h3,h4,h5⟩
 cases op<;>simp only[bo]at hc
 case move y=>
   simp at hc;obtain⟨rfl,rfl⟩:=hc;obtain⟨x',rfl,h1⟩:=bZ (by simpa using hr);simp[bA]at h;subst h;exact⟨_,w,G,by simp[execOp],h1,hi,G.le_refl,bu.refl G w⟩
 case assign y=>
   simp at hc;obtain⟨rfl,rfl⟩:=hc;obtain⟨x',rfl,h1⟩:=bZ (by simpa using hr);simp[bA]at h;subst h;exact⟨_,w,G,by simp[execOp],h1,hi,G.le_refl,bu.refl G w⟩
 case pick c y z=>
   simp at hc;obtain⟨rfl,rfl⟩:=hc;obtain⟨x1,x2,x3,rfl,h1,h2,h3⟩:=mq (by simpa using hr);obtain⟨b,rfl,rfl⟩:=Kg h;simp only[aA,eZ]at h1;refine⟨if b then a.eval y else a.eval z,w,G,by simp[execOp,h1,asBool],?_,hi,G.le_refl,bu.refl G w⟩;cases b<;>simp[h2,h3]
 case binOp op t y z ty=>
   simp only[Option.map_eq_some_iff]at hc;obtain⟨vo',h0,he⟩:=hc;simp at he;obtain⟨rfl,rfl⟩:=he;obtain⟨x1,x2,rfl,h1,h2⟩:=cW (by simpa using hr);unfold FA at h0;refine lift (s:=do eqGuard op t y z (a.eval y) (a.eval z);binOp op t (a.eval y) (a.eval z)) ?_ rfl;split at h0
   ·simp at h0;subst h0;simp only[bA]at h;obtain⟨v,g1,g2⟩:=qm (P:=P) (w:=w) (t:=t) h1 h2 h y z;exact .stay hi g1 g2
   ·simp at h0;subst h0;simp only[bA]at h;obtain⟨v,g1,g2⟩:=qm (P:=P) (w:=w) (t:=t) h1 h2 h y z;exact .stay hi g1 g2
   · rename_i hu
     have key:∀neg,vo'=.beq neg→((op=.eql∧neg=false)∨(op=.neq∧neg=true))→zi ns P G w mem sh aa (do eqGuard op t y z (a.eval y) (a.eval z);binOp op t (a.eval y) (a.eval z)) x:=by
       intro neg hvo hop;subst hvo;obtain⟨p,q,rfl,rfl,rfl⟩:=N7 h;simp only[aA,eZ]at h1 h2;rw[h1,h2];exact .stay hi (y6 hu hop p q y z) kE
     split at h0
     ·simp at h0;exact key false h0.symm (.inl ⟨‹_›,rfl⟩)
     · split at h0
       ·simp at h0;exact key true h0.symm (.inr ⟨‹_›,rfl⟩)
       ·simp at h0
   · rename_i fs hu;simp only[Option.ite_none_right_eq_some]at h0;obtain⟨⟨hs1,hs2⟩,h0⟩:=h0;split at h0
     · rename_i cs hcs
       have key:∀neg,vo'=.TX cs neg→((op=.eql∧neg=false)∨(op=.neq∧neg=true))→zi ns P G w mem sh aa (do eqGuard op t y z (a.eval y) (a.eval z);binOp op t (a.eval y) (a.eval z)) x:=by
         intro neg hvo hop;subst hvo;obtain⟨ps,qs,b,f1,f2,f3,rfl⟩:=N9 h;exact .stay hi (GC hu hs1 hs2 hcs hop (mZ f1 h1) (mZ f2 h2) f3 y z) kE
       split at h0
       ·simp at h0;exact key false h0.symm (.inl ⟨‹_›,rfl⟩)
       · split at h0
         ·simp at h0;exact key true h0.symm (.inr ⟨‹_›,rfl⟩)
         ·simp at h0
     ·simp at h0
   ·simp at h0
 case unOp op t y=>
   simp at hc;obtain⟨rfl,rfl⟩:=hc;obtain⟨x',rfl,h1⟩:=bZ (by simpa using hr);refine lift (s:=Op.unary op (a.eval y)) ?_ rfl;simp only[bA]at h;unfold TY at h;split at h
   · split at h<;>simp at h
     subst h;simp only[aA,eZ]at h1;rw[h1];exact .stay hi (by simp[Op.unary]) kE
   · split at h<;>simp at h
     subst h;simp only[aA,fm]at h1;rw[h1];exact .stay hi (by simp[Op.unary,Op.intArith]) dw
   ·simp at h
 case convert s d y=>
   split at hc
   ·rename_i k1 k2 hs hd;simp at hc;obtain⟨rfl,rfl⟩:=hc;obtain⟨x',rfl,h1⟩:=bZ (by simpa using hr);obtain⟨k',n,rfl,rfl⟩:=Kh h;simp only[aA,fm]at h1;refine lift (s:=convert s d (a.eval y)) ?_ rfl;rw[h1];exact .stay hi (by simp[convert,run_underlying hs,run_underlying hd,Conv.intToInt]) dw
   · rename_i e hs hd;split at hc
     ·rename_i he;simp at hc;obtain⟨rfl,rfl⟩:=hc;obtain⟨x',rfl,h1⟩:=bZ (by simpa using hr);obtain⟨l,hl,rfl⟩:=b2s_inv h;refine lift (s:=convert s d (a.eval y)) ?_ rfl;exact .stay hi (b2s_run hs he hd hi.known hl h1) sM
     ·simp at hc
   ·simp at hc
 case extract y i=>
   simp at hc;obtain⟨rfl,rfl⟩:=hc;obtain⟨x',rfl,h1⟩:=bZ (by simpa using hr);obtain⟨vs,rfl,h2⟩:=N8 h;simp only[aA]at h1;obtain⟨us,h3,h4⟩:=h1;obtain⟨u,h5,h6⟩:=h4.get h2;refine lift (s:=Instr.extract (a.eval y) i) ?_ rfl;rw[h3];exact .stay hi (by simp[Instr.extract,h5]) h6
 case field t y f=>
   split at hc
   · rename_i fd hf;split at hc
     ·rename_i sz ag hsz hag;simp at hc;obtain⟨rfl,rfl⟩:=hc;obtain⟨x',rfl,h1⟩:=bZ (by simpa using hr);obtain⟨u,g1,g2⟩:=y8 (w:=w) hf hsz hag h h1;exact lift (s:=Instr.field t (a.eval y) f) (.stay hi g1 g2) rfl
     ·simp at hc
   ·simp at hc
 case fieldAddr t y f=>
   split at hc
   · rename_i fd hf;split at hc
     · rename_i sz hsz;split at hc
       ·simp at hc
       ·rename_i hs0;simp at hc;obtain⟨rfl,rfl⟩:=hc;obtain⟨x',rfl,h1⟩:=bZ (by simpa using hr);obtain⟨u,g1,g2⟩:=y9 (w:=w) hf hsz hs0 h h1;exact lift (s:=Instr.fieldAt t (a.eval y) f) (.stay hi g1 g2) rfl
     ·simp at hc
   ·simp at hc
 case indexAddr t y i=>
   split at hc
   ·rename_i e he;simp only[Option.map_eq_some_iff]at hc;obtain⟨sz,hsz,hc⟩:=hc;simp at hc;obtain⟨rfl,rfl⟩:=hc;obtain⟨x1,x2,rfl,h1,h2⟩:=cW (by simpa using hr);obtain⟨k,i',rfl⟩:=GD h;obtain⟨u,g1,g2⟩:=y_ (w:=w) he hsz h h1;simp only[aA,fm]at h2;refine lift (s:=Instr.indexAt t (a.eval y) (a.eval i)) ?_ rfl;rw[h2];exact .stay hi g1 g2
   ·simp at hc
 case index t y i=>
   split at hc
   ·rename_i hu;simp at hc;obtain⟨rfl,rfl⟩:=hc;obtain⟨x1,x2,rfl,h1,h2⟩:=cW (by simpa using hr);obtain⟨s,k,i',rfl,rfl⟩:=GF h;obtain⟨u,g1,g2⟩:=za (ns:=ns) (G:=G) (w:=w) hu h;simp only[aA,fm,jP]at h1 h2;refine lift (s:=Instr.index t (a.eval y) (a.eval i)) ?_ rfl;rw[h1,h2];exact .stay hi g1 g2
   ·simp at hc
 case build t ps=>
   split at hc
   · rename_i fs hu;split at hc
     · rename_i z pl hz hp;simp at hc;obtain⟨rfl,rfl⟩:=hc
       have hmap:(ps.map fun (i,x)=>(i,a.eval x))=((ps.toList.map (·.1)).zip ((ps.toList.map (·.2)).map a.eval)).toArray:=by
         apply Array.ext';rw[Array.toList_map];exact qy a.eval ps.toList
       refine lift (s:=Instr.build t (ps.map fun (i,x)=>(i,a.eval x))) ?_ rfl;rw[hmap];obtain⟨u,g1,g2⟩:=ze (w:=w) hz hp hr (by simp) h;exact .stay hi g1 g2
     ·simp at hc
   ·simp at hc
 case buildSlice t n ps=>
   split at hc
   · rename_i e he;split at hc
     · rename_i sz z hsz hz;simp only[Option.ite_none_right_eq_some,Option.some.injEq,Prod.mk.injEq]at hc;obtain⟨⟨hn,hord,h0,hb⟩,hvo,rfl⟩:=hc;simp at hvo;subst hvo
       have hmap:(ps.map fun (i,x)=>(i,a.eval x))=((List.range' 0 ((ps.toList.map (·.2)).map a.eval).length).zip ((ps.toList.map (·.2)).map a.eval)).toArray:=by
         apply Array.ext';rw[Array.toList_map];exact qx a.eval ps.toList 0 hord
       refine lift (s:=Instr.buildSlice t n (ps.map fun (i,x)=>(i,a.eval x))) ?_ rfl;rw[hmap];obtain⟨u,c,g1,g2⟩:=xd he hsz hz (by simp[hn]) h0 hb hr hi h;exact⟨u,_,_,g1,g2,hi.mo c e,Gh.m4 hi c,bu.mo hi c e⟩
     ·simp at hc
   ·simp at hc
 case load t y=>
   split at hc
   · rename_i sz ag hsz hag;split at hc
     · rename_i tx;split at hc
       ·simp at hc
       · split at hc
         ·simp at hc
         ·simp at hc;obtain⟨rfl,rfl⟩:=hc;obtain⟨x',rfl,h1⟩:=bZ (by simpa using hr);obtain⟨cs,rfl,h2⟩:=GG h;simp only[aA]at h1;obtain⟨b,o,vs,e,ha,hrl⟩:=h1;refine lift (s:=Instr.loadAt t (a.eval (.tmp tx))) ?_ rfl;rw[e];obtain⟨u,g1,g2⟩:=nK (ns:=ns) (w:=w) hsz hag h2 hrl (fun j v hj=>hi.known _ _ _ (ha j v hj));exact .stay hi (by simp[Instr.loadAt,Instr.sureAddr,g1]) g2
     ·simp at hc
   ·simp at hc
 case nilCheck y=>
   simp at hc;obtain⟨rfl,rfl⟩:=hc;obtain⟨x',rfl,h1⟩:=bZ (by simpa using hr);simp only[bA]at h;split at h
   ·simp at h;subst h;have h1':=h1;simp only[aA]at h1;obtain⟨b,e,hv⟩:=h1;exact⟨a.eval y,w,G,by simp[execOp,hv],h1',hi,G.le_refl,bu.refl G w⟩
   ·simp at h;subst h;have h1':=h1;simp only[aA]at h1;obtain⟨b,e,hv⟩:=h1;exact⟨a.eval y,w,G,by simp[execOp,hv],h1',hi,G.le_refl,bu.refl G w⟩
   ·simp at h;subst h;have h1':=h1;simp only[aA]at h1;obtain⟨b,o,vs,hv,_⟩:=h1;exact⟨a.eval y,w,G,by simp[execOp,hv],h1',hi,G.le_refl,bu.refl G w⟩
   ·simp at h;subst h;have h1':=h1;simp only[aA]at h1;obtain⟨f,vs,_,hv,_⟩:=h1;exact⟨a.eval y,w,G,by simp[execOp,hv],h1',hi,G.le_refl,bu.refl G w⟩
   ·simp at h
 case makeFunc fn first cap=>
   split at hc
   · rename_i f;split at hc
     · rename_i hf;simp only[Option.map_eq_some_iff]at hc;obtain⟨g,hg,hc⟩:=hc;simp at hc;obtain⟨rfl,rfl⟩:=hc;simp[bA]at h;subst h;refine lift (s:=Instr.makeFunc (.func f) (first.map a.eval) (cap.map a.eval)) ?_ rfl;have hfirst:first=#[]:=by simpa using hf
       subst hfirst;refine .stay (v:=.func (.func f) #[] (cap.map a.eval)) hi (by simp[Instr.makeFunc]) ?_;simp only[aA];exact⟨f,cap.toList.map a.eval,hg,by congr 1;apply Array.ext';simp,hr⟩
     ·simp at hc
   ·simp at hc
 case slice t y lo hi' mx=>
   split at hc
   · rename_i e hu;split at hc
     · rename_i hhot;simp only[Option.map_eq_some_iff]at hc;obtain⟨sz,hsz,hc⟩:=hc;simp only[Prod.mk.injEq,AK.v.injEq]at hc;obtain⟨rfl,rfl⟩:=hc;cases vals with
       |nil=>simp[az]at hr
       |cons x0 rest=>
         simp only[List.map_cons,az]at hr;obtain⟨v,r,e1,h1,h2⟩:=hr;simp only[List.cons.injEq]at e1;obtain⟨rfl,rfl⟩:=e1;simp only[bA]at h;obtain⟨u,g1,g2⟩:=xe (w:=w) hu hsz hhot.1 h2 h1 h;exact lift (s:=Instr.sliceAt t (a.eval y) (lo.map a.eval) (hi'.map a.eval) (mx.map a.eval)) (.stay hi g1 g2) rfl
     · simp only[Option.map_eq_some_iff]at hc;obtain⟨sz,hsz,hc⟩:=hc;simp only[Prod.mk.injEq,AK.v.injEq]at hc;obtain⟨rfl,rfl⟩:=hc;cases vals with
       |nil=>simp[az]at hr
       |cons x0 rest=>
         simp only[List.map_cons,az]at hr;obtain⟨v,r,e1,h1,h2⟩:=hr;simp only[List.cons.injEq]at e1;obtain⟨rfl,rfl⟩:=e1;simp only[bA]at h;obtain⟨u,g1,g2⟩:=zh (w:=w) hu hsz h2 h1 h;exact lift (s:=Instr.sliceAt t (a.eval y) (lo.map a.eval) (hi'.map a.eval) (mx.map a.eval)) (.stay hi g1 g2) rfl
   · rename_i hu;split at hc
     ·simp at hc
     · rename_i hmx;simp only[Option.some.injEq,Prod.mk.injEq,AK.v.injEq]at hc;obtain⟨rfl,rfl⟩:=hc;cases vals with
       |nil=>simp[az]at hr
       |cons x0 rest=>
         simp only[List.map_cons,az]at hr;obtain⟨v,r,e1,h1,h2⟩:=hr;simp only[List.cons.injEq]at e1;obtain⟨rfl,rfl⟩:=e1;simp only[bA]at h;obtain⟨u,g1,g2⟩:=rz (w:=w) hu (by simpa using hmx) h2 h1 h;exact lift (s:=Instr.sliceAt t (a.eval y) (lo.map a.eval) (hi'.map a.eval) (mx.map a.eval)) (.stay hi g1 g2) rfl
   ·simp at hc
 case call c=>
   obtain⟨callee,cargs,ctypes⟩:=c;simp only at hc;split at hc
   · -- len
     split at hc
     · rename_i y e hcargs ht;simp only[Option.some.injEq,Prod.mk.injEq,AK.v.injEq]at hc;obtain⟨rfl,rfl⟩:=hc;simp only[Option.bind_eq_some_iff]at ht;obtain⟨t,ht1,ht2⟩:=ht;obtain⟨x',rfl,h1⟩:=bZ (by simpa using hr);have hca:cargs=#[y]:=by apply Array.ext';simpa using hcargs
       subst hca
       have hrun:∀base n c,(Builtin.len_ ctypes type #[.slice base n c]).run P w=.ok (goInt n) w:=by
         intro base n c;simp[Builtin.len_,ht1,run_underlying ht2]
       refine lift (s:=Builtin.len_ ctypes type #[a.eval y]) ?_ ?_
       · simp only[bA]at h;split at h
         ·simp at h;subst h;simp only[aA]at h1;obtain⟨b,cap,_,hv,_⟩:=h1;rw[hv];exact .stay hi (hrun _ _ _) dw
         ·rename_i x0 _;simp only[Option.map_eq_some_iff]at h;obtain⟨l,hl,rfl⟩:=h;obtain⟨b,len,cap,hv,_,hlen,_⟩:=bP.1 (dP hl h1);rw[hv];refine .stay hi (hrun _ _ _) ?_;rw[hlen];exact dw
       ·simp[execOp,resolve,invoke,builtin]
     · rename_i y hcargs ht;simp only[Option.some.injEq,Prod.mk.injEq,AK.v.injEq]at hc;obtain⟨rfl,rfl⟩:=hc;simp only[Option.bind_eq_some_iff]at ht;obtain⟨t,ht1,ht2⟩:=ht;obtain⟨x',rfl,h1⟩:=bZ (by simpa using hr);have hca:cargs=#[y]:=by apply Array.ext';simpa using hcargs
       subst hca;obtain⟨s,rfl,rfl⟩:=Ki h;simp only[aA,jP]at h1;refine lift (s:=Builtin.len_ ctypes type #[a.eval y]) ?_ ?_
       · rw[h1];refine .stay (v:=goInt (ByteArray.mk s.toArray).size) hi (by simp[Builtin.len_,ht1,run_underlying ht2]) ?_;have:(ByteArray.mk s.toArray).size=s.length:=by simp[ByteArray.size]
         rw[this];exact dw
       ·simp[execOp,resolve,invoke,builtin]
     ·simp at hc
   · split at hc
     · rename_i y z hcargs;simp only[Option.some.injEq,Prod.mk.injEq,AK.v.injEq]at hc;obtain⟨rfl,rfl⟩:=hc;have hca:cargs=#[y,z]:=by apply Array.ext';simpa using hcargs
       subst hca;obtain⟨x1,x2,rfl,h1,h2⟩:=cW (by simpa using hr);obtain⟨k,p,q,rfl,rfl,rfl⟩:=RM h;simp only[aA,fm]at h1 h2;refine lift (s:=Builtin.min_ ctypes type #[a.eval y,a.eval z]) ?_ ?_
       ·rw[h1,h2];exact .stay hi (by simp[Builtin.min_,Builtin.min2]) dw
       ·simp[execOp,resolve,invoke,builtin]
     ·simp at hc
   · split at hc
     · rename_i y z hcargs;simp only[Option.some.injEq,Prod.mk.injEq,AK.v.injEq]at hc;obtain⟨rfl,rfl⟩:=hc;have hca:cargs=#[y,z]:=by apply Array.ext';simpa using hcargs
       subst hca;obtain⟨x1,x2,rfl,h1,h2⟩:=cW (by simpa using hr);obtain⟨k,p,q,rfl,rfl,rfl⟩:=RN h;simp only[aA,fm]at h1 h2;refine lift (s:=Builtin.max_ ctypes type #[a.eval y,a.eval z]) ?_ ?_
       ·rw[h1,h2];exact .stay hi (by simp[Builtin.max_,Builtin.max2]) dw
       ·simp[execOp,resolve,invoke,builtin]
     ·simp at hc
   · split at hc
     · split at hc
       · split at hc
         · split at hc
           ·simp at hc
           ·split at hc<;>simp at hc
         ·simp at hc
       ·simp at hc
     ·simp at hc
   · split at hc
     · split at hc
       ·split at hc<;>simp at hc
       ·simp at hc
     ·simp at hc
   · split at hc
     ·split at hc<;>simp at hc
     ·simp at hc
   · split at hc
     · split at hc
       · rw[Option.ite_none_right_eq_some]at hc;obtain⟨_,hc⟩:=hc;split at hc
         · split at hc
           ·simp at hc
           ·simp at hc
         ·simp at hc
       · split at hc
         ·simp at hc
         · split at hc
           ·simp at hc
           ·split at hc<;>simp at hc
     ·simp at hc
   ·split at hc<;>simp at hc
   ·simp at hc
 case store t y v=>
   split at hc
   · split at hc
     ·simp at hc
     ·split at hc<;>simp at hc
   ·simp at hc
 case alloc t=>
   split at hc
   · split at hc
     ·split at hc<;>simp at hc
     ·simp at hc
     ·simp at hc
   ·simp at hc
 case box t y=>
   split at hc
   · split at hc
     ·split at hc<;>simp at hc
     ·simp at hc
     ·split at hc<;>simp at hc
   ·simp at hc
 case makeSlice t l c=>
   split at hc
   · split at hc
     · split at hc
       · split at hc
         ·split at hc<;>simp at hc
         ·simp at hc
         ·simp at hc
       ·simp at hc
     ·simp at hc
   ·simp at hc
 case makeMap t r=>split at hc<;>simp at hc
 case lookup t y i ok=>
   split at hc
   ·split at hc<;>simp at hc
   ·simp at hc
 case mapUpdate t m i y=>
   split at hc<;>simp at hc
 case insert t m i y=>
   split at hc<;>simp at hc
 all_goals simp at hc
end
end Go.Ab
namespace Go.Ab
section
variable {P:Program} {ns:Names} {G:Gh} {w:World}
theorem bG{α:Type}:∀(l:List (Nat×α)) (k:Nat) (v:α),look (di l k v) k=some v
 |[],k,v=>by simp[di,look]
 |(k',u)::r,k,v=>by
   simp only[di];split
   ·rename_i h;simp[look,h]
   ·rename_i h;simp[look,h,bG r k v]
theorem bw{α:Type}:∀(l:List (Nat×α)) (k k':Nat) (v:α),k≠k'→look (di l k v) k'=look l k'
 |[],k,k',v,h=>by simp[di,look,h]
 |(k0,u)::r,k,k',v,h=>by
   simp only[di];split
   ·rename_i h0;subst h0;simp[look,h]
   · simp only[look];split
     ·rfl
     ·exact bw r k k' v h
structure jl(G:Gh)(w w':World)(b:Nat):Prop where
 size:w'.heap.size=w.heap.size
 other:∀k,k≠b→w'.heap[k]?=w.heap[k]?
 os:w'.os=w.os
 tape:w'.tape=w.tape
 output:w'.output=w.output
theorem jl.setRow(b:Nat)(c:Array Value):jl G w (w.setRow b c) b:=
 ⟨setRow_size _ _ _,fun k h=>setRow_other _ _ _ _ h,rfl,rfl,rfl⟩
theorem jl.uQ{w':World}{b:Nat}(h:jl G w w' b)(hb:G.role b≠.dH):bu G w G w' where
 size:=by rw[h.size];exact Nat.le_refl _
 os:=h.os
 tape:=h.tape
 output:=h.output
 K:=G.K.le_refl
 sm:=fun _ _ h=>h
 dH:=fun _ _ hr=>⟨hr,h.other _ (fun e=>hb (e ▸ hr))⟩
 iK:=fun _ τ _ hr=>.inr ⟨τ,hr⟩
 gF:=fun _ _ _ _ _ hk=>hk
theorem jl.known{ρ:bK}{mem:List (Nat×List AV)}{sh:Sh}{aa:aG}(hi:Inv ρ G w mem sh aa){w':World}{b:Nat}(h:jl G w w' b)
   (hb:G.role b≠.dH) (hbt:∀τ,G.role b≠.tok τ):∀b' o v,G.K b' o=some v→w'.cell? ⟨b',o,none⟩=some v:=by
 intro b' o v hk
 have hne:b'≠b:=by
   rintro rfl
   rcases hi.bh _ _ _ hk with h1|⟨τ,h1⟩
   ·exact hb h1
   ·exact hbt τ h1
 have:=hi.known b' o v hk;unfold World.cell? at this⊢;simp only at this⊢;rw[h.other b' hne];exact this
theorem jl.tok{ρ:bK}{mem:List (Nat×List AV)}{sh:Sh}{aa:aG}(hi:Inv ρ G w mem sh aa){w':World}{b:Nat}(h:jl G w w' b)
   (hbt:∀τ,G.role b≠.tok τ):∀τ n,aa[τ]?=some n→∃t,G.tk τ=some t∧t.len=n∧T4 G w' τ t:=by
 intro τ n hn;obtain⟨t,e1,e2,e3⟩:=hi.cT τ n hn;refine⟨t,e1,e2,e3.cap,e3.zero,fun hlt=>?_⟩;obtain⟨b',o,c,ty,f1,f2,f3,f4,f5⟩:=e3.spare hlt;exact⟨b',o,c,ty,f1,f2,by rw[h.other b' (fun e=>hbt τ (e ▸ f2))];exact f3,f4,f5⟩
theorem Inv.GH{ρ:bK}{mem:List (Nat×List AV)}{sh:Sh}{aa:aG}(hi:Inv ρ G w mem sh aa){d b:Nat}{cells cells':List AV}{c':Array Value}
   (hl:look mem d=some cells) (hp:G.pm d=some b) (hr:az ρ G cells' c'.toList) (hb:cells'.all a0=true) :
   Inv ρ G (w.setRow b c') (di mem d cells') sh aa∧bu G w G (w.setRow b c'):=by
 obtain⟨b0,e1,e2,e3⟩:=hi.cG d cells hl;have:b0=b:=by rw[hp]at e1;simpa using e1.symm
 subst this;obtain⟨hrole,c,t,hh,_⟩:=e2;have hne:G.role b0≠.dH:=by rw[hrole];simp
 have hnt:∀τ,G.role b0≠.tok τ:=by intro τ;rw[hrole];simp
 have hA:=jl.setRow (G:=G) (w:=w) b0 c';refine⟨⟨hA.known hi hne hnt,hi.bh,?_,?_,?_,?_,hi.eo,hA.tok hi hnt,hi.eI,hi.hU (hA.uQ hne)⟩,hA.uQ hne⟩
 ·intro k hk;rw[hA.size]at hk;exact hi.fresh k hk
 · intro d' cs hd';by_cases hdd:d=d'
   ·subst hdd;rw[bG]at hd';simp at hd';subst hd';exact⟨b0,hp,⟨hrole,c',t,setRow_heap _ _ _ _ _ _ hh,hr⟩,hb⟩
   · rw[bw _ _ _ _ hdd]at hd';obtain⟨b',g1,g2,g3⟩:=hi.cG d' cs hd';refine⟨b',g1,⟨g2.role,?_⟩,g3⟩;obtain⟨c2,t2,hh2,hr2⟩:=g2.at_;refine⟨c2,t2,?_,hr2⟩;rw[hA.other b']
     ·exact hh2
     · rintro rfl
       have:=g2.role;rw[hrole]at this;simp at this;exact hdd this
 · intro d' b' hd';by_cases hdd:d=d'
   ·subst hdd;rw[bG];rfl
   ·rw[bw _ _ _ _ hdd];exact hi.gE d' b' hd'
 · intro s cs hs;obtain⟨b',g1,g2,g3⟩:=hi.cR s cs hs;refine⟨b',g1,⟨g2.role,?_⟩,g3⟩;obtain⟨o2,hh2,hr2⟩:=g2.at_;refine⟨o2,?_,hr2⟩;rw[hA.other b'.1]
   ·exact hh2
   ·intro he;have:=g2.role;rw[he,hrole]at this;simp at this
theorem Inv.vJ{ρ:bK}{mem:List (Nat×List AV)}{sh:Sh}{aa:aG}(hi:Inv ρ G w mem sh aa){s:Nat}{b:Nat×Nat}{cells cells':List AV}{w':World}{o':Obj}
   (hl:sh[s]?=some (some cells)) (hp:G.sm s=some b) (hA:jl G w w' b.1) (ho:w'.heap[b.1]?=some o') (hr:Holds ρ G o' b.2 cells') (hb:cells'.all cI=true) (hf:cells'.all (aI (s+1))=true) :
   Inv ρ G w' mem (sh.set s (some cells')) aa∧bu G w G w':=by
 obtain⟨b0,e1,e2,e3⟩:=hi.cR s cells hl;have:b0=b:=by rw[hp]at e1;simpa using e1.symm
 subst this;have hrole:=e2.role;have hne:G.role b0.1≠.dH:=by rw[hrole];simp
 have hnt:∀τ,G.role b0.1≠.tok τ:=by intro τ;rw[hrole];simp
 refine⟨⟨hA.known hi hne hnt,hi.bh,?_,?_,hi.gE,?_,?_,hA.tok hi hnt,hi.eI,hi.hU (hA.uQ hne)⟩,hA.uQ hne⟩
 ·intro k hk;rw[hA.size]at hk;exact hi.fresh k hk
 · intro d' cs hd';obtain⟨b',g1,g2,g3⟩:=hi.cG d' cs hd';refine⟨b',g1,⟨g2.role,?_⟩,g3⟩;obtain⟨c2,t2,hh2,hr2⟩:=g2.at_;refine⟨c2,t2,?_,hr2⟩;rw[hA.other b']
   ·exact hh2
   · rintro rfl
     have:=g2.role;rw[hrole]at this;simp at this
 · intro s' cs hs;rw[List.getElem?_set]at hs;split at hs
   · rename_i he;subst he;split at hs
     ·simp at hs;subst hs;exact⟨b0,hp,⟨hrole,o',ho,hr⟩,hb,hf⟩
     ·simp at hs
   · rename_i hne';obtain⟨b',g1,g2,g3⟩:=hi.cR s' cs hs;refine⟨b',g1,⟨g2.role,?_⟩,g3⟩;obtain⟨o2,hh2,hr2⟩:=g2.at_;refine⟨o2,?_,hr2⟩;rw[hA.other b'.1]
     ·exact hh2
     ·intro he;have:=g2.role;rw[he,hrole]at this;simp at this;exact hne' this
 ·intro s' b' h;simpa using hi.eo s' b' h
theorem Inv.mr{ρ:bK}{mem:List (Nat×List AV)}{sh:Sh}{aa:aG}(hi:Inv ρ G w mem sh aa){s:Nat}{b:Nat×Nat}{cells cells':List AV}{c c':Array Value}{t:TypeId}{vs suf:List Value}
   (hl:sh[s]?=some (some cells)) (hp:G.sm s=some b) (hh:w.heap[b.1]?=some (.cells c t (0,0))) (hsz:c'.size=b.2) (hsp:c'.toList=vs++suf) (hr:az ρ G cells' vs) (hb:cells'.all cI=true) (hf:cells'.all (aI (s+1))=true) :
   Inv ρ G (w.setRow b.1 c') mem (sh.set s (some cells')) aa∧bu G w G (w.setRow b.1 c'):=
 hi.vJ hl hp (jl.setRow b.1 c') (setRow_heap _ _ _ _ _ _ hh) (.inl ⟨c',t,vs,suf,rfl,hsz,hsp,hr⟩) hb hf
theorem jl.putObj(b:Nat)(o:Obj):jl G w (w.putObj b o) b:=
 ⟨by simp[World.putObj],fun _ h=>World.putObj_heap_other h,rfl,rfl,rfl⟩
theorem Inv.Kj{ρ:bK}{mem:List (Nat×List AV)}{sh:Sh}{aa:aG}(hi:Inv ρ G w mem sh aa){s:Nat}{b:Nat×Nat}{kvs:List (PV×PV)}{cells:List AV}{es:Array MapEntry}{clock:Nat}
   (hl:sh[s]?=some (some cells)) (hp:G.sm s=some b) (hm:eY G.K kvs es.toList) :
   Inv ρ G (w.putObj b.1 (.map es clock)) mem (sh.set s (some [.dB kvs])) aa∧bu G w G (w.putObj b.1 (.map es clock)):=by
 obtain⟨b0,e1,e2,e3⟩:=hi.cR s cells hl;have:b0=b:=by rw[hp]at e1;simpa using e1.symm
 subst this;exact hi.vJ hl hp (jl.putObj _ _) (World.putObj_heap_same e2.lt) (.inr ⟨es,clock,kvs,rfl,rfl,hm⟩) rfl rfl
def Gh.dk(G:Gh)(d b:Nat):Gh:={ G with role:=fun k=>if k=b then .l0 d else G.role k,pm:=fun k=>if k=d then some b else G.pm k }
def Gh.cM(G:Gh)(s b n:Nat):Gh:={ G with role:=fun k=>if k=b then .shr s else G.role k,sm:=fun k=>if k=s then some (b,n) else G.sm k }
theorem Inv.pO{ρ:bK}{mem:List (Nat×List AV)}{sh:Sh}{aa:aG}(hi:Inv ρ G w mem sh aa){d:Nat}{cells:List AV}{c:Array Value}(t:TypeId)
   (hl:look mem d=none) (hr:az ρ G cells c.toList) (hb:cells.all a0=true) :
   Inv ρ (G.dk d w.heap.size) (w.alloc (.cells c t)) (di mem d cells) sh aa∧G.le (G.dk d w.heap.size)∧bu G w (G.dk d w.heap.size) (w.alloc (.cells c t)):=by
 have hpm:G.pm d=none:=by
   cases h:G.pm d with
   |none=>rfl
   |some b=>have:=hi.gE d b h;rw[hl]at this;simp at this
 have hle:G.le (G.dk d w.heap.size):=⟨G.K.le_refl,fun k b h=>by
   simp only[Gh.dk];split
   ·rename_i e;subst e;rw[hpm]at h;simp at h
   ·exact h,fun _ _ h=>h,fun _ t h=>⟨t,h,⟨Nat.le_refl _,t.gD⟩,fun _=>rfl⟩⟩
 have hevo:bu G w (G.dk d w.heap.size) (w.alloc (.cells c t)):={
           size:=by simp,os:=rfl,tape:=rfl,output:=rfl,K:=G.K.le_refl,sm:=fun _ _ h=>h,
           dH:=fun b hb hr=>⟨by simp only[Gh.dk];rw[if_neg (by omega)];exact hr,bq hb⟩
           iK:=fun b τ hb hr=>.inr ⟨τ,by simp only[Gh.dk];rw[if_neg (by omega)];exact hr⟩
           gF:=fun _ _ _ _ _ hk=>hk }
 refine⟨⟨?_,?_,?_,?_,?_,?_,hi.eo,?_,hi.eI,hi.hU hevo⟩,hle,hevo⟩
 ·intro b o v hk;have hlt:b<w.heap.size:=hi.jj (o:=o) (v:=v) hk;rw[World.cell?_alloc_lt _ _ ⟨b,o,none⟩ hlt];exact hi.known b o v hk
 ·intro b o v hk;have:=hi.jj (o:=o) (v:=v) hk;simp only[Gh.dk];rw[if_neg (by omega)];exact hi.bh b o v hk
 ·intro b hb';simp at hb';simp only[Gh.dk];rw[if_neg (by omega)];exact hi.fresh b (by omega)
 · intro d' cs hd';by_cases hdd:d=d'
   ·subst hdd;rw[bG]at hd';simp at hd';subst hd';exact⟨w.heap.size,by simp[Gh.dk],⟨by simp[Gh.dk],c,t,heap_alloc_new,az.mono hle hr⟩,hb⟩
   · rw[bw _ _ _ _ hdd]at hd';obtain⟨b',g1,g2,g3⟩:=hi.cG d' cs hd';have hlt:b'<w.heap.size:=by obtain⟨_,_,hh,_⟩:=g2.at_;exact cB hh
     exact⟨b',by simp only[Gh.dk];rw[if_neg (Ne.symm hdd)];exact g1,g2.mono hle (by simp only[Gh.dk];rw[if_neg (by omega)]) (bq hlt),g3⟩
 · intro d' b' hd';by_cases hdd:d=d'
   ·subst hdd;rw[bG];rfl
   ·rw[bw _ _ _ _ hdd];simp only[Gh.dk]at hd';rw[if_neg (Ne.symm hdd)]at hd';exact hi.gE d' b' hd'
 ·intro s cs hs;obtain⟨b',g1,g2,g3⟩:=hi.cR s cs hs;have hlt:b'.1<w.heap.size:=g2.lt;exact⟨b',g1,g2.mono hle (by simp only[Gh.dk];rw[if_neg (by omega)]) (bq hlt),g3⟩
 ·intro τ n hn;obtain⟨tk,e1,e2,e3⟩:=hi.cT τ n hn;refine⟨tk,e1,e2,e3.cap,e3.zero,fun hlt=>?_⟩;obtain⟨b,o,cc,ty,f1,f2,f3,f4,f5⟩:=e3.spare hlt;have hb:=cB f3;exact⟨b,o,cc,ty,f1,by simp only[Gh.dk];rw[if_neg (by omega)];exact f2,(bq hb).trans f3,f4,f5⟩
theorem Inv.xg{ρ:bK}{mem:List (Nat×List AV)}{sh:Sh}{aa:aG}(hi:Inv ρ G w mem sh aa){cells:List AV}{o':Obj}{N:Nat}
   (hr:Holds ρ G o' N cells) (hb:cells.all cI=true) (hf:cells.all (aI (sh.length+1))=true) :
   Inv ρ (G.cM sh.length w.heap.size N) (w.alloc o') mem (sh++[some cells]) aa∧G.le (G.cM sh.length w.heap.size N)∧bu G w (G.cM sh.length w.heap.size N) (w.alloc o'):=by
 have hsm:G.sm sh.length=none:=by
   cases h:G.sm sh.length with
   |none=>rfl
   |some b=>have:=hi.eo _ b h;omega
 have hle:G.le (G.cM sh.length w.heap.size N):=⟨G.K.le_refl,fun _ _ h=>h,fun k b h=>by
   simp only[Gh.cM];split
   ·rename_i e;subst e;rw[hsm]at h;simp at h
   ·exact h,fun _ t h=>⟨t,h,⟨Nat.le_refl _,t.gD⟩,fun _=>rfl⟩⟩
 have hevo:bu G w (G.cM sh.length w.heap.size N) (w.alloc o'):={
           size:=by simp,os:=rfl,tape:=rfl,output:=rfl,K:=G.K.le_refl,sm:=hle.sm,
           dH:=fun b hb hr=>⟨by simp only[Gh.cM];rw[if_neg (by omega)];exact hr,bq hb⟩
           iK:=fun b τ hb hr=>.inr ⟨τ,by simp only[Gh.cM];rw[if_neg (by omega)];exact hr⟩
           gF:=fun _ _ _ _ _ hk=>hk }
 refine⟨⟨?_,?_,?_,?_,hi.gE,?_,?_,?_,hi.eI,hi.hU hevo⟩,hle,hevo⟩
 ·intro b o v hk;have hlt:b<w.heap.size:=hi.jj (o:=o) (v:=v) hk;rw[World.cell?_alloc_lt _ _ ⟨b,o,none⟩ hlt];exact hi.known b o v hk
 ·intro b o v hk;have:=hi.jj (o:=o) (v:=v) hk;simp only[Gh.cM];rw[if_neg (by omega)];exact hi.bh b o v hk
 ·intro b hb';simp at hb';simp only[Gh.cM];rw[if_neg (by omega)];exact hi.fresh b (by omega)
 · intro d' cs hd';obtain⟨b',g1,g2,g3⟩:=hi.cG d' cs hd';have hlt:b'<w.heap.size:=by obtain⟨_,_,hh,_⟩:=g2.at_;exact cB hh
   exact⟨b',g1,g2.mono hle (by simp only[Gh.cM];rw[if_neg (by omega)]) (bq hlt),g3⟩
 · intro s cs hs;rw[List.getElem?_append]at hs;split at hs
   ·obtain⟨b',g1,g2,g3⟩:=hi.cR s cs hs;have hlt:b'.1<w.heap.size:=g2.lt;exact⟨b',hle.sm _ _ g1,g2.mono hle (by simp only[Gh.cM];rw[if_neg (by omega)]) (bq hlt),g3⟩
   · rename_i hge
     have hs':s=sh.length:=by
       rcases Nat.lt_or_ge (s-sh.length) 1 with h|h
       ·omega
       ·rw[List.getElem?_eq_none (by simpa using h)]at hs;simp at hs
     subst hs';simp at hs;subst hs;exact⟨(w.heap.size,N),by simp[Gh.cM],⟨by simp[Gh.cM],o',heap_alloc_new,hr.mono hle⟩,hb,hf⟩
 · intro s b h;simp only[Gh.cM]at h;split at h
   ·rename_i e;subst e;simp
   ·have:=hi.eo s b h;simp;omega
 ·intro τ n hn;obtain⟨tk,e1,e2,e3⟩:=hi.cT τ n hn;refine⟨tk,e1,e2,e3.cap,e3.zero,fun hlt=>?_⟩;obtain⟨b,o,cc,ty,f1,f2,f3,f4,f5⟩:=e3.spare hlt;have hb:=cB f3;exact⟨b,o,cc,ty,f1,by simp only[Gh.cM];rw[if_neg (by omega)];exact f2,(bq hb).trans f3,f4,f5⟩
theorem Inv.oP{ρ:bK}{mem:List (Nat×List AV)}{sh:Sh}{aa:aG}(hi:Inv ρ G w mem sh aa){cells:List AV}{c:Array Value}(t:TypeId)
   (hr:az ρ G cells c.toList) (hb:cells.all cI=true) (hf:cells.all (aI (sh.length+1))=true) :
   Inv ρ (G.cM sh.length w.heap.size c.size) (w.alloc (.cells c t)) mem (sh++[some cells]) aa∧G.le (G.cM sh.length w.heap.size c.size)∧bu G w (G.cM sh.length w.heap.size c.size) (w.alloc (.cells c t)):=
 hi.xg (Holds.full hr) hb hf
theorem Inv.allocMap{ρ:bK}{mem:List (Nat×List AV)}{sh:Sh}{aa:aG}(hi:Inv ρ G w mem sh aa) :
   Inv ρ (G.cM sh.length w.heap.size 0) (w.alloc (.map #[] 0)) mem (sh++[some [.dB []]]) aa∧G.le (G.cM sh.length w.heap.size 0)∧bu G w (G.cM sh.length w.heap.size 0) (w.alloc (.map #[] 0)):=
 hi.xg (.inr ⟨#[],0,[],rfl,rfl,rfl⟩) rfl rfl
end
end Go.Ab
namespace Go.Ab
section
variable {P:Program} {ns:Names} {G:Gh} {w:World}
structure nU(G:Gh)(aa toks':aG)(τ n:Nat):Prop where
 at_:toks'[τ]?=some n
 other:∀σ,σ≠τ→toks'[σ]?=aa[σ]?
 aN:∀t,G.tk τ=some t→t.len<n
def Gh.bz(G:Gh)(τ:Nat)(t:Tk)(role:Nat→mi)(K:bm):Gh:=
 { G with K,role,tk:=fun σ=>if σ=τ then some t else G.tk σ }
theorem Gh.pP{τ:Nat}{t:Tk}{role:Nat→mi}{K:bm}(hK:G.K.le K)(ho:∀t0,G.tk τ=some t0→(t0.len≤t.len∧t0.on t)∧(t0.len=t.len→t=t0)):G.le (G.bz τ t role K) where
 K:=hK
 pm:=fun _ _ h=>h
 sm:=fun _ _ h=>h
 tk:=fun σ t0 h=>by
   simp only[Gh.bz];by_cases hσ:σ=τ
   ·subst hσ;simp only[if_true];obtain⟨h1,h2⟩:=ho t0 h;exact⟨t,rfl,h1,h2⟩
   ·rw[if_neg hσ];exact⟨t0,h,⟨Nat.le_refl _,Tk.gD _⟩,fun _=>rfl⟩
def eA(G:Gh)(b τ:Nat):Nat→mi:=fun k=>if k=b then .tok τ else if G.role k=.tok τ then .dH else G.role k
def jm(G:Gh)(b m:Nat)(c:Array Value):bm:=fun k o=>if k=b then (if o<m then c[o]? else none) else G.K k o
theorem Inv.grow{ρ:bK}{mem:List (Nat×List AV)}{sh:Sh}{aa toks':aG}(hi:Inv ρ G w mem sh aa){τ:Nat}{t:Tk}{c:Array Value}(ty:TypeId)
   (hb:t.base=some ⟨w.heap.size,0,none⟩) (hc:t.cap*t.sz≤c.size) (hl:t.len≤t.cap) (h0:0<t.len) (hu:nU G aa toks' τ t.len) (hg:∀t0,G.tk τ=some t0→¬t0.dead∧t0.cap<t.len) :
   Inv ρ (G.bz τ t (eA G w.heap.size τ) (jm G w.heap.size (t.len*t.sz) c)) (w.alloc (.cells c ty)) mem sh toks' ∧
   G.le (G.bz τ t (eA G w.heap.size τ) (jm G w.heap.size (t.len*t.sz) c)) ∧
   bu G w (G.bz τ t (eA G w.heap.size τ) (jm G w.heap.size (t.len*t.sz) c)) (w.alloc (.cells c ty)):=by
 have hK:G.K.le (jm G w.heap.size (t.len*t.sz) c):=fun b o v hk=>by
   have:=hi.jj hk;simp only[jm];rw[if_neg (by omega)];exact hk
 have hle:G.le (G.bz τ t (eA G w.heap.size τ) (jm G w.heap.size (t.len*t.sz) c)):=
   Gh.pP hK fun t0 h=>by have:=hu.aN t0 h;exact⟨⟨by omega,fun d=>absurd d (hg t0 h).1,.inr (.inl (hg t0 h).2)⟩,by omega⟩
 have hrole:∀b r,b<w.heap.size→G.role b=r→(∀σ,r≠.tok σ)→eA G w.heap.size τ b=r:=by
   intro b r hb hr hn;simp only[eA];rw[if_neg (by omega),if_neg (by rw[hr];exact hn τ),hr]
 have hevo:bu G w (G.bz τ t (eA G w.heap.size τ) (jm G w.heap.size (t.len*t.sz) c)) (w.alloc (.cells c ty)):={
           size:=by simp,os:=rfl,tape:=rfl,output:=rfl,K:=hK,sm:=fun _ _ h=>h,
           dH:=fun b hb hr=>⟨hrole b _ hb hr (by simp),bq hb⟩
           iK:=fun b σ hb hr=>by
             simp only[Gh.bz,eA];rw[if_neg (by omega)];split
             ·exact .inl rfl
             ·exact .inr ⟨σ,hr⟩
           gF:=fun b o v hb _ hk=>by
             simp only[Gh.bz,jm]at hk
             rwa [if_neg (by omega)]at hk }
 refine⟨⟨?_,?_,?_,?_,hi.gE,?_,hi.eo,?_,?_,hi.hU hevo⟩,hle,hevo⟩
 · intro b o v hk;simp only[Gh.bz,jm]at hk;split at hk
   · rename_i e;subst e;split at hk
     ·simp[hk]
     ·simp at hk
   ·have hlt:b<w.heap.size:=hi.jj (o:=o) (v:=v) hk;rw[World.cell?_alloc_lt _ _ ⟨b,o,none⟩ hlt];exact hi.known b o v hk
 · intro b o v hk;simp only[Gh.bz,jm]at hk;simp only[Gh.bz,eA];split at hk
   ·rename_i e;subst e;exact .inr ⟨τ,by simp⟩
   · rename_i e;rw[if_neg e];split
     ·exact .inl rfl
     ·exact hi.bh b o v hk
 ·intro b hb';simp at hb';simp only[Gh.bz,eA];rw[if_neg (by omega)];have:=hi.fresh b (by omega);rw[this];simp
 · intro d cs hd;obtain⟨b',g1,g2,g3⟩:=hi.cG d cs hd;have hlt:b'<w.heap.size:=by obtain⟨_,_,hh,_⟩:=g2.at_;exact cB hh
   exact⟨b',g1,g2.mono hle ((hrole b' _ hlt g2.role (by simp)).trans g2.role.symm) (bq hlt),g3⟩
 ·intro s cs hs;obtain⟨b',g1,g2,g3⟩:=hi.cR s cs hs;have hlt:b'.1<w.heap.size:=g2.lt;exact⟨b',g1,g2.mono hle ((hrole b'.1 _ hlt g2.role (by simp)).trans g2.role.symm) (bq hlt),g3⟩
 · intro σ n hn;by_cases hσ:σ=τ
   · subst hσ;rw[hu.at_]at hn;simp at hn;refine⟨t,by simp[Gh.bz],hn,hl,fun h=>by omega,fun hlt=>⟨w.heap.size,0,c,ty,hb,by simp[Gh.bz,eA],heap_alloc_new,by omega,fun j v hk=>?_⟩⟩;simp only[Gh.bz,jm,if_true]at hk;split at hk
     ·omega
     ·simp at hk
   · rw[hu.other σ hσ]at hn;obtain⟨t0,e1,e2,e3⟩:=hi.cT σ n hn;refine⟨t0,by simp only[Gh.bz];rw[if_neg hσ];exact e1,e2,e3.cap,e3.zero,fun hlt=>?_⟩;obtain⟨b',o,cc,ty',f1,f2,f3,f4,f5⟩:=e3.spare hlt;have hb':=cB f3;refine⟨b',o,cc,ty',f1,?_,(bq hb').trans f3,f4,fun j v hk=>f5 j v ?_⟩
     ·simp only[Gh.bz,eA];rw[if_neg (by omega),if_neg (by rw[f2];simp;exact hσ)];exact f2
     · simp only[Gh.bz,jm]at hk
       rwa [if_neg (by omega)]at hk
 · intro σ t0 h;simp only[Gh.bz]at h;split at h
   ·rename_i e;subst e;simp at h;subst h;exact hu.at_
   ·rename_i e;rw[hu.other σ e];exact hi.eI σ t0 h
theorem Inv.N_{ρ:bK}{mem:List (Nat×List AV)}{sh:Sh}{aa toks':aG}(hi:Inv ρ G w mem sh aa){τ:Nat}{t:Tk}
   (hl:t.cap=t.len) (hown:t.own=false) (hn:G.tk τ=none) (h1:toks'[τ]?=some t.len) (h2:∀σ,σ≠τ→toks'[σ]?=aa[σ]?) :
   Inv ρ (G.bz τ t G.role G.K) w mem sh toks'∧G.le (G.bz τ t G.role G.K)∧bu G w (G.bz τ t G.role G.K) w:=by
 have hle:G.le (G.bz τ t G.role G.K):=Gh.pP G.K.le_refl fun t0 h=>by rw[hn]at h;simp at h
 have hevo:bu G w (G.bz τ t G.role G.K) w:={
           size:=Nat.le_refl _,os:=rfl,tape:=rfl,output:=rfl,K:=G.K.le_refl,sm:=fun _ _ h=>h,
           dH:=fun b hb hr=>⟨hr,rfl⟩,iK:=fun b σ hb hr=>.inr ⟨σ,hr⟩,gF:=fun _ _ _ _ _ hk=>hk }
 refine⟨⟨hi.known,hi.bh,hi.fresh,?_,hi.gE,?_,hi.eo,?_,?_,hi.hU hevo⟩,hle,hevo⟩
 ·intro d cs hd;obtain⟨b',g1,g2,g3⟩:=hi.cG d cs hd;exact⟨b',g1,g2.mono hle rfl rfl,g3⟩
 ·intro d cs hd;obtain⟨b',g1,g2,g3⟩:=hi.cR d cs hd;exact⟨b',g1,g2.mono hle rfl rfl,g3⟩
 · intro σ n hn';by_cases hσ:σ=τ
   ·subst hσ;rw[h1]at hn';simp at hn';exact⟨t,by simp[Gh.bz],hn',by omega,fun _=>by omega,fun h=>h.elim (fun h=>by omega) (fun h=>by rw[hown]at h;cases h)⟩
   ·rw[h2 σ hσ]at hn';obtain⟨t0,e1,e2,e3⟩:=hi.cT σ n hn';exact⟨t0,by simp only[Gh.bz];rw[if_neg hσ];exact e1,e2,e3.cap,e3.zero,e3.spare⟩
 · intro σ t0 h;simp only[Gh.bz]at h;split at h
   ·rename_i e;subst e;simp at h;subst h;exact h1
   ·rename_i e;rw[h2 σ e];exact hi.eI σ t0 h
def jn(G:Gh)(b o:Nat)(l:List Value):bm:=fun k j=>if k=b∧o≤j∧j<o+l.length then l[j-o]? else G.K k j
theorem Inv.fill{ρ:bK}{mem:List (Nat×List AV)}{sh:Sh}{aa toks':aG}(hi:Inv ρ G w mem sh aa){τ b o n:Nat}{t:Tk}{c c':Array Value}{ty:TypeId}{l:List Value}
   (ht:G.tk τ=some t) (hb:t.base=some ⟨b,o,none⟩) (hrole:G.role b=.tok τ) (hh:w.heap[b]?=some (.cells c ty (0,0))) (hcap:o+t.cap*t.sz≤c.size)
   (hfree:∀j v,G.K b j=some v→j<o+t.len*t.sz) (hl:l.length=n*t.sz) (hn:0<n) (hfit:t.len+n≤t.cap)
   (hc':c'=(c.toList.take (o+t.len*t.sz)++l++c.toList.drop (o+t.len*t.sz+l.length)).toArray) (hu:nU G aa toks' τ (t.len+n)) :
   Inv ρ (G.bz τ { t with len:=t.len+n,own:=true } G.role (jn G b (o+t.len*t.sz) l)) (w.setRow b c') mem sh toks' ∧
   G.le (G.bz τ { t with len:=t.len+n,own:=true } G.role (jn G b (o+t.len*t.sz) l)) ∧
   bu G w (G.bz τ { t with len:=t.len+n,own:=true } G.role (jn G b (o+t.len*t.sz) l)) (w.setRow b c'):=by
 have hne:G.role b≠.dH:=by rw[hrole];simp
 have hmul:(t.len+n)*t.sz=t.len*t.sz+n*t.sz:=Nat.add_mul _ _ _;have hmul2:(t.len+n)*t.sz≤t.cap*t.sz:=Nat.mul_le_mul_right _ hfit
 have hsz:c'.size=c.size:=by
   subst hc';simp;omega
 have hK:G.K.le (jn G b (o+t.len*t.sz) l):=fun k j v hk=>by
   simp only[jn];rw[if_neg]
   ·exact hk
   · rintro⟨rfl,h1,_⟩
     have:=hfree j v hk;omega
 have hle:G.le (G.bz τ { t with len:=t.len+n,own:=true } G.role (jn G b (o+t.len*t.sz) l)):=
   Gh.pP hK fun t0 h=>by rw[ht]at h;simp at h;subst h;exact⟨⟨by simp,fun d=>(by rw[Tk.dead,hb]at d;simp at d),.inr (.inr ⟨rfl,rfl,.inr rfl⟩)⟩,by simp;omega⟩
 have hA:=jl.setRow (G:=G) (w:=w) b c';have hnew:(w.setRow b c').heap[b]?=some (.cells c' ty (0,0)):=setRow_heap _ _ _ _ _ _ hh
 have hevo:bu G w (G.bz τ { t with len:=t.len+n,own:=true } G.role (jn G b (o+t.len*t.sz) l)) (w.setRow b c'):={
           size:=by rw[hA.size];exact Nat.le_refl _,os:=rfl,tape:=rfl,output:=rfl,K:=hK,sm:=fun _ _ h=>h,
           dH:=fun k hk hr=>⟨hr,hA.other k (fun e=>hne (e ▸ hr))⟩
           iK:=fun k σ hk hr=>.inr ⟨σ,hr⟩
           gF:=fun k j v hk hr hkk=>by
             simp only[Gh.bz,jn]at hkk
             rwa [if_neg (by rintro⟨e,_⟩;subst e;exact hne hr)]at hkk }
 refine⟨⟨?_,?_,?_,?_,hi.gE,?_,hi.eo,?_,?_,hi.hU hevo⟩,hle,hevo⟩
 · intro k j v hk;simp only[Gh.bz,jn]at hk;split at hk
   · rename_i e;obtain⟨rfl,e1,e2⟩:=e;simp only[World.cell?,hnew];subst hc';simp only[Option.isSome_none,Bool.false_eq_true,if_false,List.getElem?_toArray];rw[List.getElem?_append_left (by simp;omega),List.getElem?_append_right (by simp;omega)];have:(c.toList.take (o+t.len*t.sz)).length=o+t.len*t.sz:=by simp;omega
     rw[this];exact hk
   · rename_i e;by_cases hkb:k=b
     ·subst hkb;have hj:=hfree j v hk;have hold:=hi.known k j v hk;simp only[World.cell?,hh,Option.isSome_none,Bool.false_eq_true,if_false]at hold;simp only[World.cell?,hnew];subst hc';simp only[Option.isSome_none,Bool.false_eq_true,if_false,List.getElem?_toArray];rw[List.getElem?_append_left (by simp;omega),List.getElem?_append_left (by simp;omega),List.getElem?_take,if_pos hj];simpa using hold
     ·have hold:=hi.known k j v hk;unfold World.cell? at hold⊢;simp only at hold⊢;rw[hA.other k hkb];exact hold
 · intro k j v hk;simp only[Gh.bz,jn]at hk;split at hk
   ·rename_i e;obtain⟨rfl,_⟩:=e;exact .inr ⟨τ,hrole⟩
   ·exact hi.bh k j v hk
 ·intro k hk;rw[hA.size]at hk;exact hi.fresh k hk
 · intro d cs hd;obtain⟨b',g1,g2,g3⟩:=hi.cG d cs hd;refine⟨b',g1,g2.mono hle rfl (hA.other b' ?_),g3⟩
   rintro rfl
   have:=g2.role;rw[hrole]at this;simp at this
 ·intro d cs hd;obtain⟨b',g1,g2,g3⟩:=hi.cR d cs hd;refine⟨b',g1,g2.mono hle rfl (hA.other b'.1 ?_),g3⟩;intro he;have:=g2.role;rw[he,hrole]at this;simp at this
 · intro σ m hm;by_cases hσ:σ=τ
   · subst hσ;rw[hu.at_]at hm;simp at hm;refine⟨{ t with len:=t.len+n,own:=true },by simp[Gh.bz],hm,hfit,fun h=>by simp at h;omega,fun hlt=>⟨b,o,c',ty,hb,hrole,hnew,by rw[hsz];exact hcap,fun j v hk=>?_⟩⟩;simp only[Gh.bz,jn]at hk;show j<o+(t.len+n)*t.sz;split at hk
     ·rename_i e;rw[hmul];omega
     ·have:=hfree j v hk;rw[hmul];omega
   · rw[hu.other σ hσ]at hm;obtain⟨t0,e1,e2,e3⟩:=hi.cT σ m hm;refine⟨t0,by simp only[Gh.bz];rw[if_neg hσ];exact e1,e2,e3.cap,e3.zero,fun hlt=>?_⟩;obtain⟨b',o',cc,ty',f1,f2,f3,f4,f5⟩:=e3.spare hlt;have hbb:b'≠b:=by rintro rfl;rw[hrole]at f2;simp at f2;exact hσ f2.symm
     refine⟨b',o',cc,ty',f1,f2,(hA.other b' hbb).trans f3,f4,fun j v hk=>f5 j v ?_⟩;simp only[Gh.bz,jn]at hk
     rwa [if_neg (by rintro⟨e,_⟩;exact hbb e)]at hk
 · intro σ t0 h;simp only[Gh.bz]at h;split at h
   ·rename_i e;subst e;simp at h;subst h;exact hu.at_
   ·rename_i e;rw[hu.other σ e];exact hi.eI σ t0 h
end
end Go.Ab
namespace Go.Ab
section
variable {P:Program} {ns:Names} {G:Gh} {w:World}
theorem vK(n:Nat):∀(r c:Nat),c≤2*n→256≤c→Builtin.growBy n r c≤2*n
 |0,c,h,_=>h
 |r+1,c,h,h2=>by
   simp only[Builtin.growBy];split
   ·exact h
   ·exact vK n r _ (by omega) (by omega)
theorem nextslicecap_le(n c:Nat)(h:c<n):Builtin.nextslicecap n c≤2*n:=by
 unfold Builtin.nextslicecap;split
 ·omega
 · split
   ·omega
   ·exact vK n 4 c (by omega) (by omega)
theorem gH{els:List PV}{v:Value}{sz n:Nat}(hk:∀b o u,G.K b o=some u→w.cell? ⟨b,o,none⟩=some u)(hr:Rel G.K (.aw els) v)(hs:a_ sz els=true)(hn:els.length=n) :
   ∃vss:List Value,(Builtin.firstCells sz n v).run P w=.ok vss.toArray w∧vss.length=n*sz ∧
     (∀(K':bm) (b' o':Nat),G.K.le K'→At K' b' o' vss→Row K' b' o' sz els)∧(∀u∈vss,u.oneCell'=true):=by
 obtain⟨base,len,cap,rfl,_,hlen,hrow'⟩:=bP.1 hr;by_cases hnil:els=[]
 · subst hnil;simp at hn;subst hn;refine⟨[],?_,by simp,fun _ _ _ _ _=>by simp only[Row],by simp⟩;cases base with
   |none=>simp[Builtin.firstCells]
   |some a=>simp[Builtin.firstCells,loadCells,loadCellsFrom]
 ·obtain⟨b,o,sz',rfl,hrow⟩:=hrow'.resolve_left hnil;have:=hrow.sz hs hnil;subst this;obtain⟨vss,g1,g2,g3,g4⟩:=hrow.flat;refine⟨vss,?_,by rw[g1,hn],g3,g4⟩;have hl:=run_loadCells_list (P:=P) w ⟨b,o,none⟩ vss (fun j u hj=>by rw[Addr.dX];exact hk _ _ _ (g2 j u hj));rw[g1,hn]at hl;simpa[Builtin.firstCells] using hl
theorem ek{argTypes:Array TypeId}{type t e e1 t1 sz:Nat}{base:Option Addr}{len cap n:Nat}{x:Value}{new:Array Value}{xb:Option Addr}{xc:Nat}(h0:argTypes[0]?=some t)(h1:argTypes[1]?=some t1)
   (hu:P.underlying t=some (.slice e)) (hu1:P.underlying t1=some (.slice e1)) (hsz:cQ P e=some sz) (hx:x=.slice xb n xc)
   (hnew:(Builtin.firstCells sz n x).run P w=.ok new w) (hfit:len+n≤cap) :
   (Builtin.append_ argTypes type #[.slice base len cap,x]).run P w =
     match base with
     |some a=>((storeCells (a.add (len*sz)) new.toList).run P w).andThen fun _ w'=>.ok (.slice base (len+n) cap) w'
     |none=>.ok (.slice base (len+n) cap) w:=by
 subst hx;cases base with
 |none=>simp[Builtin.append_,h0,h1,run_underlying hu,run_underlying hu1,dt hsz,Builtin.lenOf,hfit,hnew]
 |some a=>simp[Builtin.append_,h0,h1,run_underlying hu,run_underlying hu1,dt hsz,Builtin.lenOf,hfit,hnew]
theorem iV{argTypes:Array TypeId}{type t e e1 t1 sz by_:Nat}{base:Option Addr}{len cap n:Nat}{x:Value}{aN new:Array Value}{xb:Option Addr}{xc:Nat}{z:List PV}(h0:argTypes[0]?=some t)(h1:argTypes[1]?=some t1)
   (hu:P.underlying t=some (.slice e)) (hu1:P.underlying t1=some (.slice e1)) (hsz:cQ P e=some sz) (hby:d6 P e=some by_) (hz:ck P e=some z) (hzl:z.length=sz) (hx:x=.slice xb n xc)
   (hold:∀w',w'=w.drew→(Builtin.firstCells sz len (.slice base len cap)).run P w'=.ok aN w') (hnew:∀w',w'=w.drew→(Builtin.firstCells sz n x).run P w'=.ok new w')
   (hfit:cap<len+n) (hb0:0<by_) (hbytes:(len+n)*by_≤140737488355328) :
   ∃(rest:Array Value) (newCap:Nat),len+n≤newCap∧rest.size=(newCap-(len+n))*sz ∧
     (Builtin.append_ argTypes type #[.slice base len cap,x]).run P w =
       .ok (.slice (some ⟨w.heap.size,0,none⟩) (len+n) newCap) (w.drew.alloc (.cells (aN++new++rest) e)):=by
 subst hx;obtain⟨i,hi,hib,hirun⟩:=ml hby w
 have hcap:¬Builtin.nextslicecap (len+n) cap*i.bytes > 2 ^ 48:=by
   have h1:=nextslicecap_le (len+n) cap hfit;have h2:Builtin.nextslicecap (len+n) cap*i.bytes≤2*(len+n)*i.bytes:=Nat.mul_le_mul_right _ h1;have h3:2*(len+n)*i.bytes=2*((len+n)*by_):=(by rw[hib,Nat.mul_assoc]);rw[h3]at h2;have:(2:Nat)^48=281474976710656:=(by decide);omega
 have hnf:(Question.appendCap (len+n) cap e).forced=false:=rfl;have hir:∀w',(typeInfo e).run P w'=.ok i w':=fun w'=>by simp[typeInfo,hi]
 obtain⟨zv,hzv,hz2⟩:=gv (P:=P) (w:=w.drew) hz;have hzs:zv.cells.size=sz:=by have:=gr hz2;simp at this;omega
 refine⟨Builtin.zeroCells zv.cells ((Question.appendCap (len+n) cap e).cut (w.tape w.drawn (.appendCap (len+n) cap e))-(len+n)),(Question.appendCap (len+n) cap e).cut (w.tape w.drawn (.appendCap (len+n) cap e)),?_,?_,?_⟩
 ·simp only[Question.cut];omega
 ·simp[Builtin.zeroCells,hzs]
 ·have ho:=hold w.drew rfl;have hn:=hnew w.drew rfl;have hi0:i.bytes≠0:=(by omega);simp[Builtin.append_,h0,h1,run_underlying hu,run_underlying hu1,dt hsz,Builtin.lenOf,Nat.not_le.2 hfit,hir,hi0,hcap,hnf];simp only[ho,hn,hzv,Result.andThen_ok];rfl
theorem iw{x:AV}{v:Value}{els:List PV}(h:cf x=some els)(hr:aA (num ns) G x v):∃xb xc,v=.slice xb els.length xc:=by
 obtain⟨b,l,c,rfl,_,hl,_⟩:=bP.1 (dP h hr);exact⟨b,c,by rw[hl]⟩
theorem Ci{c:Call}{A:kD}{dst:Option Nat}{args:List Operand}{sz by_:Nat}(h:bo P ns A dst (.call c)=some (.append sz by_,args)) :
   ∃x y t e t1 e1 z,c.callee=.builtin .append∧c.args=#[x,y]∧args=[x,y]∧c.argTypes[0]?=some t∧c.argTypes[1]?=some t1∧P.underlying t=some (.slice e) ∧
     P.underlying t1=some (.slice e1)∧cQ P e=some sz∧d6 P e=some by_∧ck P e=some z∧z.length=sz∧0<sz∧0<by_:=by
 obtain⟨callee,cargs,ctypes⟩:=c;simp only[bo]at h;split at h
 ·split at h<;>simp at h
 ·split at h<;>simp at h
 ·split at h<;>simp at h
 · rename_i hcal;split at h
   · rename_i x y e e1 ha ht ht1;split at h
     · rename_i sz' by' z hs hb hz;rw[Option.ite_none_right_eq_some]at h;obtain⟨⟨h1,h2,h3⟩,h⟩:=h;split at h
       ·simp at h
       split at h
       ·simp at h
       simp only[Option.some.injEq,Prod.mk.injEq,AK.append.injEq]at h;obtain⟨⟨rfl,rfl⟩,rfl⟩:=h;simp only[Option.bind_eq_some_iff]at ht ht1;obtain⟨t,ht,htu⟩:=ht;obtain⟨t1,ht1,ht1u⟩:=ht1;exact⟨x,y,t,e,t1,e1,z,rfl,by apply Array.ext';simpa using ha,rfl,ht,ht1,cV htu,cV ht1u,hs,hb,hz,h1,h2,h3⟩
     ·simp at h
   ·simp at h
 · split at h
   · split at h
     ·split at h<;>simp at h
     ·simp at h
   ·simp at h
 · split at h
   ·split at h<;>simp at h
   ·simp at h
 · split at h
   · split at h
     ·(repeat' (split at h))<;>simp at h
     · split at h
       ·simp at h
       · split at h
         ·simp at h
         ·split at h<;>simp at h
   ·simp at h
 ·split at h<;>simp at h
 ·simp at h
theorem zk{c:Call}{A:kD}{dst:Option Nat}{args:List Operand}{sz by_:Nat}{ag:Bool}(h:bo P ns A dst (.call c)=some (.dQ sz by_ ag,args)) :
   ∃x y t e t1 e1 z,c.callee=.builtin .append∧c.args=#[x,y]∧args=[x,y]∧c.argTypes[0]?=some t∧c.argTypes[1]?=some t1∧P.underlying t=some (.slice e) ∧
     P.underlying t1=some (.slice e1)∧cQ P e=some sz∧d6 P e=some by_∧ck P e=some z∧z.length=sz∧0<sz∧0<by_:=by
 obtain⟨callee,cargs,ctypes⟩:=c;simp only[bo]at h;split at h
 ·split at h<;>simp at h
 ·split at h<;>simp at h
 ·split at h<;>simp at h
 · rename_i hcal;split at h
   · rename_i x y e e1 ha ht ht1;split at h
     · rename_i sz' by' z hs hb hz;rw[Option.ite_none_right_eq_some]at h;obtain⟨⟨h1,h2,h3⟩,h⟩:=h;split at h
       ·simp only[Option.map_eq_some_iff,Prod.mk.injEq,AK.dQ.injEq]at h;obtain⟨ag',hag,⟨rfl,rfl,rfl⟩,rfl⟩:=h;simp only[Option.bind_eq_some_iff]at ht ht1;obtain⟨t,ht,htu⟩:=ht;obtain⟨t1,ht1,ht1u⟩:=ht1;exact⟨x,y,t,e,t1,e1,z,rfl,by apply Array.ext';simpa using ha,rfl,ht,ht1,cV htu,cV ht1u,hs,hb,hz,h1,h2,h3⟩
       ·split at h<;>simp at h
     ·simp at h
   ·simp at h
 · split at h
   · split at h
     ·split at h<;>simp at h
     ·simp at h
   ·simp at h
 · split at h
   ·split at h<;>simp at h
   ·simp at h
 · split at h
   · split at h
     ·(repeat' (split at h))<;>simp at h
     · split at h
       ·simp at h
       · split at h
         ·simp at h
         ·split at h<;>simp at h
   ·simp at h
 ·split at h<;>simp at h
 ·simp at h
theorem N'{K:bm}{els:List PV}{base:Option Addr}{len sz:Nat}(h:P9 K els base len)(hs:a_ sz els=true):els=[]∨∃b o,base=some ⟨b,o,none⟩∧Row K b o sz els:=by
 rcases h.2 with h1|⟨b,o,sz',e,hr⟩
 ·exact .inl h1
 · by_cases hn:els=[]
   ·exact .inl hn
   ·have:=hr.sz hs hn;subst this;exact .inr ⟨b,o,e,hr⟩
theorem GI{mem:List (Nat×List AV)}{sh:Sh}{aa toks':aG}(hi:Inv (num ns) G w mem sh aa){τ:Nat}{l xs:List PV}{sz newCap:Nat}{aN new:List Value}{rest:Array Value}(e:TypeId)
   (ho:aN.length=l.length*sz) (hn:new.length=xs.length*sz) (ho':∀(K':bm) (b' o':Nat),G.K.le K'→At K' b' o' aN→Row K' b' o' sz l)
   (hn':∀(K':bm) (b' o':Nat),G.K.le K'→At K' b' o' new→Row K' b' o' sz xs) (hcap:l.length+xs.length≤newCap) (hr:rest.size=(newCap-(l.length+xs.length))*sz) (h0:0<xs.length)
   (hu:nU G aa toks' τ (l.length+xs.length)) (hg:∀t0,G.tk τ=some t0→¬t0.dead∧t0.cap<l.length+xs.length) :
   ∃G',aA (num ns) G' (.own (l++xs) τ) (.slice (some ⟨w.heap.size,0,none⟩) (l.length+xs.length) newCap) ∧
     Inv (num ns) G' (w.alloc (.cells (aN.toArray++new.toArray++rest) e)) mem sh toks'∧G.le G'∧bu G w G' (w.alloc (.cells (aN.toArray++new.toArray++rest) e)):=by
 let t:Tk:={ base:=some ⟨w.heap.size,0,none⟩,len:=l.length+xs.length,cap:=newCap,sz:=sz,own:=true }
 have hsz:(aN.toArray++new.toArray++rest).size=newCap*sz:=by
   simp[ho,hn,hr];have:newCap=(l.length+xs.length)+(newCap-(l.length+xs.length)):=by omega
   conv=>rhs;rw[this,Nat.add_mul,Nat.add_mul]
 obtain⟨h1,h2,h3⟩:=hi.grow (t:=t) (c:=aN.toArray++new.toArray++rest) e rfl (by rw[hsz];exact Nat.le_refl _) hcap (by show 0<l.length+xs.length;omega) hu hg;refine⟨_,?_,h1,h2,h3⟩
 have hat:At (jm G w.heap.size (t.len*t.sz) (aN.toArray++new.toArray++rest)) w.heap.size 0 (aN++new):=by
   intro j v hj;have hlt:=(List.getElem?_eq_some_iff.1 hj).1;simp only[List.length_append,ho,hn]at hlt;simp only[jm,if_true,Nat.zero_add];rw[if_pos (by show j<(l.length+xs.length)*sz;rw[Nat.add_mul];exact hlt)];rw[Array.getElem?_append_left (by simp[ho,hn];exact hlt)];simpa using hj
 have hrow:Row (jm G w.heap.size (t.len*t.sz) (aN.toArray++new.toArray++rest)) w.heap.size 0 sz (l++xs):=by
   refine Row.append (ho' _ _ _ h2.K fun j v hj=>hat j v ?_) (hn' _ _ _ h2.K fun j v hj=>?_)
   ·rw[List.getElem?_append_left (List.getElem?_eq_some_iff.1 hj).1];exact hj
   · have:=hat (l.length*sz+j) v (by rw[List.getElem?_append_right (by omega),ho,Nat.add_sub_cancel_left];exact hj)
     rwa [Nat.zero_add,←Nat.zero_add (l.length*sz+j),←Nat.add_assoc]at this
 simp only[aA];refine⟨t,by simp[Gh.bz],⟨by simp[t],t.rP⟩,bP.2 ⟨_,_,_,rfl,hcap,by simp,.inr ⟨_,_,_,rfl,hrow⟩⟩,fun _=>⟨rfl,.inr ⟨_,_,rfl,hrow⟩⟩⟩
theorem Cj{ρ:bK}{mem:List (Nat×List AV)}{sh:Sh}{aa:aG}(hi:Inv ρ G w mem sh aa)(n:Nat):nU G aa (aa++[n]) aa.length n:=by
 refine⟨by simp,fun σ hσ=>?_,fun t h=>?_⟩
 · rcases Nat.lt_or_ge σ aa.length with h|h
   ·rw[List.getElem?_append_left h]
   ·rw[List.getElem?_eq_none (by simp;omega),List.getElem?_eq_none h]
 ·have:=hi.eI _ t h;rw[List.getElem?_eq_none (Nat.le_refl _)]at this;simp at this
theorem xh{argTypes:Array TypeId}{type t e e1 t1 sz by_:Nat}{z:List PV}{s x y:AV}{vs vx:Value}{mem:List (Nat×List AV)}{sh:Sh}{aa toks':aG}
   (h0:argTypes[0]?=some t) (h1:argTypes[1]?=some t1)
   (hu:P.underlying t=some (.slice e)) (hu1:P.underlying t1=some (.slice e1)) (hsz:cQ P e=some sz) (hby:d6 P e=some by_) (hz:ck P e=some z) (hzl:z.length=sz) (hb0:0<by_)
   (hs:aA (num ns) G s vs) (hx:aA (num ns) G x vx) (hi:Inv (num ns) G w mem sh aa) (h:bS sz by_ s x aa=some (y,toks')) :
   ∃v w' G',(Builtin.append_ argTypes type #[vs,vx]).run P w=.ok v w'∧aA (num ns) G' y v∧Inv (num ns) G' w' mem sh toks'∧G.le G'∧bu G w G' w':=by
 unfold bS at h;split at h
 ·simp at h
 · rename_i xs hxs;simp only[Option.ite_none_right_eq_some]at h;obtain⟨hhx,h⟩:=h;obtain⟨xb,xc,rfl⟩:=iw hxs hx;have hrx:=dP hxs hx;have known':∀w',w'=w.drew→∀b o u,G.K b o=some u→w'.cell? ⟨b,o,none⟩=some u:=fun w' e b o u hk=>by subst e;exact hi.known b o u hk
   obtain⟨new,n1,n2,n3,n4⟩:=gH (P:=P) hi.known hrx hhx rfl
   have n1':∀w',w'=w.drew→(Builtin.firstCells sz xs.length (.slice xb xs.length xc)).run P w'=.ok new.toArray w':=by
     intro w' e;obtain⟨new',m1,_,_⟩:=gH (P:=P) (known' w' e) hrx hhx rfl;have hsame:(Builtin.firstCells sz xs.length (.slice xb xs.length xc)).run P w'=.ok new'.toArray w':=m1
     have:new'=new:=by
       subst e;obtain⟨base,len,cap,e1,_,hlen,hrow'⟩:=bP.1 hrx;cases e1;by_cases hnil:xs=[]
       · subst hnil;have a1:new=[]:=by apply List.eq_nil_of_length_eq_zero;simpa using n2
         have a2:new'=[]:=by
           cases xb with
           |none=>simpa[Builtin.firstCells] using m1.symm
           |some a=>simpa[Builtin.firstCells,loadCells,loadCellsFrom] using m1.symm
         rw[a1,a2]
       ·obtain⟨b,o,sz',e2,hrow⟩:=hrow'.resolve_left hnil;cases e2;have:=hrow.sz hhx hnil;subst this;obtain⟨vss,g1,g2,_,_⟩:=hrow.flat;have l1:=run_loadCells_list (P:=P) w ⟨b,o,none⟩ vss (fun j u hj=>by rw[Addr.dX];exact hi.known _ _ _ (g2 j u hj));have l2:=run_loadCells_list (P:=P) w.drew ⟨b,o,none⟩ vss (fun j u hj=>by rw[Addr.dX];exact hi.known _ _ _ (g2 j u hj));rw[g1]at l1 l2;simp only[Builtin.firstCells]at n1 m1;rw[l1]at n1;rw[l2]at m1;simp at n1 m1;rw[←n1,←m1]
     rw[hsame,this]
   have grows:∀(l:List PV) (base:Option Addr) (cap τ:Nat),Rel G.K (.aw l) (.slice base l.length cap)→a_ sz l=true→cap<l.length+xs.length→(l.length+xs.length)*by_≤140737488355328 →
       nU G aa toks' τ (l.length+xs.length)→(∀t0,G.tk τ=some t0→¬t0.dead∧t0.cap<l.length+xs.length)→y=.own (l++xs) τ →
       ∃v w' G',(Builtin.append_ argTypes type #[.slice base l.length cap,.slice xb xs.length xc]).run P w=.ok v w'∧aA (num ns) G' y v∧Inv (num ns) G' w' mem sh toks'∧G.le G'∧bu G w G' w':=by
     intro l base cap τ hrl hhl hfit hbytes hup hg hy;obtain⟨aN,o1,o2,o3,o4⟩:=gH (P:=P) (w:=w.drew) (known' _ rfl) hrl hhl rfl
     obtain⟨rest,newCap,p1,p2,p3⟩:=iV (type:=type) (aN:=aN.toArray) (new:=new.toArray) h0 h1 hu hu1 hsz hby hz hzl (base:=base) (len:=l.length) (cap:=cap) (n:=xs.length) (xb:=xb) (xc:=xc) rfl
       (fun w' e=>by subst e;exact o1) n1' hfit hb0 hbytes
     have hpos:0<xs.length:=by
       rcases Nat.eq_zero_or_pos xs.length with hz'|hz'
       ·have:=(bP.1 hrl);obtain⟨b',l',c',e',hle,hlen,_⟩:=this;cases e';omega
       ·exact hz'
     obtain⟨G',q1,q2,q3,q4⟩:=GI (ns:=ns) (w:=w.drew) hi.drew e o2 n2 o3 n3 p1 p2 hpos hup hg;exact⟨_,_,G',p3,by rw[hy];exact q1,q2,q3,(bu.drew G w).trans q4⟩
   split at h
   · -- a slice without room to spare
     rename_i l;split at h
     · rename_i hemp;have hxs0:xs=[]:=List.isEmpty_iff.1 hemp;subst hxs0;simp only[Option.some.injEq,Prod.mk.injEq]at h;obtain⟨rfl,rfl⟩:=h;have hs':=hs;simp only[aA]at hs;obtain⟨base,len,rfl,hsl⟩:=hs;have hlen:=hsl.1;subst hlen;have hnew:new=[]:=by apply List.eq_nil_of_length_eq_zero;simpa using n2
       subst hnew;have hrun:=ek (type:=type) h0 h1 hu hu1 hsz (base:=base) (len:=l.length) (cap:=l.length) (n:=0) (xb:=xb) (xc:=xc) rfl n1 (by omega);refine⟨.slice base l.length l.length,w,G,?_,hs',hi,G.le_refl,bu.refl G w⟩;refine Eq.trans hrun ?_;cases base<;>simp[storeCells]
     simp only[Option.ite_none_right_eq_some,Option.some.injEq,Prod.mk.injEq]at h;obtain⟨⟨hhl,hbytes⟩,rfl,rfl⟩:=h;have hs':=hs;simp only[aA]at hs;obtain⟨base,len,rfl,hsl⟩:=hs;have hlen:=hsl.1;subst hlen;have hlen2:(l++xs).length=l.length+xs.length:=by simp
     have hup:nU G aa (aa++[(l++xs).length]) aa.length (l.length+xs.length):=by
       rw[hlen2];exact Cj hi (l.length+xs.length)
     have htk:G.tk aa.length=none:=by
       cases hh:G.tk aa.length with
       |none=>rfl
       |some t0=>have:=hi.eI _ t0 hh;rw[List.getElem?_eq_none (Nat.le_refl _)]at this;simp at this
     by_cases hn0:xs.length=0
     · have hxs0:xs=[]:=by cases xs with|nil=>rfl|cons _ _=>simp at hn0
       subst hxs0;have hnew:new=[]:=by apply List.eq_nil_of_length_eq_zero;simpa using n2
       subst hnew;have hrun:=ek (type:=type) h0 h1 hu hu1 hsz (base:=base) (len:=l.length) (cap:=l.length) (n:=0) (xb:=xb) (xc:=xc) rfl n1 (by omega);let tk:Tk:={ base,len:=l.length,cap:=l.length,sz };obtain⟨g1,g2,g3⟩:=hi.N_ (τ:=aa.length) (t:=tk) (toks':=aa++[(l++[]).length]) rfl rfl htk hup.at_ hup.other;refine⟨.slice base l.length l.length,w,_,?_,?_,g1,g2,g3⟩
       ·refine Eq.trans hrun ?_;cases base<;>simp[storeCells]
       · simp only[aA];refine⟨tk,by simp[Gh.bz],⟨by simp[tk],tk.rP⟩,?_,fun _=>⟨rfl,?_⟩⟩
         ·simp only[List.append_nil];exact bP.2 ⟨_,_,_,rfl,Nat.le_refl _,hsl⟩
         ·simp only[List.append_nil];exact N' hsl hhl
     ·exact grows l base l.length aa.length (bP.2 ⟨_,_,_,rfl,Nat.le_refl _,hsl⟩) hhl (by omega) hbytes hup (fun t0 h=>by rw[htk]at h;cases h) rfl
   · -- a slice that has its room to spare to itself
     rename_i l τ;simp only[Option.ite_none_right_eq_some,Option.some.injEq,Prod.mk.injEq]at h;obtain⟨⟨htok,hhl,hbytes⟩,rfl,rfl⟩:=h;have hs':=hs;simp only[aA]at hs;obtain⟨tk,e1,e2,e3,e4⟩:=hs
     have hlen:l.length=tk.len:=by
       have:=hi.eI τ tk e1;rw[htok]at this;simpa using this
     obtain⟨hv,hrow⟩:=e4 hlen;obtain⟨tk',f1,f2,f3⟩:=hi.cT τ _ htok;rw[e1]at f1;cases f1;have hlen2:(l++xs).length=l.length+xs.length:=by simp
     obtain⟨base,tlen,cap,tsz,town⟩:=tk;simp only[Tk.val]at hv hlen f2 f3;subst hv;subst hlen;by_cases hn0:xs.length=0
     · have hxs0:xs=[]:=by cases xs with|nil=>rfl|cons _ _=>simp at hn0
       subst hxs0;have hnew:new=[]:=by apply List.eq_nil_of_length_eq_zero;simpa using n2
       subst hnew;have hrun:=ek (type:=type) h0 h1 hu hu1 hsz (base:=base) (len:=l.length) (cap:=cap) (n:=0) (xb:=xb) (xc:=xc) rfl n1 (by have:=f3.cap;simpa using this)
       have hset:aa.set τ (l++([]:List PV)).length=aa:=by
         apply List.ext_getElem?
         intro j;rw[List.getElem?_set];split
         ·rename_i e;subst e;have:=(List.getElem?_eq_some_iff.1 htok);obtain⟨hlt,_⟩:=this;rw[if_pos hlt,htok];simp
         ·rfl
       rw[hset];refine⟨.slice base l.length cap,w,G,?_,?_,hi,G.le_refl,bu.refl G w⟩
       ·refine Eq.trans hrun ?_;cases base<;>simp[storeCells]
       ·simpa using hs'
     · have hpos:0<xs.length:=by omega
       have hup:nU G aa (aa.set τ (l++xs).length) τ (l.length+xs.length):=by
         rw[hlen2];have hlt:=(List.getElem?_eq_some_iff.1 htok).1;refine⟨by rw[List.getElem?_set];simp[hlt],fun σ hσ=>by rw[List.getElem?_set,if_neg (Ne.symm hσ)],fun t0 h=>?_⟩;rw[e1]at h;cases h;simp;omega
       rcases Nat.lt_or_ge cap (l.length+xs.length) with hfit|hfit
       · refine grows l base cap τ e3 hhl hfit hbytes hup (fun t0 h=>?_) rfl;rw[e1]at h;cases h;refine⟨?_,hfit⟩
         rintro⟨d1,d2⟩
         rcases hrow with rfl|⟨b,o,e,_⟩
         ·simp at d2
         ·rw[d1]at e;cases e
       · have hl0:l≠[]:=by
           rintro rfl
           have:=f3.zero rfl;simp at this hfit;omega
         obtain⟨b,o,hbase,hrow⟩:=hrow.resolve_left hl0;simp only at hbase;subst hbase;have:=hrow.sz hhl hl0;subst this;obtain⟨b',o',c,ty,p1,p2,p3,p4,p5⟩:=f3.spare (.inl (by simp;omega));simp only[Option.some.injEq,Addr.mk.injEq]at p1;obtain⟨rfl,rfl,_⟩:=p1;simp only at p4 p5;have hmul:(l.length+xs.length)*sz≤cap*sz:=Nat.mul_le_mul_right _ hfit;rw[Nat.add_mul]at hmul;have xj:=run_storeCells_at (P:=P) b (o+l.length*sz) ty new 0 c w p3 (by rw[n2];omega) n4;have hrun:=ek (type:=type) h0 h1 hu hu1 hsz (base:=some ⟨b,o,none⟩) (len:=l.length) (cap:=cap) (n:=xs.length) (xb:=xb) (xc:=xc) rfl n1 hfit;simp only[Nat.add_zero]at xj;obtain⟨g1,g2,g3⟩:=hi.fill (t:=⟨some ⟨b,o,none⟩,l.length,cap,sz,town⟩) (n:=xs.length) e1 rfl p2 p3 p4 p5 n2 hpos hfit rfl hup;refine⟨.slice (some ⟨b,o,none⟩) (l.length+xs.length) cap,_,_,?_,?_,g1,g2,g3⟩
         ·refine Eq.trans hrun ?_;simp only[Addr.dX,xj,Result.andThen_ok]
         · have hat:At (jn G b (o+l.length*sz) new) b (o+l.length*sz) new:=by
             intro j v hj;have hlt:=(List.getElem?_eq_some_iff.1 hj).1;simp only[jn];rw[if_pos ⟨trivial,by omega,by omega⟩,Nat.add_sub_cancel_left];exact hj
           have hrow':Row (jn G b (o+l.length*sz) new) b o sz (l++xs):=Row.append (Row.mono g2.K _ _ _ _ hrow) (n3 _ _ _ g2.K hat);simp only[aA];exact⟨⟨some ⟨b,o,none⟩,l.length+xs.length,cap,sz,true⟩,by simp[Gh.bz],⟨by simp,Tk.rP _⟩,bP.2 ⟨_,_,_,rfl,hfit,by simp,.inr ⟨_,_,_,rfl,hrow'⟩⟩,fun _=>⟨rfl,.inr ⟨_,_,rfl,hrow'⟩⟩⟩
   ·simp at h
end
end Go.Ab
namespace Go.Ab
section
variable {P:Program} {ns:Names} {G:Gh} {w:World}
theorem GJ{ρ:bK}{x:AV}{v:Value}(h:aA ρ G x v)(hl:a0 x=true):v.oneCell'=true:=by
 cases x with
 |pv p=>
   simp only[aA]at h;cases p with
   |agg _=>simp[a0]at hl
   |aw _=>obtain⟨b,l,c,rfl,_⟩:=bP.1 h;rfl
   |bool _=>rw[eZ]at h;subst h;rfl
   |int _ _=>rw[fm]at h;subst h;rfl
   |str _=>rw[jP]at h;subst h;rfl
 |cY _=>simp only[aA]at h;obtain⟨_,_,rfl,_⟩:=h;rfl
 |own _ _=>simp only[aA]at h;obtain⟨_,_,_,h,_⟩:=h;obtain⟨b,l,c,rfl,_⟩:=bP.1 h;rfl
 |aM _ _=>simp only[aA]at h;obtain⟨_,_,rfl⟩:=h;rfl
 |aT _ _ _ _=>simp only[aA]at h;obtain⟨_,_,_,rfl,_⟩:=h;rfl
 |fn _ _=>simp only[aA]at h;obtain⟨_,_,_,rfl,_⟩:=h;rfl
 |fw=>simp only[aA]at h;rcases h with rfl|rfl<;>rfl
 |fR _=>simp only[aA]at h;obtain⟨_,_,rfl⟩:=h;rfl
 |dB _=>simp only[aA]at h
 |_=>simp[a0]at hl
theorem jo{ρ:bK}:∀{xs:List AV} {vs:List Value},az ρ G xs vs→xs.all a0=true→∀u∈vs,u.oneCell'=true
 |[],_,h,_,u,hu=>by simp only[az]at h;subst h;simp at hu
 |x::xs,_,h,hl,u,hu=>by
   simp only[az]at h;obtain⟨v,r,rfl,e1,e2⟩:=h;simp only[List.all_cons,Bool.and_eq_true]at hl;simp only[List.mem_cons]at hu;rcases hu with rfl|hu
   ·exact GJ e1 hl.1
   ·exact jo e2 hl.2 u hu
theorem gf{xs:List AV}(h:xs.all cI=true):xs.all a0=true:=by
 rw[List.all_eq_true]at *;intro x hx;have:=h x hx;cases x<;>simp_all[cI,a0,bM]
def T6(ns:Names)(P:Program)(G:Gh)(w:World)(mem:List (Nat×List AV))(sh:Sh)(aa:aG)(s:Sem Next)(x:AV):Prop:=
 ∃n v w' G',s.run P w=.ok n w'∧(n=.value v∨(n=.skip∧v=undef))∧aA (num ns) G' x v∧Inv (num ns) G' w' mem sh aa∧G.le G'∧bu G w G' w'
theorem kZ{t sz b off:Nat}{v:Value}{c:Array Value}{ty:TypeId}(hsz:cQ P t=some sz)(hv:v.cells.size=sz)(hh:w.heap[b]?=some (.cells c ty (0,0)))
   (hl:off+sz≤c.size) (h1:∀u∈v.cells.toList,u.oneCell'=true) :
   (storeVar t ⟨b,off,none⟩ v).run P w=.ok () (w.setRow b (c.toList.take off++v.cells.toList++c.toList.drop (off+v.cells.toList.length)).toArray):=by
 have:=run_storeCells_at (P:=P) b off ty v.cells.toList 0 c w hh (by simp[hv];omega) h1;simp only[Nat.add_zero]at this;simp only[storeVar,Sem.run_bind,dt hsz,Result.andThen_ok];rw[if_neg (by simp[hv])];simpa using this
theorem jq{t:TypeId}{v:Value}:(newVar t v).run P w=.ok ⟨w.heap.size,0,none⟩ (w.alloc (.cells v.cells t)):=rfl
theorem iW{ρ:bK}:∀{xs:List AV} {vs:List Value},vs.length=xs.length→(∀(j:Nat) (x:AV) (v:Value),xs[j]?=some x→vs[j]?=some v→aA ρ G x v)→az ρ G xs vs
 |[],vs,hl,_=>by
   have:vs=[]:=by cases vs<;>simp_all
   subst this;simp[az]
 |x::xs,[],hl,_=>by simp at hl
 |x::xs,v::vs,hl,h=>by
   simp only[az];exact⟨v,vs,rfl,h 0 x v rfl rfl,iW (by simpa using hl) fun j y u hy hu=>h (j+1) y u (by simpa using hy) (by simpa using hu)⟩
theorem dI{α:Type}(l:List α):∀(n j:Nat),j<n*l.length→(List.replicate n l).flatten[j]?=l[j % l.length]?
 |0,j,h=>by simp at h
 |n+1,j,h=>by
   rw[List.replicate_succ,List.flatten_cons];by_cases hj:j<l.length
   ·rw[List.getElem?_append_left hj,Nat.mod_eq_of_lt hj]
   ·rw[List.getElem?_append_right (by omega),dI l n (j-l.length) (by rw[Nat.add_mul]at h;omega)];congr 1;exact (Nat.mod_eq_sub_mod (by omega)).symm
theorem vL{n:Int}(h0:0≤n)(h1:n≤9223372036854775807):IntKind.i64.wrap n=n:=by
 unfold IntKind.wrap;have e1:(2:Int) ^ IntKind.i64.bits=18446744073709551616:=by decide
 have e2:(2:Int) ^ (IntKind.i64.bits-1)=9223372036854775808:=by decide
 have e3:IntKind.i64.signed=true:=rfl;simp only[e1,e2,e3];have:n % 18446744073709551616=n:=Int.emod_eq_of_lt h0 (by omega);simp only[this];rw[if_neg];simp;omega
theorem k_{ρ:bK}:∀{l:List Value} {z:List PV},cC df l=some z→az ρ G (z.map .pv) l∧(z.map AV.pv).all cI=true
 |[],_,h=>by simp[cC]at h;subst h;simp[az]
 |v::l,z,h=>by
   simp only[cC]at h;split at h
   · rename_i y ys h1 h2;simp at h;subst h;obtain⟨g1,g2⟩:=k_ (ρ:=ρ) h2;obtain⟨g3,g4⟩:=hZ (K:=G.K) h1;have g5:cI (.pv y)=true:=by cases y<;>simp_all[cI,a0,gW]
     simp only[List.map_cons,az,List.all_cons,g5,g2,Bool.and_true,and_true];exact⟨v,l,rfl,by simp only[aA];exact Rel.Kd g3,g1⟩
   ·simp at h
theorem xl(n:Nat)(z:List PV):(z.map AV.pv).all (aI n)=true:=by
 rw[List.all_eq_true];intro x hx;simp only[List.mem_map]at hx;obtain⟨p,_,rfl⟩:=hx;simp[aI]
theorem GK(n:Nat)(z:List PV):(z.map bA.zeroCell).all (aI n)=true:=by
 rw[List.all_eq_true];intro x hx;simp only[List.mem_map]at hx;obtain⟨p,_,rfl⟩:=hx;unfold bA.zeroCell;split<;>simp[aI]
end
mutual
theorem qz{n m:Nat}(h:n≤m):∀{x:AV},aI n x=true→aI m x=true
 | .un,_=>by simp[aI]
 | .pv _,_=>by simp[aI]
 | .cY _,_=>by simp[aI]
 | .own ..,_=>by simp[aI]
 | .fw,_=>by simp[aI]
 | .dM _,_=>by simp[aI]
 | .aM b _,hx=>by simp[aI]at hx⊢;omega
 | .aT b _ _ _,hx=>by simp[aI]at hx⊢;omega
 | .fn _ cap,hx=>by simp only[aI]at hx⊢;exact la h hx
 | .agg cs,hx=>by simp only[aI]at hx⊢;exact la h hx
 | .au ..,hx=>by simp[aI]at hx
 | .pJ _,hx=>by simp[aI]at hx
 | .fR b,hx=>by simp[aI]at hx⊢;omega
 | .dB _,_=>by simp[aI]
 | .rb ..,hx=>by simp[aI]at hx
theorem la{n m:Nat}(h:n≤m):∀{xs:List AV},aI.cD n xs=true→aI.cD m xs=true
 |[],_=>by simp[aI.cD]
 |x::xs,hx=>by
   simp only[aI.cD,Bool.and_eq_true]at hx⊢;exact⟨qz h hx.1,la h hx.2⟩
end
theorem iX{n m:Nat}(h:n≤m){xs:List AV}(hx:xs.all (aI n)=true):xs.all (aI m)=true:=by
 rw[List.all_eq_true]at *;exact fun x hm=>qz h (hx x hm)
section
variable {P:Program} {ns:Names} {G:Gh} {w:World}
theorem jT{ρ:bK}{k:IntKind}{n:Int}{v:Value}(h:aA ρ G (.pv (.int k n)) v):v=.int k n:=by
 simp only[aA]at h;exact fm.1 h
theorem zm{t e sz by_:Nat}{ag:Bool}{z:List PV}{k k':IntKind}{n:Int}{mem:List (Nat×List AV)}{sh:Sh}{aa:aG}(hu:P.underlying t=some (.slice e))(hsz:cQ P e=some sz)
   (hby:d6 P e=some by_) (hz:ck P e=some z) (hzl:z.length=sz) (hs0:0<sz) (h0:0≤n) (h1:n≤9223372036854775807) (h2:n*by_≤140737488355328) (hi:Inv (num ns) G w mem sh aa) :
   ∃v w' G',(Instr.makeSlice t (.int k n) (.int k' n)).run P w=.ok v w'∧aA (num ns) G' (.aT sh.length sz n.toNat ag) v ∧
     Inv (num ns) G' w' mem (sh++[some ((List.replicate n.toNat (z.map .pv)).flatten)]) aa∧G.le G'∧bu G w G' w':=by
 obtain⟨i,hii,hib,hirun⟩:=ml hby w;obtain⟨zv,hz1,hz2⟩:=gv (P:=P) (w:=w) hz;have hzs:zv.cells.size=sz:=by have:=gr hz2;simp at this;omega
 obtain⟨zr,zl⟩:=k_ (G:=G) (ρ:=num ns) hz2;let z0:Array Value:=if n.toNat*sz=0 then #[] else zv.cells;let c:Array Value:=(Array.range (n.toNat*sz)).map (z0[· % z0.size]!);have hw:IntKind.i64.wrap n=n:=vL h0 h1;have hbytes:(i.bytes:Int)*n≤281474976710656:=by rw[hib,Int.mul_comm];omega
 have hlen:((List.replicate n.toNat (z.map AV.pv)).flatten).length=n.toNat*sz:=by simp[hzl]
 have hrel:az (num ns) G ((List.replicate n.toNat (z.map .pv)).flatten) c.toList:=by
   refine iW (by simp[c,hzl]) fun j x v hx hv=>?_;have hlt:j<n.toNat*sz:=by have:=(List.getElem?_eq_some_iff.1 hx).1;omega
   rw[dI _ _ _ (by simpa[hzl] using hlt)]at hx;have hn0:¬n.toNat*sz=0:=by omega
   have hz0:z0=zv.cells:=if_neg hn0;obtain⟨v',g1,g2⟩:=zr.get hx
   have:v=v':=by
     simp only[c,hz0,Array.toList_map,List.getElem?_map,Array.toList_range,Option.map_eq_some_iff]at hv;obtain⟨j',hj',hv⟩:=hv;rw[List.getElem?_range hlt]at hj';cases hj';simp only[List.length_map,hzl]at g1;rw[hzs]at hv;have hm:j % sz<zv.cells.size:=by rw[hzs];exact Nat.mod_lt _ hs0
     rw[getElem!_pos zv.cells (j % sz) hm]at hv;have g1':zv.cells[j % sz]?=some v':=by simpa using g1
     rw[Array.getElem?_eq_getElem hm]at g1';simp at g1';rw[←hv,g1']
   subst this;exact g2
 have hall:((List.replicate n.toNat (z.map AV.pv)).flatten).all cI=true:=by
   rw[List.all_eq_true]at *;intro x hx;simp only[List.mem_flatten,List.mem_replicate]at hx;obtain⟨l,⟨_,rfl⟩,hx⟩:=hx;exact zl x hx
 have href:((List.replicate n.toNat (z.map AV.pv)).flatten).all (aI (sh.length+1))=true:=by
   have:=xl (sh.length+1) z;rw[List.all_eq_true]at *;intro x hx;simp only[List.mem_flatten,List.mem_replicate]at hx;obtain⟨l,⟨_,rfl⟩,hx⟩:=hx;exact this x hx
 obtain⟨g1,g2,g3⟩:=hi.oP (cells:=(List.replicate n.toNat (z.map .pv)).flatten) (c:=c) e hrel hall href;refine⟨.slice (some ⟨w.heap.size,0,none⟩) n.toNat n.toNat,_,_,?_,?_,g1,g2,g3⟩
 · have hp:(2:Int) ^ 48=281474976710656:=by decide
   have ht:(decide (n<0) || decide ((i.bytes:Int)*n > 2 ^ 48))=false:=by
     rw[hp];simp;omega
   have hir:∀w',(typeInfo e).run P w'=.ok i w':=fun w'=>by simp[typeInfo,hii]
   have hcond:¬((decide (n<0) || decide ((i.bytes:Int)*n > 2 ^ 48)) || decide (n<0) || decide (n > n))=true:=by
     rw[ht];simp;omega
   simp only[Instr.makeSlice,Sem.run_bind,run_underlying hu,Result.andThen_ok,asInt,asIntOf,Sem.run_pure,hir,hw];rw[if_neg hcond];simp only[Sem.run_bind,run_askRoom,Result.andThen_ok,dt hsz];by_cases h00:n.toNat*sz=0
   ·rw[if_pos h00];simp only[Sem.run_bind,Sem.run_pure,Result.andThen_ok];have hz0:z0=#[]:=if_pos h00;simp only[c,hz0];rfl
   ·rw[if_neg h00];simp only[Sem.run_bind,Sem.run_pure,hz1,Result.andThen_ok];have hz0:z0=zv.cells:=if_neg h00;simp only[c,hz0];rfl
 ·simp only[aA];exact⟨(w.heap.size,c.size),0,by simp[Gh.cM],rfl,by simp[c]⟩
theorem zn{t e sz by_ d:Nat}{z:List PV}{k k':IntKind}{n:Int}{mem:List (Nat×List AV)}{sh:Sh}{aa:aG}(hu:P.underlying t=some (.slice e))(hsz:cQ P e=some sz)
   (hby:d6 P e=some by_) (hz:ck P e=some z) (hzl:z.length=sz) (hs0:0<sz) (h0:0≤n) (h1:n≤9223372036854775807) (h2:n*by_≤140737488355328) (hi:Inv (num ns) G w mem sh aa) (hl:look mem d=none) :
   ∃v w' G',(Instr.makeSlice t (.int k n) (.int k' n)).run P w=.ok v w'∧aA (num ns) G' (.jJ d n.toNat) v ∧
     Inv (num ns) G' w' (di mem d ((List.replicate n.toNat (z.map .pv)).flatten)) sh aa∧G.le G'∧bu G w G' w':=by
 obtain⟨i,hii,hib,hirun⟩:=ml hby w;obtain⟨zv,hz1,hz2⟩:=gv (P:=P) (w:=w) hz;have hzs:zv.cells.size=sz:=by have:=gr hz2;simp at this;omega
 obtain⟨zr,zl⟩:=k_ (G:=G) (ρ:=num ns) hz2;let z0:Array Value:=if n.toNat*sz=0 then #[] else zv.cells;let c:Array Value:=(Array.range (n.toNat*sz)).map (z0[· % z0.size]!);have hw:IntKind.i64.wrap n=n:=vL h0 h1;have hbytes:(i.bytes:Int)*n≤281474976710656:=by rw[hib,Int.mul_comm];omega
 have hlen:((List.replicate n.toNat (z.map AV.pv)).flatten).length=n.toNat*sz:=by simp[hzl]
 have hrel:az (num ns) G ((List.replicate n.toNat (z.map .pv)).flatten) c.toList:=by
   refine iW (by simp[c,hzl]) fun j x v hx hv=>?_;have hlt:j<n.toNat*sz:=by have:=(List.getElem?_eq_some_iff.1 hx).1;omega
   rw[dI _ _ _ (by simpa[hzl] using hlt)]at hx;have hn0:¬n.toNat*sz=0:=by omega
   have hz0:z0=zv.cells:=if_neg hn0;obtain⟨v',g1,g2⟩:=zr.get hx
   have:v=v':=by
     simp only[c,hz0,Array.toList_map,List.getElem?_map,Array.toList_range,Option.map_eq_some_iff]at hv;obtain⟨j',hj',hv⟩:=hv;rw[List.getElem?_range hlt]at hj';cases hj';simp only[List.length_map,hzl]at g1;rw[hzs]at hv;have hm:j % sz<zv.cells.size:=by rw[hzs];exact Nat.mod_lt _ hs0
     rw[getElem!_pos zv.cells (j % sz) hm]at hv;have g1':zv.cells[j % sz]?=some v':=by simpa using g1
     rw[Array.getElem?_eq_getElem hm]at g1';simp at g1';rw[←hv,g1']
   subst this;exact g2
 have hall:((List.replicate n.toNat (z.map AV.pv)).flatten).all cI=true:=by
   rw[List.all_eq_true]at *;intro x hx;simp only[List.mem_flatten,List.mem_replicate]at hx;obtain⟨l,⟨_,rfl⟩,hx⟩:=hx;exact zl x hx
 obtain⟨g1,g2,g3⟩:=hi.pO (d:=d) (cells:=(List.replicate n.toNat (z.map .pv)).flatten) (c:=c) e hl hrel (gf hall);refine⟨.slice (some ⟨w.heap.size,0,none⟩) n.toNat n.toNat,_,_,?_,?_,g1,g2,g3⟩
 · have hp:(2:Int) ^ 48=281474976710656:=by decide
   have ht:(decide (n<0) || decide ((i.bytes:Int)*n > 2 ^ 48))=false:=by
     rw[hp];simp;omega
   have hir:∀w',(typeInfo e).run P w'=.ok i w':=fun w'=>by simp[typeInfo,hii]
   have hcond:¬((decide (n<0) || decide ((i.bytes:Int)*n > 2 ^ 48)) || decide (n<0) || decide (n > n))=true:=by
     rw[ht];simp;omega
   simp only[Instr.makeSlice,Sem.run_bind,run_underlying hu,Result.andThen_ok,asInt,asIntOf,Sem.run_pure,hir,hw];rw[if_neg hcond];simp only[Sem.run_bind,run_askRoom,Result.andThen_ok,dt hsz];by_cases h00:n.toNat*sz=0
   ·rw[if_pos h00];simp only[Sem.run_bind,Sem.run_pure,Result.andThen_ok];have hz0:z0=#[]:=if_pos h00;simp only[c,hz0];rfl
   ·rw[if_neg h00];simp only[Sem.run_bind,Sem.run_pure,hz1,Result.andThen_ok];have hz0:z0=zv.cells:=if_neg h00;simp only[c,hz0];rfl
 ·simp only[aA];exact⟨w.heap.size,by simp[Gh.dk],rfl⟩
end
end Go.Ab
namespace Go.Ab
section
variable {P:Program} {ns:Names} {G:Gh} {w:World}
theorem kF{K:bm}:∀{cs:List PV} {vs:List Value},dd K cs vs→∀p∈cs,gW p=true
 |[],_,_,p,hp=>by simp at hp
 |c::cs,_,h,p,hp=>by
   simp only[dd]at h;obtain⟨v,r,rfl,e2,e3⟩:=h;simp only[List.mem_cons]at hp;rcases hp with rfl|hp
   · cases p with
     |agg _=>simp[R]at e2
     |_=>rfl
   ·exact kF e3 p hp
theorem Row.oQ{K:bm}:∀{els:List PV} {b o sz:Nat},Row K b o sz els →
   ∃vss:List Value,vss.length=els.length*sz∧At K b o vss∧dd K (els.flatMap aZ) vss∧∀u∈vss,u.oneCell'=true
 |[],b,o,sz,_=>⟨[],by simp,by intro j v h;simp at h,by simp[dd],by simp⟩
 |el::r,b,o,sz,hr=>by
   simp only[Row]at hr;obtain⟨⟨vs,h1,h2,h3⟩,h4⟩:=hr;obtain⟨vss,g1,g2,g3,g4⟩:=Row.oQ h4;refine⟨vs++vss,by simp[h1,g1,Nat.add_mul];omega,?_,by rw[List.flatMap_cons];exact dd.append h3.cells g3,?_⟩
   · intro j v hj;rw[List.getElem?_append]at hj;split at hj
     ·exact h2 j v hj
     · have:=g2 _ v hj;rw[h1]at this
       rwa [show o+sz+(j-sz)=o+j from by omega]at this
   · intro u hu;simp only[List.mem_append]at hu;rcases hu with hu|hu
     ·exact dd.one h3.cells u hu
     ·exact g4 u hu
theorem pQ{els:List PV}{base:Option Addr}{cap:Nat}{sz:Nat}(hr:Rel G.K (.aw els) (.slice base els.length cap))(hs:a_ sz els=true) :
   ∃vss:List Value,vss.length=els.length*sz∧dd G.K (els.flatMap aZ) vss∧(∀u∈vss,u.oneCell'=true) ∧
     ∀w:World,(∀b o u,G.K b o=some u→w.cell? ⟨b,o,none⟩=some u)→(Builtin.firstCells sz els.length (.slice base els.length cap)).run P w=.ok vss.toArray w:=by
 obtain⟨base',len,cap',e,_,hlen,hrow'⟩:=bP.1 hr;cases e;by_cases hnil:els=[]
 · subst hnil;refine⟨[],by simp,by simp[dd],by simp,fun w _=>?_⟩;cases base with
   |none=>simp[Builtin.firstCells]
   |some a=>simp[Builtin.firstCells,loadCells,loadCellsFrom]
 ·obtain⟨b,o,sz',rfl,hrow⟩:=hrow'.resolve_left hnil;have:=hrow.sz hs hnil;subst this;obtain⟨vss,g1,g2,g3,g4⟩:=hrow.oQ;refine⟨vss,g1,g3,g4,fun w hk=>?_⟩;have hl:=run_loadCells_list (P:=P) w ⟨b,o,none⟩ vss (fun j u hj=>by rw[Addr.dX];exact hk _ _ _ (g2 j u hj));rw[g1]at hl;simpa[Builtin.firstCells] using hl
theorem sQ{b n cap sz:Nat}{c:Array Value}{t:TypeId}{vs suf:List Value}(hh:w.heap[b]?=some (.cells c t (0,0)))(hsp:c.toList=vs++suf)(hn:n*sz≤vs.length) :
   (Builtin.firstCells sz n (.slice (some ⟨b,0,none⟩) n cap)).run P w=.ok (vs.take (n*sz)).toArray w:=by
 have hl:=run_loadCells_list (P:=P) w ⟨b,0,none⟩ (vs.take (n*sz)) (fun j u hj=>by
   rw[Addr.dX,Nat.zero_add];rw[List.getElem?_take]at hj;split at hj
   · have:c.toList[j]?=some u:=by rw[hsp,List.getElem?_append_left (List.getElem?_eq_some_iff.1 hj).1];exact hj
     simp only[World.cell?,hh];simpa using this
   ·simp at hj)
 rw[List.length_take,Nat.min_eq_left hn]at hl;simpa[Builtin.firstCells] using hl
theorem Inv.T7{ρ:bK}{mem:List (Nat×List AV)}{sh:Sh}{aa:aG}(hi:Inv ρ G w mem sh aa)(s:Nat):Inv ρ G w mem (sh.set s none) aa:=
 { hi with
   cR:=fun s' cs hs'=>by
     rw[List.getElem?_set]at hs';split at hs'
     ·split at hs'<;>simp at hs'
     ·exact hi.cR s' cs hs'
   eo:=fun s' b h=>by simpa using hi.eo s' b h }
def Gh.ix(G:Gh)(s':Nat)(b:Nat×Nat):Gh:={ G with role:=fun k=>if k=b.1 then .shr s' else G.role k,sm:=fun k=>if k=s' then some b else G.sm k }
theorem Inv.ix{ρ:bK}{mem:List (Nat×List AV)}{sh:Sh}{aa:aG}(hi:Inv ρ G w mem sh aa){s:Nat}{b:Nat×Nat}{cells:List AV}(hs:sh[s]?=some (some cells))(hb:G.sm s=some b) :
   Inv ρ (G.ix sh.length b) w mem (sh.set s none++[some cells]) aa∧G.le (G.ix sh.length b)∧bu G w (G.ix sh.length b) w:=by
 obtain⟨b0,e1,e2,e3,e4⟩:=hi.cR s cells hs;rw[hb]at e1;cases e1;have hr:G.role b.1=.shr s:=e2.role
 have hsm:G.sm sh.length=none:=by
   cases h:G.sm sh.length with
   |none=>rfl
   |some b=>have:=hi.eo _ b h;omega
 have hle:G.le (G.ix sh.length b):=⟨G.K.le_refl,fun _ _ h=>h,fun k b h=>by
   simp only[Gh.ix];split
   ·rename_i e;subst e;rw[hsm]at h;simp at h
   ·exact h,fun _ t h=>⟨t,h,⟨Nat.le_refl _,t.gD⟩,fun _=>rfl⟩⟩
 have hrole:∀k r,G.role k=r→r≠.shr s→(G.ix sh.length b).role k=r:=by
   intro k r hk hn;simp only[Gh.ix];rw[if_neg]
   ·exact hk
   ·rintro rfl;exact hn (hk.symm.trans hr)
 have hslt:s<sh.length:=(List.getElem?_eq_some_iff.1 hs).1
 have hevo:bu G w (G.ix sh.length b) w:={
           size:=Nat.le_refl _,os:=rfl,tape:=rfl,output:=rfl,K:=G.K.le_refl,sm:=hle.sm,
           dH:=fun k _ hk=>⟨hrole k _ hk (by simp),rfl⟩
           iK:=fun k τ _ hk=>.inr ⟨τ,hrole k _ hk (by simp)⟩
           gF:=fun _ _ _ _ _ h=>h }
 refine⟨⟨hi.known,?_,?_,?_,hi.gE,?_,?_,?_,hi.eI,hi.hU hevo⟩,hle,hevo⟩
 · intro k o v hk;rcases hi.bh k o v hk with h|⟨τ,h⟩
   ·exact .inl (hrole k _ h (by simp))
   ·exact .inr ⟨τ,hrole k _ h (by simp)⟩
 ·intro k hk;exact hrole k _ (hi.fresh k hk) (by simp)
 ·intro d cs hd;obtain⟨b',e1,e2,e3⟩:=hi.cG d cs hd;exact⟨b',e1,e2.mono hle ((hrole b' _ e2.role (by simp)).trans e2.role.symm) rfl,e3⟩
 · intro s' cs hs';rw[List.getElem?_append]at hs';split at hs'
   · rw[List.getElem?_set]at hs';split at hs'
     ·simp at hs'
     ·rename_i hne;obtain⟨b',f1,f2,f3⟩:=hi.cR s' cs hs';exact⟨b',hle.sm _ _ f1,f2.mono hle ((hrole b'.1 _ f2.role (by simp;exact fun h=>hne h.symm)).trans f2.role.symm) rfl,f3⟩
   · rename_i hge
     have hs'':s'=sh.length:=by
       rcases Nat.eq_or_lt_of_le (Nat.le_of_not_lt hge) with h|h
       ·simpa using h.symm
       ·rw[List.getElem?_eq_none (by simp at h⊢;omega)]at hs';simp at hs'
     subst hs'';simp at hs';subst hs';obtain⟨_,o,hh,hold⟩:=e2;exact⟨b,by simp[Gh.ix],⟨by simp[Gh.ix],o,hh,hold.mono hle⟩,e3,iX (by omega) e4⟩
 · intro s' b' h;simp only[Gh.ix]at h;split at h
   ·rename_i e;subst e;simp
   ·have:=hi.eo s' b' h;simp;omega
 ·intro τ n hn;obtain⟨tk,e1,e2,e3⟩:=hi.cT τ n hn;refine⟨tk,e1,e2,e3.cap,e3.zero,fun hlt=>?_⟩;obtain⟨b',o,cc,ty,f1,f2,f3,f4,f5⟩:=e3.spare hlt;exact⟨b',o,cc,ty,f1,hrole b' _ f2 (by simp),f3,f4,f5⟩
theorem zo{cs:List PV}(h:∀p∈cs,gW p=true):(cs.map AV.pv).all cI=true:=by
 rw[List.all_eq_true];intro x hx;obtain⟨p,hp,rfl⟩:=List.mem_map.1 hx;have:=h p hp;cases p<;>simp_all[cI,a0,gW]
theorem uT{argTypes:Array TypeId}{type t e e1 t1 sz by_:Nat}{ag:Bool}{z:List PV}{s x y:AV}{xs:List PV}{vs vx:Value}{mem:List (Nat×List AV)}{sh sh':Sh}{aa:aG}
   (h0:argTypes[0]?=some t) (h1:argTypes[1]?=some t1)
   (hu:P.underlying t=some (.slice e)) (hu1:P.underlying t1=some (.slice e1)) (hsz:cQ P e=some sz) (hby:d6 P e=some by_) (hz:ck P e=some z) (hzl:z.length=sz) (hb0:0<by_)
   (hs:aA (num ns) G s vs) (hx:aA (num ns) G x vx) (hi:Inv (num ns) G w mem sh aa) (hxs:cf x=some xs) (hhx:a_ sz xs=true) (h:rn sz by_ ag s xs sh aa=some (y,sh')) :
   ∃v w' G',(Builtin.append_ argTypes type #[vs,vx]).run P w=.ok v w'∧aA (num ns) G' y v∧Inv (num ns) G' w' mem sh' aa∧G.le G'∧bu G w G' w':=by
 obtain⟨xb,xc,rfl⟩:=iw hxs hx;have hrx:=dP hxs hx;have knownD:∀w',w'=w.drew→∀b o u,G.K b o=some u→w'.cell? ⟨b,o,none⟩=some u:=fun w' e b o u hk=>by subst e;exact hi.known b o u hk
 obtain⟨new,n1,n2,n3,n4⟩:=pQ (P:=P) hrx hhx;have hleaf:((xs.flatMap aZ).map AV.pv).all cI=true:=zo (kF n2)
 have hrefs:∀k,((xs.flatMap aZ).map AV.pv).all (aI k)=true:=by
   intro k;rw[List.all_eq_true];intro x hx;obtain⟨p,_,rfl⟩:=List.mem_map.1 hx;rfl
 have onto:∀base,vs=.slice base 0 0→rm sz by_ ag s xs sh=some (y,sh') →
     ∃v w' G',(Builtin.append_ argTypes type #[vs,.slice xb xs.length xc]).run P w=.ok v w'∧aA (num ns) G' y v∧Inv (num ns) G' w' mem sh' aa∧G.le G'∧bu G w G' w':=by
   rintro base rfl ha
   unfold rm at ha;split at ha
   · rename_i hemp;have hxs0:xs=[]:=List.isEmpty_iff.1 hemp;subst hxs0;simp only[Option.some.injEq,Prod.mk.injEq]at ha;obtain⟨rfl,rfl⟩:=ha;have hnew:new=[]:=by apply List.eq_nil_of_length_eq_zero;simpa using n1
     subst hnew;have hrun:=ek (type:=type) h0 h1 hu hu1 hsz (base:=base) (len:=0) (cap:=0) (n:=0) (xb:=xb) (xc:=xc) rfl (n4 w hi.known) (by omega);refine⟨.slice base 0 0,w,G,?_,hs,hi,G.le_refl,bu.refl G w⟩;refine Eq.trans hrun ?_;cases base<;>simp[storeCells]
   · rename_i hemp;simp only[Option.ite_none_right_eq_some,Option.some.injEq,Prod.mk.injEq]at ha;obtain⟨hbytes,rfl,rfl⟩:=ha
     have hpos:0<xs.length:=by
       cases xs with
       |nil=>simp at hemp
       |cons _ _=>simp
     obtain⟨rest,newCap,p1,p2,p3⟩:=iV (type:=type) (aN:=#[]) (new:=new.toArray) h0 h1 hu hu1 hsz hby hz hzl (base:=base) (len:=0) (cap:=0) (n:=xs.length) (xb:=xb) (xc:=xc) rfl
       (fun w' e=>by cases base<;>simp[Builtin.firstCells,loadCells,loadCellsFrom]) (fun w' e=>n4 w' (knownD w' e)) (by omega) hb0 (by simpa using hbytes)
     have hrel:az (num ns) G ((xs.flatMap aZ).map .pv) new:=iv n2
     obtain⟨g1,g2,g3⟩:=hi.drew.xg (o':=.cells (#[]++new.toArray++rest) e) (N:=(#[]++new.toArray++rest).size) (cells:=(xs.flatMap aZ).map .pv)
       (.inl ⟨_,e,new,rest.toList,rfl,rfl,by simp,hrel⟩) hleaf (hrefs _)
     refine⟨_,_,_,p3,?_,g1,g2,(bu.drew G w).trans g3⟩;simp only[aA];refine⟨(w.drew.heap.size,(#[]++new.toArray++rest).size),newCap-xs.length,by simp[Gh.cM],?_,?_⟩
     · have:xs.length+(newCap-xs.length)=newCap:=by omega
       show Value.slice (some ⟨w.heap.size,0,none⟩) (0+xs.length) newCap=Value.slice (some ⟨w.heap.size,0,none⟩) xs.length (xs.length+(newCap-xs.length));simp[this]
     · have:xs.length+(newCap-xs.length)=newCap:=by omega
       rw[this];simp[n1,p2];have:newCap=xs.length+(newCap-xs.length):=by omega
       conv=>lhs;rw[this,Nat.add_mul]
       omega
 unfold rn at h;split at h
 · have hs':=hs;simp only[aA]at hs;obtain⟨base,len,rfl,hsl⟩:=hs;have hlen:len=0:=by have:=hsl.1;simpa using this.symm
   subst hlen;exact onto base rfl h
 · rename_i τ;simp only[Option.ite_none_right_eq_some]at h;obtain⟨htok,h⟩:=h;simp only[aA]at hs;obtain⟨tk,e1,e2,e3,e4⟩:=hs
   have hlen:([]:List PV).length=tk.len:=by
     have:=hi.eI τ tk e1;rw[htok]at this;simpa using this
   obtain⟨hv,_⟩:=e4 hlen;obtain⟨tk',f1,f2,f3⟩:=hi.cT τ _ htok;rw[e1]at f1;cases f1;have hcap:=f3.zero (by simpa using hlen.symm);refine onto tk.base ?_ h;rw[hv];simp only[Tk.val];rw[hcap,←hlen];rfl
 · rename_i b z' n g;split at h
   · rename_i cells hcs;simp only[Option.ite_none_right_eq_some]at h;obtain⟨⟨rfl,rfl,hmb,hnc,hbytes⟩,h⟩:=h;have hs':=hs;simp only[aA]at hs;obtain⟨blk,cap,hsm,rfl,hroom⟩:=hs;obtain⟨blk',hp',hblk,hlf,hrf⟩:=hi.cR _ _ hcs;rw[hsm]at hp';cases hp';obtain⟨_,c,ty,us,suf,hh,hcz,hsp,hrel⟩:=hblk.cells hmb;have hul:us.length=cells.length:=hrel.length;split at h
     · rename_i hemp;have hxs0:xs=[]:=List.isEmpty_iff.1 hemp;subst hxs0;simp only[Option.some.injEq,Prod.mk.injEq]at h;obtain⟨rfl,rfl⟩:=h;have hnew:new=[]:=by apply List.eq_nil_of_length_eq_zero;simpa using n1
       subst hnew;have hrun:=ek (type:=type) h0 h1 hu hu1 hsz (base:=some ⟨blk.1,0,none⟩) (len:=n) (cap:=n+cap) (n:=0) (xb:=xb) (xc:=xc) rfl (n4 w hi.known) (by omega);refine⟨.slice (some ⟨blk.1,0,none⟩) n (n+cap),w,G,?_,hs',hi,G.le_refl,bu.refl G w⟩;refine Eq.trans hrun ?_;simp[storeCells]
     · rename_i hemp;simp only[Option.some.injEq,Prod.mk.injEq]at h;obtain⟨rfl,rfl⟩:=h
       have hpos:0<xs.length:=by
         cases xs with
         |nil=>simp at hemp
         |cons _ _=>simp
       have hrel1:az (num ns) G (cells.take (n*z')) (us.take (n*z')):=hrel.take _
       have hlf1:(cells.take (n*z')).all cI=true:=by
         rw[List.all_eq_true]at hlf⊢;exact fun x hx=>hlf x (List.mem_of_mem_take hx)
       have hrf1:(cells.take (n*z')).all (aI (b+1))=true:=by
         rw[List.all_eq_true]at hrf⊢;exact fun x hx=>hrf x (List.mem_of_mem_take hx)
       have hblt:b<sh.length:=(List.getElem?_eq_some_iff.1 hcs).1
       have hlfN:(cells.take (n*z')++(xs.flatMap aZ).map AV.pv).all cI=true:=by
         rw[List.all_append,hlf1,hleaf];rfl
       have hrfN:(cells.take (n*z')++(xs.flatMap aZ).map AV.pv).all (aI (sh.length+1))=true:=by
         rw[List.all_append,iX (by omega) hrf1,hrefs];rfl
       have htl:(us.take (n*z')).length=n*z':=(by rw[List.length_take];omega);rcases Nat.lt_or_ge (n+cap) (n+xs.length) with hfit|hfit
       · -- a new block
         obtain⟨rest,newCap,p1,p2,p3⟩:=iV (type:=type) (aN:=(us.take (n*z')).toArray) (new:=new.toArray) h0 h1 hu hu1 hsz hby hz hzl (base:=some ⟨blk.1,0,none⟩) (len:=n) (cap:=n+cap) (n:=xs.length) (xb:=xb) (xc:=xc) rfl
           (fun w' e=>by subst e;exact sQ (w:=w.drew) hh hsp (by omega)) (fun w' e=>n4 w' (knownD w' e)) hfit hb0 hbytes
         have hrel:az (num ns) G (cells.take (n*z')++(xs.flatMap aZ).map .pv) (us.take (n*z')++new):=hrel1.append (iv n2);have hi1:=hi.drew.T7 b;have hlen:(sh.set b none).length=sh.length:=by simp
         obtain⟨g1,g2,g3⟩:=hi1.xg (o':=.cells ((us.take (n*z')).toArray++new.toArray++rest) e) (N:=((us.take (n*z')).toArray++new.toArray++rest).size) (cells:=cells.take (n*z')++(xs.flatMap aZ).map .pv)
           (.inl ⟨_,e,us.take (n*z')++new,rest.toList,rfl,rfl,by simp,hrel⟩) hlfN (by rw[hlen];exact hrfN)
         rw[hlen]at g1 g2 g3;refine⟨_,_,_,p3,?_,g1,g2,(bu.drew G w).trans g3⟩;simp only[aA];refine⟨(w.drew.heap.size,((us.take (n*z')).toArray++new.toArray++rest).size),newCap-(n+xs.length),by simp[Gh.cM],?_,?_⟩
         · have:n+xs.length+(newCap-(n+xs.length))=newCap:=by omega
           show Value.slice (some ⟨w.heap.size,0,none⟩) (n+xs.length) newCap=Value.slice (some ⟨w.heap.size,0,none⟩) (n+xs.length) (n+xs.length+(newCap-(n+xs.length)));simp[this]
         · have:n+xs.length+(newCap-(n+xs.length))=newCap:=by omega
           rw[this];simp only[Array.size_append,List.size_toArray,htl,n1,p2];have:newCap=n+xs.length+(newCap-(n+xs.length)):=by omega
           conv=>lhs;rw[this,Nat.add_mul,Nat.add_mul]
           omega
       · -- in its place
         have hmul:(n+xs.length)*z'≤(n+cap)*z':=Nat.mul_le_mul_right _ hfit;rw[Nat.add_mul]at hmul;have hcsz:n*z'+xs.length*z'≤c.size:=(by omega);obtain⟨m1,m2,m3⟩:=hi.ix hcs hsm;have xj:=run_storeCells_at (P:=P) blk.1 (n*z') ty new 0 c w hh (by rw[n1];omega) n3;have hrun:=ek (type:=type) h0 h1 hu hu1 hsz (base:=some ⟨blk.1,0,none⟩) (len:=n) (cap:=n+cap) (n:=xs.length) (xb:=xb) (xc:=xc) rfl (n4 w hi.known) hfit;simp only[Nat.add_zero]at xj
         have hget:(sh.set b none++[some cells])[sh.length]?=some (some cells):=by
           rw[List.getElem?_append_right (by simp)];simp
         have hct:c.toList.take (n*z')=us.take (n*z'):=by
           rw[hsp,List.take_append_of_le_length (by omega)]
         obtain⟨g1,g2⟩:=m1.mr (cells':=cells.take (n*z')++(xs.flatMap aZ).map .pv) (c':=(c.toList.take (n*z')++new++c.toList.drop (n*z'+new.length)).toArray) (vs:=us.take (n*z')++new) (suf:=c.toList.drop (n*z'+new.length))
           hget (by simp[Gh.ix]) hh (by
             have:c.toList.length=c.size:=by simp
             simp only[List.size_toArray,List.length_append,List.length_take,List.length_drop,n1,this];omega)
           (by simp[hct]) (az.mono m2 (hrel1.append (iv n2))) hlfN hrfN
         have hset:(sh.set b none++[some cells]).set sh.length (some (cells.take (n*z')++(xs.flatMap aZ).map .pv))=sh.set b none++[some (cells.take (n*z')++(xs.flatMap aZ).map .pv)]:=by
           rw[List.set_append_right _ _ (by simp)];simp
         rw[hset]at g1;refine⟨.slice (some ⟨blk.1,0,none⟩) (n+xs.length) (n+cap),_,_,?_,?_,g1,m2,m3.trans g2⟩
         ·refine Eq.trans hrun ?_;simp only[Addr.dX,Nat.zero_add,xj,Result.andThen_ok]
         · simp only[aA];refine⟨blk,cap-xs.length,by simp[Gh.ix],?_,?_⟩
           · have:n+xs.length+(cap-xs.length)=n+cap:=by omega
             rw[this]
           · have:n+xs.length+(cap-xs.length)=n+cap:=by omega
             rw[this];exact hroom
   ·simp at h
 ·simp at h
theorem Ck{c:Call}{A:kD}{dst:Option Nat}{args:List Operand}{sz:Nat}{z:List PV}(h:bo P ns A dst (.call c)=some (.jd sz z,args)) :
   ∃x t e,c.callee=.builtin .clear∧c.args=#[x]∧args=[x]∧c.argTypes[0]?=some t∧P.underlying t=some (.slice e)∧cQ P e=some sz∧ck P e=some z∧z.length=sz∧0<sz:=by
 obtain⟨callee,cargs,ctypes⟩:=c;simp only[bo]at h;split at h
 ·split at h<;>simp at h
 ·split at h<;>simp at h
 ·split at h<;>simp at h
 · split at h
   · split at h
     · rw[Option.ite_none_right_eq_some]at h;obtain⟨_,h⟩:=h;split at h
       ·simp at h
       ·split at h<;>simp at h
     ·simp at h
   ·simp at h
 · rename_i hcal;split at h
   · rename_i x e ha ht;split at h
     ·rename_i sz' z' hs hz;simp only[Option.ite_none_right_eq_some,Option.some.injEq,Prod.mk.injEq,AK.jd.injEq]at h;obtain⟨⟨h1,h2⟩,⟨rfl,rfl⟩,rfl⟩:=h;simp only[Option.bind_eq_some_iff]at ht;obtain⟨t,ht,htu⟩:=ht;exact⟨x,t,e,rfl,by apply Array.ext';simpa using ha,rfl,ht,cV htu,hs,hz,h1,h2⟩
     ·simp at h
   ·simp at h
 · split at h
   ·split at h<;>simp at h
   ·simp at h
 · split at h
   · split at h
     ·(repeat' (split at h))<;>simp at h
     · split at h
       ·simp at h
       · split at h
         ·simp at h
         ·split at h<;>simp at h
   ·simp at h
 ·split at h<;>simp at h
 ·simp at h
theorem GL{l:Array Value}{z:List PV}{n:Nat}(hz:cC df l.toList=some z)(hs0:0<z.length) :
   az (num ns) G ((List.replicate n (z.map AV.pv)).flatten) (Builtin.zeroCells l n).toList∧((List.replicate n (z.map AV.pv)).flatten).all cI=true∧∀k,((List.replicate n (z.map AV.pv)).flatten).all (aI k)=true:=by
 obtain⟨zr,zl⟩:=k_ (G:=G) (ρ:=num ns) hz;have hzs:l.size=z.length:=by have:=gr hz;simp at this;omega
 refine⟨?_,?_,?_⟩
 · refine iW (by simp[Builtin.zeroCells,hzs]) fun j x v hx hv=>?_;have hlt:j<n*z.length:=by have:=(List.getElem?_eq_some_iff.1 hx).1;simpa using this
   rw[dI _ _ _ (by simpa using hlt)]at hx;obtain⟨v',g1,g2⟩:=zr.get hx
   have:v=v':=by
     simp only[Builtin.zeroCells,Array.toList_map,List.getElem?_map,Array.toList_range,Option.map_eq_some_iff]at hv;obtain⟨j',hj',hv⟩:=hv;rw[List.getElem?_range (by rw[hzs];exact hlt)]at hj';cases hj';simp only[List.length_map]at g1;rw[hzs]at hv;have hm:j % z.length<l.size:=by rw[hzs];exact Nat.mod_lt _ hs0
     rw[getElem!_pos l (j % z.length) hm]at hv;have g1':l[j % z.length]?=some v':=by simpa using g1
     rw[Array.getElem?_eq_getElem hm]at g1';simp at g1';rw[←hv,g1']
   subst this;exact g2
 ·rw[List.all_eq_true]at *;intro x hx;simp only[List.mem_flatten,List.mem_replicate]at hx;obtain⟨l,⟨_,rfl⟩,hx⟩:=hx;exact zl x hx
 ·intro k;have:=xl k z;rw[List.all_eq_true]at *;intro x hx;simp only[List.mem_flatten,List.mem_replicate]at hx;obtain⟨l,⟨_,rfl⟩,hx⟩:=hx;exact this x hx
theorem xm{argTypes:Array TypeId}{type t e sz:Nat}{z:List PV}{x:AV}{v:Value}{mem:List (Nat×List AV)}{sh sh':Sh}{aa:aG}
   (h0:argTypes[0]?=some t) (hu:P.underlying t=some (.slice e)) (hz:ck P e=some z) (hzl:z.length=sz) (hs0:0<sz)
   (hx:aA (num ns) G x v) (hi:Inv (num ns) G w mem sh aa) (h:sD sz z sh (y1 sz x)=some sh') :
   ∃w',(Builtin.clear_ argTypes type #[v]).run P w=.ok (.tuple #[]) w'∧Inv (num ns) G w' mem sh' aa∧bu G w G w':=by
 cases hsub:y1 sz x with
 |none=>rw[hsub]at h;simp[sD]at h
 |some q=>
   obtain⟨b,off,n⟩:=q;rw[hsub]at h
   have hv:∃blk base cap,G.sm b=some blk∧v=.slice base n cap∧(n=0∨base=some ⟨blk.1,off,none⟩):=by
     unfold y1 at hsub;split at hsub
     ·simp only[Option.ite_none_right_eq_some,Option.some.injEq,Prod.mk.injEq]at hsub;obtain⟨rfl,rfl,rfl,rfl⟩:=hsub;simp only[aA]at hx;obtain⟨blk,cap,e1,e2,_⟩:=hx;exact⟨blk,_,_,e1,e2,.inr rfl⟩
     ·simp only[Option.some.injEq,Prod.mk.injEq]at hsub;obtain⟨rfl,rfl,rfl⟩:=hsub;simpa only[aA] using hx
     ·simp at hsub
   obtain⟨blk,base,cap,hsm,rfl,hbase⟩:=hv;simp only[sD]at h;split at h
   · rename_i cells hcs;simp only[Option.ite_none_right_eq_some,Option.some.injEq]at h;obtain⟨⟨hmb,hle,_⟩,rfl⟩:=h;by_cases hn:n=0
     · subst hn;have e1:aR cells off ((List.replicate 0 (z.map AV.pv)).flatten)=cells:=by simp[aR]
       have e2:sh.set b (some cells)=sh:=by
         apply List.ext_getElem?
         intro j;rw[List.getElem?_set];split
         · rename_i e;subst e;split
           ·exact hcs.symm
           ·rename_i hj;rw[List.getElem?_eq_none (by omega)]at hcs;simp at hcs
         ·rfl
       rw[e1,e2];refine⟨w,?_,hi,bu.refl G w⟩;cases base<;>simp[Builtin.clear_,h0,run_underlying hu]
     · have hb:=hbase.resolve_left hn;subst hb;obtain⟨blk',hp',hblk,hlf,hrf⟩:=hi.cR _ _ hcs;rw[hsm]at hp';cases hp';obtain⟨_,c,ty,us,suf,hh,hcz,hsp,hrel⟩:=hblk.cells hmb;have hul:us.length=cells.length:=hrel.length;obtain⟨zv,hz1,hz2⟩:=gv (P:=P) (w:=w) hz;have hz0:0<z.length:=(by omega);obtain⟨zr,zl,zf⟩:=GL (ns:=ns) (G:=G) (n:=n) hz2 hz0;have hone:∀u∈(Builtin.zeroCells zv.cells n).toList,u.oneCell'=true:=jo zr (gf zl);have hzn:(Builtin.zeroCells zv.cells n).toList.length=n*sz:=(by rw[zr.length];simp[hzl]);have hcl:c.toList.length=us.length+suf.length:=(by rw[hsp];simp);have hcl':c.size=us.length+suf.length:=(by simpa using hcl);have xj:=run_storeCells_at (P:=P) blk.1 off ty (Builtin.zeroCells zv.cells n).toList 0 c w hh (by rw[hzn];omega) hone;simp only[Nat.add_zero]at xj;have hctt:c.toList.take off=us.take off:=by rw[hsp,List.take_append_of_le_length (by omega)]
       have hcd:c.toList.drop (off+(Builtin.zeroCells zv.cells n).toList.length)=us.drop (off+(Builtin.zeroCells zv.cells n).toList.length)++suf:=by
         rw[hsp,List.drop_append_of_le_length (by rw[hzn];omega)]
       have hleaf:(aR cells off ((List.replicate n (z.map AV.pv)).flatten)).all cI=true:=by
         rw[List.all_eq_true]at *;intro y hy;simp only[aR,List.mem_append]at hy;rcases hy with (hy|hy)|hy
         ·exact hlf y (List.mem_of_mem_take hy)
         ·exact zl y hy
         ·exact hlf y (List.mem_of_mem_drop hy)
       have hrefs:(aR cells off ((List.replicate n (z.map AV.pv)).flatten)).all (aI (b+1))=true:=by
         have zf':=zf (b+1);rw[List.all_eq_true]at *;intro y hy;simp only[aR,List.mem_append]at hy;rcases hy with (hy|hy)|hy
         ·exact hrf y (List.mem_of_mem_take hy)
         ·exact zf' y hy
         ·exact hrf y (List.mem_of_mem_drop hy)
       have hrel':az (num ns) G (aR cells off ((List.replicate n (z.map AV.pv)).flatten)) (us.take off++(Builtin.zeroCells zv.cells n).toList++us.drop (off+(Builtin.zeroCells zv.cells n).toList.length)):=d_ off hrel zr
       obtain⟨g1,g2⟩:=hi.mr (cells':=aR cells off ((List.replicate n (z.map AV.pv)).flatten)) (c':=(c.toList.take off++(Builtin.zeroCells zv.cells n).toList++c.toList.drop (off+(Builtin.zeroCells zv.cells n).toList.length)).toArray)
         (vs:=us.take off++(Builtin.zeroCells zv.cells n).toList++us.drop (off+(Builtin.zeroCells zv.cells n).toList.length)) (suf:=suf) hcs hsm hh (by
           simp only[List.size_toArray,List.length_append,List.length_take,List.length_drop,hzn,hcl];rw[←hcz,hcl'];omega)
         (by simp only[hctt,hcd,List.append_assoc]) hrel' hleaf hrefs
       refine⟨_,?_,g1,g2⟩;cases n with
       |zero=>exact absurd rfl hn
       |succ n=>
         simp only[Builtin.clear_,h0];simp[run_underlying hu,hz1,xj]
   ·simp at h
end
end Go.Ab
namespace Go.Ab
section
variable {P:Program} {ns:Names} {G:Gh} {w:World} {A:kD}
theorem lU{els:List PV}{base:Option Addr}{len cap sz k:Nat}(hr:Rel G.K (.aw els) (.slice base len cap))(hs:a_ sz els=true)(hk:k≤els.length) :
   ∃vss:List Value,vss.length=k*sz∧dd G.K ((els.take k).flatMap aZ) vss∧(∀u∈vss,u.oneCell'=true) ∧
     ∀w:World,(∀b o u,G.K b o=some u→w.cell? ⟨b,o,none⟩=some u)→(Builtin.firstCells sz k (.slice base len cap)).run P w=.ok vss.toArray w:=by
 obtain⟨base',len',cap',e,_,hlen,hrow'⟩:=bP.1 hr;cases e;by_cases hnil:els=[]
 · subst hnil;have:k=0:=by simpa using hk
   subst this;refine⟨[],by simp,by simp[dd],by simp,fun w _=>?_⟩;cases base with
   |none=>simp[Builtin.firstCells]
   |some a=>simp[Builtin.firstCells,loadCells,loadCellsFrom]
 ·obtain⟨b,o,sz',rfl,hrow⟩:=hrow'.resolve_left hnil;have:=hrow.sz hs hnil;subst this;obtain⟨vss,g1,g2,g3,g4⟩:=(hrow.take k).oQ;rw[List.length_take,Nat.min_eq_left hk]at g1;refine⟨vss,g1,g3,g4,fun w hk=>?_⟩;have hl:=run_loadCells_list (P:=P) w ⟨b,o,none⟩ vss (fun j u hj=>by rw[Addr.dX];exact hk _ _ _ (g2 j u hj));rw[g1]at hl;simpa[Builtin.firstCells] using hl
theorem zp{argTypes:Array TypeId}{type t e sz k:Nat}{xs:List PV}{x y:AV}{v u:Value}{mem:List (Nat×List AV)}{sh sh':Sh}{aa:aG}
   (h0:argTypes[0]?=some t) (hu:P.underlying t=some (.slice e)) (hsz:cQ P e=some sz)
   (hx:aA (num ns) G x v) (hy:aA (num ns) G y u) (hi:Inv (num ns) G w mem sh aa) (hxs:cf y=some xs) (h:sF sz sh xs x=some (k,sh')) :
   ∃w',(Builtin.copy_ argTypes type #[v,u]).run P w=.ok (.int .i64 k) w'∧Inv (num ns) G w' mem sh' aa∧bu G w G w':=by
 obtain⟨xb,xc,rfl⟩:=iw hxs hy;have hrx:=dP hxs hy;unfold sF at h;split at h
 · rename_i b z n _;split at h
   · rename_i cells hcs;simp only[Option.ite_none_right_eq_some,Option.some.injEq,Prod.mk.injEq]at h;obtain⟨⟨rfl,hhx,hmb,hle⟩,rfl,rfl⟩:=h;simp only[aA]at hx;obtain⟨blk,cap,hsm,rfl,_⟩:=hx;have hkx:min xs.length n≤xs.length:=Nat.min_le_left _ _;have hkn:min xs.length n≤n:=Nat.min_le_right _ _;obtain⟨new,n1,n2,n3,n4⟩:=lU (P:=P) hrx hhx hkx
     have htk:xs.take (min xs.length n)=xs.take n:=by
       rcases Nat.le_total xs.length n with h|h
       ·rw[Nat.min_eq_left h,List.take_of_length_le h,List.take_of_length_le (Nat.le_refl _)]
       ·rw[Nat.min_eq_right h]
     rw[htk]at n2;generalize hk:min xs.length n=k at *;have hleafN:(((xs.take n).flatMap aZ).map AV.pv).all cI=true:=zo (kF n2)
     have hrefsN:∀k,(((xs.take n).flatMap aZ).map AV.pv).all (aI k)=true:=by
       intro k;rw[List.all_eq_true];intro x hx;obtain⟨p,_,rfl⟩:=List.mem_map.1 hx;rfl
     have hrelN:az (num ns) G (((xs.take n).flatMap aZ).map .pv) new:=iv n2;obtain⟨blk',hp',hblk,hlf,hrf⟩:=hi.cR _ _ hcs;rw[hsm]at hp';cases hp';obtain⟨_,c,ty,us,suf,hh,hcz,hsp,hrel⟩:=hblk.cells hmb;have hul:us.length=cells.length:=hrel.length;have hkz:k*z≤n*z:=Nat.mul_le_mul_right z hkn;have hcl:c.toList.length=us.length+suf.length:=(by rw[hsp];simp);have hcl':c.size=us.length+suf.length:=(by simpa using hcl);have xj:=run_storeCells_at (P:=P) blk.1 0 ty new 0 c w hh (by rw[n1];omega) n3;simp only[Nat.add_zero]at xj;have hctt:c.toList.take 0=us.take 0:=by simp
     have hcd:c.toList.drop (0+new.length)=us.drop (0+new.length)++suf:=by
       rw[hsp,List.drop_append_of_le_length (by rw[n1];omega)]
     have hleaf:(aR cells 0 (((xs.take n).flatMap aZ).map AV.pv)).all cI=true:=by
       rw[List.all_eq_true]at *;intro y hy;simp only[aR,List.mem_append]at hy;rcases hy with (hy|hy)|hy
       ·exact hlf y (List.mem_of_mem_take hy)
       ·exact hleafN y hy
       ·exact hlf y (List.mem_of_mem_drop hy)
     have hrefs:(aR cells 0 (((xs.take n).flatMap aZ).map AV.pv)).all (aI (b+1))=true:=by
       have zf':=hrefsN (b+1);rw[List.all_eq_true]at *;intro y hy;simp only[aR,List.mem_append]at hy;rcases hy with (hy|hy)|hy
       ·exact hrf y (List.mem_of_mem_take hy)
       ·exact zf' y hy
       ·exact hrf y (List.mem_of_mem_drop hy)
     have hrel':=d_ 0 hrel hrelN
     obtain⟨g1,g2⟩:=hi.mr (cells':=aR cells 0 (((xs.take n).flatMap aZ).map AV.pv)) (c':=(c.toList.take 0++new++c.toList.drop (0+new.length)).toArray)
       (vs:=us.take 0++new++us.drop (0+new.length)) (suf:=suf) hcs hsm hh (by
         simp only[List.size_toArray,List.length_append,List.length_take,List.length_drop,n1,hcl];rw[←hcz,hcl'];omega)
       (by simp only[hctt,hcd,List.append_assoc]) hrel' hleaf hrefs
     refine⟨_,?_,g1,g2⟩;have hmin:Nat.min xs.length n=k:=hk;have hl:=n4 w hi.known;simp[Builtin.copy_,h0,run_underlying hu,Builtin.lenOf,hmin,dt hsz,hl,xj,goInt]
   ·simp at h
 ·simp at h
theorem GM{c:Call}{dst:Option Nat}{args:List Operand}{sz:Nat}(h:bo P ns A dst (.call c)=some (.lS sz,args)) :
   ∃x y t e t1 e1,c.callee=.builtin .copy∧c.args=#[x,y]∧args=[x,y]∧c.argTypes[0]?=some t∧c.argTypes[1]?=some t1∧P.underlying t=some (.slice e)∧P.underlying t1=some (.slice e1)∧cQ P e=some sz:=by
 obtain⟨callee,cargs,ctypes⟩:=c;simp only[bo]at h
 repeat' (split at h)
 all_goals try (simp at h;done)
 rename_i x y e e1 ha ht ht1 _ sz' hs;simp only[Option.some.injEq,Prod.mk.injEq,AK.lS.injEq]at h;obtain⟨rfl,rfl⟩:=h;simp only[Option.bind_eq_some_iff]at ht ht1;obtain⟨t,ht,htu⟩:=ht;obtain⟨t1,ht1,htu1⟩:=ht1;exact⟨x,y,t,e,t1,e1,rfl,by apply Array.ext';simpa using ha,rfl,ht,ht1,cV htu,cV htu1,hs⟩
end
end Go.Ab
namespace Go.Ab
section
variable {P:Program} {ns:Names} {G:Gh} {w:World} {A:kD}
theorem zq:∀{a b:List PV},dK a b=true→a=b
 |[],[],_=>rfl
 | .str a::r,.str b::q,h=>by
   simp only[dK,Bool.and_eq_true,beq_iff_eq]at h;rw[h.1,zq h.2]
 |[],_::_,h=>by simp[dK]at h
 | .bool _::_,_,h=>by simp[dK]at h
 | .int _ _::_,_,h=>by simp[dK]at h
 | .agg _::_,_,h=>by simp[dK]at h
 | .aw _::_,_,h=>by simp[dK]at h
 | .str _::_,[],h=>by simp[dK]at h
 | .str _::_,.bool _::_,h=>by simp[dK]at h
 | .str _::_,.int _ _::_,h=>by simp[dK]at h
 | .str _::_,.agg _::_,h=>by simp[dK]at h
 | .str _::_,.aw _::_,h=>by simp[dK]at h
theorem sR{K:bm}:∀{xs ys:List PV} {a b:List Value},dK ys xs=true→dd K (xs.flatMap aZ) a→dd K (xs.flatMap aZ) b→a=b
 |[],_,a,b,_,ha,hb=>by
   simp only[List.flatMap_nil,dd]at ha hb;rw[ha,hb]
 | .str s::xs,ys,a,b,h,ha,hb=>by
   cases ys with
   |nil=>simp[dK]at h
   |cons y ys=>
     cases y with
     |str s'=>
       simp only[dK,Bool.and_eq_true]at h;simp only[List.flatMap_cons,aZ,List.cons_append,List.nil_append,dd,R]at ha hb;obtain⟨v,r,rfl,e1,e2⟩:=ha;obtain⟨v',r',rfl,f1,f2⟩:=hb;have:=sR h.2 e2 f2;simp at e1 f1;rw[e1,f1,this]
     |_=>simp[dK]at h
 | .bool _::_,ys,_,_,h,_,_=>by cases ys with|nil=>simp[dK]at h|cons y ys=>cases y<;>simp[dK]at h
 | .int _ _::_,ys,_,_,h,_,_=>by cases ys with|nil=>simp[dK]at h|cons y ys=>cases y<;>simp[dK]at h
 | .agg _::_,ys,_,_,h,_,_=>by cases ys with|nil=>simp[dK]at h|cons y ys=>cases y<;>simp[dK]at h
 | .aw _::_,ys,_,_,h,_,_=>by cases ys with|nil=>simp[dK]at h|cons y ys=>cases y<;>simp[dK]at h
theorem Kk{α:Type}{c new:List α}{a:Nat}(h:∀j,j<new.length→c[a+j]?=new[j]?):c.take a++new++c.drop (a+new.length)=c:=by
 have e:new=(c.drop a).take new.length:=by
   apply List.ext_getElem?
   intro j;rw[List.getElem?_take];split
   ·rename_i hj;rw[List.getElem?_drop,h j hj]
   ·rename_i hj;exact List.getElem?_eq_none (by omega)
 have e2:c.drop (a+new.length)=(c.drop a).drop new.length:=by rw[List.drop_drop]
 rw[e2,List.append_assoc];conv=>lhs;arg 2;arg 1;rw[e]
 rw[List.take_append_drop,List.take_append_drop]
theorem uU{argTypes:Array TypeId}{type t e e1 t1 sz by_:Nat}{z:List PV}{s x ev:AV}{xs:List PV}{p:PV}{vs vx ve:Value}{mem:List (Nat×List AV)}{sh:Sh}{aa:aG}
   (h0:argTypes[0]?=some t) (h1:argTypes[1]?=some t1)
   (hu:P.underlying t=some (.slice e)) (hu1:P.underlying t1=some (.slice e1)) (hsz:cQ P e=some sz) (hby:d6 P e=some by_) (hz:ck P e=some z) (hzl:z.length=sz) (hb0:0<by_)
   (hs:aA (num ns) G s vs) (hx:aA (num ns) G x vx) (hev:aA (num ns) G ev ve) (hi:Inv (num ns) G w mem sh aa) (hxs:cf x=some xs) (h:nS sz by_ xs s ev aa=some p) :
   ∃v w' G',(Builtin.append_ argTypes type #[vs,vx]).run P w=.ok v w'∧aA (num ns) G' (.pv p) v∧Inv (num ns) G' w' mem sh aa∧G.le G'∧bu G w G' w':=by
 unfold nS at h;split at h
 · rename_i l τ m σ;simp only[Option.ite_none_right_eq_some,Option.some.injEq]at h;obtain⟨⟨rfl,htok,hml,hhl,hhx,rfl,hsame,hne,hbytes⟩,rfl⟩:=h;have hdrop:=zq hsame;simp only[aA]at hs hev;obtain⟨tk,e1,⟨e2,ewas⟩,e3,_⟩:=hs;obtain⟨tk',f1,_,f3,f4⟩:=hev;rw[e1]at f1;cases f1
   have hlen:m.length=tk.len:=by
     have:=hi.eI τ tk e1;rw[htok]at this;simpa using this
   obtain⟨_,frow⟩:=f4 hlen;have hxpos:0<xs.length:=by cases xs with|nil=>simp at hne|cons _ _=>simp
   have hmne:m≠[]:=by rintro rfl;simp at hml;omega
   obtain⟨b,o,hbase,hrow⟩:=frow.resolve_left hmne
   have hsz1:tk.sz=1:=by
     cases xs with
     |nil=>simp at hxpos
     |cons x0 xs'=>
       have hd:=hrow.drop l.length;rw[hdrop]at hd;simp only[Row]at hd;obtain⟨⟨us,g1,_,g3⟩,_⟩:=hd;have:=g3.length;simp[a_]at hhx;omega
   obtain⟨base,tlen,cap,tsz,town⟩:=tk;simp only at hlen hbase hrow hsz1;subst hsz1 hbase hlen;rcases ewas with d|⟨base',len',cap',rfl,hcase⟩
   ·exact absurd d.1 (by simp)
   obtain⟨xb,xc,rfl⟩:=iw hxs hx;have hrx:=dP hxs hx;obtain⟨q1,q2,q3,q4,q5,hlen',q6⟩:=bP.1 e3;cases q4;subst hlen';obtain⟨new,n1,n2,n3,n4⟩:=lU (P:=P) hrx hhx (Nat.le_refl _);rw[List.take_of_length_le (Nat.le_refl _)]at n2;simp only[Nat.mul_one]at n1;have hdr:=hrow.drop l.length;rw[hdrop]at hdr;obtain⟨new',g1,g2,g3,g4⟩:=hdr.oQ;have hnn:=sR hsame g3 n2;subst hnn;rcases Nat.lt_or_ge cap' (l.length+xs.length) with hfit|hfit
   · -- it does not fit
     obtain⟨aN,o1,o2,o3,o4⟩:=gH (P:=P) (w:=w.drew) (fun b o u hk=>hi.known b o u hk) e3 hhl rfl
     obtain⟨rest,newCap,p1,p2,p3⟩:=iV (type:=type) (aN:=aN.toArray) (new:=new'.toArray) h0 h1 hu hu1 hsz hby hz hzl (base:=base') (len:=l.length) (cap:=cap') (n:=xs.length) (xb:=xb) (xc:=xc) rfl
       (fun w' e=>by subst e;exact o1) (fun w' e=>by subst e;exact n4 _ (fun b o u hk=>hi.known b o u hk)) hfit hb0 (by rw[←hml];exact hbytes)
     refine⟨_,_,_,p3,?_,hi.drew.mo _ e,Gh.m4 hi.drew _,(bu.drew G w).trans (bu.mo hi.drew _ e)⟩;have hle:=(Gh.m4 hi.drew (aN.toArray++new'.toArray++rest)).K
     have hat:At (G.oM w.drew.heap.size (aN.toArray++new'.toArray++rest)).K w.heap.size 0 (aN++new'):=by
       intro j v hj;have hlt:=(List.getElem?_eq_some_iff.1 hj).1;have:w.drew.heap.size=w.heap.size:=rfl;simp only[Gh.oM,this,if_true,Nat.zero_add];rw[Array.getElem?_append_left (by simpa using hlt)];simpa using hj
     have hrow':Row (G.oM w.drew.heap.size (aN.toArray++new'.toArray++rest)).K w.heap.size 0 1 (l++xs):=by
       refine Row.append (o3 _ _ _ hle fun j v hj=>hat j v ?_) ?_
       ·rw[List.getElem?_append_left (List.getElem?_eq_some_iff.1 hj).1];exact hj
       · obtain⟨vss,r1,r2,r3,r4⟩:=hdr.flat
         have hvv:vss=new':=by
           apply List.ext_getElem?
           intro j;rcases Nat.lt_or_ge j vss.length with hj|hj
           ·have a1:=r2 j _ (List.getElem?_eq_getElem hj);have hj':j<new'.length:=(by omega);have a2:=g2 j _ (List.getElem?_eq_getElem hj');rw[a1]at a2;rw[List.getElem?_eq_getElem hj,List.getElem?_eq_getElem hj'];exact a2
           ·rw[List.getElem?_eq_none hj,List.getElem?_eq_none (by omega)]
         subst hvv;refine r3 _ _ _ hle fun j v hj=>?_;have:=hat (aN.length+j) v (by rw[List.getElem?_append_right (by omega),Nat.add_sub_cancel_left];exact hj)
         rw[o2]at this
         rwa [Nat.zero_add,←Nat.zero_add (l.length*1+j),←Nat.add_assoc]at this
     simp only[aA];exact bP.2 ⟨_,_,_,rfl,p1,by simp,.inr ⟨_,_,_,rfl,hrow'⟩⟩
   · -- it lies there
     rcases hcase with hc|⟨rfl,rfl,ho⟩
     ·simp only at hc;omega
     simp only at ho;have hown:town=true:=ho.resolve_left (by omega);obtain⟨tk'',k1,k2,k3⟩:=hi.cT τ _ htok;rw[e1]at k1;cases k1;obtain⟨b',o',c,ty,p1,p2,p3,p4,p5⟩:=k3.spare (.inr hown);simp only[Option.some.injEq,Addr.mk.injEq]at p1;obtain⟨rfl,rfl,_⟩:=p1;simp only[Nat.mul_one]at p4;simp only[Nat.mul_one]at g1 g2;have xj:=run_storeCells_at (P:=P) b (o+l.length) ty new' 0 c w p3 (by omega) g4;simp only[Nat.add_zero]at xj
     have hself:(c.toList.take (o+l.length)++new'++c.toList.drop (o+l.length+new'.length)).toArray=c:=by
       rw[Kk]
       ·intro j hj;have a2:=hi.known _ _ _ (g2 j _ (List.getElem?_eq_getElem hj));simp only[World.cell?,p3,Option.isSome_none,Bool.false_eq_true,if_false]at a2;rw[List.getElem?_eq_getElem hj];simpa using a2
     rw[hself,setRow_self w b c ty (0,0) p3]at xj;have hrun:=ek (type:=type) h0 h1 hu hu1 hsz (base:=some ⟨b,o,none⟩) (len:=l.length) (cap:=cap') (n:=xs.length) (xb:=xb) (xc:=xc) rfl (n4 w hi.known) hfit;refine⟨.slice (some ⟨b,o,none⟩) (l.length+xs.length) cap',w,G,?_,?_,hi,G.le_refl,bu.refl G w⟩
     ·refine Eq.trans hrun ?_;simp only[Addr.dX,Nat.mul_one,xj,Result.andThen_ok]
     · simp only[aA];refine bP.2 ⟨_,_,_,rfl,hfit,by simp,.inr ⟨_,_,1,rfl,Row.append ?_ hdr⟩⟩;by_cases hl0:l=[]
       ·subst hl0;simp only[Row]
       ·obtain⟨b2,o2,sz2,r1,r2⟩:=q6.resolve_left hl0;cases r1;have:=r2.sz hhl hl0;subst this;exact r2
 ·simp at h
theorem zs{c:Call}{dst:Option Nat}{args:List Operand}{sz by_:Nat}(h:bo P ns A dst (.call c)=some (.ga sz by_,args)) :
   ∃x y u t e t1 e1 z,c.callee=.builtin .append∧c.args=#[x,y]∧args=[x,y,u]∧c.argTypes[0]?=some t∧c.argTypes[1]?=some t1∧P.underlying t=some (.slice e) ∧
     P.underlying t1=some (.slice e1)∧cQ P e=some sz∧d6 P e=some by_∧ck P e=some z∧z.length=sz∧0<sz∧0<by_:=by
 obtain⟨callee,cargs,ctypes⟩:=c;simp only[bo]at h
 repeat' (split at h)
 all_goals try (simp at h;done)
 rename_i x y e e1 ha ht ht1 _ _ _ sz' by' z hs hb hz hcond hhot _ u hdup;simp only[Option.some.injEq,Prod.mk.injEq,AK.ga.injEq]at h;obtain⟨⟨rfl,rfl⟩,rfl⟩:=h;obtain⟨h1,h2,h3⟩:=hcond;simp only[Option.bind_eq_some_iff]at ht ht1;obtain⟨t,ht,htu⟩:=ht;obtain⟨t1,ht1,ht1u⟩:=ht1;exact⟨x,y,.tmp u,t,e,t1,e1,z,rfl,by apply Array.ext';simpa using ha,rfl,ht,ht1,cV htu,cV ht1u,hs,hb,hz,h1,h2,h3⟩
end
end Go.Ab
