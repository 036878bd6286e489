import GoSem.Core.Value
import GoSem.Core.Ast
import GoSem.Core.View
import Derived.Calls
import Derived.Laws.World
import Derived.Laws.Sem
import Derived.Below
import Derived.Laws.Cells
import Derived.Laws.CopyRow
import Derived.Laws.Entries
import Derived.Laws.Strings
import Derived.Laws.IdiomStrings
import Derived.Laws.Tables
import Derived.RangeFuncRecord
/-
  The abstract machine: pure data, abstract values, slim code, and an evaluator with fuel. Nothing here mentions a program.
  What an abstract value says of a value of the model: relations over what is known of memory for good.
  From the loaded program's code to slim code: types resolved, functions under their lasting numbers. 'compF' is what the kernel holds a function's slim code against.
  The relation between an abstract state and a state of the model.
  Operations on values alone: what the slim operation gives is what the model's gives.
  Parts, places, memory that is only read.
  Literals, cuts, and the rest of the operations on values.
  Slices' literals and cuts; the operations on values, all together.
  Cuts of slices and strings; the operations on values, all together.
  The operations on values, all together.
  Operations with memory.
  append.
  append, run.
  The operations with memory that call nothing.
  append onto arrays that may still be written.
  The builtin copy: elements over the head of an array that may be written.
  What an operation Fs compiled from, and what its run looked at.
  Each operation that calls nothing.
-/
set_option linter.unusedVariables false
set_option linter.unusedSimpArgs false
set_option linter.unnecessarySimpa false
set_option maxRecDepth 100000
set_option maxHeartbeats 8000000
namespace Go.Ab
inductive PV where
 | bool (b:Bool)
 | int (k:IntKind) (n:Int)
 | str (s:List UInt8)
 | agg (cs:List PV)
 | aE (els:List PV)
 deriving Inhabited
inductive AV where
 | un
 | pv (p:PV)
 | cI (els:List PV)
 | own (els:List PV) (tok:Nat)
 | agg (cs:List AV)
 | kP (vs:List AV)
 | aN (d off:Nat)
 | aJ (b off:Nat)
 | ek (cs:List PV)
 | aX (b sz len:Nat) (ag:Bool)
 | fn (g:Nat) (cap:List AV)
 | gz
 | gA (s:Nat)
 | dT (kvs:List (PV×PV))
 | lN (b off n:Nat)
 | gB (d n:Nat)
 deriving Inhabited
abbrev Sh:=List (Option (List AV))
abbrev aq:=List Nat
inductive di where
 | t (n:Nat)
 | c (v:AV)
 deriving Inhabited
inductive CK where
 | int | str | bool
 deriving Inhabited,DecidableEq
inductive Co where
 | mv | pick
 | bin (op:BinOp)
 | beq (neg:Bool)
 | un (op:UnOp)
 | conv (k:IntKind)
 | ext (i:Nat)
 | field (off sz:Nat) (ag:Bool)
 | eI (off:Nat)
 | fh (sz:Nat)
 | index
 | build (zero:List PV) (places:List (Nat×Nat))
 | dM (sz:Nat)
 | fX (sz:Nat) (ag:Bool)
 | slice (str:Bool) (sz:Nat) (lo hi mx:Bool)
 | len | s8 | ki
 | mn | mx
 | Cp (g:Nat)
 | Hu (cs:List CK) (neg:Bool)
 | s9 (sz:Nat) (lo hi:Bool)
 | b2s
 deriving Inhabited
inductive AK where
 | v (o:Co)
 | bU (key off sz:Nat) (ag:Bool)
 | bA (key off sz:Nat)
 | alloc (key:Nat) (zero:List PV)
 | box (key sz:Nat)
 | dJ (sz:Nat) (ag:Bool)
 | ev (sz:Nat)
 | o6 (sz:Nat)
 | kj (sz:Nat)
 | Cq (sz:Nat)
 | gl (zero:List PV)
 | hU (sz bytes:Nat) (ag:Bool) (zero:List PV)
 | fj (key sz bytes:Nat) (zero:List PV)
 | append (sz bytes:Nat)
 | cR (sz bytes:Nat) (ag:Bool)
 | jA (sz bytes:Nat)
 | we
 | l8 (c:CK) (ok:Bool) (zero:PV)
 | Cr (c:CK)
 | clone (sz bytes:Nat)
 | ig (sz bytes:Nat) (ag:Bool)
 | gm (sz:Nat) (zero:List PV)
 | ij (sz:Nat)
 | aR (g:Nat)
 | ew (g:Nat)
 | bV (g:Nat) (own:List Nat)
 | ik (g:Nat)
 | fl
 | da
 deriving Inhabited
structure cB where
 dst:Option Nat
 guard:Option (Nat×Bool)
 args:List di
 op:AK
 deriving Inhabited
inductive au where
 | skip
 | oe (ops:List cB) (live:List Nat)
 | seq (a b:au)
 | cond (c:di) (a b:au)
 | block (id:Nat) (b:au)
 | loop (live:List Nat) (b:au)
 | exit (id:Nat)
 | ret
 | back (f:di) (gb pi px sz:Nat) (ag:Bool) (live:List Nat) (x y:au)
 | eo (ts:List Nat)
 | DN (ds:List (Nat×Nat))
 | ie (ps:List (Nat×Nat×Bool))
 | il (ts:List Nat)
 | Ea (ts:List Nat)
 deriving Inhabited
inductive kl where
 | t (n:Nat)
 | c (key sz:Nat) (ag:Bool)
 deriving Inhabited
structure Prim where
 f:(Nat→List PV→Option (List PV))→List PV→Option (List PV)
 fin:∀o x r,f o x=some r→∃l:List (Nat×List PV×List PV),(∀c∈l,o c.1 c.2.1=some c.2.2)∧∀o',(∀c∈l,o' c.1 c.2.1=some c.2.2)→f o' x=some r
def Prim.pure (f:List PV→Option (List PV)):Prim:=⟨fun _=>f,fun _ _ _ h=>⟨[],by simp,fun _ _=>h⟩⟩
theorem Prim.mono (p:Prim) {a b:Nat→List PV→Option (List PV)} (h:∀g x r,a g x=some r→b g x=some r) {x:List PV} {r:List PV} (e:p.f a x=some r):p.f b x=some r:=by
 obtain ⟨l,h1,h2⟩:=p.fin a x r e
 exact h2 b fun c hc=>h _ _ _ (h1 c hc)
structure aB where
 nparams:Nat
 ntmps:Nat
 results:List kl
 body:au
 km:Option Prim:=none
 ks:Bool:=false
 deriving Inhabited
def look {α:Type}:List (Nat×α)→Nat→Option α
 | [],_=>none
 | (k,v)::r,t=>if k=t then some v else look r t
def cC {α:Type}:List (Nat×α)→Nat→α→List (Nat×α)
 | [],t,u=>[(t,u)]
 | (k,v)::r,t,u=>if k=t then (k,u)::r else (k,v)::cC r t u
structure St where
 env:List (Nat×AV)
 mem:List (Nat×List AV)
 sh:Sh
 aa:aq
 deriving Inhabited
def aL:PV→List PV
 | .agg cs=>cs
 | p=>[p]
def aM:AV→List AV
 | .agg cs=>cs
 | .pv (.agg cs)=>cs.map .pv
 | v=>[v]
def bm:AV→Bool
 | .pv _ | .cI _ | .aJ .. | .aX .. | .gz | .gA _ | .dT _=>true
 | .fn _ cap=>gC cap
 | .agg cs=>gC cs
 | _=>false
where gC:List AV→Bool
 | []=>true
 | v::r=>bm v && gC r
def aH:AV→Bool
 | .pv (.agg _)=>false
 | .pv _ | .cI _ | .aJ .. | .aX .. | .gz | .gA _ | .dT _=>true
 | .fn g cap=>bm (.fn g cap)
 | .own ..=>true
 | _=>false
def cp (v:AV):Bool:=aH v
def bj:AV→Bool
 | .own .. | .aN .. | .gB ..=>false
 | .agg cs=>d5 cs
 | .kP cs=>d5 cs
 | .fn _ cap=>d5 cap
 | _=>true
where d5:List AV→Bool
 | []=>true
 | v::r=>bj v && d5 r
def fY:AV→Bool
 | .own ..=>true
 | v=>bj v
def dN:List AV→Bool
 | []=>true
 | v::r=>fY v && dN r
def ja:AV→Option PV
 | .pv p=>some p
 | .cI l=>some (.aE l)
 | .own l _=>some (.aE l)
 | _=>none
def er:PV→Bool
 | .agg _=>false
 | _=>true
def chunk (sz:Nat):Nat→List PV→List (List PV)
 | 0,_=>[]
 | n+1,l=>l.take sz::chunk sz n (l.drop sz)
def fm:List AV→Option (List PV)
 | []=>some []
 | v::r=>match ja v,fm r with
   | some p,some ps=>some (p::ps)
   | _,_=>none
def ey (sz:Nat) (ag:Bool) (n:Nat) (cells:List PV):Option (List PV):=
 if ag then some ((chunk sz n cells).map .agg)
 else if sz=1 then some cells else none
def db:List AV→Bool
 | .dT _::_=>true
 | _=>false
def cD (sh:Sh):AV→Option PV
 | .aX b sz n ag=>match sh[b]? with
   | some (some cells)=>if cells.length=n*sz then ((fm cells).bind (ey sz ag n)).map .aE
     else if db cells=false∧n*sz≤cells.length then ((fm (cells.take (n*sz))).bind (ey sz ag n)).map .aE else none
   | _=>none
 | v=>ja v
def cU (sh:Sh):List AV→Option (List PV)
 | []=>some []
 | v::r=>if aH v=true then
     match cD sh v,cU sh r with
     | some p,some ps=>some (p::ps)
     | _,_=>none
   else none
def eo (sh:Sh):AV→Option PV
 | .agg cs=>(cU sh cs).map .agg
 | v=>cD sh v
def bY (sh:Sh):List AV→Option (List PV)
 | []=>some []
 | v::r=>match eo sh v,bY sh r with
   | some p,some ps=>some (p::ps)
   | _,_=>none
def dj:AV→List Nat
 | .aX b _ _ _=>[b]
 | .agg cs=>cs.flatMap fun | .aX b _ _ _=>[b] | _=>[]
 | _=>[]
def kill (sh:Sh) (l:List Nat):Sh:=l.foldl (fun s b=>s.set b none) sh
def ck (sh:Sh) (vs:List AV):Sh:=kill sh (vs.flatMap dj)
def aw (n:Nat):AV→Bool
 | .un | .pv _ | .cI _ | .own .. | .gz | .ek _ | .dT _=>true
 | .aJ b _ | .aX b _ _ _ | .gA b=>decide (b<n)
 | .fn _ cap=>bG n cap
 | .agg cs=>bG n cs
 | _=>false
where bG (n:Nat):List AV→Bool
 | []=>true
 | v::r=>aw n v && bG n r
def zU:CK→PV→PV→Option Bool
 | .int,.int k a,.int k' b=>if k=k' then some (a == b) else none
 | .str,.str a,.str b=>some (a == b)
 | .bool,.bool a,.bool b=>some (a == b)
 | _,_,_=>none
def wg:List CK→List PV→List PV→Option Bool
 | [],[],[]=>some true
 | c::cs,p::ps,q::qs=>match zU c p q with
   | some true=>wg cs ps qs
   | some false=>if ps.length=cs.length∧qs.length=cs.length then some false else none
   | none=>none
 | _,_,_=>none
def Eb (c:CK):List (PV×PV)→PV→Option (Option PV)
 | [],_=>some none
 | (k',v)::r,k=>match zU c k k' with
   | some true=>some (some v)
   | some false=>Eb c r k
   | none=>none
def zV (c:CK):List (PV×PV)→PV→PV→Option (List (PV×PV))
 | [],k,p=>some [(k,p)]
 | (k',v)::r,k,p=>match zU c k k' with
   | some true=>some ((k,p)::r)
   | some false=>(zV c r k p).map ((k',v)::·)
   | none=>none
def Gp (ok:Bool) (zero:PV) (r:Option PV):AV:=if ok then .kP [.pv (r.getD zero),.pv (.bool r.isSome)] else .pv (r.getD zero)
def bW (op:BinOp):AV→AV→Option AV
 | .pv (.int k a),.pv (.int k' b)=>
   if k=k'∨op=.shl∨op=.shr then
     match op with
     | .add=>some (.pv (.int k (k.wrap (a+b))))
     | .sub=>some (.pv (.int k (k.wrap (a-b))))
     | .mul=>some (.pv (.int k (k.wrap (a*b))))
     | .quo=>if b=0 then none else some (.pv (.int k (k.wrap (a.tdiv b))))
     | .rem=>if b=0 then none else some (.pv (.int k (a.tmod b)))
     | .eql=>some (.pv (.bool (a == b)))
     | .neq=>some (.pv (.bool (a != b)))
     | .lss=>some (.pv (.bool (decide (a<b))))
     | .leq=>some (.pv (.bool (decide (a≤b))))
     | .gtr=>some (.pv (.bool (decide (a > b))))
     | .geq=>some (.pv (.bool (decide (a≥b))))
     | .and=>some (.pv (.int k (k.wrap (BitVec.ofInt k.bits a &&& BitVec.ofInt k.bits b).toNat)))
     | .shl=>if b<0 then none else some (.pv (.int k (k.wrap (a*2 ^ (min b.toNat k.bits)))))
     | .shr=>if b<0 then none else some (.pv (.int k (a.fdiv (2 ^ (min b.toNat k.bits)))))
     | _=>none
   else none
 | .pv (.str a),.pv (.str b)=>
   match op with
   | .add=>if a.length+b.length≤9223372036854775807 then some (.pv (.str (a++b))) else none
   | .eql=>some (.pv (.bool (a == b)))
   | .neq=>some (.pv (.bool (!(a == b))))
   | .lss=>some (.pv (.bool (d8 a b)))
   | .gtr=>some (.pv (.bool (!(d8 a b || a == b))))
   | .leq=>some (.pv (.bool (d8 a b || a == b)))
   | .geq=>some (.pv (.bool (!d8 a b)))
   | _=>none
 | _,_=>none
where d8:List UInt8→List UInt8→Bool
 | _,[]=>false
 | [],_::_=>true
 | a::x,b::y=>a<b || (a == b && d8 x y)
def FD (op:UnOp):AV→Option AV
 | .pv (.bool b)=>match op with | .not=>some (.pv (.bool !b)) | _=>none
 | .pv (.int k n)=>match op with | .neg=>some (.pv (.int k (k.wrap (0-n)))) | _=>none
 | _=>none
def cy:AV→Option (List PV)
 | .pv (.aE l)=>some l
 | .cI l=>some l
 | .own l _=>some l
 | _=>none
def a6 (sz:Nat):List PV→Bool
 | []=>true
 | p::_=>(aL p).length == sz
def aO (cells:List AV) (off:Nat) (vs:List AV):List AV:=cells.take off++vs++cells.drop (off+vs.length)
def hZ (cells:List AV):List (Nat×Nat)→List AV→Option (List AV)
 | [],[]=>some cells
 | (off,sz)::ps,v::vs=>
   if (aM v).length=sz∧off+sz≤cells.length∧(aM v).all aH=true then hZ (aO cells off (aM v)) ps vs else none
 | _,_=>none
def br (ag:Bool) (sz:Nat) (cs:List AV) (off:Nat):Option AV:=
 if off+sz≤cs.length then
   if ag then some (.agg ((cs.drop off).take sz))
   else if sz=1 then cs[off]? else none
 else none
def bN (ag:Bool) (sz:Nat) (cs:List PV):Option AV:=
 if sz≤cs.length then
   if ag then some (.pv (.agg (cs.take sz)))
   else if sz=1 then (cs[0]?).map .pv else none
 else none
def gD (lo hi mx:Bool) (n:Nat) (rest:List AV):Option (Int×Int×Option Int):=
 match lo,hi,mx,rest with
 | false,false,false,[]=>some (0,n,none)
 | true,false,false,[.pv (.int _ l)]=>some (l,n,none)
 | false,true,false,[.pv (.int _ h)]=>some (0,h,none)
 | true,true,false,[.pv (.int _ l),.pv (.int _ h)]=>some (l,h,none)
 | false,true,true,[.pv (.int _ h),.pv (.int _ m)]=>some (0,h,some m)
 | true,true,true,[.pv (.int _ l),.pv (.int _ h),.pv (.int _ m)]=>some (l,h,some m)
 | _,_,_,_=>none
def dX (str:Bool) (sz:Nat) (lo hi mx:Bool):List AV→Option AV
 | x::rest=>if str then
     match x with
     | .pv (.str s)=>match gD lo hi mx s.length rest with
       | some (l,h,none)=>if 0≤l∧l≤h∧h≤s.length then some (.pv (.str ((s.take h.toNat).drop l.toNat))) else none
       | _=>none
     | _=>none
   else match cy x with
     | some els=>match gD lo hi mx els.length rest with
       | some (l,h,m)=>if 0≤l∧l≤h∧h≤els.length∧(l=0∨a6 sz els=true) then
           match m with
           | some m=>if m=h then some (.cI ((els.take h.toNat).drop l.toNat)) else none
           | none=>some (.pv (.aE ((els.take h.toNat).drop l.toNat)))
         else none
       | none=>none
     | none=>none
 | []=>none
def jB (sz:Nat) (lo hi:Bool):List AV→Option AV
 | .aX b z n ag::rest=>if z=sz then
     match gD lo hi false n rest with
     | some (l,h,none)=>if 0≤l∧l≤h∧h≤n then some (if l=0 then .aX b z h.toNat ag else .lN b (l.toNat*sz) (h.toNat-l.toNat)) else none
     | _=>none
   else none
 | _=>none
def qp (sz:Nat):AV→Option (Nat×Nat×Nat)
 | .aX b z n _=>if z=sz then some (b,0,n) else none
 | .lN b off n=>some (b,off,n)
 | _=>none
def l9 (sz:Nat) (zero:List PV) (sh:Sh):Option (Nat×Nat×Nat)→Option Sh
 | some (b,off,n)=>match sh[b]? with
   | some (some cells)=>if db cells=false∧off+n*sz≤cells.length∧zero.length=sz then some (sh.set b (some (aO cells off (List.replicate n (zero.map .pv)).flatten))) else none
   | _=>none
 | none=>none
def og (sz:Nat) (sh:Sh) (xs:List PV):AV→Option (Nat×Sh)
 | .aX b z n _=>match sh[b]? with
   | some (some cells)=>if z=sz∧a6 sz xs=true∧db cells=false∧n*sz≤cells.length then
       some (min xs.length n,sh.set b (some (aO cells 0 (((xs.take n).flatMap aL).map .pv)))) else none
   | _=>none
 | _=>none
def dO:List PV→Option (List UInt8)
 | []=>some []
 | .int .u8 n::r=>if 0≤n∧n<256 then (dO r).map (UInt8.ofNat n.toNat::·) else none
 | _=>none
def a5:Co→List AV→Option AV
 | .mv,[x]=>some x
 | .pick,[.pv (.bool c),a,b]=>some (if c then a else b)
 | .bin op,[a,b]=>bW op a b
 | .beq neg,[.pv (.bool a),.pv (.bool b)]=>some (.pv (.bool (if neg then !(a == b) else (a == b))))
 | .un op,[a]=>FD op a
 | .conv k,[.pv (.int _ n)]=>some (.pv (.int k (k.wrap n)))
 | .ext i,[.kP vs]=>vs[i]?
 | .field off sz ag,[x]=>match x with
   | .agg cs=>br ag sz cs off
   | .pv (.agg cs)=>bN ag sz (cs.drop off)
   | _=>none
 | .eI off,[x]=>match x with
   | .aN d o=>some (.aN d (o+off))
   | .aJ b o=>some (.aJ b (o+off))
   | .ek cs=>some (.ek (cs.drop off))
   | _=>none
 | .fh sz,[x,.pv (.int _ i)]=>
   if i<0 then none else
   match x with
   | .aX b sz' n _=>if sz=sz'∧i.toNat<n then some (.aJ b (i.toNat*sz)) else none
   | x=>match cy x with
     | some els=>match els[i.toNat]? with
       | some el=>if (aL el).length=sz then some (.ek (aL el)) else none
       | none=>none
     | none=>none
 | .index,[.pv (.str s),.pv (.int _ i)]=>if i<0 then none else (s[i.toNat]?).map fun b=>.pv (.int .u8 b.toNat)
 | .build zero places,vs=>(hZ (zero.map zeroCell) places vs).map .agg
 | .dM sz,vs=>(bY [] vs).bind fun els=>if els.all (fun e=>(aL e).length == sz) then some (.cI els) else none
 | .fX sz ag,[.ek cs]=>bN ag sz cs
 | .slice str sz lo hi mx,vs=>dX str sz lo hi mx vs
 | .s9 sz lo hi,vs=>jB sz lo hi vs
 | .s8,[.pv (.str s)]=>some (.pv (.int .i64 s.length))
 | .len,[x]=>match x with
   | .aX _ _ n _=>some (.pv (.int .i64 n))
   | x=>(cy x).map fun l=>.pv (.int .i64 l.length)
 | .ki,[x]=>match x with
   | .aN .. | .aJ .. | .ek _ | .fn ..=>some x
   | _=>none
 | .mn,[.pv (.int k x),.pv (.int k' y)]=>if k=k' then some (.pv (.int k (if y<x then y else x))) else none
 | .mx,[.pv (.int k x),.pv (.int k' y)]=>if k=k' then some (.pv (.int k (if y > x then y else x))) else none
 | .Cp g,cap=>some (.fn g cap)
 | .b2s,[x]=>((cy x).bind dO).map fun s=>.pv (.str s)
 | .Hu cs neg,[x,y]=>match eo [] x,eo [] y with
   | some (.agg ps),some (.agg qs)=>(wg cs ps qs).map fun b=>.pv (.bool (if neg then !b else b))
   | _,_=>none
 | _,_=>none
where zeroCell:PV→AV
 | .aE []=>.cI []
 | p=>.pv p
structure Out where
 val:AV
 cells:Option (List AV)
 sh:Sh
 aa:aq
structure dr where
 p:Nat→List PV→Option (List PV)
 i:Nat→List AV→Sh→aq→Option (List AV×Sh×aq)
def l_:List PV→AV
 | [r]=>.pv r
 | rs=>.kP (rs.map .pv)
def mc:List AV→AV
 | [r]=>r
 | rs=>.kP rs
def i1 (v:AV):AV:=match eo [] v with | some p=>.pv p | none=>v
def AK.key:AK→Option Nat
 | .bU k _ _ _ | .bA k _ _ | .alloc k _ | .box k _ | .fj k _ _ _=>some k
 | _=>none
def bn (sz bytes:Nat) (s x:AV) (aa:aq):Option (AV×aq):=
 match cy x with
 | none=>none
 | some xs=>if a6 sz xs=true then
   match s with
   | .cI l=>if xs.isEmpty=true then some (.cI l,aa) else if a6 sz l=true∧(l.length+xs.length)*bytes≤140737488355328 then
       some (.own (l++xs) aa.length,aa++[(l++xs).length]) else none
   | .own l τ=>if aa[τ]?=some l.length∧a6 sz l=true∧(l.length+xs.length)*bytes≤140737488355328 then
       some (.own (l++xs) τ,aa.set τ (l++xs).length) else none
   | _=>none
   else none
def qq:List PV→List PV→Bool
 | [],[]=>true
 | .str a::r,.str b::q=>(a == b) && qq r q
 | _,_=>false
def Hv (sz bytes:Nat) (xs:List PV) (s e:AV) (aa:aq):Option PV:=
 match s,e with
 | .own l τ,.own m σ=>if τ=σ∧aa[τ]?=some m.length∧m.length=l.length+xs.length∧a6 1 l=true∧a6 1 xs=true∧sz=1 ∧
     qq (m.drop l.length) xs=true∧xs.isEmpty=false∧m.length*bytes≤140737488355328 then some (.aE (l++xs)) else none
 | _,_=>none
def me (sz bytes:Nat) (ag:Bool) (s:AV) (xs:List PV) (sh:Sh):Option (AV×Sh):=
 if xs.isEmpty=true then some (s,sh) else if xs.length*bytes≤140737488355328 then some (.aX sh.length sz xs.length ag,sh++[some ((xs.flatMap aL).map .pv)]) else none
def lO (sz bytes:Nat) (ag:Bool) (s:AV) (xs:List PV) (sh:Sh) (aa:aq):Option (AV×Sh):=
 match s with
 | .cI []=>me sz bytes ag s xs sh
 | .own [] τ=>if aa[τ]?=some 0 then me sz bytes ag s xs sh else none
 | .aX b z n g=>match sh[b]? with
   | some (some cells)=>if z=sz∧g=ag∧db cells=false∧n*sz≤cells.length∧(n+xs.length)*bytes≤140737488355328 then
       if xs.isEmpty=true then some (.aX b sz n ag,sh) else some (.aX sh.length sz (n+xs.length) ag,sh.set b none++[some (cells.take (n*sz)++(xs.flatMap aL).map .pv)])
     else none
   | _=>none
 | _=>none
def gn (o:Option Bool) (sz bytes:Nat) (x:AV) (sh:Sh) (aa:aq):Option (AV×Sh×aq):=match o with
 | none=>(bn sz bytes (.cI []) x aa).map fun (v,ts)=>(v,sh,ts)
 | some ag=>match cy x with
   | some xs=>if a6 sz xs=true then (me sz bytes ag (.cI []) xs sh).map fun (v,sh')=>(v,sh',aa) else none
   | none=>none
def cM (aC ts:aq):AV→AV×aq×aq
 | .own l τ=>if aC[τ]?=some l.length then (.own l ts.length,aC.set τ (l.length+1),ts++[l.length]) else (.pv (.aE l),aC,ts)
 | v=>(v,aC,ts)
def bH (aC ts:aq):List AV→List AV×aq×aq
 | []=>([],aC,ts)
 | v::r=>((cM aC ts v).1::(bH (cM aC ts v).2.1 (cM aC ts v).2.2 r).1,(bH (cM aC ts v).2.1 (cM aC ts v).2.2 r).2)
def a7 (aC ts:aq):AV→AV×aq×aq
 | .own l τ=>if aC[τ]?=some l.length then (.own l ts.length,aC.set τ (l.length+1),ts++[l.length]) else (.pv (.aE l),aC,ts)
 | .cI l=>(.own l ts.length,aC,ts++[l.length])
 | .agg cs=>if bj.d5 cs=true then (.agg cs,aC,ts) else (.agg (bH aC ts cs).1,(bH aC ts cs).2.1,(bH aC ts cs).2.2)
 | v=>(v,aC,ts)
def aS (aC ts:aq):List AV→List AV×aq×aq
 | []=>([],aC,ts)
 | v::r=>((a7 aC ts v).1::(aS (a7 aC ts v).2.1 (a7 aC ts v).2.2 r).1,(aS (a7 aC ts v).2.1 (a7 aC ts v).2.2 r).2)
def bt (aC ts:aq):Sh→Sh×aq×aq
 | []=>([],aC,ts)
 | none::r=>(none::(bt aC ts r).1,(bt aC ts r).2)
 | some cs::r=>(some (aS aC ts cs).1::(bt (aS aC ts cs).2.1 (aS aC ts cs).2.2 r).1,(bt (aS aC ts cs).2.1 (aS aC ts cs).2.2 r).2)
def bQ (aa:aq) (xs:List AV) (sh:Sh):List AV×Sh×aq×aq:=
 ((aS aa [] xs).1,(bt (aS aa [] xs).2.1 (aS aa [] xs).2.2 sh).1,(bt (aS aa [] xs).2.1 (aS aa [] xs).2.2 sh).2.1,(bt (aS aa [] xs).2.1 (aS aa [] xs).2.2 sh).2.2)
def gE:AV→Bool
 | .own ..=>true
 | v=>bm v
def dt:List AV→Bool
 | []=>true
 | v::r=>gE v && dt r
def bg:AV→Bool
 | .own ..=>true
 | .agg cs=>dt cs
 | v=>bm v
def eP (n:Nat):AV→AV
 | .own l τ=>.own l (τ+n)
 | v=>v
def cm (n:Nat):AV→AV
 | .own l τ=>.own l (τ+n)
 | .agg cs=>if bj.d5 cs=true then .agg cs else .agg (cs.map (eP n))
 | v=>v
def fo (n:Nat) (sh:Sh):Sh:=sh.map fun o=>o.map fun cs=>cs.map (cm n)
def dc (own:List Nat):Nat→List AV→List AV
 | _,[]=>[]
 | i,v::r=>(if own.contains i then v else i1 v)::dc own (i+1) r
def cE (orc:dr) (g:Nat) (own:List Nat) (vals:List AV) (sh:Sh) (aa:aq):Option (AV×Sh×aq):=
 if (dc own 0 vals).all bg=true then
   (orc.i g (bQ aa (dc own 0 vals) sh).1 (bQ aa (dc own 0 vals) sh).2.1 (bQ aa (dc own 0 vals) sh).2.2.2).map fun (rs,sh',ts)=>
     (mc (rs.map (cm aa.length)),fo aa.length sh',(bQ aa (dc own 0 vals) sh).2.2.1++ts)
 else none
def bE (v:AV):List AV:=match v with
 | .cI l=>[.cI l]
 | .own l τ=>[.own l τ]
 | v=>match eo [] v with | some p=>aM (.pv p) | none=>aM v
mutual
def iZ:PV→PV→Bool
 | .bool a,.bool b=>a == b
 | .int k a,.int l b=>decide (k=l) && (a == b)
 | .str a,.str b=>a == b
 | .agg a,.agg b=>jC a b
 | .aE a,.aE b=>jC a b
 | _,_=>false
def jC:List PV→List PV→Bool
 | [],[]=>true
 | a::r,b::q=>iZ a b && jC r q
 | _,_=>false
end
def Ft:AV→AV→Bool
 | .pv a,.pv b=>iZ a b
 | _,_=>false
def nH:List AV→List AV→Bool
 | [],[]=>true
 | a::r,b::q=>Ft a b && nH r q
 | _,_=>false
def i0:Sh→Sh→Bool
 | [],[]=>true
 | none::r,none::q=>i0 r q
 | some a::r,some b::q=>nH a b && i0 r q
 | _,_=>false
def GB (sh:Sh):AV×Sh×aq→Option Out
 | (v,sh',ts)=>if i0 sh' sh=true then some ⟨v,none,sh,ts⟩ else none
def exec (orc:dr) (op:AK) (vals:List AV) (cells:Option (List AV)) (sh:Sh) (aa:aq):Option Out:=
 match op,vals with
 | .v o,vals=>(a5 o vals).map fun x=>⟨x,none,sh,aa⟩
 | .bU key off sz ag,[.aN d o]=>if d=key∧o=off then
     match cells with
     | some cs=>(br ag sz cs off).map fun x=>⟨x,none,sh,aa⟩
     | none=>none
   else none
 | .bA key off sz,[.aN d o,v]=>if d=key∧o=off∧(aM v).length=sz∧(aM v).all aH=true then
     match cells with
     | some cs=>if off+sz≤cs.length then some ⟨.un,some (aO cs off (aM v)),sh,aa⟩ else none
     | none=>none
   else none
 | .alloc key zero,[]=>match cells with
   | none=>some ⟨.aN key 0,some (zero.map a5.zeroCell),sh,aa⟩
   | some _=>none
 | .box key sz,[v]=>match cells with
   | none=>if (aM v).length=sz∧(aM v).all aH=true then some ⟨.aN key 0,some (aM v),sh,aa⟩ else none
   | some _=>none
 | .dJ sz ag,[p]=>match p with
   | .ek cs=>(bN ag sz cs).map fun x=>⟨x,none,sh,aa⟩
   | .aJ b off=>match sh[b]? with
     | some (some cs)=>if db cs=true then none else (br ag sz cs off).map fun x=>⟨x,none,sh,aa⟩
     | _=>none
   | _=>none
 | .ev sz,[.aJ b off,v]=>match sh[b]? with
   | some (some cs)=>
     let vs:=bE v
     if db cs=false∧vs.length=sz∧off+sz≤cs.length∧vs.all cp=true∧vs.all (aw (b+1))=true then
       some ⟨.un,none,sh.set b (some (aO cs off vs)),aa⟩ else none
   | _=>none
 | .kj sz,[v]=>
   let vs:=bE v
   if vs.length=sz∧vs.all cp=true∧vs.all (aw sh.length)=true then
     some ⟨.aJ sh.length 0,none,sh++[some vs],aa⟩ else none
 | .gl zero,[]=>some ⟨.aJ sh.length 0,none,sh++[some (zero.map a5.zeroCell)],aa⟩
 | .hU sz bytes ag zero,[.pv (.int _ n),.pv (.int _ n')]=>
   if n=n'∧0≤n∧n≤9223372036854775807∧n*bytes≤140737488355328∧zero.length=sz then
     some ⟨.aX sh.length sz n.toNat ag,none,sh++[some ((List.replicate n.toNat (zero.map .pv)).flatten)],aa⟩ else none
 | .fj key sz bytes zero,[.pv (.int _ n),.pv (.int _ n')]=>match cells with
   | none=>if n=n'∧0≤n∧n≤9223372036854775807∧n*bytes≤140737488355328∧zero.length=sz then
       some ⟨.gB key n.toNat,some ((List.replicate n.toNat (zero.map .pv)).flatten),sh,aa⟩ else none
   | some _=>none
 | .append sz bytes,[s,x]=>(bn sz bytes s x aa).map fun (v,ts)=>⟨v,none,sh,ts⟩
 | .cR sz bytes ag,[s,x]=>match cy x with
   | some xs=>if a6 sz xs=true then (lO sz bytes ag s xs sh aa).map fun (v,sh')=>⟨v,none,sh',aa⟩ else none
   | none=>none
 | .clone sz bytes,[x]=>(bn sz bytes (.cI []) x aa).map fun (v,ts)=>⟨v,none,sh,ts⟩
 | .ig sz bytes ag,[x]=>(gn (some ag) sz bytes x sh aa).map fun (v,sh',ts)=>⟨v,none,sh',ts⟩
 | .gm sz zero,[x]=>(l9 sz zero sh (qp sz x)).map fun sh'=>⟨.kP [],none,sh',aa⟩
 | .ij sz,[x,y]=>match cy y with
   | some xs=>(og sz sh xs x).map fun (k,sh')=>⟨.pv (.int .i64 (k:Int)),none,sh',aa⟩
   | none=>none
 | .aR g,vals=>match bY [] vals with
   | some bZ=>(orc.p g bZ).map fun rs=>⟨l_ rs,none,sh,aa⟩
   | none=>none
 | .ew g,vals=>match bY sh vals with
   | some bZ=>(orc.p g bZ).map fun rs=>⟨l_ rs,none,ck sh vals,aa⟩
   | none=>none
 | .bV g own,vals=>(cE orc g own vals sh aa).map fun (v,sh',ts)=>⟨v,none,sh',ts⟩
 | .ik g,vals=>match bY [] vals with
   | some bZ=>match orc.i g (bZ.map .pv) [] [] with
     | some (rs,[],ts)=>some ⟨mc (rs.map (cm aa.length)),none,sh,aa++ts⟩
     | _=>none
   | none=>none
 | .da,f::vals=>match f with
   | .fn g cap=>(cE orc g [] (vals++cap) sh aa).bind (GB sh)
   | _=>none
 | .fl,f::vals=>match f with
   | .fn g cap=>(cE orc g [] (vals++cap) sh aa).map fun (v,sh',ts)=>⟨v,none,sh',ts⟩
   | _=>none
 | _,_=>none
def et (env:List (Nat×AV)):di→Option AV
 | .t n=>look env n
 | .c v=>some v
def cJ (env:List (Nat×AV)):List di→Option (List AV)
 | []=>some []
 | x::r=>match et env x,cJ env r with
   | some v,some vs=>some (v::vs)
   | _,_=>none
def dH (env:List (Nat×AV)):Option (Nat×Bool)→Option Bool
 | none=>some true
 | some (t,b)=>match look env t with
   | some (.pv (.bool c))=>some (c == b)
   | some .un=>some false
   | _=>none
def dP (env:List (Nat×AV)):Option Nat→AV→List (Nat×AV)
 | some d,v=>cC env d v
 | none,_=>env
def dk (mem:List (Nat×List AV)):Option Nat→Option (List AV)→List (Nat×List AV)
 | some k,some cs=>cC mem k cs
 | _,_=>mem
def cG (orc:dr) (o:cB) (st:St):Option St:=
 match dH st.env o.guard with
 | none=>none
 | some false=>some { st with env:=dP st.env o.dst .un }
 | some true=>
   match cJ st.env o.args with
   | none=>none
   | some vals=>
     match exec orc o.op vals (o.op.key.bind (look st.mem)) st.sh st.aa with
     | none=>none
     | some out=>some { env:=dP st.env o.dst out.val,mem:=dk st.mem o.op.key out.cells,sh:=out.sh,aa:=out.aa }
def aY (orc:dr):List cB→St→Option St
 | [],st=>some st
 | o::r,st=>match cG orc o st with
   | none=>none
   | some st'=>aY orc r st'
def cK (live:List Nat):AV→Bool
 | .aN d _=>live.contains d
 | .gB d _=>live.contains d
 | .own ..=>true
 | .agg cs=>dN cs
 | v=>bj v
def aZ (live:List Nat) (env:List (Nat×AV)):List Nat→List (Nat×AV)
 | []=>[]
 | t::r=>match look env t with
   | some v=>if cK live v=true then (t,v)::aZ live env r else aZ live env r
   | none=>aZ live env r
def a8 (mem:List (Nat×List AV)):List Nat→List (Nat×List AV)
 | []=>[]
 | t::r=>match look mem t with
   | some v=>(t,v)::a8 mem r
   | none=>a8 mem r
def restrict (live:List Nat) (st:St):St:=
 { st with env:=aZ live st.env live,mem:=a8 st.mem live }
def cd (aC ts:aq):List (Nat×AV)→List (Nat×AV)×aq×aq
 | []=>([],aC,ts)
 | (t,v)::r=>((t,(a7 aC ts v).1)::(cd (a7 aC ts v).2.1 (a7 aC ts v).2.2 r).1,(cd (a7 aC ts v).2.1 (a7 aC ts v).2.2 r).2)
def dv (aC ts:aq):List (Nat×List AV)→List (Nat×List AV)×aq×aq
 | []=>([],aC,ts)
 | (t,v)::r=>((t,(aS aC ts v).1)::(dv (aS aC ts v).2.1 (aS aC ts v).2.2 r).1,(dv (aS aC ts v).2.1 (aS aC ts v).2.2 r).2)
def norm (st:St):St:=
 { env:=(cd st.aa [] st.env).1,
   mem:=(dv (cd st.aa [] st.env).2.1 (cd st.aa [] st.env).2.2 st.mem).1,
   sh:=(bt (dv (cd st.aa [] st.env).2.1 (cd st.aa [] st.env).2.2 st.mem).2.1 (dv (cd st.aa [] st.env).2.1 (cd st.aa [] st.env).2.2 st.mem).2.2 st.sh).1,
   aa:=(bt (dv (cd st.aa [] st.env).2.1 (cd st.aa [] st.env).2.2 st.mem).2.1 (dv (cd st.aa [] st.env).2.1 (cd st.aa [] st.env).2.2 st.mem).2.2 st.sh).2.2 }
inductive aP where
 | normal | ret | exit (id:Nat)
 deriving Inhabited,DecidableEq
def dw (f:St→Option (aP×St)) (pre:St→St):Nat→St→Option (aP×St)
 | 0,_=>none
 | n+1,st=>match f (pre st) with
   | some (.normal,st')=>dw f pre n st'
   | r=>r
def Ec (sz:Nat) (ag:Bool) (el:PV):Option AV:=if (aL el).length=sz then bN ag sz (aL el) else none
def kQ (f:St→Option (aP×St)) (live:List Nat) (pi px sz:Nat) (ag:Bool) (env:List (Nat×AV)):List (PV×Nat)→St→Option (aP×St)
 | [],st=>some (.normal,{ st with env:=env })
 | (el,i)::r,st=>match Ec sz ag el with
   | none=>none
   | some v=>match f (norm (restrict live { st with env:=cC (cC env pi (.pv (.int .i64 i))) px v })) with
     | some (.normal,st')=>kQ f live pi px sz ag env r st'
     | some (e,st')=>some (e,{ st' with env:=env })
     | none=>none
def andThen (f g:St→Option (aP×St)) (st:St):Option (aP×St):=match f st with
 | some (.normal,st')=>g st'
 | _=>none
def Cs (live:List Nat) (env:List (Nat×AV)):List (Nat×AV):=(aZ live env live).filter fun p=>bj p.2
def im (f:St→Option (aP×St)) (v:Option AV) (gb pi px sz:Nat) (ag:Bool) (live:List Nat) (st:St):Option (aP×St):=
 match v with
 | some (.fn g [.aJ s 0])=>if g=gb then
     match st.sh[s]? with
     | some (some [.pv (.aE l)])=>if l.length<4611686018427387904 then kQ f live pi px sz ag (Cs live st.env) l.zipIdx.reverse { st with sh:=kill st.sh [s] } else none
     | _=>none
   else none
 | _=>none
def s_:AV→St→St
 | .aN d 0,st=>match look st.mem d with
   | some cs=>match cU st.sh cs with
     | some ps=>{ st with mem:=cC st.mem d (ps.map .pv),sh:=ck st.sh [.agg cs] }
     | none=>st
   | none=>st
 | _,st=>st
def jb:List Nat→St→St
 | [],st=>st
 | t::r,st=>match look st.env t with
   | some v=>match eo st.sh v with
     | some p=>jb r { st with env:=cC st.env t (.pv p),sh:=ck st.sh [v] }
     | none=>jb r (s_ v st)
   | none=>jb r st
def apart:Option AV→Option AV→Bool
 | some (.aJ b _),some (.aJ b' _)=>b != b'
 | _,_=>false
def eQ (env:List (Nat×AV)):List (Nat×Nat)→Bool
 | []=>true
 | (a,b)::r=>apart (look env a) (look env b) && eQ env r
def Ed (d s sz n:Nat) (ag:Bool):AV→Option AV
 | .aN d' o=>some (if d'=d then .aJ s o else .aN d' o)
 | .gB d' m=>if d'=d then (if m*sz≤n then some (.aX s sz m ag) else none) else some (.gB d' m)
 | v=>if cK [] v=true then some v else none
def w8 (d s sz n:Nat) (ag:Bool) (env:List (Nat×AV)):List Nat→List (Nat×AV)
 | []=>[]
 | t::r=>match (look env t).bind (Ed d s sz n ag) with
   | some v=>(t,v)::w8 d s sz n ag env r
   | none=>w8 d s sz n ag env r
def w9 {α:Type} (d:Nat):List (Nat×α)→List (Nat×α)
 | []=>[]
 | (k,v)::r=>if k=d then w9 d r else (k,v)::w9 d r
def Ee (d sz:Nat) (ag:Bool) (st:St):St:=match look st.mem d with
 | some cells=>if cells.all cp=true∧cells.all (aw (st.sh.length+1))=true then
     { st with env:=w8 d st.sh.length sz cells.length ag st.env (st.env.map (·.1)),mem:=w9 d st.mem,sh:=st.sh++[some cells] } else st
 | none=>st
def zW:List (Nat×Nat×Bool)→St→St
 | [],st=>st
 | (d,sz,ag)::r,st=>zW r (Ee d sz ag st)
def ta (b b':Nat):List Nat→List (Nat×AV)→List (Nat×AV)
 | [],env=>env
 | t::r,env=>match look env t with
   | some (.aX s z n ag)=>if s=b then ta b b' r (cC env t (.aX b' z n ag)) else ta b b' r env
   | _=>ta b b' r env
def zX:List Nat→St→St
 | [],st=>st
 | t::r,st=>match look st.env t with
   | some (.aX b _ _ _)=>match st.sh[b]? with
     | some (some cells)=>if db cells=false then { st with env:=ta b st.sh.length (t::r) st.env,sh:=st.sh.set b none++[some cells] } else st
     | _=>st
   | _=>st
def jD:List Nat→St→St
 | [],st=>st
 | t::r,st=>match look st.env t with
   | some (.aX b _ _ _)=>match st.sh[b]? with
     | some (some cells)=>if db cells=false∧(dj (.agg cells)).contains b=false then
         match cU st.sh cells with
         | some ps=>jD r { st with sh:=(ck st.sh [.agg cells]).set b (some (ps.map .pv)) }
         | none=>jD r st
       else jD r st
     | _=>jD r st
   | _=>jD r st
def bM (orc:dr) (k:Nat):au→St→Option (aP×St)
 | .skip,st=>some (.normal,st)
 | .oe ops live,st=>match aY orc ops st with
   | some st'=>some (.normal,restrict live st')
   | none=>none
 | .seq a b,st=>match bM orc k a st with
   | some (.normal,st')=>bM orc k b st'
   | r=>r
 | .cond c a b,st=>match et st.env c with
   | some (.pv (.bool t))=>if t then bM orc k a st else bM orc k b st
   | _=>none
 | .block id b,st=>match bM orc k b st with
   | some (.exit id',st')=>if id'=id then some (.normal,st') else some (.exit id',st')
   | r=>r
 | .loop live b,st=>dw (bM orc k b) (fun s=>norm (restrict live s)) k st
 | .exit id,st=>some (.exit id,st)
 | .ret,st=>some (.ret,st)
 | .back c gb pi px sz ag live x y,st=>im (andThen (bM orc k x) (bM orc k y)) (et st.env c) gb pi px sz ag live st
 | .eo ts,st=>some (.normal,jb ts st)
 | .DN ds,st=>if eQ st.env ds=true then some (.normal,st) else none
 | .ie ps,st=>some (.normal,zW ps st)
 | .il ts,st=>some (.normal,zX ts st)
 | .Ea ts,st=>some (.normal,jD ts st)
def bp:Nat→List AV→List (Nat×AV)
 | _,[]=>[]
 | i,v::r=>(i,v)::bp (i+1) r
def kR (st:St):kl→Option AV
 | .t n=>look st.env n
 | .c key sz ag=>match look st.env key with
   | some (.aN d 0)=>match look st.mem key with
     | some cs=>if d=key then br ag sz cs 0 else none
     | none=>none
   | some (.aJ s 0)=>match st.sh[s]? with
     | some (some cs)=>if db cs=true then none else br ag sz cs 0
     | _=>none
   | _=>none
def cN (st:St):List kl→Option (List AV)
 | []=>some []
 | r::rs=>match kR st r,cN st rs with
   | some v,some vs=>some (v::vs)
   | _,_=>none
def mf (sh:Sh) (v:AV):AV:=match eo sh v with | some p=>.pv p | none=>v
def mg (sh:Sh) (v:AV):AV:=match v with
 | .cI l=>.cI l
 | v=>if aH v=true then mf sh v else v
def qt (sh:Sh) (v:AV):AV:=match v with
 | .cI l=>.cI l
 | .own l τ=>.own l τ
 | .agg cs=>.agg (cs.map (mg sh))
 | v=>mf sh v
def bB (aF ks:Bool) (sh:Sh) (vs:List AV):List AV:=if aF then (if ks then vs else vs.map (qt sh)) else vs.map (mf sh)
def de (aF ks:Bool) (sh:Sh) (vs:List AV):Sh:=if aF && ks then sh else ck sh vs
def bq (orc:dr) (k:Nat) (aF:Bool) (af:aB) (args:List AV) (sh:Sh) (ts:aq):Option (List AV×Sh×aq):=
 match bM orc k af.body { env:=bp 0 args,mem:=[],sh,aa:=ts } with
 | some (e,st)=>
   if e=.ret∨e=.normal then
     match cN st af.results with
     | some vs=>
       let rs:=bB aF af.ks st.sh vs
       let sh':=if rs.all (aw sh.length)=true then (de aF af.ks st.sh vs).take sh.length else de aF af.ks st.sh vs
       if rs.all bg=true then some ((bQ st.aa rs sh').1,(bQ st.aa rs sh').2.1,(bQ st.aa rs sh').2.2.2) else none
     | none=>none
   else none
 | none=>none
def dQ:List AV→Option (List PV)
 | []=>some []
 | .pv p::r=>(dQ r).map (p::·)
 | _=>none
def run (AP:Nat→Option aB) (k:Nat):Nat→dr
 | 0=>{ p:=fun _ _=>none,i:=fun _ _ _ _=>none }
 | n+1=>
   { p:=fun g bZ=>match AP g with
       | some af=>match af.km with
         | some f=>f.f (run AP k n).p bZ
         | none=>if bZ.length=af.nparams∧bZ.length≤af.ntmps then
             match bq (run AP k n) k false af (bZ.map .pv) [] [] with
             | some (rs,_)=>dQ rs
             | none=>none
           else none
       | none=>none
     i:=fun g args sh ts=>match AP g with
       | some af=>if args.length≤af.ntmps then bq (run AP k n) k true af args sh ts else none
       | none=>none }
end Go.Ab
namespace Go.Ab
theorem Ct {a b c:Prop} (h:a∨b) (f:b→c):a∨c:=h.elim .inl fun x=>.inr (f x)
abbrev aU:=Nat→Nat→Option Value
def At (K:aU) (b o:Nat) (vs:List Value):Prop:=∀j v,vs[j]?=some v→K b (o+j)=some v
mutual
def R (K:aU) (top:Bool):PV→List Value→Prop
 | .bool b,vs=>vs=[.bool b]
 | .int k n,vs=>vs=[.int k n]
 | .str s,vs=>vs=[.string ⟨s.toArray⟩]
 | .agg cs,vs=>top=true∧cx K cs vs
 | .aE els,vs=>∃base len cap,vs=[.slice base len cap]∧len≤cap∧els.length=len∧(els=[]∨∃b o sz,base=some ⟨b,o,none⟩∧Row K b o sz els)
def cx (K:aU):List PV→List Value→Prop
 | [],vs=>vs=[]
 | c::cs,vs=>∃v r,vs=v::r∧R K false c [v]∧cx K cs r
def Row (K:aU) (b o sz:Nat):List PV→Prop
 | []=>True
 | el::r=>(∃vs,vs.length=sz∧At K b o vs∧R K true el vs)∧Row K b (o+sz) sz r
end
def Rel (K:aU):PV→Value→Prop
 | .agg cs,v=>∃vs:List Value,v=.agg vs.toArray∧cx K cs vs
 | p,v=>R K false p [v]
def fW (K:aU):List PV→List Value→Prop
 | [],vs=>vs=[]
 | c::cs,vs=>∃v r,vs=v::r∧Rel K c v∧fW K cs r
def aU.le (K K':aU):Prop:=∀b o v,K b o=some v→K' b o=some v
theorem aU.le_refl (K:aU):K.le K:=fun _ _ _ h=>h
theorem aU.le_trans {a b c:aU} (h:a.le b) (k:b.le c):a.le c:=fun x y z w=>k x y z (h x y z w)
theorem At.mono {K K':aU} (h:K.le K') {b o:Nat} {vs:List Value} (ha:At K b o vs):At K' b o vs:=fun j v hj=>h _ _ _ (ha j v hj)
mutual
theorem R.mono {K K':aU} (h:K.le K'):∀(p:PV) (top:Bool) (vs:List Value),R K top p vs→R K' top p vs
 | .bool _,_,_,hr=>by simpa only [R] using hr
 | .int _ _,_,_,hr=>by simpa only [R] using hr
 | .str _,_,_,hr=>by simpa only [R] using hr
 | .agg cs,_,vs,hr=>by
   simp only [R] at hr ⊢
   exact ⟨hr.1,cx.mono h cs vs hr.2⟩
 | .aE els,_,vs,hr=>by
   simp only [R] at hr ⊢
   obtain ⟨base,len,cap,e1,e0,e2,e3⟩:=hr
   refine ⟨base,len,cap,e1,e0,e2,Ct e3 ?_⟩
   rintro ⟨b,o,sz,e4,e5⟩
   exact ⟨b,o,sz,e4,Row.mono h els b o sz e5⟩
theorem cx.mono {K K':aU} (h:K.le K'):∀(cs:List PV) (vs:List Value),cx K cs vs→cx K' cs vs
 | [],_,hr=>by simpa only [cx] using hr
 | c::cs,vs,hr=>by
   simp only [cx] at hr ⊢
   obtain ⟨v,r,e1,e2,e3⟩:=hr
   exact ⟨v,r,e1,R.mono h c false [v] e2,cx.mono h cs r e3⟩
theorem Row.mono {K K':aU} (h:K.le K'):∀(els:List PV) (b o sz:Nat),Row K b o sz els→Row K' b o sz els
 | [],_,_,_,_=>by simp only [Row]
 | el::r,b,o,sz,hr=>by
   simp only [Row] at hr ⊢
   obtain ⟨⟨vs,e1,e2,e3⟩,e4⟩:=hr
   exact ⟨⟨vs,e1,e2.mono h,R.mono h el true vs e3⟩,Row.mono h r b (o+sz) sz e4⟩
end
theorem Rel.mono {K K':aU} (h:K.le K') {p:PV} {v:Value} (hr:Rel K p v):Rel K' p v:=by
 cases p with
 | agg cs=>obtain ⟨vs,e1,e2⟩:=hr;exact ⟨vs,e1,cx.mono h _ _ e2⟩
 | _=>exact R.mono h _ _ _ hr
theorem fW.mono {K K':aU} (h:K.le K'):∀{cs:List PV} {vs:List Value},fW K cs vs→fW K' cs vs
 | [],_,hr=>hr
 | _::_,_,⟨v,r,e1,e2,e3⟩=>⟨v,r,e1,e2.mono h,fW.mono h e3⟩
theorem cx.length {K:aU}:∀{cs:List PV} {vs:List Value},cx K cs vs→vs.length=cs.length
 | [],_,hr=>by simp only [cx] at hr;simp [hr]
 | _::cs,_,hr=>by
   simp only [cx] at hr
   obtain ⟨v,r,rfl,_,e3⟩:=hr
   simp [cx.length e3]
theorem fW.length {K:aU}:∀{cs:List PV} {vs:List Value},fW K cs vs→vs.length=cs.length
 | [],_,hr=>by cases hr;rfl
 | _::_,_,⟨v,r,rfl,_,e3⟩=>by simp [fW.length e3]
theorem R.length {K:aU} {p:PV} {vs:List Value} (h:R K true p vs):vs.length=(aL p).length:=by
 cases p with
 | agg cs=>simp only [R] at h;simp [aL,h.2.length]
 | aE els=>simp only [R] at h;obtain ⟨b,l,c,rfl,_⟩:=h;rfl
 | _=>simp only [R] at h;subst h;rfl
theorem R.cells {K:aU} {p:PV} {vs:List Value} (h:R K true p vs):cx K (aL p) vs:=by
 cases p with
 | agg cs=>simp only [R] at h;exact h.2
 | aE els=>
   have h':=h
   simp only [R] at h;obtain ⟨b,l,c,rfl,e⟩:=h
   simp only [aL,cx]
   exact ⟨_,[],rfl,by simp only [R];exact ⟨b,l,c,rfl,e⟩,rfl⟩
 | _=>simp only [R] at h;subst h;simp [aL,cx,R]
theorem R.top {K:aU} {p:PV} {vs:List Value} (h:R K false p vs):R K true p vs:=by
 cases p with
 | agg cs=>simp [R] at h
 | _=>simp only [R] at h ⊢;exact h
theorem cx.get {K:aU}:∀{cs:List PV} {vs:List Value},cx K cs vs→∀{j:Nat} {c:PV},cs[j]?=some c→∃v,vs[j]?=some v∧R K false c [v]
 | [],_,_,j,c,hc=>by simp at hc
 | c0::cs,vs,h,j,c,hc=>by
   simp only [cx] at h
   obtain ⟨v,r,rfl,e2,e3⟩:=h
   cases j with
   | zero=>simp at hc;subst hc;exact ⟨v,by simp,e2⟩
   | succ j=>simpa using cx.get e3 (by simpa using hc)
theorem cx.drop {K:aU}:∀(n:Nat) {cs:List PV} {vs:List Value},cx K cs vs→cx K (cs.drop n) (vs.drop n)
 | 0,_,_,h=>by simpa using h
 | n+1,[],_,h=>by simp only [cx] at h;subst h;simp [cx]
 | n+1,_::cs,_,h=>by
   simp only [cx] at h
   obtain ⟨v,r,rfl,_,e3⟩:=h
   simpa using cx.drop n e3
theorem cx.take {K:aU}:∀(n:Nat) {cs:List PV} {vs:List Value},cx K cs vs→cx K (cs.take n) (vs.take n)
 | 0,_,_,_=>by simp [cx]
 | n+1,[],_,h=>by simp only [cx] at h;subst h;simp [cx]
 | n+1,_::cs,_,h=>by
   simp only [cx] at h
   obtain ⟨v,r,rfl,e2,e3⟩:=h
   simp only [List.take_succ_cons,cx]
   exact ⟨v,_,rfl,e2,cx.take n e3⟩
theorem cx.append {K:aU}:∀{cs:List PV} {vs:List Value} {ds:List PV} {us:List Value},cx K cs vs→cx K ds us→cx K (cs++ds) (vs++us)
 | [],_,_,_,h,k=>by simp only [cx] at h;subst h;simpa using k
 | _::cs,_,_,_,h,k=>by
   simp only [cx] at h
   obtain ⟨v,r,rfl,e2,e3⟩:=h
   simp only [List.cons_append,cx]
   exact ⟨v,_,rfl,e2,cx.append e3 k⟩
theorem Row.get {K:aU}:∀{els:List PV} {b o sz:Nat},Row K b o sz els→∀{i:Nat} {el:PV},els[i]?=some el →
   ∃vs,vs.length=sz∧At K b (o+i*sz) vs∧R K true el vs
 | [],_,_,_,_,i,el,h=>by simp at h
 | e0::r,b,o,sz,hr,i,el,h=>by
   simp only [Row] at hr
   obtain ⟨e1,e2⟩:=hr
   cases i with
   | zero=>simp at h;subst h;simpa using e1
   | succ i=>
     obtain ⟨vs,h1,h2,h3⟩:=Row.get e2 (i:=i) (by simpa using h)
     exact ⟨vs,h1,by rw [show o+(i+1)*sz=o+sz+i*sz from by rw [Nat.add_mul];omega];exact h2,h3⟩
theorem cx.one {K:aU}:∀{cs:List PV} {vs:List Value},cx K cs vs→∀u∈vs,u.oneCell'=true
 | [],_,h,u,hu=>by simp only [cx] at h;subst h;simp at hu
 | c::cs,_,h,u,hu=>by
   simp only [cx] at h
   obtain ⟨v,r,rfl,e2,e3⟩:=h
   simp only [List.mem_cons] at hu
   rcases hu with rfl | hu
   · cases c with
     | agg _=>simp [R] at e2
     | aE _=>simp only [R] at e2;obtain ⟨b,l,c,e,_⟩:=e2;simp at e;subst e;rfl
     | _=>simp [R] at e2;subst e2;rfl
   · exact cx.one e3 u hu
theorem Row.flat {K:aU}:∀{els:List PV} {b o sz:Nat},Row K b o sz els →
   ∃vss:List Value,vss.length=els.length*sz∧At K b o vss∧(∀(K':aU) (b' o':Nat),K.le K'→At K' b' o' vss→Row K' b' o' sz els)∧∀u∈vss,u.oneCell'=true
 | [],b,o,sz,_=>⟨[],by simp,by intro j v h;simp at h,by intros;simp only [Row],by simp⟩
 | el::r,b,o,sz,hr=>by
   simp only [Row] at hr
   obtain ⟨⟨vs,h1,h2,h3⟩,h4⟩:=hr
   obtain ⟨vss,g1,g2,g3,g4⟩:=Row.flat h4
   refine ⟨vs++vss,by simp [h1,g1,Nat.add_mul];omega,?_,?_,?_⟩
   · intro j v hj
     rw [List.getElem?_append] at hj
     split at hj
     · exact h2 j v hj
     · have:=g2 _ v hj
       rw [h1] at this
       rwa [show o+sz+(j-sz)=o+j from by omega] at this
   · intro K' b' o' hle ha
     simp only [Row]
     refine ⟨⟨vs,h1,?_,R.mono hle _ _ _ h3⟩,?_⟩
     · intro j v hj
       exact ha j v (by rw [List.getElem?_append_left];exact hj;exact (List.getElem?_eq_some_iff.1 hj).1)
     · refine g3 K' b' (o'+sz) hle ?_
       intro j v hj
       have:=ha (sz+j) v (by rw [List.getElem?_append_right (by omega),h1];simpa using hj)
       rwa [show o'+sz+j=o'+(sz+j) from by omega]
   · intro u hu
     simp only [List.mem_append] at hu
     rcases hu with hu | hu
     · exact cx.one h3.cells u hu
     · exact g4 u hu
theorem Row.append {K:aU}:∀{els:List PV} {b o sz:Nat} {els':List PV},Row K b o sz els→Row K b (o+els.length*sz) sz els'→Row K b o sz (els++els')
 | [],_,_,_,_,_,k=>by simpa using k
 | el::r,b,o,sz,els',h,k=>by
   simp only [Row,List.cons_append] at h ⊢
   refine ⟨h.1,Row.append h.2 ?_⟩
   rw [show o+sz+r.length*sz=o+(el::r).length*sz from by simp [Nat.add_mul];omega]
   exact k
theorem Row.drop {K:aU}:∀(n:Nat) {els:List PV} {b o sz:Nat},Row K b o sz els→Row K b (o+n*sz) sz (els.drop n)
 | 0,_,_,_,_,h=>by simpa using h
 | n+1,[],_,_,_,_=>by simp only [List.drop_nil,Row]
 | n+1,el::r,b,o,sz,h=>by
   simp only [Row] at h
   simp only [List.drop_succ_cons]
   rw [show o+(n+1)*sz=o+sz+n*sz from by rw [Nat.add_mul];omega]
   exact Row.drop n h.2
theorem Row.take {K:aU}:∀(n:Nat) {els:List PV} {b o sz:Nat},Row K b o sz els→Row K b o sz (els.take n)
 | 0,_,_,_,_,_=>by simp only [List.take_zero,Row]
 | n+1,[],_,_,_,_=>by simp only [List.take_nil,Row]
 | n+1,el::r,b,o,sz,h=>by
   simp only [Row] at h
   simp only [List.take_succ_cons,Row]
   exact ⟨h.1,Row.take n h.2⟩
theorem Row.sz {K:aU} {els:List PV} {b o sz s:Nat} (h:Row K b o sz els) (hs:a6 s els=true) (hne:els≠[]):s=sz:=by
 cases els with
 | nil=>exact absurd rfl hne
 | cons el r=>
   simp only [Row] at h
   obtain ⟨⟨vs,h1,_,h3⟩,_⟩:=h
   have:=h3.length
   simp [a6] at hs
   omega
def DO (K:aU) (els:List PV) (base:Option Addr) (len:Nat):Prop:=
 els.length=len∧(els=[]∨∃b o sz,base=some ⟨b,o,none⟩∧Row K b o sz els)
theorem DO.mono {K K':aU} (h:K.le K') {els:List PV} {base:Option Addr} {len:Nat} (hr:DO K els base len):DO K' els base len:=
 ⟨hr.1,Ct hr.2 fun ⟨b,o,sz,e,r⟩=>⟨b,o,sz,e,Row.mono h _ _ _ _ r⟩⟩
theorem bu {K:aU} {els:List PV} {v:Value}:Rel K (.aE els) v↔∃base len cap,v=.slice base len cap∧len≤cap∧DO K els base len:=by
 simp only [Rel,R,DO]
 constructor
 · rintro ⟨b,l,c,e,h⟩;exact ⟨b,l,c,by simpa using e,h⟩
 · rintro ⟨b,l,c,e,h⟩;exact ⟨b,l,c,by simpa using e,h⟩
theorem zY {K:aU} {p:PV} {v:Value} (h:er p=true):Rel K p v↔R K false p [v]:=by
 cases p with
 | agg cs=>simp [er] at h
 | _=>exact Iff.rfl
theorem Rel.Fu {K:aU} {p:PV} {v:Value} (h:R K false p [v]):Rel K p v:=by
 cases p with
 | agg cs=>simp [R] at h
 | _=>exact h
end Go.Ab
namespace Go.Ab
structure gJ where
 ic:List (Nat×Nat×Nat)
 DP:List Nat
 ps:List Nat
 live:List (Nat×List Nat)
 loops:List (Nat×List Nat)
 site:List Nat
 own:List (Nat×List Nat)
 zZ:List (Nat×Nat):=[]
 ks:Bool:=false
 q:List Nat:=[]
 GC:List Nat:=[]
 fz:List (Nat×List Nat):=[]
 dup:List (Nat×Nat):=[]
 ro:List Nat:=[]
 GD:List (Nat×List (Nat×Nat)):=[]
 ie:List (Nat×List (Nat×Nat×Bool)):=[]
 pr:List (Nat×List (Nat×Nat×Nat)):=[]
 cut:List (Nat×Nat×List Nat×List Nat):=[]
 fs:List (Nat×List Nat):=[]
 kp:List Nat:=[]
def gJ.at (A:gJ) (id:Nat):gJ:=match look A.pr id with
 | some l=>{ A with ic:=l++A.ic }
 | none=>A
structure Names where
 g:List (Nat×Nat)
 Hw:List Nat
 bk:List (Nat×Nat×Bool):=[]
 cl:List (Nat×Nat×Nat):=[]
 i3:Nat→Option (Array Value):=fun _=>none
def Names.of (ρ:Names) (f:Nat):Option Nat:=look ρ.g f
def bS (P:Program) (t:TypeId):Option Nat:=(P.info? t).map (·.size)
def df (P:Program) (t:TypeId):Option Nat:=(P.info? t).map (·.bytes)
def eW (P:Program) (t:TypeId):Option Bool:=(P.underlying t).map fun | .struct _ | .array ..=>true | _=>false
def b_:Value→Option PV
 | .bool b=>some (.bool b)
 | .int k n=>some (.int k n)
 | .string s=>some (.str s.data.toList)
 | .slice none 0 0=>some (.aE [])
 | _=>none
def bI {α β:Type} (f:α→Option β):List α→Option (List β)
 | []=>some []
 | x::r=>match f x,bI f r with
   | some y,some ys=>some (y::ys)
   | _,_=>none
def tc (v:Value):Option AV:=
 match v with
 | .slice none 0 0=>some (.cI [])
 | .pointer none=>some .gz
 | .nilFunc=>some .gz
 | .agg cs=>(bI b_ cs.toList).map fun l=>.pv (.agg l)
 | v=>(b_ v).map .pv
def bF (P:Program) (t:TypeId):Option (List PV):=
 match (P.info? t).bind (·.zero) with
 | some z=>bI b_ z.cells.toList
 | none=>none
def eX (ρ:Names):Operand→Option di
 | .tmp t=>some (.t t)
 | .const v=>(tc v).map .c
 | .func f=>(ρ.of f).map fun g=>.c (.fn g [])
 | .global _=>none
def dh (P:Program) (t:TypeId):Option TypeId:=match P.underlying t with | some (.slice e)=>some e | _=>none
def fp (P:Program) (t:TypeId) (f:Nat):Option Field:=match P.underlying t with | some (.struct fs)=>fs[f]? | _=>none
def td (P:Program) (t:TypeId):Option CK:=if bS P t=some 1 then match P.underlying t with
 | some (.int _)=>some .int
 | some .string=>some .str
 | some .bool=>some .bool
 | _=>none
 else none
def te (P:Program):Nat→List Field→Option (List CK)
 | _,[]=>some []
 | i,f::r=>if f.name ≠ "_"∧f.offset=i then match td P f.type,te P (i+1) r with
   | some c,some cs=>some (c::cs)
   | _,_=>none
   else none
def zeroOf (P:Program) (t:TypeId):Option PV:=match (P.info? t).bind (·.zero) with
 | some (.agg cs)=>(bI b_ cs.toList).map .agg
 | some v=>b_ v
 | none=>none
def wh (P:Program) (op:BinOp) (t:TypeId):Option Co:=
 match P.underlying t with
 | some (.int _) | some .string=>some (.bin op)
 | some .bool=>if op=.eql then some (.beq false) else if op=.neq then some (.beq true) else none
 | _=>none
def fieldsOf (P:Program) (t:TypeId):Option (List (Nat×Nat)):=
 match P.underlying t with
 | some (.struct fs)=>bI (fun f=>(bS P f.type).map fun s=>(f.offset,s)) fs.toList
 | _=>none
def placesOf (P:Program) (t:TypeId) (is:List Nat):Option (List (Nat×Nat)):=
 match fieldsOf P t with
 | some all=>bI (fun i=>all[i]?) is
 | none=>none
def lU:Nat→List (Nat×Operand)→Bool
 | _,[]=>true
 | i,(j,_)::r=>i == j && lU (i+1) r
def a9 (P:Program) (ρ:Names) (A:gJ) (dst:Option Nat):Op→Option (AK×List Operand)
 | .move x | .assign x=>some (.v .mv,[x])
 | .pick c a b=>some (.v .pick,[c,a,b])
 | .binOp op t x y _=>(wh P op t).map fun o=>(.v o,[x,y])
 | .unOp op _ x=>some (.v (.un op),[x])
 | .convert s d x=>match P.underlying s,P.underlying d with
   | some (.int _),some (.int k)=>some (.v (.conv k),[x])
   | some (.slice e),some .string=>match P.underlying e with
     | some (.int .u8)=>some (.v .b2s,[x])
     | _=>none
   | _,_=>none
 | .extract x i=>some (.v (.ext i),[x])
 | .field t x f=>match fp P t f with
   | some fd=>match bS P fd.type,eW P fd.type with
     | some sz,some ag=>some (.v (.field fd.offset sz ag),[x])
     | _,_=>none
   | none=>none
 | .fieldAddr t x f=>match fp P t f with
   | some fd=>match bS P fd.type with
     | some s=>if s=0 then none else some (.v (.eI fd.offset),[x])
     | none=>none
   | none=>none
 | .indexAddr t x i=>match dh P t with
   | some e=>(bS P e).map fun sz=>(.v (.fh sz),[x,i])
   | none=>none
 | .index t x i=>match P.underlying t with
   | some .string=>some (.v .index,[x,i])
   | _=>none
 | .build t ps=>match P.underlying t with
   | some (.struct _)=>match bF P t,placesOf P t (ps.toList.map (·.1)) with
     | some z,some pl=>some (.v (.build z pl),ps.toList.map (·.2))
     | _,_=>none
   | _=>none
 | .buildSlice t n ps=>match dh P t with
   | some e=>match bS P e,bF P e with
     | some sz,some _=>if ps.size=n∧lU 0 ps.toList=true∧0<sz∧n*sz≤16777216 then some (.v (.dM sz),ps.toList.map (·.2)) else none
     | _,_=>none
   | none=>none
 | .load t x=>match bS P t,eW P t with
   | some sz,some ag=>match x with
     | .tmp tx=>match look A.ic tx with
       | some (k,o)=>some (.bU k o sz ag,[x])
       | none=>if A.DP.contains tx then some (.dJ sz ag,[x]) else some (.v (.fX sz ag),[x])
     | _=>none
   | _,_=>none
 | .store t x v=>match bS P t,x with
   | some sz,.tmp tx=>match look A.ic tx with
     | some (k,o)=>some (.bA k o sz,[x,v])
     | none=>if A.kp.contains tx=true then some (.o6 sz,[x,v]) else some (.ev sz,[x,v])
   | _,_=>none
 | .alloc t=>match bF P t,dst with
   | some z,some d=>match look A.ic d with
     | some (k,0)=>if k=d then some (.alloc d z,[]) else none
     | some _=>none
     | none=>some (.gl z,[])
   | _,_=>none
 | .box t x=>match bS P t,dst with
   | some sz,some d=>match look A.ic d with
     | some (k,0)=>if k=d then some (.box d sz,[x]) else none
     | some _=>none
     | none=>if A.kp.contains d=true then some (.Cq sz,[x]) else some (.kj sz,[x])
   | _,_=>none
 | .makeMap _ r=>if r.isNone=true then some (.we,[]) else none
 | .lookup t x i ok=>match P.underlying t with
   | some (.map k e)=>match td P k,zeroOf P e with
     | some c,some z=>some (.l8 c ok z,[x,i])
     | _,_=>none
   | _=>none
 | .mapUpdate t m i x | .insert t m i x=>match P.underlying t with
   | some (.map k _)=>(td P k).map fun c=>(.Cr c,[m,i,x])
   | _=>none
 | .nilCheck x=>some (.v .ki,[x])
 | .makeFunc fn first cap=>match fn with
   | .func f=>if first.size=0 then (ρ.of f).map fun g=>(.v (.Cp g),cap.toList) else none
   | _=>none
 | .makeSlice t l c=>match dh P t with
   | some e=>match bS P e,df P e,eW P e,bF P e with
     | some sz,some by_,some ag,some z=>if z.length=sz∧0<sz then match dst.bind (look A.ic),dst with
         | some (k,0),some d=>if k=d then some (.fj d sz by_ z,[l,c]) else none
         | some _,_=>none
         | none,_=>some (.hU sz by_ ag z,[l,c])
       else none
     | _,_,_,_=>none
   | none=>none
 | .slice t x lo hi mx=>match P.underlying t with
   | some (.slice e)=>if mx.isSome=false∧(dst.map (A.GC.contains ·)).getD false=true then (bS P e).map fun sz=>(.v (.s9 sz lo.isSome hi.isSome),x::(lo.toList++hi.toList++mx.toList))
     else (bS P e).map fun sz=>(.v (.slice false sz lo.isSome hi.isSome mx.isSome),x::(lo.toList++hi.toList++mx.toList))
   | some .string=>if mx.isSome then none else some (.v (.slice true 0 lo.isSome hi.isSome false),x::(lo.toList++hi.toList++mx.toList))
   | _=>none
 | .call c=>match c.callee with
   | .builtin .len=>match c.args.toList,(c.argTypes[0]?).bind P.underlying with
     | [x],some (.slice _)=>some (.v .len,[x])
     | [x],some .string=>some (.v .s8,[x])
     | _,_=>none
   | .builtin .min=>match c.args.toList with
     | [x,y]=>some (.v .mn,[x,y])
     | _=>none
   | .builtin .max=>match c.args.toList with
     | [x,y]=>some (.v .mx,[x,y])
     | _=>none
   | .builtin .append=>match c.args.toList,(c.argTypes[0]?).bind (dh P),(c.argTypes[1]?).bind (dh P) with
     | [x,y],some e,some _=>match bS P e,df P e,bF P e with
       | some sz,some by_,some z=>if z.length=sz∧0<sz∧0<by_ then
           if (dst.map (A.GC.contains ·)).getD false then (eW P e).map fun ag=>(.cR sz by_ ag,[x,y]) else match dst.bind (look A.dup) with
             | some u=>some (.jA sz by_,[x,y,.tmp u])
             | none=>some (.append sz by_,[x,y])
         else none
       | _,_,_=>none
     | _,_,_=>none
   | .builtin .clear=>match c.args.toList,(c.argTypes[0]?).bind (dh P) with
     | [x],some e=>match bS P e,bF P e with
       | some sz,some z=>if z.length=sz∧0<sz then some (.gm sz z,[x]) else none
       | _,_=>none
     | _,_=>none
   | .builtin .copy=>match c.args.toList,(c.argTypes[0]?).bind (dh P),(c.argTypes[1]?).bind (dh P) with
     | [x,y],some e,some _=>match bS P e with
       | some sz=>some (.ij sz,[x,y])
       | none=>none
     | _,_,_=>none
   | .value (.func f)=>match ρ.of f with
     | some g=>match look ρ.cl g with
       | some (sz,by_)=>if c.args.size=1 then
           (if (dst.map (A.GC.contains ·)).getD false=true then match (c.argTypes[0]?).bind (dh P) with
             | some e=>(eW P e).map fun ag=>(.ig sz by_ ag,c.args.toList)
             | none=>none
           else some (.clone sz by_,c.args.toList)) else none
       | none=>if (dst.map (A.q.contains ·)).getD false then some (.ik g,c.args.toList)
       else if ρ.Hw.contains g || (dst.map (A.site.contains ·)).getD false then some (.bV g ((dst.bind (look A.own)).getD []),c.args.toList)
       else if (dst.map (A.ps.contains ·)).getD false then some (.ew g,c.args.toList) else some (.aR g,c.args.toList)
     | none=>none
   | .value (.tmp t)=>if (dst.map (A.ro.contains ·)).getD false=true then some (.da,.tmp t::c.args.toList) else some (.fl,.tmp t::c.args.toList)
   | _=>none
 | _=>none
def dx (P:Program) (ρ:Names) (A:gJ) (N:Nat) (ops:Array Oper) (o:Oper):Option cB:=
 match a9 P ρ A o.dst o.op with
 | some (k,args)=>match bI (eX ρ) args with
   | some as=>
     if (o.dst.map (fun d=>decide (d<N))).getD true=true then
       match o.guard with
       | none=>some { dst:=o.dst,guard:=none,args:=as,op:=k }
       | some (j,b)=>match (ops[j]?).bind (·.dst) with
         | some t=>some { dst:=o.dst,guard:=some (t,b),args:=as,op:=k }
         | none=>none
     else none
   | none=>none
 | none=>none
def cB.looks (o:cB):List Nat:=
 (o.args.filterMap fun | .t n=>some n | _=>none)++(match o.guard with | some (t,_)=>[t] | none=>[])
def AK.eR:AK→Bool
 | .dJ .. | .ev _ | .o6 _ | .kj _ | .Cq _ | .gl _ | .hU .. | .ew _ | .bV .. | .fl | .da | .we | .l8 .. | .Cr _ | .cR .. | .ig .. | .gm .. | .ij _=>true
 | _=>false
def AK.oh:AK→Bool
 | .dJ .. | .l8 .. | .da=>true
 | _=>false
def AK.d0:AK→Bool
 | .append .. | .cR .. | .jA .. | .clone .. | .bV .. | .ik _ | .fl | .da=>true
 | _=>false
def AK.eF:AK→Bool
 | .bA .. | .alloc .. | .box .. | .fj ..=>true
 | _=>false
def indep (x y:cB):Bool:=
 (match x.dst with | some d=>!(y.looks).contains d && y.dst != some d | none=>true) &&
 (match y.dst with | some d=>!(x.looks).contains d | none=>true) &&
 (!(x.op.eR && y.op.eR) || (x.op.oh && y.op.oh)) && !(x.op.d0 && y.op.d0) &&
 (match x.op.key,y.op.key with
  | some a,some b=>a != b || !(x.op.eF || y.op.eF)
  | _,_=>true)
def cB.addr (o:cB):Option Nat:=match o.op,o.args with
 | .dJ ..,.t a::_ | .ev _,.t a::_=>some a
 | _,_=>none
def qu (ds:List (Nat×Nat)) (x y:cB):Bool:=
 (match x.dst with | some d=>!(y.looks).contains d && y.dst != some d | none=>true) &&
 (match y.dst with | some d=>!(x.looks).contains d | none=>true) &&
 (match x.addr,y.addr with
  | some a,some b=>ds.contains (a,b)
  | _,_=>false)
def o7:List cB→Bool
 | []=>true
 | x::r=>(match x.addr with | some a=>(x::r).all (fun o=>o.dst != some a) | none=>true) && o7 r
def iq:List Oper→List Nat→List Nat
 | [],acc=>acc
 | o::r,acc=>iq r (acc++[o.after.toList.foldl (fun s e=>if Region.binds .any e then s ||| 2 ^ e.on ||| acc.getD e.on 0 else s) 0])
def lV (ds:List (Nat×Nat)) (ms:List Nat) (i:Nat) (x:cB):Nat→List cB→Bool
 | _,[]=>true
 | j,y::r=>((ms.getD j 0).testBit i || indep x y || qu ds x y) && lV ds ms i x (j+1) r
def ir (ds:List (Nat×Nat)) (ms:List Nat):Nat→List cB→Bool
 | _,[]=>true
 | i,x::r=>lV ds ms i x (i+1) r && ir ds ms (i+1) r
def ez:Nat→List Oper→Bool
 | _,[]=>true
 | i,o::r=>o.after.toList.all (fun e=>!Region.binds .any e || decide (e.on<i)) && ez (i+1) r
def o8 (ds:List (Nat×Nat)) (ops:List Oper) (as:List cB):Bool:=ez 0 ops && (ir ds (iq ops []) 0 as && o7 as)
def gF:Code→Option Nat
 | .region id _ _=>some id
 | .seq a b | .cond _ a b=>match gF a with | some i=>some i | none=>gF b
 | .block _ c | .loop c | .scope c=>gF c
 | _=>none
def au.dR:au→Bool
 | .seq a b | .cond _ a b=>a.dR && b.dR
 | .block _ b | .loop _ b=>b.dR
 | .back ..=>false
 | _=>true
def fZ (o:Option (List Nat)) (c:au):au:=match o with
 | some ts=>.seq (.eo ts) c
 | none=>c
def lW (o:Option (List Nat)) (c:au):au:=match o with
 | some ts=>.seq (.Ea ts) c
 | none=>c
def tf (o:Option (Nat×List Nat×List Nat)) (as:List cB) (live:List Nat):au:=match o with
 | some (k,l,ts)=>.seq (.oe (as.take k) l) (.seq (.il ts) (.oe (as.drop k) live))
 | none=>.oe as live
def behind (ds:Option (List (Nat×Nat))) (ps:Option (List (Nat×Nat×Bool))) (c:au):au:=
 let c1:=match ds with
   | some ds=>.seq c (.DN ds)
   | none=>c
 match ps with
 | some ps=>.seq c1 (.ie ps)
 | none=>c1
def dU (P:Program) (ρ:Names) (A:gJ) (N:Nat):Code→Option au
 | .skip=>some .skip
 | .region id ops draw=>match bI (dx P ρ (A.at id) N ops) ops.toList with
   | some as=>if draw then (if o8 ((look A.GD id).getD []) ops.toList as then some (fZ (look A.fz id) (behind (look A.GD id) (look A.ie id) (.oe as ((look A.live id).getD [])))) else none)
     else match look A.cut id with
       | some q=>some (lW (look A.fs id) (fZ (look A.fz id) (tf (some q) as ((look A.live id).getD []))))
       | none=>some (lW (look A.fs id) (fZ (look A.fz id) (behind (look A.GD id) (look A.ie id) (.oe as ((look A.live id).getD [])))))
   | none=>none
 | .seq a b=>match dU P ρ A N a,dU P ρ A N b with
   | some x,some y=>some (.seq x y)
   | _,_=>none
 | .cond c a b=>match eX ρ c,dU P ρ A N a,dU P ρ A N b with
   | some c,some x,some y=>some (.cond c x y)
   | _,_,_=>none
 | .block id b=>(dU P ρ A N b).map (.block id)
 | .loop b=>(dU P ρ A N b).map (.loop (((gF b).bind (look A.loops)).getD []))
 | .exit id=>some (.exit id)
 | .ret=>some .ret
 | _=>none
def wi (P:Program):ResultVar→Option kl
 | .tmp t=>some (.t t)
 | .cell a t=>match bS P t,eW P t with
   | some sz,some ag=>some (.c a sz ag)
   | _,_=>none
def kS (P:Program) (ρ:Names) (A:gJ) (fn:Func):Option aB:=
 match fn.body,bI (wi P) fn.results.toList with
 | some b,some rs=>if fn.params.size+fn.nfree≤fn.ntmps∧fn.name != "runtime.NumGoroutine" then
     (dU P ρ A fn.ntmps b).map fun c=>{ nparams:=fn.params.size,ntmps:=fn.ntmps,results:=rs,body:=c,ks:=A.ks } else none
 | _,_=>none
end Go.Ab
namespace Go.Ab
inductive iu where
 | cS | ic (d:Nat) | shr (b:Nat) | tok (τ:Nat)
 deriving DecidableEq
structure Tk where
 base:Option Addr
 len:Nat
 cap:Nat
 sz:Nat
 own:Bool:=false
def Tk.val (t:Tk):Value:=.slice t.base t.len t.cap
def Tk.dead (t:Tk):Prop:=t.base=none∧0<t.len
def Tk.on (t t':Tk):Prop:=(t.dead→t'.dead)∧(t'.dead∨t.cap<t'.len∨(t'.base=t.base∧t'.cap=t.cap∧(t'=t∨t'.own=true)))
def Tk.Fs (t:Tk) (v:Value):Prop:=t.dead∨∃base len cap,v=.slice base len cap∧(cap<t.len∨(base=t.base∧cap=t.cap∧(len=t.len∨t.own=true)))
theorem Tk.d9 (t:Tk):t.on t:=⟨id,.inr (.inr ⟨rfl,rfl,.inl rfl⟩)⟩
theorem Tk.z2 {a b c:Tk} (h:a.on b) (k:b.on c) (hl:b.len≤c.len):a.on c:=by
 refine ⟨fun d=>k.1 (h.1 d),?_⟩
 rcases h.2 with d | hc | ⟨e1,e2,e3⟩
 · exact .inl (k.1 d)
 · exact .inr (.inl (by omega))
 · rcases k.2 with d | hc | ⟨f1,f2,f3⟩
   · exact .inl d
   · exact .inr (.inl (by omega))
   · refine .inr (.inr ⟨f1.trans e1,f2.trans e2,?_⟩)
     rcases f3 with rfl | f3
     · exact e3
     · exact .inr f3
theorem Tk.lX (t:Tk):t.Fs t.val:=.inr ⟨_,_,_,rfl,.inr ⟨rfl,rfl,.inl rfl⟩⟩
theorem Tk.Ef {t t':Tk} {v:Value} (h:t.Fs v) (k:t.on t') (hl:t.len≤t'.len):t'.Fs v:=by
 rcases h with d | ⟨base,len,cap,e,h⟩
 · exact .inl (k.1 d)
 · rcases k.2 with d | hc | ⟨e1,e2,e3⟩
   · exact .inl d
   · refine .inr ⟨base,len,cap,e,.inl ?_⟩
     rcases h with h | ⟨_,h,_⟩<;>omega
   · refine .inr ⟨base,len,cap,e,?_⟩
     rcases h with h | ⟨h1,h2,h3⟩
     · exact .inl (by omega)
     · refine .inr ⟨h1.trans e1.symm,h2.trans e2.symm,?_⟩
       rcases e3 with rfl | e3
       · exact h3
       · exact .inr e3
structure Gh where
 K:aU
 role:Nat→iu
 pm:Nat→Option Nat
 sm:Nat→Option (Nat×Nat)
 tk:Nat→Option Tk
structure bh where
 r:Nat→Nat→Prop
 i3:Nat→Option (Array Value)
mutual
def ah (ρ:bh) (G:Gh):AV→Value→Prop
 | .un,v=>v=undef
 | .pv p,v=>Rel G.K p v
 | .cI els,v=>∃base len,v=.slice base len len∧DO G.K els base len
 | .own els τ,v=>∃t,G.tk τ=some t∧(els.length≤t.len∧t.Fs v)∧Rel G.K (.aE els) v ∧
     (els.length=t.len→v=t.val∧(els=[]∨∃b o,t.base=some ⟨b,o,none⟩∧Row G.K b o t.sz els))
 | .agg cs,v=>∃vs:List Value,v=.agg vs.toArray∧ae ρ G cs vs
 | .kP cs,v=>∃vs:List Value,v=.tuple vs.toArray∧ae ρ G cs vs
 | .aN d off,v=>∃b,G.pm d=some b∧v=.pointer (some ⟨b,off,none⟩)
 | .aJ s off,v=>∃b,G.sm s=some b∧v=.pointer (some ⟨b.1,off,none⟩)
 | .ek cs,v=>∃b o vs,v=.pointer (some ⟨b,o,none⟩)∧At G.K b o vs∧cx G.K cs vs
 | .aX s z n _,v=>∃b cap,G.sm s=some b∧v=.slice (some ⟨b.1,0,none⟩) n (n+cap)∧(n+cap)*z≤b.2
 | .fn g cap,v=>∃f vs,ρ.r g f∧v=.func (.func f) #[] (List.toArray vs)∧ae ρ G cap vs
 | .gz,v=>v=.pointer none∨v=.nilFunc
 | .gA s,v=>∃b,G.sm s=some b∧v=.map (some b.1)
 | .dT _,_=>False
 | .gB d n,v=>∃b,G.pm d=some b∧v=.slice (some ⟨b,0,none⟩) n n
 | .lN s off n,v=>∃b base cap,G.sm s=some b∧v=.slice base n cap∧(n=0∨base=some ⟨b.1,off,none⟩)
def ae (ρ:bh) (G:Gh):List AV→List Value→Prop
 | [],vs=>vs=[]
 | c::cs,vs=>∃v r,vs=v::r∧ah ρ G c v∧ae ρ G cs r
end
structure Gh.le (G G':Gh):Prop where
 K:G.K.le G'.K
 pm:∀d b,G.pm d=some b→G'.pm d=some b
 sm:∀d b,G.sm d=some b→G'.sm d=some b
 tk:∀τ t,G.tk τ=some t→∃t',G'.tk τ=some t'∧(t.len≤t'.len∧t.on t')∧(t.len=t'.len→t'=t)
theorem Gh.le_refl (G:Gh):G.le G:=⟨G.K.le_refl,fun _ _ h=>h,fun _ _ h=>h,fun _ t h=>⟨t,h,⟨Nat.le_refl _,t.d9⟩,fun _=>rfl⟩⟩
theorem Gh.le_trans {a b c:Gh} (h:a.le b) (k:b.le c):a.le c:=
 ⟨aU.le_trans h.K k.K,fun x y e=>k.pm _ _ (h.pm x y e),fun x y e=>k.sm _ _ (h.sm x y e),fun τ t e=>by
   obtain ⟨t',e1,e2,e3⟩:=h.tk τ t e
   obtain ⟨t'',f1,f2,f3⟩:=k.tk τ t' e1
   exact ⟨t'',f1,⟨Nat.le_trans e2.1 f2.1,Tk.z2 e2.2 f2.2 f2.1⟩,fun hl=>by
     have h1:t.len=t'.len:=Nat.le_antisymm e2.1 (hl ▸ f2.1)
     have h2:t'.len=t''.len:=h1 ▸ hl
     rw [f3 h2,e3 h1]⟩⟩
section
variable {ρ:bh} {G G':Gh}
mutual
theorem ah.mono (h:G.le G'):∀{x:AV} {v:Value},ah ρ G x v→ah ρ G' x v
 | .un,_,hr=>by simpa only [ah] using hr
 | .pv p,_,hr=>by simp only [ah] at hr ⊢;exact hr.mono h.K
 | .cI els,_,hr=>by
   simp only [ah] at hr ⊢
   obtain ⟨b,l,e,r⟩:=hr
   exact ⟨b,l,e,r.mono h.K⟩
 | .own els τ,v,hr=>by
   simp only [ah] at hr ⊢
   obtain ⟨t,e1,e2,e3,e4⟩:=hr
   obtain ⟨t',f1,f2,f3⟩:=h.tk τ t e1
   refine ⟨t',f1,⟨Nat.le_trans e2.1 f2.1,Tk.Ef e2.2 f2.2 f2.1⟩,e3.mono h.K,fun hl=>?_⟩
   have h1:els.length=t.len:=Nat.le_antisymm e2.1 (hl ▸ f2.1)
   have h2:=f3 (h1 ▸ hl)
   subst h2
   obtain ⟨g1,g2⟩:=e4 h1
   exact ⟨g1,Ct g2 fun ⟨b,o,e,r⟩=>⟨b,o,e,Row.mono h.K _ _ _ _ r⟩⟩
 | .agg cs,_,hr=>by
   simp only [ah] at hr ⊢
   obtain ⟨vs,e,r⟩:=hr
   exact ⟨vs,e,ae.mono h r⟩
 | .kP cs,_,hr=>by
   simp only [ah] at hr ⊢
   obtain ⟨vs,e,r⟩:=hr
   exact ⟨vs,e,ae.mono h r⟩
 | .aN d off,_,hr=>by
   simp only [ah] at hr ⊢
   obtain ⟨b,e,r⟩:=hr
   exact ⟨b,h.pm _ _ e,r⟩
 | .aJ d off,_,hr=>by
   simp only [ah] at hr ⊢
   obtain ⟨b,e,r⟩:=hr
   exact ⟨b,h.sm _ _ e,r⟩
 | .ek cs,_,hr=>by
   simp only [ah] at hr ⊢
   obtain ⟨b,o,vs,e,f,r⟩:=hr
   exact ⟨b,o,vs,e,f.mono h.K,cx.mono h.K _ _ r⟩
 | .aX s _ n _,_,hr=>by
   simp only [ah] at hr ⊢
   obtain ⟨b,c,e,r⟩:=hr
   exact ⟨b,c,h.sm _ _ e,r⟩
 | .fn g cap,_,hr=>by
   simp only [ah] at hr ⊢
   obtain ⟨f,vs,e1,e2,r⟩:=hr
   exact ⟨f,vs,e1,e2,ae.mono h r⟩
 | .gz,_,hr=>by simpa only [ah] using hr
 | .gA s,_,hr=>by
   simp only [ah] at hr ⊢
   obtain ⟨b,e,r⟩:=hr
   exact ⟨b,h.sm _ _ e,r⟩
 | .dT _,_,hr=>by simp only [ah] at hr
 | .lN s _ _,_,hr=>by
   simp only [ah] at hr ⊢
   obtain ⟨b,x,c,e,r⟩:=hr
   exact ⟨b,x,c,h.sm _ _ e,r⟩
 | .gB d _,_,hr=>by
   simp only [ah] at hr ⊢
   obtain ⟨b,e,r⟩:=hr
   exact ⟨b,h.pm _ _ e,r⟩
theorem ae.mono (h:G.le G'):∀{xs:List AV} {vs:List Value},ae ρ G xs vs→ae ρ G' xs vs
 | [],_,hr=>by simpa only [ae] using hr
 | _::_,_,hr=>by
   simp only [ae] at hr ⊢
   obtain ⟨v,r,e,e1,e2⟩:=hr
   exact ⟨v,r,e,ah.mono h e1,ae.mono h e2⟩
end
theorem ae.length:∀{xs:List AV} {vs:List Value},ae ρ G xs vs→vs.length=xs.length
 | [],_,hr=>by simp only [ae] at hr;simp [hr]
 | _::_,_,hr=>by
   simp only [ae] at hr
   obtain ⟨v,r,rfl,_,e2⟩:=hr
   simp [ae.length e2]
theorem ae.get:∀{xs:List AV} {vs:List Value},ae ρ G xs vs→∀{j:Nat} {x:AV},xs[j]?=some x→∃v,vs[j]?=some v∧ah ρ G x v
 | [],_,_,j,x,hc=>by simp at hc
 | x0::xs,_,hr,j,x,hc=>by
   simp only [ae] at hr
   obtain ⟨v,r,rfl,e1,e2⟩:=hr
   cases j with
   | zero=>simp at hc;subst hc;exact ⟨v,by simp,e1⟩
   | succ j=>simpa using ae.get e2 (by simpa using hc)
theorem ae.drop:∀(n:Nat) {xs:List AV} {vs:List Value},ae ρ G xs vs→ae ρ G (xs.drop n) (vs.drop n)
 | 0,_,_,h=>by simpa using h
 | n+1,[],_,h=>by simp only [ae] at h;subst h;simp [ae]
 | n+1,_::cs,_,h=>by
   simp only [ae] at h
   obtain ⟨v,r,rfl,_,e3⟩:=h
   simpa using ae.drop n e3
theorem ae.take:∀(n:Nat) {xs:List AV} {vs:List Value},ae ρ G xs vs→ae ρ G (xs.take n) (vs.take n)
 | 0,_,_,_=>by simp [ae]
 | n+1,[],_,h=>by simp only [ae] at h;subst h;simp [ae]
 | n+1,_::cs,_,h=>by
   simp only [ae] at h
   obtain ⟨v,r,rfl,e2,e3⟩:=h
   simp only [List.take_succ_cons,ae]
   exact ⟨v,_,rfl,e2,ae.take n e3⟩
theorem ae.append:∀{xs:List AV} {vs:List Value} {ys:List AV} {us:List Value},ae ρ G xs vs→ae ρ G ys us→ae ρ G (xs++ys) (vs++us)
 | [],_,_,_,h,k=>by simp only [ae] at h;subst h;simpa using k
 | _::cs,_,_,_,h,k=>by
   simp only [ae] at h
   obtain ⟨v,r,rfl,e2,e3⟩:=h
   simp only [List.cons_append,ae]
   exact ⟨v,_,rfl,e2,ae.append e3 k⟩
theorem eJ:∀{cs:List PV} {vs:List Value},cx G.K cs vs→ae ρ G (cs.map .pv) vs
 | [],_,h=>by simp only [cx] at h;subst h;simp [ae]
 | _::cs,_,h=>by
   simp only [cx] at h
   obtain ⟨v,r,rfl,e2,e3⟩:=h
   simp only [List.map_cons,ae]
   exact ⟨v,r,rfl,by simp only [ah];exact Rel.Fu e2,eJ e3⟩
theorem dV:∀{cs:List PV} {vs:List Value},fW G.K cs vs→ae ρ G (cs.map .pv) vs
 | [],_,h=>by cases h;simp [ae]
 | _::cs,_,⟨v,r,e1,e2,e3⟩=>by
   subst e1
   simp only [List.map_cons,ae]
   exact ⟨v,r,rfl,by simp only [ah];exact e2,dV e3⟩
theorem ah.cells {x:AV} {v:Value} (h:ah ρ G x v) (hx:(aM x).all aH=true):ae ρ G (aM x) v.cells.toList:=by
 cases x with
 | agg cs=>simp only [ah] at h;obtain ⟨vs,rfl,r⟩:=h;simpa [aM,Value.cells] using r
 | pv p=>
   cases p with
   | agg cs=>
     simp only [ah,Rel] at h
     obtain ⟨vs,rfl,r⟩:=h
     simpa [aM,Value.cells] using eJ r
   | bool b=>have h':=h;simp only [ah,Rel,R] at h;simp at h;subst h;simp only [aM,Value.cells,ae];exact ⟨_,[],rfl,h',rfl⟩
   | int k n=>have h':=h;simp only [ah,Rel,R] at h;simp at h;subst h;simp only [aM,Value.cells,ae];exact ⟨_,[],rfl,h',rfl⟩
   | str s=>have h':=h;simp only [ah,Rel,R] at h;simp at h;subst h;simp only [aM,Value.cells,ae];exact ⟨_,[],rfl,h',rfl⟩
   | aE els=>
     have h':=h
     simp only [ah] at h
     obtain ⟨b,l,c,rfl,_⟩:=bu.1 h
     simp only [aM,Value.cells,ae];exact ⟨_,[],rfl,h',rfl⟩
 | cI els=>
   have h':=h
   simp only [ah] at h;obtain ⟨b,l,rfl,_⟩:=h
   simp only [aM,Value.cells,ae];exact ⟨_,[],rfl,h',rfl⟩
 | own els τ=>
   have h':=h
   simp only [ah] at h;obtain ⟨t,_,_,h3,_⟩:=h
   obtain ⟨b,l,c,rfl,_⟩:=bu.1 h3
   simp only [aM,Value.cells,ae];exact ⟨_,[],rfl,h',rfl⟩
 | aJ s o=>
   have h':=h
   simp only [ah] at h;obtain ⟨b,_,rfl⟩:=h
   simp only [aM,Value.cells,ae];exact ⟨_,[],rfl,h',rfl⟩
 | aX s z n ag=>
   have h':=h
   simp only [ah] at h;obtain ⟨b,c,_,rfl,_⟩:=h
   simp only [aM,Value.cells,ae];exact ⟨_,[],rfl,h',rfl⟩
 | fn g cap=>
   have h':=h
   simp only [ah] at h;obtain ⟨f,vs,_,rfl,_⟩:=h
   simp only [aM,Value.cells,ae];exact ⟨_,[],rfl,h',rfl⟩
 | gz=>
   have h':=h
   simp only [ah] at h
   rcases h with rfl | rfl
   · simp only [aM,Value.cells,ae];exact ⟨_,[],rfl,h',rfl⟩
   · simp only [aM,Value.cells,ae];exact ⟨_,[],rfl,h',rfl⟩
 | gA s=>
   have h':=h
   simp only [ah] at h;obtain ⟨b,_,rfl⟩:=h
   simp only [aM,Value.cells,ae];exact ⟨_,[],rfl,h',rfl⟩
 | dT kvs=>simp only [ah] at h
 | _=>simp [aM,aH] at hx
end
structure Gq (ρ:bh) (G:Gh) (w:World) (b:Nat) (r:iu) (cells:List AV):Prop where
 role:G.role b=r
 at_:∃c t,w.heap[b]?=some (.cells c t (0,0))∧ae ρ G cells c.toList
def kn (K:aU):List (PV×PV)→List MapEntry→Prop
 | [],es=>es=[]
 | (k,p)::r,es=>∃e es',es=e::es'∧Rel K k e.key∧Rel K p e.val∧kn K r es'
theorem kn.mono {K K':aU} (h:K.le K'):∀{kvs:List (PV×PV)} {es:List MapEntry},kn K kvs es→kn K' kvs es
 | [],_,hr=>hr
 | (_,_)::_,_,⟨e,es',e1,e3,e4,e5⟩=>⟨e,es',e1,e3.mono h,e4.mono h,kn.mono h e5⟩
def Holds (ρ:bh) (G:Gh) (o:Obj) (n:Nat) (cells:List AV):Prop:=
 (∃c t vs suf,o=.cells c t (0,0)∧c.size=n∧c.toList=vs++suf∧ae ρ G cells vs)∨∃es clock kvs,o=.map es clock∧cells=[.dT kvs]∧kn G.K kvs es.toList
theorem Holds.full {ρ:bh} {G:Gh} {c:Array Value} {t:TypeId} {cells:List AV} (h:ae ρ G cells c.toList):Holds ρ G (.cells c t (0,0)) c.size cells:=
 .inl ⟨c,t,c.toList,[],rfl,rfl,by simp,h⟩
structure o9 (ρ:bh) (G:Gh) (w:World) (b:Nat×Nat) (r:iu) (cells:List AV):Prop where
 role:G.role b.1=r
 at_:∃o,w.heap[b.1]?=some o∧Holds ρ G o b.2 cells
theorem Holds.to {ρ:bh} {G G':Gh} {o:Obj} {n:Nat} {cells cells':List AV} (h:Holds ρ G o n cells) (hK:G.K.le G'.K) (hm:∀kvs,cells=[.dT kvs]→cells'=[.dT kvs])
   (hc:∀vs,ae ρ G cells vs→ae ρ G' cells' vs):Holds ρ G' o n cells':=by
 rcases h with ⟨c,t,vs,suf,e,e3,e4,r⟩ | ⟨es,cl,kvs,e,e2,r⟩
 · exact .inl ⟨c,t,vs,suf,e,e3,e4,hc _ r⟩
 · exact .inr ⟨es,cl,kvs,e,hm kvs e2,r.mono hK⟩
theorem Holds.mono {ρ:bh} {G G':Gh} {o:Obj} {n:Nat} {cells:List AV} (h:G.le G') (hh:Holds ρ G o n cells):Holds ρ G' o n cells:=
 hh.to h.K (fun _ e=>e) (fun _ r=>r.mono h)
structure FE (ρ:bh) (G:Gh) (w:World) (b:Nat×Nat) (r:iu) (cells:List AV):Prop where
 role:G.role b.1=r
 at_:∃c t vs suf,w.heap[b.1]?=some (.cells c t (0,0))∧c.size=b.2∧c.toList=vs++suf∧ae ρ G cells vs
theorem o9.cells {ρ:bh} {G:Gh} {w:World} {b:Nat×Nat} {r:iu} {cells:List AV} (h:o9 ρ G w b r cells) (hm:db cells=false):FE ρ G w b r cells:=by
 obtain ⟨h1,o,h2,h3⟩:=h
 rcases h3 with ⟨c,t,vs,suf,rfl,h4,h5,h6⟩ | ⟨es,cl,kvs,rfl,rfl,_⟩
 · exact ⟨h1,c,t,vs,suf,h2,h4,h5,h6⟩
 · simp [db] at hm
theorem Eg {ρ:bh} {G:Gh} {cells:List AV} {vs:List Value} (h:ae ρ G cells vs):db cells=false:=by
 cases cells with
 | nil=>rfl
 | cons c r=>
   cases c with
   | dT kvs=>simp [ae,ah] at h
   | _=>rfl
structure FF (G:Gh) (w:World) (τ:Nat) (t:Tk):Prop where
 cap:t.len≤t.cap
 zero:t.len=0→t.cap=0
 spare:t.len<t.cap∨t.own=true→∃b o c ty,t.base=some ⟨b,o,none⟩∧G.role b=.tok τ∧w.heap[b]?=some (.cells c ty (0,0)) ∧
   o+t.cap*t.sz≤c.size∧∀j v,G.K b j=some v→j<o+t.len*t.sz
structure Inv (ρ:bh) (G:Gh) (w:World) (mem:List (Nat×List AV)) (sh:Sh) (aa:aq):Prop where
 known:∀b o v,G.K b o=some v→w.cell? ⟨b,o,none⟩=some v
 aI:∀b o v,G.K b o=some v→G.role b=.cS∨∃τ,G.role b=.tok τ
 fresh:∀b,w.heap.size≤b→G.role b=.cS
 bT:∀d cells,look mem d=some cells→∃b,G.pm d=some b∧Gq ρ G w b (.ic d) cells∧cells.all aH=true
 ep:∀d b,G.pm d=some b→(look mem d).isSome=true
 cr:∀s cells,sh[s]?=some (some cells)→∃b,G.sm s=some b∧o9 ρ G w b (.shr s) cells∧cells.all cp=true∧cells.all (aw (s+1))=true
 cV:∀s b,G.sm s=some b→s<sh.length
 cq:∀τ n,aa[τ]?=some n→∃t,G.tk τ=some t∧t.len=n∧FF G w τ t
 dy:∀τ t,G.tk τ=some t→aa[τ]?=some t.len
 i3:∀b c,ρ.i3 b=some c→G.role b=.cS∧∃t z,w.heap[b]?=some (.cells c t z)
structure iv (ρ:bh) (G:Gh) (N:Nat) (env:List (Nat×AV)) (a:Act):Prop where
 size:a.tmps.size=N
 env:∀t x,look env t=some x→∃v,a.tmps[t]?=some v∧ah ρ G x v
def Marks (n0:Nat) (G:Gh) (a:Act) (w:World):Prop:=
 n0≤w.heap.size∧∃Ds:List Nat,a.defers=Ds.map (fun D=>{ target:=.collected D,args:=#[] })∧Ds.Nodup ∧
   ∀D∈Ds,n0≤D∧D<w.heap.size∧G.role D=.cS∧w.heap[D]?=some (.deferred (some []))
structure eG (ρ:bh) (n0 N:Nat) (G:Gh) (st:St) (a:Act) (w:World):Prop where
 env:iv ρ G N st.env a
 inv:Inv ρ G w st.mem st.sh st.aa
 marks:Marks n0 G a w
structure bf (G:Gh) (w:World) (G':Gh) (w':World):Prop where
 size:w.heap.size≤w'.heap.size
 os:w'.os=w.os
 tape:w'.tape=w.tape
 output:w'.output=w.output
 K:G.K.le G'.K
 sm:∀s b,G.sm s=some b→G'.sm s=some b
 cS:∀b,b<w.heap.size→G.role b=.cS→G'.role b=.cS∧w'.heap[b]?=w.heap[b]?
 eS:∀b τ,b<w.heap.size→G.role b=.tok τ→G'.role b=.cS∨∃τ',G'.role b=.tok τ'
 d_:∀b o v,b<w.heap.size→G.role b=.cS→G'.K b o=some v→G.K b o=some v
theorem bf.refl (G:Gh) (w:World):bf G w G w:=
 ⟨Nat.le_refl _,rfl,rfl,rfl,G.K.le_refl,fun _ _ h=>h,fun _ _ h=>⟨h,rfl⟩,fun _ τ _ h=>.inr ⟨τ,h⟩,fun _ _ _ _ _ h=>h⟩
theorem bf.trans {G₁ G₂ G₃:Gh} {w₁ w₂ w₃:World} (h:bf G₁ w₁ G₂ w₂) (k:bf G₂ w₂ G₃ w₃):bf G₁ w₁ G₃ w₃ where
 size:=Nat.le_trans h.size k.size
 os:=k.os.trans h.os
 tape:=k.tape.trans h.tape
 output:=k.output.trans h.output
 K:=aU.le_trans h.K k.K
 sm:=fun s b e=>k.sm _ _ (h.sm s b e)
 cS:=fun b hb hr=>by
   obtain ⟨h1,h2⟩:=h.cS b hb hr
   obtain ⟨k1,k2⟩:=k.cS b (Nat.lt_of_lt_of_le hb h.size) h1
   exact ⟨k1,k2.trans h2⟩
 eS:=fun b τ hb hr=>by
   rcases h.eS b τ hb hr with h1 | ⟨τ',h1⟩
   · exact .inl (k.cS b (Nat.lt_of_lt_of_le hb h.size) h1).1
   · exact k.eS b τ' (Nat.lt_of_lt_of_le hb h.size) h1
 d_:=fun b o v hb hr hk=>h.d_ b o v hb hr (k.d_ b o v (Nat.lt_of_lt_of_le hb h.size) (h.cS b hb hr).1 hk)
theorem Marks.tg {n0:Nat} {G G':Gh} {a a':Act} {w w':World} (h:Marks n0 G a w) (he:bf G w G' w') (hd:a'.defers=a.defers):Marks n0 G' a' w':=by
 obtain ⟨e0,Ds,e1,e2,e3⟩:=h
 refine ⟨Nat.le_trans e0 he.size,Ds,hd.trans e1,e2,fun D hD=>?_⟩
 obtain ⟨f0,f1,f2,f3⟩:=e3 D hD
 obtain ⟨g1,g2⟩:=he.cS D f1 f2
 exact ⟨f0,Nat.lt_of_lt_of_le f1 he.size,g1,g2.trans f3⟩
theorem Inv.eA {ρ:bh} {G G':Gh} {w w':World} {mem:List (Nat×List AV)} {sh:Sh} {aa:aq} (h:Inv ρ G w mem sh aa) (he:bf G w G' w') :
   ∀b c,ρ.i3 b=some c→G'.role b=.cS∧∃t z,w'.heap[b]?=some (.cells c t z):=fun b c hb=>by
 obtain ⟨h1,t,z,h2⟩:=h.i3 b c hb
 obtain ⟨k1,k2⟩:=he.cS b (Array.getElem?_eq_some_iff.1 h2).1 h1
 exact ⟨k1,t,z,k2.trans h2⟩
theorem bf.drew (G:Gh) (w:World):bf G w G w.drew:=
 ⟨Nat.le_refl _,rfl,rfl,rfl,G.K.le_refl,fun _ _ h=>h,fun _ _ h=>⟨h,rfl⟩,fun _ τ _ h=>.inr ⟨τ,h⟩,fun _ _ _ _ _ h=>h⟩
theorem Inv.drew {ρ:bh} {G:Gh} {w:World} {mem:List (Nat×List AV)} {sh:Sh} {aa:aq} (h:Inv ρ G w mem sh aa):Inv ρ G w.drew mem sh aa where
 known:=h.known
 aI:=h.aI
 fresh:=h.fresh
 bT:=fun d cells e=>by obtain ⟨b,e1,e2,e3⟩:=h.bT d cells e;exact ⟨b,e1,⟨e2.role,e2.at_⟩,e3⟩
 ep:=h.ep
 cr:=fun d cells e=>by obtain ⟨b,e1,e2,e3⟩:=h.cr d cells e;exact ⟨b,e1,⟨e2.role,e2.at_⟩,e3⟩
 cV:=h.cV
 cq:=fun τ n e=>by obtain ⟨t,e1,e2,e3⟩:=h.cq τ n e;exact ⟨t,e1,e2,⟨e3.cap,e3.zero,e3.spare⟩⟩
 dy:=h.dy
 i3:=h.i3
end Go.Ab
namespace Go.Ab
section
variable {P:Program} {ns:Names} {G:Gh} {w:World}
abbrev num (ns:Names):bh:=⟨fun g f=>ns.of f=some g,ns.i3⟩
theorem cf {t n:Nat} (h:bS P t=some n) (w:World):(sizeOf t).run P w=.ok n w:=by
 unfold bS at h
 cases hi:P.info? t with
 | none=>simp [hi] at h
 | some i=>simp [hi] at h;simp [sizeOf,typeInfo,hi,h]
theorem iw {t n:Nat} (h:df P t=some n) (w:World):∃i,P.info? t=some i∧i.bytes=n∧(typeInfo t).run P w=.ok i w:=by
 unfold df at h
 cases hi:P.info? t with
 | none=>simp [hi] at h
 | some i=>simp [hi] at h;exact ⟨i,rfl,h,by simp [typeInfo,hi]⟩
theorem fe {t:Nat} {b:Bool} (h:eW P t=some b) (w:World):(isAgg t).run P w=.ok b w:=by
 unfold eW at h
 cases hu:P.underlying t with
 | none=>simp [hu] at h
 | some d=>
   simp [hu] at h
   simp only [isAgg,Sem.run_bind,run_underlying hu,Result.andThen_ok]
   cases d<;>simp_all
theorem gK {K:aU} {v:Value} {p:PV} (h:b_ v=some p):R K false p [v]∧er p=true:=by
 cases v with
 | bool b=>simp [b_] at h;subst h;simp [R,er]
 | int k n=>simp [b_] at h;subst h;simp [R,er]
 | string s=>simp [b_] at h;subst h;simp [R,er]
 | slice a l c=>
   cases a with
   | some a=>simp [b_] at h
   | none=>
     cases l with
     | succ l=>simp [b_] at h
     | zero=>
       cases c with
       | succ c=>simp [b_] at h
       | zero=>
         simp [b_] at h;subst h
         refine ⟨?_,rfl⟩
         simp only [R]
         exact ⟨none,0,0,rfl,Nat.le_refl _,rfl,by simp⟩
 | _=>simp [b_] at h
theorem constPs_R {K:aU}:∀{l:List Value} {z:List PV},bI b_ l=some z→cx K z l
 | [],_,h=>by simp [bI] at h;subst h;simp [cx]
 | v::l,z,h=>by
   simp only [bI] at h
   split at h
   · rename_i y ys h1 h2
     cases h
     simp only [cx]
     exact ⟨v,l,rfl,(gK h1).1,constPs_R h2⟩
   · cases h
theorem th {v:Value} {x:AV} (h:tc v=some x):ah (num ns) G x v:=by
 unfold tc at h
 split at h
 · simp at h;subst h;simp only [ah];exact ⟨none,0,rfl,rfl,.inl rfl⟩
 · simp at h;subst h;simp [ah]
 · simp at h;subst h;simp [ah]
 · rename_i cs
   simp only [Option.map_eq_some_iff] at h
   obtain ⟨ps,h1,rfl⟩:=h
   simp only [ah]
   exact ⟨cs.toList,by simp,constPs_R h1⟩
 · cases hc:b_ v with
   | none=>simp [hc] at h
   | some p=>simp [hc] at h;subst h;simp only [ah];exact Rel.Fu (gK hc).1
theorem wj {N:Nat} {env:List (Nat×AV)} {a:Act} (he:iv (num ns) G N env a) {x:Operand} {ax:di} {v:AV}
   (hc:eX ns x=some ax) (hv:et env ax=some v):ah (num ns) G v (a.eval x):=by
 cases x with
 | tmp t=>
   simp [eX] at hc;subst hc
   obtain ⟨rv,h1,h2⟩:=he.env t v (by simpa [et] using hv)
   have:a.eval (.tmp t)=rv:=by simp [Act.eval,h1]
   rw [this];exact h2
 | const c=>
   simp only [eX,Option.map_eq_some_iff] at hc
   obtain ⟨x,h1,rfl⟩:=hc
   simp [et] at hv;subst hv
   exact th h1
 | func f=>
   simp only [eX,Option.map_eq_some_iff] at hc
   obtain ⟨g,h1,rfl⟩:=hc
   simp [et] at hv;subst hv
   simp only [ah]
   exact ⟨f,[],h1,rfl,by simp [ae]⟩
 | global g=>simp [eX] at hc
theorem qv {N:Nat} {env:List (Nat×AV)} {a:Act} (he:iv (num ns) G N env a):∀{xs:List Operand} {as:List di} {vs:List AV},
   bI (eX ns) xs=some as→cJ env as=some vs→ae (num ns) G vs (xs.map a.eval)
 | [],as,vs,hc,hv=>by
   simp [bI] at hc;subst hc;simp [cJ] at hv;subst hv;simp [ae]
 | x::xs,as,vs,hc,hv=>by
   simp only [bI] at hc
   split at hc
   · rename_i ax axs h1 h2
     simp at hc;subst hc
     simp only [cJ] at hv
     split at hv
     · rename_i v vs' g1 g2
       simp at hv;subst hv
       simp only [List.map_cons,ae]
       exact ⟨_,_,rfl,wj he h1 g1,qv he h2 g2⟩
     · simp at hv
   · simp at hc
theorem toList_mk (l:List UInt8):(ByteArray.mk l.toArray).toList=l:=by
 rw [ByteArray.toList_eq]
theorem mh:∀(a b:List UInt8),bW.d8 a b=Op.bytesLess a b
 | _,[]=>by simp [bW.d8,Op.bytesLess]
 | [],_::_=>by simp [bW.d8,Op.bytesLess]
 | a::x,b::y=>by simp [bW.d8,Op.bytesLess,mh x y]
theorem ed {K:aU} {k:IntKind} {n:Int} {v:Value}:Rel K (.int k n) v↔v=.int k n:=by simp [Rel,R]
theorem fq {K:aU} {b:Bool} {v:Value}:Rel K (.bool b) v↔v=.bool b:=by simp [Rel,R]
theorem iL {K:aU} {s:List UInt8} {v:Value}:Rel K (.str s) v↔v=.string ⟨s.toArray⟩:=by simp [Rel,R]
theorem cg {ρ:bh} {k:IntKind} {n:Int}:ah ρ G (.pv (.int k n)) (.int k n):=by simp only [ah];exact ed.2 rfl
theorem iM {ρ:bh} {b:Bool}:ah ρ G (.pv (.bool b)) (.bool b):=by simp only [ah];exact fq.2 rfl
theorem mi {ρ:bh} {s:List UInt8}:ah ρ G (.pv (.str s)) (.string ⟨s.toArray⟩):=by simp only [ah];exact iL.2 rfl
theorem kT {op:BinOp} {t:TypeId} {x y z:AV} {vx vy:Value} (hx:ah (num ns) G x vx) (hy:ah (num ns) G y vy)
   (h:bW op x y=some z) (ox oy:Operand):∃v,(do eqGuard op t ox oy vx vy;binOp op t vx vy:Sem Value).run P w=.ok v w∧ah (num ns) G z v:=by
 unfold bW at h
 split at h
 · rename_i k a k' b
   simp only [ah,ed] at hx hy
   subst hx;subst hy
   have hg:(eqGuard op t ox oy (.int k a) (.int k' b)).run P w=.ok () w:=by cases op<;>simp [eqGuard]
   simp only [Sem.run_bind,hg,Result.andThen_ok]
   split at h
   · rename_i hk
     cases op<;>simp only [reduceCtorEq,or_false,or_self,or_true] at hk<;>simp at h
     case add=>subst hk;subst h;exact ⟨_,by simp [binOp,Op.intArith],cg⟩
     case sub=>subst hk;subst h;exact ⟨_,by simp [binOp,Op.intArith],cg⟩
     case mul=>subst hk;subst h;exact ⟨_,by simp [binOp,Op.intArith],cg⟩
     case quo=>subst hk;obtain ⟨h1,h⟩:=h;subst h;exact ⟨_,by simp [binOp,Op.intDiv,h1],cg⟩
     case rem=>subst hk;obtain ⟨h1,h⟩:=h;subst h;exact ⟨_,by simp [binOp,Op.intDiv,h1],cg⟩
     case and=>subst hk;subst h;exact ⟨_,by simp [binOp,Op.intBits],cg⟩
     case shl=>obtain ⟨h1,h⟩:=h;subst h;exact ⟨_,by simp [binOp,Op.shift,Int.not_lt.2 h1],cg⟩
     case shr=>obtain ⟨h1,h⟩:=h;subst h;exact ⟨_,by simp [binOp,Op.shift,Int.not_lt.2 h1],cg⟩
     all_goals (subst hk;subst h;exact ⟨_,by simp [binOp,Op.intCmp],iM⟩)
   · simp at h
 · rename_i a b
   simp only [ah,iL] at hx hy
   subst hx;subst hy
   have hg:(eqGuard op t ox oy (.string ⟨a.toArray⟩) (.string ⟨b.toArray⟩)).run P w=.ok () w:=by cases op<;>simp [eqGuard]
   simp only [Sem.run_bind,hg,Result.andThen_ok]
   cases op<;>simp at h
   case add=>
     obtain ⟨h1,h⟩:=h;subst h
     have h2:¬((((ByteArray.mk a.toArray).size+(ByteArray.mk b.toArray).size:Nat):Int) > IntKind.i64.max):=by
       have e1:(ByteArray.mk a.toArray).size=a.length:=by simp [ByteArray.size]
       have e2:(ByteArray.mk b.toArray).size=b.length:=by simp [ByteArray.size]
       rw [e1,e2]
       have:IntKind.i64.max=9223372036854775807:=by decide
       rw [this];omega
     have h3:(ByteArray.mk a.toArray)++(ByteArray.mk b.toArray)=ByteArray.mk (a++b).toArray:=by
       apply ByteArray.ext
       simp
     exact ⟨_,by simp only [binOp,Op.stringOp,if_neg h2,h3];rfl,mi⟩
   all_goals (subst h;exact ⟨_,by simp only [binOp,Op.stringOp,toList_mk,←mh,Sem.run_pure,Bool.not_or],iM⟩)
 · simp at h
theorem run_equalIn_bool (d:Nat) {t:TypeId} (hu:P.underlying t=some .bool) (a b:Bool):(Op.equalIn (d+1) t (.bool a) (.bool b)).run P w=.ok (a == b) w:=by
 simp only [Op.equalIn,Sem.run_bind,run_underlying hu,Result.andThen_ok,Sem.run_pure]
theorem run_equal_bool {t:TypeId} (hu:P.underlying t=some .bool) (a b:Bool):(Op.equal t (.bool a) (.bool b)).run P w=.ok (a == b) w:=
 run_equalIn_bool 9999 hu a b
theorem qw {op:BinOp} {t:TypeId} {neg:Bool} (hu:P.underlying t=some .bool) (hop:(op=.eql∧neg=false)∨(op=.neq∧neg=true)) (a b:Bool) (ox oy:Operand) :
   (do eqGuard op t ox oy (.bool a) (.bool b);binOp op t (.bool a) (.bool b):Sem Value).run P w=.ok (.bool (if neg then !(a == b) else (a == b))) w:=by
 rcases hop with ⟨rfl,rfl⟩ | ⟨rfl,rfl⟩
 · have hg:(eqGuard .eql t ox oy (.bool a) (.bool b)).run P w=.ok () w:=by simp [eqGuard]
   simp only [Sem.run_bind,hg,Result.andThen_ok,binOp,run_equal_bool hu,Sem.run_pure]
   rfl
 · have hg:(eqGuard .neq t ox oy (.bool a) (.bool b)).run P w=.ok () w:=by simp [eqGuard]
   simp only [Sem.run_bind,hg,Result.andThen_ok,binOp,run_equal_bool hu,Sem.run_pure]
   rfl
end
end Go.Ab
namespace Go.Ab
section
variable {P:Program} {ns:Names} {G:Gh} {w:World}
theorem Addr.cO (b o n:Nat):(⟨b,o,none⟩:Addr).add n=⟨b,o+n,none⟩:=by unfold Addr.add;split<;>simp_all
theorem kU (vs:List Value) (off sz:Nat):vs.toArray.extract off (off+sz)=((vs.drop off).take sz).toArray:=by
 simp [List.extract_toArray]
theorem ti {t off sz:Nat} {ag:Bool} {cs:List AV} {vs:List Value} {x:AV} (hsz:bS P t=some sz) (hag:eW P t=some ag)
   (h:br ag sz cs off=some x) (hr:ae (num ns) G cs vs) :
   ∃v,(part t vs.toArray off).run P w=.ok v w∧ah (num ns) G x v:=by
 unfold br at h
 split at h
 · rename_i hle
   cases ag with
   | true=>
     simp at h;subst h
     refine ⟨.agg (vs.toArray.extract off (off+sz)),?_,?_⟩
     · simp only [part,Sem.run_bind,fe hag,Result.andThen_ok,if_true,cf hsz,Sem.run_pure]
     · simp only [ah]
       exact ⟨(vs.drop off).take sz,by rw [kU],(hr.drop off).take sz⟩
   | false=>
     simp at h
     obtain ⟨_,h⟩:=h
     obtain ⟨v,h1,h2⟩:=hr.get h
     refine ⟨v,?_,h2⟩
     simp only [part,Sem.run_bind,fe hag,Result.andThen_ok,Bool.false_eq_true,if_false]
     simp [h1]
 · simp at h
theorem qx {t off sz:Nat} {ag:Bool} {cs:List PV} {vs:List Value} {x:AV} (hsz:bS P t=some sz) (hag:eW P t=some ag)
   (h:bN ag sz (cs.drop off)=some x) (hr:cx G.K cs vs) :
   ∃v,(part t vs.toArray off).run P w=.ok v w∧ah (num ns) G x v:=by
 unfold bN at h
 split at h
 · rename_i hle
   cases ag with
   | true=>
     simp at h;subst h
     refine ⟨.agg (vs.toArray.extract off (off+sz)),?_,?_⟩
     · simp only [part,Sem.run_bind,fe hag,Result.andThen_ok,if_true,cf hsz,Sem.run_pure]
     · simp only [ah,Rel]
       exact ⟨(vs.drop off).take sz,by rw [kU],cx.take sz (cx.drop off hr)⟩
   | false=>
     simp only [Bool.false_eq_true,if_false,Option.ite_none_right_eq_some,Option.map_eq_some_iff] at h
     obtain ⟨_,c,h,rfl⟩:=h
     rw [List.getElem?_drop] at h
     obtain ⟨v,h1,h2⟩:=hr.get h
     simp only [Nat.add_zero] at h1
     refine ⟨v,?_,by simp only [ah];exact Rel.Fu h2⟩
     simp only [part,Sem.run_bind,fe hag,Result.andThen_ok,Bool.false_eq_true,if_false]
     simp [h1]
 · simp at h
theorem f_ {t sz:Nat} {ag:Bool} {b o:Nat} {vs:List Value} (hsz:bS P t=some sz) (hag:eW P t=some ag)
   (hc:∀j v,vs[j]?=some v→w.cell? ⟨b,o+j,none⟩=some v) (hl:sz≤vs.length) (h1:ag=false→sz=1) :
   (loadVar t ⟨b,o,none⟩).run P w=.ok (if ag then .agg (vs.take sz).toArray else vs.getD 0 undef) w:=by
 cases ag with
 | true=>
   have hlen:(vs.take sz).length=sz:=by simp;omega
   have:=run_loadCells_list (P:=P) w ⟨b,o,none⟩ (vs.take sz) (fun j v hj=>by
     rw [Addr.cO]
     rw [List.getElem?_take] at hj
     split at hj
     · exact hc j v hj
     · simp at hj)
   rw [hlen] at this
   simp only [loadVar,Sem.run_bind,fe hag,Result.andThen_ok,if_true,cf hsz,this,Sem.run_pure]
 | false=>
   have:=h1 rfl
   subst this
   cases vs with
   | nil=>simp at hl
   | cons v r=>
     have:=hc 0 v rfl
     simp only [Nat.add_zero] at this
     simp only [loadVar,Sem.run_bind,fe hag,Result.andThen_ok,Bool.false_eq_true,if_false,run_load,this]
     simp
theorem i4 {t sz:Nat} {ag:Bool} {b o:Nat} {vs:List Value} {cs:List PV} {x:AV} (hsz:bS P t=some sz) (hag:eW P t=some ag)
   (h:bN ag sz cs=some x) (hr:cx G.K cs vs) (hc:∀j v,vs[j]?=some v→w.cell? ⟨b,o+j,none⟩=some v) :
   ∃v,(loadVar t ⟨b,o,none⟩).run P w=.ok v w∧ah (num ns) G x v:=by
 have hlen:=hr.length
 unfold bN at h
 split at h
 · rename_i hle
   cases ag with
   | true=>
     simp at h;subst h
     refine ⟨_,f_ hsz hag hc (by omega) (by simp),?_⟩
     simp only [if_true,ah,Rel]
     exact ⟨_,rfl,cx.take sz hr⟩
   | false=>
     simp only [Bool.false_eq_true,if_false,Option.ite_none_right_eq_some,Option.map_eq_some_iff] at h
     obtain ⟨h1,c,h,rfl⟩:=h
     obtain ⟨v,h3,h4⟩:=hr.get h
     refine ⟨_,f_ hsz hag hc (by omega) (fun _=>h1),?_⟩
     simp only [Bool.false_eq_true,if_false,ah]
     have:vs.getD 0 undef=v:=by simp [List.getD,h3]
     rw [this];exact Rel.Fu h4
 · simp at h
theorem eY {t sz:Nat} {ag:Bool} {b off:Nat} {vs:List Value} {cs:List AV} {x:AV} (hsz:bS P t=some sz) (hag:eW P t=some ag)
   (h:br ag sz cs off=some x) (hr:ae (num ns) G cs vs) (hc:∀j v,vs[j]?=some v→w.cell? ⟨b,j,none⟩=some v) :
   ∃v,(loadVar t ⟨b,off,none⟩).run P w=.ok v w∧ah (num ns) G x v:=by
 have hlen:=hr.length
 have hc':∀j v,(vs.drop off)[j]?=some v→w.cell? ⟨b,off+j,none⟩=some v:=fun j v hj=>by
   rw [List.getElem?_drop] at hj
   exact hc _ v hj
 unfold br at h
 split at h
 · rename_i hle
   cases ag with
   | true=>
     simp at h;subst h
     refine ⟨_,f_ hsz hag hc' (by simp;omega) (by simp),?_⟩
     simp only [if_true,ah]
     exact ⟨_,rfl,ae.take sz (ae.drop off hr)⟩
   | false=>
     simp at h
     obtain ⟨h1,h⟩:=h
     obtain ⟨v,h3,h4⟩:=hr.get h
     refine ⟨_,f_ hsz hag hc' (by simp;omega) (fun _=>h1),?_⟩
     simp only [Bool.false_eq_true,if_false]
     have:(vs.drop off).getD 0 undef=v:=by simp [List.getD,List.getElem?_drop,h3]
     rw [this];exact h4
 · simp at h
theorem gp {b:Nat} {c:Array Value} {t:TypeId} {fr:Nat×Nat} (h:w.heap[b]?=some (.cells c t fr)):∀j v,c.toList[j]?=some v→w.cell? ⟨b,j,none⟩=some v:=by
 intro j v hj
 simp [World.cell?,h]
 simpa using hj
theorem jE {b:Nat} {c:Array Value} {t:TypeId} {fr:Nat×Nat} {vs suf:List Value} (h:w.heap[b]?=some (.cells c t fr)) (hs:c.toList=vs++suf):∀j v,vs[j]?=some v→w.cell? ⟨b,j,none⟩=some v:=by
 intro j v hj
 refine gp h j v ?_
 rw [hs,List.getElem?_append_left (List.getElem?_eq_some_iff.1 hj).1]
 exact hj
theorem kV {t f:Nat} {fd:Field} (h:fp P t f=some fd):∃fs,P.underlying t=some (.struct fs)∧fs[f]?=some fd:=by
 unfold fp at h
 split at h
 · rename_i fs hu;exact ⟨fs,hu,h⟩
 · simp at h
theorem cz {t e:Nat} (h:dh P t=some e):P.underlying t=some (.slice e):=by
 unfold dh at h
 split at h
 · rename_i hu;simp at h;subst h;exact hu
 · simp at h
theorem qy {t f sz:Nat} {ag:Bool} {fd:Field} {x y:AV} {v:Value} (hf:fp P t f=some fd) (hsz:bS P fd.type=some sz) (hag:eW P fd.type=some ag)
   (h:a5 (.field fd.offset sz ag) [x]=some y) (hr:ah (num ns) G x v):∃u,(Instr.field t v f).run P w=.ok u w∧ah (num ns) G y u:=by
 obtain ⟨fs,hu,hg⟩:=kV hf
 simp only [a5] at h
 split at h
 · rename_i cs
   simp only [ah] at hr
   obtain ⟨vs,rfl,hr⟩:=hr
   obtain ⟨u,h1,h2⟩:=ti (w:=w) hsz hag h hr
   refine ⟨u,?_,h2⟩
   simp only [Instr.field,Sem.run_bind,run_underlying hu,Result.andThen_ok,hg,asAgg,Sem.run_pure,h1]
 · rename_i cs
   simp only [ah,Rel] at hr
   obtain ⟨vs,rfl,hr⟩:=hr
   obtain ⟨u,h1,h2⟩:=qx (ns:=ns) (w:=w) hsz hag h hr
   refine ⟨u,?_,h2⟩
   simp only [Instr.field,Sem.run_bind,run_underlying hu,Result.andThen_ok,hg,asAgg,Sem.run_pure,h1]
 · simp at h
theorem ix {t f s:Nat} {fd:Field} (hf:fp P t f=some fd) (hsz:bS P fd.type=some s) (hs:s≠0) (b o:Nat) :
   (Instr.fieldAt t (.pointer (some ⟨b,o,none⟩)) f).run P w=.ok (.pointer (some ⟨b,o+fd.offset,none⟩)) w:=by
 obtain ⟨fs,hu,hg⟩:=kV hf
 simp only [Instr.fieldAt,Sem.run_bind,run_underlying hu,Result.andThen_ok,hg,Instr.sureAddr,Sem.run_pure,fieldPlace,cf hsz,hs,if_false,Addr.cO]
theorem qz {t f s:Nat} {fd:Field} {x y:AV} {v:Value} (hf:fp P t f=some fd) (hsz:bS P fd.type=some s) (hs:s≠0)
   (h:a5 (.eI fd.offset) [x]=some y) (hr:ah (num ns) G x v):∃u,(Instr.fieldAt t v f).run P w=.ok u w∧ah (num ns) G y u:=by
 simp only [a5] at h
 split at h
 · simp at h;subst h
   simp only [ah] at hr
   obtain ⟨b,e,rfl⟩:=hr
   exact ⟨_,ix hf hsz hs _ _,by simp only [ah];exact ⟨b,e,rfl⟩⟩
 · simp at h;subst h
   simp only [ah] at hr
   obtain ⟨b,e,rfl⟩:=hr
   exact ⟨_,ix hf hsz hs _ _,by simp only [ah];exact ⟨b,e,rfl⟩⟩
 · simp at h;subst h
   simp only [ah] at hr
   obtain ⟨b,o,vs,rfl,h1,h2⟩:=hr
   refine ⟨_,ix hf hsz hs _ _,?_⟩
   simp only [ah]
   refine ⟨b,_,vs.drop fd.offset,rfl,?_,cx.drop _ h2⟩
   intro j u hj
   rw [List.getElem?_drop] at hj
   have:=h1 _ u hj
   rwa [Nat.add_assoc]
 · simp at h
theorem kW {t e sz:Nat} {k:IntKind} {i:Int} {b o len cap:Nat} (he:dh P t=some e) (hsz:bS P e=some sz) (h0:0≤i) (hi:i.toNat<len) :
   (Instr.indexAt t (.slice (some ⟨b,o,none⟩) len cap) (.int k i)).run P w=.ok (.pointer (some ⟨b,o+i.toNat*sz,none⟩)) w:=by
 have hu:=cz he
 have:(0≤i∧i<(len:Int)):=⟨h0,by omega⟩
 simp only [Instr.indexAt,Sem.run_bind,asIntOf,Sem.run_pure,Result.andThen_ok,run_underlying hu]
 simp [this,cf hsz,Addr.cO]
theorem cP {x:AV} {v:Value} {els:List PV} (h:cy x=some els) (hr:ah (num ns) G x v):Rel G.K (.aE els) v:=by
 unfold cy at h
 split at h
 · simp at h;subst h;simpa only [ah] using hr
 · simp at h;subst h
   simp only [ah] at hr
   obtain ⟨b,l,rfl,hr⟩:=hr
   exact bu.2 ⟨b,l,l,rfl,Nat.le_refl _,hr⟩
 · simp at h;subst h
   simp only [ah] at hr
   obtain ⟨t,_,_,hr,_⟩:=hr
   exact hr
 · simp at h
theorem qA {t e sz:Nat} {k:IntKind} {i:Int} {x y:AV} {v:Value} (he:dh P t=some e) (hsz:bS P e=some sz)
   (h:a5 (.fh sz) [x,.pv (.int k i)]=some y) (hr:ah (num ns) G x v) :
   ∃u,(Instr.indexAt t v (.int k i)).run P w=.ok u w∧ah (num ns) G y u:=by
 simp only [a5] at h
 split at h
 · simp at h
 · rename_i h0
   split at h
   · rename_i s sz' n ag
     simp only [ah] at hr
     obtain ⟨b,c,e1,rfl,_⟩:=hr
     simp only [Option.ite_none_right_eq_some,Option.some.injEq] at h
     obtain ⟨⟨h1,h2⟩,rfl⟩:=h
     refine ⟨_,kW he hsz (by omega) h2,?_⟩
     simp only [ah]
     exact ⟨b,e1,by simp⟩
   · rename_i x' _
     split at h
     · rename_i els hels
       have hr':=cP hels hr
       obtain ⟨base,len,cap,rfl,_,hlen,hrow⟩:=bu.1 hr'
       split at h
       · rename_i el hel
         simp only [Option.ite_none_right_eq_some,Option.some.injEq] at h
         obtain ⟨hl,rfl⟩:=h
         have hlt:i.toNat<els.length:=(List.getElem?_eq_some_iff.1 hel).1
         rcases hrow with hnil | ⟨b,o,sz',rfl,hrow⟩
         · subst hnil;simp at hlt
         · obtain ⟨vs,g1,g2,g3⟩:=hrow.get hel
           have:sz=sz':=by rw [←hl,←g3.length,g1]
           subst this
           refine ⟨_,kW he hsz (by omega) (by omega),?_⟩
           simp only [ah]
           exact ⟨b,_,vs,rfl,g2,g3.cells⟩
       · simp at h
     · simp at h
theorem qB {t:Nat} {k:IntKind} {i:Int} {s:List UInt8} {y:AV} (hu:P.underlying t=some .string)
   (h:a5 .index [.pv (.str s),.pv (.int k i)]=some y) :
   ∃u,(Instr.index t (.string ⟨s.toArray⟩) (.int k i)).run P w=.ok u w∧ah (num ns) G y u:=by
 simp only [a5] at h
 split at h
 · simp at h
 · rename_i h0
   simp only [Option.map_eq_some_iff] at h
   obtain ⟨b,h1,rfl⟩:=h
   refine ⟨_,?_,cg⟩
   have h2:(ByteArray.mk s.toArray)[i.toNat]?=some b:=by
     have hlt:=(List.getElem?_eq_some_iff.1 h1).1
     rw [getElem?_pos (ByteArray.mk s.toArray) i.toNat (by simpa [ByteArray.size] using hlt)]
     have:=(List.getElem?_eq_some_iff.1 h1).2
     simp only [Option.some.injEq]
     rw [←this];rfl
   simp only [Instr.index,Sem.run_bind,asIntOf,Sem.run_pure,Result.andThen_ok,run_underlying hu]
   have h3:0≤i:=by omega
   simp only [h3,if_true,h2,Sem.run_pure]
end
end Go.Ab
namespace Go.Ab
section
variable {P:Program} {ns:Names} {G:Gh} {w:World}
theorem d6 {α β:Type} {f:α→Option β}:∀{l:List α} {r:List β},bI f l=some r→r.length=l.length
 | [],_,h=>by simp [bI] at h;subst h;rfl
 | x::l,r,h=>by
   simp only [bI] at h
   split at h
   · rename_i y ys h1 h2
     simp at h;subst h
     simp [d6 h2]
   · simp at h
theorem qC {α β:Type} {f:α→Option β}:∀{l:List α} {r:List β},bI f l=some r→∀{i:Nat} {x:α},l[i]?=some x→∃y,r[i]?=some y∧f x=some y
 | [],_,_,i,x,hx=>by simp at hx
 | a::l,r,h,i,x,hx=>by
   simp only [bI] at h
   split at h
   · rename_i y ys h1 h2
     simp at h;subst h
     cases i with
     | zero=>simp at hx;subst hx;exact ⟨y,by simp,h1⟩
     | succ i=>simpa using qC h2 (by simpa using hx)
   · simp at h
theorem qD {α β:Type} {f:α→Sem β} {g:α→Option β} (hf:∀x y,g x=some y→(f x).run P w=.ok y w):∀{l:List α} {r:List β},
   bI g l=some r→(l.mapM f).run P w=.ok r w
 | [],_,h=>by simp [bI] at h;subst h;simp
 | x::l,r,h=>by
   simp only [bI] at h
   split at h
   · rename_i y ys h1 h2
     simp at h;subst h
     simp only [List.mapM_cons,Sem.run_bind,hf x y h1,Result.andThen_ok,qD hf h2,Sem.run_pure]
   · simp at h
theorem d7 {t:Nat} {z:List PV} (h:bF P t=some z):∃zv,(zeroValue t).run P w=.ok zv w∧bI b_ zv.cells.toList=some z:=by
 unfold bF at h
 split at h
 · rename_i zv hz
   cases hi:P.info? t with
   | none=>simp [hi] at hz
   | some i=>
     simp [hi] at hz
     exact ⟨zv,by simp [zeroValue,typeInfo,hi,hz],h⟩
 · simp at h
theorem o_ {ρ:bh} {v:Value} {p:PV} (h:b_ v=some p):ah ρ G (a5.zeroCell p) v∧aH (a5.zeroCell p)=true:=by
 obtain ⟨h1,h2⟩:=gK (K:=G.K) h
 unfold a5.zeroCell
 split
 · refine ⟨?_,rfl⟩
   cases v with
   | slice a l c=>
     cases a with
     | some a=>simp [b_] at h
     | none=>
       cases l with
       | succ l=>simp [b_] at h
       | zero=>
         cases c with
         | succ c=>simp [b_] at h
         | zero=>simp only [ah];exact ⟨none,0,rfl,rfl,.inl rfl⟩
   | _=>simp [b_] at h
 · refine ⟨by simp only [ah];exact Rel.Fu h1,?_⟩
   cases p<;>simp_all [aH,er]
theorem eH {ρ:bh}:∀{l:List Value} {z:List PV},bI b_ l=some z→ae ρ G (z.map a5.zeroCell) l∧(z.map a5.zeroCell).all aH=true
 | [],_,h=>by simp [bI] at h;subst h;simp [ae]
 | v::l,z,h=>by
   simp only [bI] at h
   split at h
   · rename_i y ys h1 h2
     simp at h;subst h
     obtain ⟨g1,g2⟩:=eH (ρ:=ρ) h2
     obtain ⟨g3,g4⟩:=o_ (G:=G) (ρ:=ρ) h1
     simp only [List.map_cons,ae,List.all_cons,g4,g2,Bool.and_true,and_true]
     exact ⟨v,l,rfl,g3,g1⟩
   · simp at h
theorem ko (off:Nat):∀(l:List Value) (k:Nat) (cs:Array Value),off+k+l.length≤cs.size →
   ((l.zipIdx k).foldl (fun cs (x:Value×Nat)=>cs.setIfInBounds (off+x.2) x.1) cs).toList=cs.toList.take (off+k)++l++cs.toList.drop (off+k+l.length)
 | [],k,cs,_=>by simp
 | v::l,k,cs,h=>by
   simp only [List.zipIdx_cons,List.foldl_cons]
   have h':off+(k+1)+l.length≤(cs.setIfInBounds (off+k) v).size:=by simp at h ⊢;omega
   rw [ko off l (k+1) _ h']
   have:=list_seg_step cs.toList (off+k) v l (by simp at h ⊢;omega)
   simpa [Array.toList_setIfInBounds,Nat.add_assoc] using this
theorem dz {ρ:bh} {cs:List AV} {l:List Value} (off:Nat) {us:List AV} {vs:List Value} (h:ae ρ G cs l) (k:ae ρ G us vs) :
   ae ρ G (aO cs off us) (l.take off++vs++l.drop (off+vs.length)):=by
 unfold aO
 rw [←k.length]
 exact ae.append (ae.append (h.take off) k) (h.drop _)
theorem eZ {B:AV→Bool} {cs us:List AV} {off:Nat} (h:cs.all B=true) (k:us.all B=true):(aO cs off us).all B=true:=by
 unfold aO
 rw [List.all_eq_true] at *
 intro x hx
 simp only [List.mem_append] at hx
 rcases hx with (hx | hx) | hx
 · exact h x (List.mem_of_mem_take hx)
 · exact k x hx
 · exact h x (List.mem_of_mem_drop hx)
theorem mj {place:Nat→Option (Nat×Nat)}:∀{is:List Nat} {pl:List (Nat×Nat)} {vals:List AV} {rvs:List Value} {cells:List AV} {rc:Array Value} {cs:List AV},
   bI place is=some pl→ae (num ns) G vals rvs→ae (num ns) G cells rc.toList→cells.all aH=true→is.length=rvs.length→hZ cells pl vals=some cs →
   ∃rc',Instr.fill place rc (is.zip rvs)=some rc'∧ae (num ns) G cs rc'.toList∧cs.all aH=true
 | [],pl,vals,rvs,cells,rc,cs,hp,hv,hc,hb,hl,h=>by
   simp [bI] at hp;subst hp
   have:rvs=[]:=by cases rvs<;>simp_all
   subst this
   have:=hv.length
   have:vals=[]:=by cases vals<;>simp_all
   subst this
   simp [hZ] at h;subst h
   exact ⟨rc,by simp [Instr.fill],hc,hb⟩
 | i::is,pl,vals,rvs,cells,rc,cs,hp,hv,hc,hb,hl,h=>by
   simp only [bI] at hp
   split at hp
   · rename_i y ys h1 h2
     simp at hp;subst hp
     obtain ⟨off,sz⟩:=y
     cases vals with
     | nil=>simp [hZ] at h
     | cons v vals=>
       simp only [ae] at hv
       obtain ⟨rv,rr,rfl,e1,e2⟩:=hv
       simp only [hZ,Option.ite_none_right_eq_some] at h
       obtain ⟨⟨g1,g2,g3⟩,h⟩:=h
       have hcells:=e1.cells g3
       have hlen:=hcells.length
       have hsz:rv.cells.size=sz:=by rw [←g1,←hlen];simp
       have hrc:rc.size=cells.length:=by have:=hc.length;simpa using this
       simp only [List.zip_cons_cons,Instr.fill,h1]
       have hcond:(decide (rv.cells.size≠sz) || decide (off+rv.cells.size > rc.size))=false:=by
         simp [hsz];omega
       have hfold:(rv.cells.zipIdx.foldl (fun cs (x:Value×Nat)=>cs.setIfInBounds (off+x.2) x.1) rc).toList=rc.toList.take off++rv.cells.toList++rc.toList.drop (off+rv.cells.toList.length):=by
         have:=ko off rv.cells.toList 0 rc (by simp;omega)
         rw [←Array.foldl_toList]
         simpa using this
       rw [if_neg (by simp [hsz];omega)]
       refine mj (is:=is) h2 e2 (cells:=aO cells off (aM v)) ?_ (eZ hb g3) (by simpa using hl) h
       rw [hfold]
       exact dz off hc hcells
   · simp at hp
theorem pc {t:Nat} {all:List (Nat×Nat)} (h:fieldsOf P t=some all):∃fs,P.underlying t=some (.struct fs) ∧
   (fs.mapM fun f=>(do pure (f.offset,←sizeOf f.type):Sem (Nat×Nat))).run P w=.ok all.toArray w:=by
 unfold fieldsOf at h
 split at h
 · rename_i fs hu
   refine ⟨fs,hu,?_⟩
   rw [Array.mapM_eq_mapM_toList]
   simp only [Sem.run_map]
   rw [qD (g:=fun f=>(bS P f.type).map fun s=>(f.offset,s)) ?_ h]
   · rfl
   · intro f y hy
     simp only [Option.map_eq_some_iff] at hy
     obtain ⟨s,h1,rfl⟩:=hy
     simp only [Sem.run_bind,cf h1,Result.andThen_ok,Sem.run_pure]
 · simp at h
theorem qE {t:Nat} {z:List PV} {is:List Nat} {pl:List (Nat×Nat)} {vals:List AV} {rvs:List Value} {x:AV}
   (hz:bF P t=some z) (hp:placesOf P t is=some pl) (hr:ae (num ns) G vals rvs) (hl:is.length=rvs.length) (h:a5 (.build z pl) vals=some x) :
   ∃v,(Instr.build t (is.zip rvs).toArray).run P w=.ok v w∧ah (num ns) G x v:=by
 obtain ⟨zv,hz1,hz2⟩:=d7 (w:=w) hz
 unfold placesOf at hp
 split at hp
 · rename_i all hall
   obtain ⟨fs,hu,hm⟩:=pc (w:=w) hall
   simp only [a5,Option.map_eq_some_iff] at h
   obtain ⟨cs,h1,rfl⟩:=h
   obtain ⟨g1,g2⟩:=eH (G:=G) (ρ:=num ns) hz2
   obtain ⟨rc,e1,e2,_⟩:=mj (place:=(all.toArray[·]?)) (rc:=zv.cells) (by simpa using hp) hr g1 g2 hl h1
   refine ⟨.agg rc,?_,?_⟩
   · simp only [Instr.build,Sem.run_bind,hz1,Result.andThen_ok,run_underlying hu,hm]
     simp only [e1,Sem.run_pure]
   · simp only [ah]
     exact ⟨rc.toList,by simp,e2⟩
 · simp at hp
theorem Rel.Hc {K:aU} {p:PV} {v:Value} (h:Rel K p v):R K true p v.cells.toList:=by
 cases p with
 | agg cs=>obtain ⟨vs,rfl,h⟩:=h;simp only [R,Value.cells];exact ⟨trivial,by simpa using h⟩
 | bool b=>have h':=h;simp only [Rel,R] at h';simp at h';subst h';simpa [Value.cells] using R.top h
 | int k n=>have h':=h;simp only [Rel,R] at h';simp at h';subst h';simpa [Value.cells] using R.top h
 | str s=>have h':=h;simp only [Rel,R] at h';simp at h';subst h';simpa [Value.cells] using R.top h
 | aE els=>
   have h':=h
   obtain ⟨b,l,c,rfl,_⟩:=bu.1 h'
   simpa [Value.cells] using R.top h
theorem jF {x:AV} {p:PV} {v:Value} (h:ja x=some p) (hr:ah (num ns) G x v):Rel G.K p v:=by
 unfold ja at h
 split at h<;>simp at h<;>subst h
 · simpa only [ah] using hr
 · exact cP (x:=.cI _) rfl hr
 · exact cP (x:=.own _ _) rfl hr
theorem kX {x:AV}:cD [] x=ja x:=by
 cases x<;>simp [cD,ja]
theorem kq {x:AV} {p:PV} (h:ja x=some p) (hl:aH x=true):er p=true:=by
 cases x with
 | pv q=>simp [ja] at h;subst h;cases q<;>simp_all [aH,er]
 | cI _=>simp [ja] at h;subst h;rfl
 | own _ _=>simp [ja] at h;subst h;rfl
 | _=>simp [ja] at h
theorem Rel.z3 {K:aU} {p:PV} {v:Value} (h:Rel K p v) (hl:er p=true):R K false p [v]:=(zY hl).1 h
theorem oi:∀{cs:List AV} {ps:List PV} {vs:List Value},cU [] cs=some ps→ae (num ns) G cs vs→cx G.K ps vs
 | [],ps,vs,h,hr=>by simp [cU] at h;subst h;simp only [ae] at hr;simp [cx,hr]
 | c::cs,ps,vs,h,hr=>by
   simp only [cU,kX,Option.ite_none_right_eq_some] at h
   obtain ⟨hl,h⟩:=h
   split at h
   · rename_i p ps' h1 h2
     simp at h;subst h
     simp only [ae] at hr
     obtain ⟨v,r,rfl,e1,e2⟩:=hr
     simp only [cx]
     exact ⟨v,r,rfl,(jF h1 e1).z3 (kq h1 hl),oi h2 e2⟩
   · simp at h
theorem pd {x:AV} {p:PV} {v:Value} (h:eo [] x=some p) (hr:ah (num ns) G x v):Rel G.K p v:=by
 cases x with
 | agg cs=>
   simp only [eo,Option.map_eq_some_iff] at h
   obtain ⟨ps,h1,rfl⟩:=h
   simp only [ah] at hr
   obtain ⟨vs,rfl,hr⟩:=hr
   simp only [Rel]
   exact ⟨vs,rfl,oi h1 hr⟩
 | _=>simp only [eo,kX] at h;exact jF h hr
theorem gL:∀{xs:List AV} {ps:List PV} {vs:List Value},bY [] xs=some ps→ae (num ns) G xs vs→fW G.K ps vs
 | [],ps,vs,h,hr=>by simp [bY] at h;subst h;simp only [ae] at hr;exact hr
 | c::cs,ps,vs,h,hr=>by
   simp only [bY] at h
   split at h
   · rename_i p ps' h1 h2
     simp at h;subst h
     simp only [ae] at hr
     obtain ⟨v,r,rfl,e1,e2⟩:=hr
     exact ⟨v,r,rfl,pd h1 e1,gL h2 e2⟩
   · simp at h
def Gh.ml (G:Gh) (b:Nat) (c:Array Value):Gh:={ G with K:=fun b' o=>if b'=b then c[o]? else G.K b' o }
theorem Inv.ft {ρ:bh} {mem:List (Nat×List AV)} {sh:Sh} {aa:aq} (h:Inv ρ G w mem sh aa) {b o:Nat} {v:Value} (hk:G.K b o=some v):b<w.heap.size:=
 World.block_lt_of_cell? _ _ (h.known b o v hk)
theorem Gh.lY {ρ:bh} {mem:List (Nat×List AV)} {sh:Sh} {aa:aq} (h:Inv ρ G w mem sh aa) (c:Array Value):G.le (G.ml w.heap.size c) where
 K:=fun b o v hk=>by
   have:=h.ft hk
   simp only [Gh.ml]
   rw [if_neg (by omega)]
   exact hk
 pm:=fun _ _ h=>h
 sm:=fun _ _ h=>h
 tk:=fun _ t h=>⟨t,h,⟨Nat.le_refl _,t.d9⟩,fun _=>rfl⟩
theorem aT {o:Obj} {b:Nat} (h:b<w.heap.size):(w.alloc o).heap[b]?=w.heap[b]?:=RowKit.Below.heap_alloc w o b h
theorem heap_alloc_new {o:Obj}:(w.alloc o).heap[w.heap.size]?=some o:=by
 show (w.heap.push o)[w.heap.size]?=some o
 simp
theorem bC {b:Nat} {o:Obj} (h:w.heap[b]?=some o):b<w.heap.size:=by
 rcases Nat.lt_or_ge b w.heap.size with h' | h'
 · exact h'
 · simp [Array.getElem?_eq_none h'] at h
theorem Gq.mono {ρ:bh} {G':Gh} {w':World} {b:Nat} {r:iu} {cells:List AV} (h:Gq ρ G w b r cells) (hle:G.le G') (hr:G'.role b=G.role b) (hh:w'.heap[b]?=w.heap[b]?):Gq ρ G' w' b r cells:=by
 obtain ⟨h1,c,t,h2,h3⟩:=h
 exact ⟨hr.trans h1,c,t,hh.trans h2,ae.mono hle h3⟩
theorem o9.mono {ρ:bh} {G':Gh} {w':World} {b:Nat×Nat} {r:iu} {cells:List AV} (h:o9 ρ G w b r cells) (hle:G.le G') (hr:G'.role b.1=G.role b.1) (hh:w'.heap[b.1]?=w.heap[b.1]?):o9 ρ G' w' b r cells:=by
 obtain ⟨h1,o,h2,h3⟩:=h
 exact ⟨hr.trans h1,o,hh.trans h2,h3.mono hle⟩
theorem o9.lt {ρ:bh} {b:Nat×Nat} {r:iu} {cells:List AV} (h:o9 ρ G w b r cells):b.1<w.heap.size:=by
 obtain ⟨_,o,h2,_⟩:=h
 exact bC h2
theorem Inv.mm {ρ:bh} {mem:List (Nat×List AV)} {sh:Sh} {aa:aq} (h:Inv ρ G w mem sh aa) (c:Array Value) (t:TypeId) :
   Inv ρ (G.ml w.heap.size c) (w.alloc (.cells c t)) mem sh aa:=by
 have hle:=Gh.lY h c
 constructor
 · intro b o v hk
   simp only [Gh.ml] at hk
   split at hk
   · rename_i hb;subst hb
     simp [hk]
   · rw [World.cell?_alloc_old]
     · exact h.known b o v hk
     · simpa using ‹¬b=w.heap.size›
 · intro b o v hk
   simp only [Gh.ml] at hk
   split at hk
   · rename_i hb;subst hb
     exact .inl (h.fresh _ (Nat.le_refl _))
   · exact h.aI b o v hk
 · intro b hb
   simp at hb
   exact h.fresh b (by omega)
 · intro d cells hd
   obtain ⟨b,e1,e2,e3⟩:=h.bT d cells hd
   have hb:b<w.heap.size:=by obtain ⟨c,t,hh,_⟩:=e2.at_;exact bC hh
   exact ⟨b,e1,e2.mono hle rfl (aT hb),e3⟩
 · exact h.ep
 · intro d cells hd
   obtain ⟨b,e1,e2,e3⟩:=h.cr d cells hd
   have hb:b.1<w.heap.size:=e2.lt
   exact ⟨b,e1,e2.mono hle rfl (aT hb),e3⟩
 · exact h.cV
 · intro τ n hn
   obtain ⟨tk,e1,e2,e3⟩:=h.cq τ n hn
   refine ⟨tk,e1,e2,e3.cap,e3.zero,fun hlt=>?_⟩
   obtain ⟨b,o,cc,ty,f1,f2,f3,f4,f5⟩:=e3.spare hlt
   have hb:=bC f3
   refine ⟨b,o,cc,ty,f1,f2,(aT hb).trans f3,f4,fun j v hk=>f5 j v ?_⟩
   simp only [Gh.ml] at hk
   rwa [if_neg (by omega)] at hk
 · exact h.dy
 · intro b c' hb
   obtain ⟨h1,t',z,h2⟩:=h.i3 b c' hb
   exact ⟨h1,t',z,(aT (Array.getElem?_eq_some_iff.1 h2).1).trans h2⟩
theorem bf.mm {ρ:bh} {mem:List (Nat×List AV)} {sh:Sh} {aa:aq} (h:Inv ρ G w mem sh aa) (c:Array Value) (t:TypeId) :
   bf G w (G.ml w.heap.size c) (w.alloc (.cells c t)) where
 size:=by simp
 os:=rfl
 tape:=rfl
 output:=rfl
 K:=(Gh.lY h c).K
 sm:=fun _ _ h=>h
 cS:=fun b hb hr=>⟨hr,aT hb⟩
 eS:=fun b τ _ hr=>.inr ⟨τ,hr⟩
 d_:=fun b o v hb _ hk=>by
   simp only [Gh.ml] at hk
   rwa [if_neg (by omega)] at hk
theorem Cu {b:Nat} {l:List Value}:At (G.ml b l.toArray).K b 0 l:=by
 intro j v hj
 simp only [Gh.ml,if_true,Nat.zero_add]
 simpa using hj
end
end Go.Ab
namespace Go.Ab
section
variable {P:Program} {ns:Names} {G:Gh} {w:World}
theorem kY (sz:Nat):∀(rvs:List Value) (k:Nat) (rc:Array Value),rc.size=(k+rvs.length)*sz→(∀v∈rvs,v.cells.size=sz) →
   ∃rc',Instr.fill (fun i=>some (i*sz,sz)) rc ((List.range' k rvs.length).zip rvs)=some rc'∧rc'.toList=rc.toList.take (k*sz)++rvs.flatMap (fun v=>v.cells.toList)
 | [],k,rc,h,_=>⟨rc,by simp [Instr.fill],by simp at h;simp only [List.flatMap_nil,List.append_nil];rw [List.take_of_length_le];simp;omega⟩
 | v::rvs,k,rc,h,hs=>by
   have hv:=hs v (by simp)
   have hsz:rc.size=k*sz+(rvs.length+1)*sz:=by rw [h,Nat.add_mul];simp
   have hge:k*sz+sz≤rc.size:=by rw [hsz,Nat.add_mul];omega
   have hfold:(v.cells.zipIdx.foldl (fun cs (x:Value×Nat)=>cs.setIfInBounds (k*sz+x.2) x.1) rc).toList=rc.toList.take (k*sz)++v.cells.toList++rc.toList.drop (k*sz+sz):=by
     have:=ko (k*sz) v.cells.toList 0 rc (by simp [hv];omega)
     rw [←Array.foldl_toList]
     simpa [hv] using this
   have hsize:(v.cells.zipIdx.foldl (fun cs (x:Value×Nat)=>cs.setIfInBounds (k*sz+x.2) x.1) rc).size=rc.size:=by
     have hl:=congrArg List.length hfold
     rw [List.length_append,List.length_append,List.length_take,List.length_drop] at hl
     simp only [Array.length_toList,hv] at hl
     omega
   obtain ⟨rc',e1,e2⟩:=kY sz rvs (k+1) _ (by rw [hsize,h];congr 1;simp;omega) (fun u hu=>hs u (by simp [hu]))
   refine ⟨rc',?_,?_⟩
   · simp only [List.length_cons,List.range'_succ,List.zip_cons_cons,Instr.fill]
     rw [if_neg (by simp [hv];omega)]
     exact e1
   · rw [e2,hfold]
     simp only [List.flatMap_cons]
     rw [List.append_assoc,List.take_append]
     have h1:(rc.toList.take (k*sz)).length=k*sz:=by simp;omega
     rw [h1]
     have h2:(k+1)*sz-k*sz=sz:=by rw [Nat.add_mul];omega
     rw [h2,List.take_of_length_le (by rw [h1,Nat.add_mul];omega),List.take_append]
     simp [hv,List.append_assoc]
     exact List.take_of_length_le (by simp [hv])
theorem kZ (f:Operand→Value):∀(l:List (Nat×Operand)) (k:Nat),lU k l=true →
   l.map (fun x=>(x.1,f x.2))=(List.range' k ((l.map (·.2)).map f).length).zip ((l.map (·.2)).map f)
 | [],k,_=>by simp
 | (i,x)::l,k,h=>by
   simp only [lU,Bool.and_eq_true,beq_iff_eq] at h
   obtain ⟨rfl,h⟩:=h
   simp only [List.map_cons,List.length_cons,List.range'_succ,List.zip_cons_cons]
   rw [kZ f l _ h]
theorem k_ (f:Operand→Value):∀(l:List (Nat×Operand)),l.map (fun x=>(x.1,f x.2))=(l.map (·.1)).zip ((l.map (·.2)).map f)
 | []=>by simp
 | x::l=>by simp [k_ f l]
theorem qF {K:aU} {b sz:Nat}:∀{els:List PV} {vs:List Value} {o:Nat},fW K els vs→els.all (fun e=>(aL e).length == sz)=true →
   At K b o (vs.flatMap fun v=>v.cells.toList)→Row K b o sz els
 | [],_,_,_,_,_=>by simp only [Row]
 | e::els,vs,o,⟨v,r,e1,e2,e3⟩,hs,ha=>by
   subst e1
   simp only [List.all_cons,Bool.and_eq_true,beq_iff_eq] at hs
   have hR:=e2.Hc
   have hlen:v.cells.toList.length=sz:=by rw [hR.length,hs.1]
   simp only [Row]
   refine ⟨⟨v.cells.toList,hlen,?_,hR⟩,qF e3 hs.2 ?_⟩
   · intro j u hj
     exact ha j u (by simp only [List.flatMap_cons];rw [List.getElem?_append_left (List.getElem?_eq_some_iff.1 hj).1];exact hj)
   · intro j u hj
     have:=ha (sz+j) u (by simp only [List.flatMap_cons];rw [List.getElem?_append_right (by omega),hlen,Nat.add_sub_cancel_left];exact hj)
     rwa [←Nat.add_assoc] at this
theorem mo {K:aU} {sz:Nat}:∀{els:List PV} {vs:List Value},fW K els vs→els.all (fun e=>(aL e).length == sz)=true→∀v∈vs,v.cells.size=sz
 | [],vs,h,_,v,hv=>by cases h;simp at hv
 | e::els,vs,⟨u,r,e1,e2,e3⟩,hs,v,hv=>by
   subst e1
   simp only [List.all_cons,Bool.and_eq_true,beq_iff_eq] at hs
   simp only [List.mem_cons] at hv
   rcases hv with rfl | hv
   · have:=e2.Hc.length;simp at this;rw [this,hs.1]
   · exact mo e3 hs.2 v hv
theorem pe {ρ:bh} {mem:List (Nat×List AV)} {sh:Sh} {aa:aq} {t e sz n:Nat} {z:List PV} {vals:List AV} {rvs:List Value} {x:AV}
   (he:dh P t=some e) (hsz:bS P e=some sz) (hz:bF P e=some z) (hn:rvs.length=n) (h0:0<sz) (hb:n*sz≤16777216)
   (hr:ae (num ns) G vals rvs) (hi:Inv ρ G w mem sh aa) (h:a5 (.dM sz) vals=some x) :
   ∃v c,(Instr.buildSlice t n ((List.range' 0 rvs.length).zip rvs).toArray).run P w=.ok v (w.alloc (.cells c e)) ∧
     ah (num ns) (G.ml w.heap.size c) x v:=by
 have hu:=cz he
 simp only [a5,Option.bind_eq_some_iff,Option.ite_none_right_eq_some,Option.some.injEq] at h
 obtain ⟨els,h1,h2,rfl⟩:=h
 have hrl:=gL h1 hr
 have hlen:=hrl.length
 obtain ⟨zv,hz1,hz2⟩:=d7 (w:=w) hz
 have hne:¬(n*sz=0∧0<n):=by rintro ⟨a,b⟩;have:=Nat.mul_pos b h0;omega
 let z0:Array Value:=if n*sz=0 then #[] else zv.cells
 have hinit:((Array.range (n*sz)).map (z0[· % z0.size]!)).size=(0+rvs.length)*sz:=by simp [hn]
 obtain ⟨rc,g1,g2⟩:=kY sz rvs 0 _ hinit (mo hrl h2)
 have g2':rc.toList=rvs.flatMap (fun v=>v.cells.toList):=by simpa using g2
 refine ⟨.slice (some ⟨w.heap.size,0,none⟩) n n,rc,?_,?_⟩
 · simp only [Instr.buildSlice,Sem.run_bind,run_underlying hu,Result.andThen_ok,cf hsz]
   rw [if_neg (by omega)]
   by_cases h00:n*sz=0
   · have hz0:z0=#[]:=if_pos h00
     rw [hz0] at g1
     rw [if_pos h00]
     simp only [Sem.run_bind,Sem.run_pure,Result.andThen_ok,g1]
     rfl
   · have hz0:z0=zv.cells:=if_neg h00
     rw [hz0] at g1
     rw [if_neg h00]
     simp only [Sem.run_bind,Sem.run_pure,hz1,Result.andThen_ok,g1]
     rfl
 · simp only [ah]
   refine ⟨_,n,rfl,by omega,?_⟩
   by_cases hnil:els=[]
   · exact .inl hnil
   · refine .inr ⟨w.heap.size,0,sz,rfl,?_⟩
     have hle:=(Gh.lY hi rc).K
     refine qF (fW.mono hle hrl) h2 ?_
     rw [←g2']
     have:=Cu (G:=G) (b:=w.heap.size) (l:=rc.toList)
     simpa using this
end
end Go.Ab
namespace Go.Ab
section
variable {P:Program} {ns:Names} {G:Gh} {w:World}
theorem bJ {k:IntKind} {i:Int} {y:Nat} {code:BoundsCode} (h0:0≤i) (hy:i≤y):(Instr.sliceBound (.int k i) y code).run P w=.ok i.toNat w:=by
 simp only [Instr.sliceBound,Sem.run_bind,asIntOf,Sem.run_pure,Result.andThen_ok]
 rw [if_pos ⟨h0,hy⟩]
 rfl
theorem jc {lo hi mx:Option Operand} {f:Operand→Value} {rest:List AV} {n cap:Nat} {l h:Int} {m:Option Int} {b:Bool}
   (hr:ae (num ns) G rest ((lo.toList++hi.toList++mx.toList).map f)) (he:gD lo.isSome hi.isSome mx.isSome n rest=some (l,h,m))
   (h0:0≤l) (h1:l≤h) (h2:h≤n) (h3:n≤cap) (hm:∀x,m=some x→x=h) :
   (Instr.sliceBounds b n cap (lo.map f) (hi.map f) (mx.map f)).run P w=.ok (l.toNat,h.toNat,(m.map Int.toNat).getD cap) w:=by
 cases lo<;>cases hi<;>cases mx<;>simp only [Option.isSome_none,Option.isSome_some,gD] at he <;>
   (try (split at he<;>first | (simp at he;done) | skip))<;>(try (simp at he;done))
 all_goals simp at he
 all_goals obtain ⟨rfl,rfl,rfl⟩:=he
 all_goals (try contradiction)
 all_goals simp [ae,ah,Rel,R] at hr
 · simp only [Instr.sliceBounds,Option.map_none,Sem.run_bind,Sem.run_pure,Result.andThen_ok]
   simp
 · rename_i k h _ _ _
   have e1:=bJ (P:=P) (w:=w) (k:=k) (i:=h) (y:=cap) (code:=if b then .sliceAcap else .sliceAlen) (by omega) (by omega)
   simp only [Instr.sliceBounds,Option.map_none,Option.map_some,hr,Sem.run_bind,Sem.run_pure,Result.andThen_ok,e1]
   simp
 · rename_i k h k' m _ _ _
   obtain ⟨hr1,hr2⟩:=hr
   have hmh:=hm m rfl
   subst hmh
   have e1:=bJ (P:=P) (w:=w) (k:=k') (i:=m) (y:=cap) (code:=if b then .slice3Acap else .slice3Alen) (by omega) (by omega)
   have e2:=bJ (P:=P) (w:=w) (k:=k) (i:=m) (y:=m.toNat) (code:=.slice3B) (by omega) (by omega)
   simp only [Instr.sliceBounds,Option.map_none,Option.map_some,hr1,hr2,Sem.run_bind,Sem.run_pure,Result.andThen_ok,e1,e2]
   simp
 · rename_i k l _ _ _
   have e1:=bJ (P:=P) (w:=w) (k:=k) (i:=l) (y:=n) (code:=.sliceB) (by omega) (by omega)
   simp only [Instr.sliceBounds,Option.map_none,Option.map_some,hr,Sem.run_bind,Sem.run_pure,Result.andThen_ok,Option.isSome_none,Bool.false_eq_true,if_false,e1]
   simp
 · rename_i k l k' h _ _ _
   obtain ⟨hr1,hr2⟩:=hr
   have e1:=bJ (P:=P) (w:=w) (k:=k') (i:=h) (y:=cap) (code:=if b then .sliceAcap else .sliceAlen) (by omega) (by omega)
   have e2:=bJ (P:=P) (w:=w) (k:=k) (i:=l) (y:=h.toNat) (code:=.sliceB) (by omega) (by omega)
   simp only [Instr.sliceBounds,Option.map_none,Option.map_some,hr1,hr2,Sem.run_bind,Sem.run_pure,Result.andThen_ok,e1,Option.isSome_none,Bool.false_eq_true,if_false,e2]
   simp
 · rename_i k l k' h k'' m _ _ _
   obtain ⟨hr1,hr2,hr3⟩:=hr
   have hmh:=hm m rfl
   subst hmh
   have e1:=bJ (P:=P) (w:=w) (k:=k'') (i:=m) (y:=cap) (code:=if b then .slice3Acap else .slice3Alen) (by omega) (by omega)
   have e2:=bJ (P:=P) (w:=w) (k:=k') (i:=m) (y:=m.toNat) (code:=.slice3B) (by omega) (by omega)
   have e3:=bJ (P:=P) (w:=w) (k:=k) (i:=l) (y:=m.toNat) (code:=.slice3C) (by omega) (by omega)
   simp only [Instr.sliceBounds,Option.map_some,hr1,hr2,hr3,Sem.run_bind,Sem.run_pure,Result.andThen_ok,e1,e2,Option.isSome_some,if_true,e3]
   simp
theorem Cv {K:aU} {els:List PV} {b o sz l h:Nat} (hr:Row K b o sz els):Row K b (o+l*sz) sz ((els.take h).drop l):=Row.drop l (Row.take h hr)
theorem qG {t e sz:Nat} {lo hi mx:Option Operand} {f:Operand→Value} {x y:AV} {v:Value} {rest:List AV} (hu:P.underlying t=some (.slice e)) (hsz:bS P e=some sz)
   (hr:ae (num ns) G rest ((lo.toList++hi.toList++mx.toList).map f)) (hx:ah (num ns) G x v)
   (h:dX false sz lo.isSome hi.isSome mx.isSome (x::rest)=some y) :
   ∃u,(Instr.sliceAt t v (lo.map f) (hi.map f) (mx.map f)).run P w=.ok u w∧ah (num ns) G y u:=by
 simp only [dX,Bool.false_eq_true,if_false] at h
 split at h
 · rename_i els hels
   obtain ⟨base,len,cap,rfl,hcap,hlen,hrow⟩:=bu.1 (cP hels hx)
   split at h
   · rename_i l hh m hb
     simp only [Option.ite_none_right_eq_some] at h
     obtain ⟨⟨h0,h1,h2,h3⟩,h⟩:=h
     have hm:∀x,m=some x→x=hh:=by
       intro x hx;subst hx
       simp only [Option.ite_none_right_eq_some] at h
       exact h.1
     rw [hlen] at hb h2
     have hrun:=jc (P:=P) (w:=w) (b:=true) hr hb h0 h1 h2 (by omega:len≤cap) hm
     have e6:(Instr.sliceAt t (.slice base len cap) (lo.map f) (hi.map f) (mx.map f)).run P w =
         .ok (.slice (if (m.map Int.toNat).getD cap=l.toNat then base else base.map (·.add (l.toNat*sz))) (hh.toNat-l.toNat) ((m.map Int.toNat).getD cap-l.toNat)) w:=by
       simp only [Instr.sliceAt,Sem.run_bind,run_underlying hu,Result.andThen_ok,Instr.slice,hrun,cf hsz,Sem.run_pure]
     refine ⟨_,e6,?_⟩
     have hsl:DO G.K ((els.take hh.toNat).drop l.toNat) (if (m.map Int.toNat).getD cap=l.toNat then base else base.map (·.add (l.toNat*sz))) (hh.toNat-l.toNat):=by
       refine ⟨by simp;omega,?_⟩
       by_cases hnil:(els.take hh.toNat).drop l.toNat=[]
       · exact .inl hnil
       · refine .inr ?_
         have hlt:l.toNat<hh.toNat:=by
           rcases Nat.lt_or_ge l.toNat hh.toNat with h' | h'
           · exact h'
           · exfalso;apply hnil;apply List.drop_of_length_le;simp;omega
         rcases hrow with hn | ⟨b,o,sz',rfl,hrow⟩
         · subst hn;simp at hnil
         · have hne:(m.map Int.toNat).getD cap≠l.toNat:=by
             cases m with
             | none=>simp;omega
             | some x=>have:=hm x rfl;subst this;simp;omega
           rw [if_neg hne]
           have hels':els≠[]:=by intro e;subst e;simp at hnil
           refine ⟨b,o+l.toNat*sz',sz',?_,Cv hrow⟩
           rcases h3 with h3 | h3
           · subst h3;simp [Addr.add]
           · have:=hrow.sz h3 hels'
             subst this
             simp [Addr.cO]
     cases m with
     | none=>
       simp at h;subst h
       simp only [ah]
       exact bu.2 ⟨_,_,_,rfl,by simp;omega,hsl⟩
     | some x=>
       have:=hm x rfl
       subst this
       simp at h;subst h
       simp only [ah]
       exact ⟨_,_,rfl,hsl⟩
   · simp at h
 · simp at h
theorem pg {t e sz:Nat} {lo hi mx:Option Operand} {f:Operand→Value} {x y:AV} {v:Value} {rest:List AV} (hu:P.underlying t=some (.slice e)) (hsz:bS P e=some sz) (hmx:mx.isSome=false)
   (hr:ae (num ns) G rest ((lo.toList++hi.toList++mx.toList).map f)) (hx:ah (num ns) G x v)
   (h:jB sz lo.isSome hi.isSome (x::rest)=some y) :
   ∃u,(Instr.sliceAt t v (lo.map f) (hi.map f) (mx.map f)).run P w=.ok u w∧ah (num ns) G y u:=by
 unfold jB at h
 split at h
 · rename_i b z n ag rest' heq
   simp only [List.cons.injEq] at heq
   obtain ⟨rfl,rfl⟩:=heq
   rw [Option.ite_none_right_eq_some] at h
   obtain ⟨rfl,h⟩:=h
   split at h
   · rename_i l hh hb
     simp only [Option.ite_none_right_eq_some,Option.some.injEq] at h
     obtain ⟨⟨h0,h1,h2⟩,rfl⟩:=h
     simp only [ah] at hx
     obtain ⟨blk,cap,hsm,rfl,hroom⟩:=hx
     rw [←hmx] at hb
     have hrun:=jc (P:=P) (w:=w) (b:=true) (cap:=n+cap) hr hb h0 h1 h2 (by omega) (by simp)
     have e6:(Instr.sliceAt t (.slice (some ⟨blk.1,0,none⟩) n (n+cap)) (lo.map f) (hi.map f) (mx.map f)).run P w =
         .ok (.slice (if n+cap=l.toNat then some ⟨blk.1,0,none⟩ else (some ⟨blk.1,0,none⟩:Option Addr).map (·.add (l.toNat*z))) (hh.toNat-l.toNat) (n+cap-l.toNat)) w:=by
       simp only [Instr.sliceAt,Sem.run_bind,run_underlying hu,Result.andThen_ok,Instr.slice,hrun,cf hsz,Sem.run_pure,Option.map_none,Option.getD_none]
     refine ⟨_,e6,?_⟩
     by_cases hl:l=0
     · subst hl
       simp only [if_true,ah]
       refine ⟨blk,n+cap-hh.toNat,hsm,?_,?_⟩
       · have e1:hh.toNat+(n+cap-hh.toNat)=n+cap:=by omega
         rw [e1]
         simp [Addr.add]
       · have e1:hh.toNat+(n+cap-hh.toNat)=n+cap:=by omega
         rw [e1];exact hroom
     · rw [if_neg hl]
       simp only [ah]
       refine ⟨blk,_,_,hsm,rfl,?_⟩
       by_cases hz:hh.toNat-l.toNat=0
       · exact .inl hz
       · right
         rw [if_neg (by omega)]
         simp [Addr.add]
         exact fun e=>e.symm
   · simp at h
 · simp at h
theorem lP {t:Nat} {lo hi mx:Option Operand} {f:Operand→Value} {x y:AV} {v:Value} {rest:List AV} (hu:P.underlying t=some .string) (hmx:mx.isSome=false)
   (hr:ae (num ns) G rest ((lo.toList++hi.toList++mx.toList).map f)) (hx:ah (num ns) G x v)
   (h:dX true 0 lo.isSome hi.isSome false (x::rest)=some y) :
   ∃u,(Instr.sliceAt t v (lo.map f) (hi.map f) (mx.map f)).run P w=.ok u w∧ah (num ns) G y u:=by
 simp only [dX,if_true] at h
 split at h
 · rename_i s
   simp only [ah,iL] at hx
   subst hx
   split at h
   · rename_i l hh hb
     simp only [Option.ite_none_right_eq_some,Option.some.injEq] at h
     obtain ⟨⟨h0,h1,h2⟩,rfl⟩:=h
     rw [←hmx] at hb
     have hrun:=jc (P:=P) (w:=w) (b:=false) hr hb h0 h1 h2 (Nat.le_refl _) (by simp)
     have hmx':mx=none:=by cases mx<;>simp_all
     subst hmx'
     have hsize:(ByteArray.mk s.toArray).size=s.length:=by simp [ByteArray.size]
     refine ⟨.string ((ByteArray.mk s.toArray).extract l.toNat hh.toNat),?_,?_⟩
     · simp only [Instr.sliceAt,Sem.run_bind,run_underlying hu,Result.andThen_ok,Instr.slice,Option.map_none,Option.isSome_none,Bool.false_eq_true,if_false,hsize]
       simp only [Option.map_none] at hrun
       simp [hrun]
     · have:(ByteArray.mk s.toArray).extract l.toNat hh.toNat=⟨((s.take hh.toNat).drop l.toNat).toArray⟩:=by
         apply ByteArray.ext
         simp [ByteArray.data_extract]
         rw [List.drop_take]
       rw [this]
       exact mi
   · simp at h
 · simp at h
end
end Go.Ab
namespace Go.Ab
section
variable {P:Program} {ns:Names} {G:Gh} {w:World}
def wk (ns:Names) (P:Program) (G:Gh) (w:World) (mem:List (Nat×List AV)) (sh:Sh) (aa:aq) (s:Sem Value) (x:AV):Prop:=
 ∃v w' G',s.run P w=.ok v w'∧ah (num ns) G' x v∧Inv (num ns) G' w' mem sh aa∧G.le G'∧bf G w G' w'
theorem wk.stay {mem:List (Nat×List AV)} {sh:Sh} {aa:aq} (hi:Inv (num ns) G w mem sh aa) {s:Sem Value} {x:AV} {v:Value} (h:s.run P w=.ok v w) (hr:ah (num ns) G x v) :
   wk ns P G w mem sh aa s x:=⟨v,w,G,h,hr,hi,G.le_refl,bf.refl G w⟩
theorem bw {ρ:bh} {vals:List AV} {v:Value} (h:ae ρ G vals [v]):∃x,vals=[x]∧ah ρ G x v:=by
 cases vals with
 | nil=>simp [ae] at h
 | cons x r=>
   simp only [ae] at h
   obtain ⟨u,r',e,h1,h2⟩:=h
   cases e
   cases r with
   | nil=>exact ⟨x,rfl,h1⟩
   | cons _ _=>simp [ae] at h2
theorem ct {ρ:bh} {vals:List AV} {u v:Value} (h:ae ρ G vals [u,v]):∃x y,vals=[x,y]∧ah ρ G x u∧ah ρ G y v:=by
 cases vals with
 | nil=>simp [ae] at h
 | cons x r=>
   simp only [ae] at h
   obtain ⟨u',r',e,h1,h2⟩:=h
   cases e
   obtain ⟨y,rfl,h3⟩:=bw h2
   exact ⟨x,y,rfl,h1,h3⟩
theorem qH {ρ:bh} {vals:List AV} {u v t:Value} (h:ae ρ G vals [u,v,t]):∃x y z,vals=[x,y,z]∧ah ρ G x u∧ah ρ G y v∧ah ρ G z t:=by
 cases vals with
 | nil=>simp [ae] at h
 | cons x r=>
   simp only [ae] at h
   obtain ⟨u',r',e,h1,h2⟩:=h
   cases e
   obtain ⟨y,z,rfl,h3,h4⟩:=ct h2
   exact ⟨x,y,z,rfl,h1,h3,h4⟩
theorem z4 {x1 x2 x3 x:AV} (h:a5 .pick [x1,x2,x3]=some x):∃c,x1=.pv (.bool c)∧x=if c then x2 else x3:=by
 cases x1 with
 | pv p=>cases p with
   | bool c=>exact ⟨c,rfl,by simpa [a5] using h.symm⟩
   | _=>simp [a5] at h
 | _=>simp [a5] at h
theorem Cw {neg:Bool} {x1 x2 x:AV} (h:a5 (.beq neg) [x1,x2]=some x):∃p q,x1=.pv (.bool p)∧x2=.pv (.bool q)∧x=.pv (.bool (if neg then !(p == q) else (p == q))):=by
 cases x1 with
 | pv p=>cases p with
   | bool c=>cases x2 with
     | pv q=>cases q with
       | bool d=>exact ⟨c,d,rfl,rfl,by simpa [a5] using h.symm⟩
       | _=>simp [a5] at h
     | _=>simp [a5] at h
   | _=>simp [a5] at h
 | _=>simp [a5] at h
theorem z5 {k:IntKind} {x1 x:AV} (h:a5 (.conv k) [x1]=some x):∃k' n,x1=.pv (.int k' n)∧x=.pv (.int k (k.wrap n)):=by
 cases x1 with
 | pv p=>cases p with
   | int k' n=>exact ⟨k',n,rfl,by simpa [a5] using h.symm⟩
   | _=>simp [a5] at h
 | _=>simp [a5] at h
theorem w_ {sz:Nat} {x1 x2 x:AV} (h:a5 (.fh sz) [x1,x2]=some x):∃k i,x2=.pv (.int k i):=by
 cases x2 with
 | pv p=>cases p with
   | int k n=>exact ⟨k,n,rfl⟩
   | _=>simp [a5] at h
 | _=>simp [a5] at h
theorem xd {x1 x2 x:AV} (h:a5 .index [x1,x2]=some x):∃s k i,x1=.pv (.str s)∧x2=.pv (.int k i):=by
 cases x1 with
 | pv q=>cases q with
   | str s=>cases x2 with
     | pv p=>cases p with
       | int k n=>exact ⟨s,k,n,rfl,rfl⟩
       | _=>simp [a5] at h
     | _=>simp [a5] at h
   | _=>simp [a5] at h
 | _=>simp [a5] at h
theorem mq:∀{els:List PV} {s:List UInt8},dO els=some s→els=s.map fun b=>.int .u8 (b.toNat:Int)
 | [],s,h=>by simp [dO] at h;subst h;rfl
 | .int .u8 n::r,s,h=>by
   simp only [dO,Option.ite_none_right_eq_some,Option.map_eq_some_iff] at h
   obtain ⟨⟨h0,h1⟩,q,h2,rfl⟩:=h
   have:((UInt8.ofNat n.toNat).toNat:Int)=n:=by
     simp
     omega
   simp only [List.map_cons,this,←mq h2]
 | .int .i64 _::_,_,h=>by simp [dO] at h
 | .int .i32 _::_,_,h=>by simp [dO] at h
 | .int .i16 _::_,_,h=>by simp [dO] at h
 | .int .i8 _::_,_,h=>by simp [dO] at h
 | .int .u64 _::_,_,h=>by simp [dO] at h
 | .int .u32 _::_,_,h=>by simp [dO] at h
 | .int .u16 _::_,_,h=>by simp [dO] at h
 | .bool _::_,_,h=>by simp [dO] at h
 | .str _::_,_,h=>by simp [dO] at h
 | .agg _::_,_,h=>by simp [dO] at h
 | .aE _::_,_,h=>by simp [dO] at h
theorem b2s_inv {x1 x:AV} (h:a5 .b2s [x1]=some x):∃s:List UInt8,cy x1=some (s.map fun b=>.int .u8 (b.toNat:Int))∧x=.pv (.str s):=by
 simp only [a5,Option.map_eq_some_iff,Option.bind_eq_some_iff] at h
 obtain ⟨s,⟨els,h1,h2⟩,rfl⟩:=h
 exact ⟨s,by rw [h1,mq h2],rfl⟩
theorem b2s_run {s d e:TypeId} {l:List UInt8} {x:AV} {v:Value} (hs:P.underlying s=some (.slice e)) (he:P.underlying e=some (.int .u8)) (hd:P.underlying d=some .string)
   (hi:∀b o u,G.K b o=some u→w.cell? ⟨b,o,none⟩=some u) (hx:cy x=some (l.map fun b=>.int .u8 (b.toNat:Int))) (hr:ah (num ns) G x v) :
   (convert s d v).run P w=.ok (.string ⟨l.toArray⟩) w:=by
 obtain ⟨base,len,cap,rfl,_,hlen,hrow⟩:=bu.1 (cP hx hr)
 simp only [List.length_map] at hlen
 subst hlen
 cases base with
 | none=>
   have h0:l=[]:=by
     rcases hrow with h | ⟨b,o,sz,e,_⟩
     · simpa using h
     · cases e
   subst h0
   show (convert s d (.slice none 0 cap)).run P w=_
   rw [run_convert_bytes_string w s d e none 0 cap hs he hd]
   simp [Conv.bytesToString]
   rfl
 | some a=>
   refine run_convert_bytes_back w s d e a cap l hs he hd fun j hj=>?_
   rcases hrow with h | ⟨b,o,sz,e,hrow⟩
   · simp at h;subst h;simp at hj
   · cases e
     obtain ⟨vs,g1,g2,g3⟩:=hrow.get (i:=j) (el:=.int .u8 (l[j].toNat:Int)) (by simp [hj])
     simp only [R] at g3
     subst g3
     simp at g1
     subst g1
     rw [Addr.cO]
     have:=g2 0 _ rfl
     simp at this
     exact hi _ _ _ this
theorem Cx {i:Nat} {x1 x:AV} (h:a5 (.ext i) [x1]=some x):∃vs,x1=.kP vs∧vs[i]?=some x:=by
 cases x1 with
 | kP vs=>exact ⟨vs,rfl,by simpa [a5] using h⟩
 | _=>simp [a5] at h
theorem xe {sz:Nat} {ag:Bool} {x1 x:AV} (h:a5 (.fX sz ag) [x1]=some x):∃cs,x1=.ek cs∧bN ag sz cs=some x:=by
 cases x1 with
 | ek vs=>exact ⟨vs,rfl,by simpa [a5] using h⟩
 | _=>simp [a5] at h
theorem z6 {x1 x:AV} (h:a5 .s8 [x1]=some x):∃s,x1=.pv (.str s)∧x=.pv (.int .i64 (s.length:Int)):=by
 cases x1 with
 | pv q=>cases q with
   | str s=>exact ⟨s,rfl,by simpa [a5] using h.symm⟩
   | _=>simp [a5] at h
 | _=>simp [a5] at h
theorem Eh {x1 x2 x:AV} (h:a5 .mn [x1,x2]=some x):∃k p q,x1=.pv (.int k p)∧x2=.pv (.int k q)∧x=.pv (.int k (if q<p then q else p)):=by
 cases x1 with
 | pv q=>cases q with
   | int k s=>cases x2 with
     | pv p=>cases p with
       | int k' n=>
         simp only [a5,Option.ite_none_right_eq_some,Option.some.injEq] at h
         obtain ⟨rfl,rfl⟩:=h
         exact ⟨k,s,n,rfl,rfl,rfl⟩
       | _=>simp [a5] at h
     | _=>simp [a5] at h
   | _=>simp [a5] at h
 | _=>simp [a5] at h
theorem Ei {x1 x2 x:AV} (h:a5 .mx [x1,x2]=some x):∃k p q,x1=.pv (.int k p)∧x2=.pv (.int k q)∧x=.pv (.int k (if q > p then q else p)):=by
 cases x1 with
 | pv q=>cases q with
   | int k s=>cases x2 with
     | pv p=>cases p with
       | int k' n=>
         simp only [a5,Option.ite_none_right_eq_some,Option.some.injEq] at h
         obtain ⟨rfl,rfl⟩:=h
         exact ⟨k,s,n,rfl,rfl,rfl⟩
       | _=>simp [a5] at h
     | _=>simp [a5] at h
   | _=>simp [a5] at h
 | _=>simp [a5] at h
theorem qI {A:gJ} {o:Oper} {vo:Co} {args:List Operand} (hc:a9 P ns A o.dst o.op=some (.v vo,args)) {a:Act} {vals:List AV} {x:AV}
   {mem:List (Nat×List AV)} {sh:Sh} {aa:aq} (hr:ae (num ns) G vals (args.map a.eval)) (hi:Inv (num ns) G w mem sh aa) (h:a5 vo vals=some x) :
   ∃v w' G',(execOp a.eval o).run P w=.ok (.value v) w'∧ah (num ns) G' x v∧Inv (num ns) G' w' mem sh aa∧G.le G'∧bf G w G' w':=by
 obtain ⟨dst,op,type,pos,after,guard⟩:=o
 have lift:∀{s:Sem Value},wk ns P G w mem sh aa s x→(execOp a.eval ⟨dst,op,type,pos,after,guard⟩=(do pure (.value (←s)):Sem Next)) →
     ∃v w' G',(execOp a.eval ⟨dst,op,type,pos,after,guard⟩).run P w=.ok (.value v) w'∧ah (num ns) G' x v∧Inv (num ns) G' w' mem sh aa∧G.le G'∧bf G w G' w':=by
   rintro s ⟨v,w',G',h1,h2,h3,h4,h5⟩ he
   exact ⟨v,w',G',by rw [he];simp only [Sem.run_bind,h1,Result.andThen_ok,Sem.run_pure],h2,h3,h4,h5⟩
 cases op<;>simp only [a9] at hc
 case move y=>
   simp at hc;obtain ⟨rfl,rfl⟩:=hc
   obtain ⟨x',rfl,h1⟩:=bw (by simpa using hr)
   simp [a5] at h;subst h
   exact ⟨_,w,G,by simp [execOp],h1,hi,G.le_refl,bf.refl G w⟩
 case assign y=>
   simp at hc;obtain ⟨rfl,rfl⟩:=hc
   obtain ⟨x',rfl,h1⟩:=bw (by simpa using hr)
   simp [a5] at h;subst h
   exact ⟨_,w,G,by simp [execOp],h1,hi,G.le_refl,bf.refl G w⟩
 case pick c y z=>
   simp at hc;obtain ⟨rfl,rfl⟩:=hc
   obtain ⟨x1,x2,x3,rfl,h1,h2,h3⟩:=qH (by simpa using hr)
   obtain ⟨b,rfl,rfl⟩:=z4 h
   simp only [ah,fq] at h1
   refine ⟨if b then a.eval y else a.eval z,w,G,by simp [execOp,h1,asBool],?_,hi,G.le_refl,bf.refl G w⟩
   cases b<;>simp [h2,h3]
 case binOp op t y z ty=>
   simp only [Option.map_eq_some_iff] at hc
   obtain ⟨vo',h0,he⟩:=hc
   simp at he;obtain ⟨rfl,rfl⟩:=he
   obtain ⟨x1,x2,rfl,h1,h2⟩:=ct (by simpa using hr)
   unfold wh at h0
   refine lift (s:=do eqGuard op t y z (a.eval y) (a.eval z);binOp op t (a.eval y) (a.eval z)) ?_ rfl
   split at h0
   · simp at h0;subst h0
     simp only [a5] at h
     obtain ⟨v,g1,g2⟩:=kT (P:=P) (w:=w) (t:=t) h1 h2 h y z
     exact .stay hi g1 g2
   · simp at h0;subst h0
     simp only [a5] at h
     obtain ⟨v,g1,g2⟩:=kT (P:=P) (w:=w) (t:=t) h1 h2 h y z
     exact .stay hi g1 g2
   · rename_i hu
     have key:∀neg,vo'=.beq neg→((op=.eql∧neg=false)∨(op=.neq∧neg=true))→wk ns P G w mem sh aa (do eqGuard op t y z (a.eval y) (a.eval z);binOp op t (a.eval y) (a.eval z)) x:=by
       intro neg hvo hop
       subst hvo
       obtain ⟨p,q,rfl,rfl,rfl⟩:=Cw h
       simp only [ah,fq] at h1 h2
       rw [h1,h2]
       exact .stay hi (qw hu hop p q y z) iM
     split at h0
     · simp at h0;exact key false h0.symm (.inl ⟨‹_›,rfl⟩)
     · split at h0
       · simp at h0;exact key true h0.symm (.inr ⟨‹_›,rfl⟩)
       · simp at h0
   · simp at h0
 case unOp op t y=>
   simp at hc;obtain ⟨rfl,rfl⟩:=hc
   obtain ⟨x',rfl,h1⟩:=bw (by simpa using hr)
   refine lift (s:=Op.unary op (a.eval y)) ?_ rfl
   simp only [a5] at h
   unfold FD at h
   split at h
   · split at h<;>simp at h
     subst h
     simp only [ah,fq] at h1
     rw [h1]
     exact .stay hi (by simp [Op.unary]) iM
   · split at h<;>simp at h
     subst h
     simp only [ah,ed] at h1
     rw [h1]
     exact .stay hi (by simp [Op.unary,Op.intArith]) cg
   · simp at h
 case convert s d y=>
   split at hc
   · rename_i k1 k2 hs hd
     simp at hc;obtain ⟨rfl,rfl⟩:=hc
     obtain ⟨x',rfl,h1⟩:=bw (by simpa using hr)
     obtain ⟨k',n,rfl,rfl⟩:=z5 h
     simp only [ah,ed] at h1
     refine lift (s:=convert s d (a.eval y)) ?_ rfl
     rw [h1]
     exact .stay hi (by simp [convert,run_underlying hs,run_underlying hd,Conv.intToInt]) cg
   · rename_i e hs hd
     split at hc
     · rename_i he
       simp at hc;obtain ⟨rfl,rfl⟩:=hc
       obtain ⟨x',rfl,h1⟩:=bw (by simpa using hr)
       obtain ⟨l,hl,rfl⟩:=b2s_inv h
       refine lift (s:=convert s d (a.eval y)) ?_ rfl
       exact .stay hi (b2s_run hs he hd hi.known hl h1) mi
     · simp at hc
   · simp at hc
 case extract y i=>
   simp at hc;obtain ⟨rfl,rfl⟩:=hc
   obtain ⟨x',rfl,h1⟩:=bw (by simpa using hr)
   obtain ⟨vs,rfl,h2⟩:=Cx h
   simp only [ah] at h1
   obtain ⟨us,h3,h4⟩:=h1
   obtain ⟨u,h5,h6⟩:=h4.get h2
   refine lift (s:=Instr.extract (a.eval y) i) ?_ rfl
   rw [h3]
   exact .stay hi (by simp [Instr.extract,h5]) h6
 case field t y f=>
   split at hc
   · rename_i fd hf
     split at hc
     · rename_i sz ag hsz hag
       simp at hc;obtain ⟨rfl,rfl⟩:=hc
       obtain ⟨x',rfl,h1⟩:=bw (by simpa using hr)
       obtain ⟨u,g1,g2⟩:=qy (w:=w) hf hsz hag h h1
       exact lift (s:=Instr.field t (a.eval y) f) (.stay hi g1 g2) rfl
     · simp at hc
   · simp at hc
 case fieldAddr t y f=>
   split at hc
   · rename_i fd hf
     split at hc
     · rename_i sz hsz
       split at hc
       · simp at hc
       · rename_i hs0
         simp at hc;obtain ⟨rfl,rfl⟩:=hc
         obtain ⟨x',rfl,h1⟩:=bw (by simpa using hr)
         obtain ⟨u,g1,g2⟩:=qz (w:=w) hf hsz hs0 h h1
         exact lift (s:=Instr.fieldAt t (a.eval y) f) (.stay hi g1 g2) rfl
     · simp at hc
   · simp at hc
 case indexAddr t y i=>
   split at hc
   · rename_i e he
     simp only [Option.map_eq_some_iff] at hc
     obtain ⟨sz,hsz,hc⟩:=hc
     simp at hc;obtain ⟨rfl,rfl⟩:=hc
     obtain ⟨x1,x2,rfl,h1,h2⟩:=ct (by simpa using hr)
     obtain ⟨k,i',rfl⟩:=w_ h
     obtain ⟨u,g1,g2⟩:=qA (w:=w) he hsz h h1
     simp only [ah,ed] at h2
     refine lift (s:=Instr.indexAt t (a.eval y) (a.eval i)) ?_ rfl
     rw [h2]
     exact .stay hi g1 g2
   · simp at hc
 case index t y i=>
   split at hc
   · rename_i hu
     simp at hc;obtain ⟨rfl,rfl⟩:=hc
     obtain ⟨x1,x2,rfl,h1,h2⟩:=ct (by simpa using hr)
     obtain ⟨s,k,i',rfl,rfl⟩:=xd h
     obtain ⟨u,g1,g2⟩:=qB (ns:=ns) (G:=G) (w:=w) hu h
     simp only [ah,ed,iL] at h1 h2
     refine lift (s:=Instr.index t (a.eval y) (a.eval i)) ?_ rfl
     rw [h1,h2]
     exact .stay hi g1 g2
   · simp at hc
 case build t ps=>
   split at hc
   · rename_i fs hu
     split at hc
     · rename_i z pl hz hp
       simp at hc;obtain ⟨rfl,rfl⟩:=hc
       have hmap:(ps.map fun (i,x)=>(i,a.eval x))=((ps.toList.map (·.1)).zip ((ps.toList.map (·.2)).map a.eval)).toArray:=by
         apply Array.ext'
         rw [Array.toList_map]
         exact k_ a.eval ps.toList
       refine lift (s:=Instr.build t (ps.map fun (i,x)=>(i,a.eval x))) ?_ rfl
       rw [hmap]
       obtain ⟨u,g1,g2⟩:=qE (w:=w) hz hp hr (by simp) h
       exact .stay hi g1 g2
     · simp at hc
   · simp at hc
 case buildSlice t n ps=>
   split at hc
   · rename_i e he
     split at hc
     · rename_i sz z hsz hz
       simp only [Option.ite_none_right_eq_some,Option.some.injEq,Prod.mk.injEq] at hc
       obtain ⟨⟨hn,hord,h0,hb⟩,hvo,rfl⟩:=hc
       simp at hvo;subst hvo
       have hmap:(ps.map fun (i,x)=>(i,a.eval x))=((List.range' 0 ((ps.toList.map (·.2)).map a.eval).length).zip ((ps.toList.map (·.2)).map a.eval)).toArray:=by
         apply Array.ext'
         rw [Array.toList_map]
         exact kZ a.eval ps.toList 0 hord
       refine lift (s:=Instr.buildSlice t n (ps.map fun (i,x)=>(i,a.eval x))) ?_ rfl
       rw [hmap]
       obtain ⟨u,c,g1,g2⟩:=pe he hsz hz (by simp [hn]) h0 hb hr hi h
       exact ⟨u,_,_,g1,g2,hi.mm c e,Gh.lY hi c,bf.mm hi c e⟩
     · simp at hc
   · simp at hc
 case load t y=>
   split at hc
   · rename_i sz ag hsz hag
     split at hc
     · rename_i tx
       split at hc
       · simp at hc
       · split at hc
         · simp at hc
         · simp at hc;obtain ⟨rfl,rfl⟩:=hc
           obtain ⟨x',rfl,h1⟩:=bw (by simpa using hr)
           obtain ⟨cs,rfl,h2⟩:=xe h
           simp only [ah] at h1
           obtain ⟨b,o,vs,e,ha,hrl⟩:=h1
           refine lift (s:=Instr.loadAt t (a.eval (.tmp tx))) ?_ rfl
           rw [e]
           obtain ⟨u,g1,g2⟩:=i4 (ns:=ns) (w:=w) hsz hag h2 hrl (fun j v hj=>hi.known _ _ _ (ha j v hj))
           exact .stay hi (by simp [Instr.loadAt,Instr.sureAddr,g1]) g2
     · simp at hc
   · simp at hc
 case nilCheck y=>
   simp at hc;obtain ⟨rfl,rfl⟩:=hc
   obtain ⟨x',rfl,h1⟩:=bw (by simpa using hr)
   simp only [a5] at h
   split at h
   · simp at h;subst h
     have h1':=h1
     simp only [ah] at h1
     obtain ⟨b,e,hv⟩:=h1
     exact ⟨a.eval y,w,G,by simp [execOp,hv],h1',hi,G.le_refl,bf.refl G w⟩
   · simp at h;subst h
     have h1':=h1
     simp only [ah] at h1
     obtain ⟨b,e,hv⟩:=h1
     exact ⟨a.eval y,w,G,by simp [execOp,hv],h1',hi,G.le_refl,bf.refl G w⟩
   · simp at h;subst h
     have h1':=h1
     simp only [ah] at h1
     obtain ⟨b,o,vs,hv,_⟩:=h1
     exact ⟨a.eval y,w,G,by simp [execOp,hv],h1',hi,G.le_refl,bf.refl G w⟩
   · simp at h;subst h
     have h1':=h1
     simp only [ah] at h1
     obtain ⟨f,vs,_,hv,_⟩:=h1
     exact ⟨a.eval y,w,G,by simp [execOp,hv],h1',hi,G.le_refl,bf.refl G w⟩
   · simp at h
 case makeFunc fn first cap=>
   split at hc
   · rename_i f
     split at hc
     · rename_i hf
       simp only [Option.map_eq_some_iff] at hc
       obtain ⟨g,hg,hc⟩:=hc
       simp at hc;obtain ⟨rfl,rfl⟩:=hc
       simp [a5] at h;subst h
       refine lift (s:=Instr.makeFunc (.func f) (first.map a.eval) (cap.map a.eval)) ?_ rfl
       have hfirst:first=#[]:=by simpa using hf
       subst hfirst
       refine .stay (v:=.func (.func f) #[] (cap.map a.eval)) hi (by simp [Instr.makeFunc]) ?_
       simp only [ah]
       exact ⟨f,cap.toList.map a.eval,hg,by congr 1;apply Array.ext';simp,hr⟩
     · simp at hc
   · simp at hc
 case slice t y lo hi' mx=>
   split at hc
   · rename_i e hu
     split at hc
     · rename_i hhot
       simp only [Option.map_eq_some_iff] at hc
       obtain ⟨sz,hsz,hc⟩:=hc
       simp only [Prod.mk.injEq,AK.v.injEq] at hc
       obtain ⟨rfl,rfl⟩:=hc
       cases vals with
       | nil=>simp [ae] at hr
       | cons x0 rest=>
         simp only [List.map_cons,ae] at hr
         obtain ⟨v,r,e1,h1,h2⟩:=hr
         simp only [List.cons.injEq] at e1
         obtain ⟨rfl,rfl⟩:=e1
         simp only [a5] at h
         obtain ⟨u,g1,g2⟩:=pg (w:=w) hu hsz hhot.1 h2 h1 h
         exact lift (s:=Instr.sliceAt t (a.eval y) (lo.map a.eval) (hi'.map a.eval) (mx.map a.eval)) (.stay hi g1 g2) rfl
     · simp only [Option.map_eq_some_iff] at hc
       obtain ⟨sz,hsz,hc⟩:=hc
       simp only [Prod.mk.injEq,AK.v.injEq] at hc
       obtain ⟨rfl,rfl⟩:=hc
       cases vals with
       | nil=>simp [ae] at hr
       | cons x0 rest=>
         simp only [List.map_cons,ae] at hr
         obtain ⟨v,r,e1,h1,h2⟩:=hr
         simp only [List.cons.injEq] at e1
         obtain ⟨rfl,rfl⟩:=e1
         simp only [a5] at h
         obtain ⟨u,g1,g2⟩:=qG (w:=w) hu hsz h2 h1 h
         exact lift (s:=Instr.sliceAt t (a.eval y) (lo.map a.eval) (hi'.map a.eval) (mx.map a.eval)) (.stay hi g1 g2) rfl
   · rename_i hu
     split at hc
     · simp at hc
     · rename_i hmx
       simp only [Option.some.injEq,Prod.mk.injEq,AK.v.injEq] at hc
       obtain ⟨rfl,rfl⟩:=hc
       cases vals with
       | nil=>simp [ae] at hr
       | cons x0 rest=>
         simp only [List.map_cons,ae] at hr
         obtain ⟨v,r,e1,h1,h2⟩:=hr
         simp only [List.cons.injEq] at e1
         obtain ⟨rfl,rfl⟩:=e1
         simp only [a5] at h
         obtain ⟨u,g1,g2⟩:=lP (w:=w) hu (by simpa using hmx) h2 h1 h
         exact lift (s:=Instr.sliceAt t (a.eval y) (lo.map a.eval) (hi'.map a.eval) (mx.map a.eval)) (.stay hi g1 g2) rfl
   · simp at hc
 case call c=>
   obtain ⟨callee,cargs,ctypes⟩:=c
   simp only at hc
   split at hc
   · -- len
     split at hc
     · rename_i y e hcargs ht
       simp only [Option.some.injEq,Prod.mk.injEq,AK.v.injEq] at hc
       obtain ⟨rfl,rfl⟩:=hc
       simp only [Option.bind_eq_some_iff] at ht
       obtain ⟨t,ht1,ht2⟩:=ht
       obtain ⟨x',rfl,h1⟩:=bw (by simpa using hr)
       have hca:cargs=#[y]:=by apply Array.ext';simpa using hcargs
       subst hca
       have hrun:∀base n c,(Builtin.len_ ctypes type #[.slice base n c]).run P w=.ok (goInt n) w:=by
         intro base n c
         simp [Builtin.len_,ht1,run_underlying ht2]
       refine lift (s:=Builtin.len_ ctypes type #[a.eval y]) ?_ ?_
       · simp only [a5] at h
         split at h
         · simp at h;subst h
           simp only [ah] at h1
           obtain ⟨b,cap,_,hv,_⟩:=h1
           rw [hv]
           exact .stay hi (hrun _ _ _) cg
         · rename_i x0 _
           simp only [Option.map_eq_some_iff] at h
           obtain ⟨l,hl,rfl⟩:=h
           obtain ⟨b,len,cap,hv,_,hlen,_⟩:=bu.1 (cP hl h1)
           rw [hv]
           refine .stay hi (hrun _ _ _) ?_
           rw [hlen]
           exact cg
       · simp [execOp,resolve,invoke,builtin]
     · rename_i y hcargs ht
       simp only [Option.some.injEq,Prod.mk.injEq,AK.v.injEq] at hc
       obtain ⟨rfl,rfl⟩:=hc
       simp only [Option.bind_eq_some_iff] at ht
       obtain ⟨t,ht1,ht2⟩:=ht
       obtain ⟨x',rfl,h1⟩:=bw (by simpa using hr)
       have hca:cargs=#[y]:=by apply Array.ext';simpa using hcargs
       subst hca
       obtain ⟨s,rfl,rfl⟩:=z6 h
       simp only [ah,iL] at h1
       refine lift (s:=Builtin.len_ ctypes type #[a.eval y]) ?_ ?_
       · rw [h1]
         refine .stay (v:=goInt (ByteArray.mk s.toArray).size) hi (by simp [Builtin.len_,ht1,run_underlying ht2]) ?_
         have:(ByteArray.mk s.toArray).size=s.length:=by simp [ByteArray.size]
         rw [this]
         exact cg
       · simp [execOp,resolve,invoke,builtin]
     · simp at hc
   · split at hc
     · rename_i y z hcargs
       simp only [Option.some.injEq,Prod.mk.injEq,AK.v.injEq] at hc
       obtain ⟨rfl,rfl⟩:=hc
       have hca:cargs=#[y,z]:=by apply Array.ext';simpa using hcargs
       subst hca
       obtain ⟨x1,x2,rfl,h1,h2⟩:=ct (by simpa using hr)
       obtain ⟨k,p,q,rfl,rfl,rfl⟩:=Eh h
       simp only [ah,ed] at h1 h2
       refine lift (s:=Builtin.min_ ctypes type #[a.eval y,a.eval z]) ?_ ?_
       · rw [h1,h2]
         exact .stay hi (by simp [Builtin.min_,Builtin.min2]) cg
       · simp [execOp,resolve,invoke,builtin]
     · simp at hc
   · split at hc
     · rename_i y z hcargs
       simp only [Option.some.injEq,Prod.mk.injEq,AK.v.injEq] at hc
       obtain ⟨rfl,rfl⟩:=hc
       have hca:cargs=#[y,z]:=by apply Array.ext';simpa using hcargs
       subst hca
       obtain ⟨x1,x2,rfl,h1,h2⟩:=ct (by simpa using hr)
       obtain ⟨k,p,q,rfl,rfl,rfl⟩:=Ei h
       simp only [ah,ed] at h1 h2
       refine lift (s:=Builtin.max_ ctypes type #[a.eval y,a.eval z]) ?_ ?_
       · rw [h1,h2]
         exact .stay hi (by simp [Builtin.max_,Builtin.max2]) cg
       · simp [execOp,resolve,invoke,builtin]
     · simp at hc
   · split at hc
     · split at hc
       · split at hc
         · split at hc
           · simp at hc
           · split at hc<;>simp at hc
         · simp at hc
       · simp at hc
     · simp at hc
   · split at hc
     · split at hc
       · split at hc<;>simp at hc
       · simp at hc
     · simp at hc
   · split at hc
     · split at hc<;>simp at hc
     · simp at hc
   · split at hc
     · split at hc
       · rw [Option.ite_none_right_eq_some] at hc
         obtain ⟨_,hc⟩:=hc
         split at hc
         · split at hc
           · simp at hc
           · simp at hc
         · simp at hc
       · split at hc
         · simp at hc
         · split at hc
           · simp at hc
           · split at hc<;>simp at hc
     · simp at hc
   · split at hc<;>simp at hc
   · simp at hc
 case store t y v=>
   split at hc
   · split at hc
     · simp at hc
     · split at hc<;>simp at hc
   · simp at hc
 case alloc t=>
   split at hc
   · split at hc
     · split at hc<;>simp at hc
     · simp at hc
     · simp at hc
   · simp at hc
 case box t y=>
   split at hc
   · split at hc
     · split at hc<;>simp at hc
     · simp at hc
     · split at hc<;>simp at hc
   · simp at hc
 case makeSlice t l c=>
   split at hc
   · split at hc
     · split at hc
       · split at hc
         · split at hc<;>simp at hc
         · simp at hc
         · simp at hc
       · simp at hc
     · simp at hc
   · simp at hc
 case makeMap t r=>split at hc<;>simp at hc
 case lookup t y i ok=>
   split at hc
   · split at hc<;>simp at hc
   · simp at hc
 case mapUpdate t m i y=>
   split at hc<;>simp at hc
 case insert t m i y=>
   split at hc<;>simp at hc
 all_goals simp at hc
end
end Go.Ab
namespace Go.Ab
section
variable {P:Program} {ns:Names} {G:Gh} {w:World}
theorem bo {α:Type}:∀(l:List (Nat×α)) (k:Nat) (v:α),look (cC l k v) k=some v
 | [],k,v=>by simp [cC,look]
 | (k',u)::r,k,v=>by
   simp only [cC]
   split
   · rename_i h;simp [look,h]
   · rename_i h;simp [look,h,bo r k v]
theorem a_ {α:Type}:∀(l:List (Nat×α)) (k k':Nat) (v:α),k≠k'→look (cC l k v) k'=look l k'
 | [],k,k',v,h=>by simp [cC,look,h]
 | (k0,u)::r,k,k',v,h=>by
   simp only [cC]
   split
   · rename_i h0;subst h0;simp [look,h]
   · simp only [look];split
     · rfl
     · exact a_ r k k' v h
structure h_ (G:Gh) (w w':World) (b:Nat):Prop where
 size:w'.heap.size=w.heap.size
 other:∀k,k≠b→w'.heap[k]?=w.heap[k]?
 os:w'.os=w.os
 tape:w'.tape=w.tape
 output:w'.output=w.output
theorem h_.setRow (b:Nat) (c:Array Value):h_ G w (w.setRow b c) b:=
 ⟨setRow_size _ _ _,fun k h=>setRow_other _ _ _ _ h,rfl,rfl,rfl⟩
theorem h_.tg {w':World} {b:Nat} (h:h_ G w w' b) (hb:G.role b≠.cS):bf G w G w' where
 size:=by rw [h.size];exact Nat.le_refl _
 os:=h.os
 tape:=h.tape
 output:=h.output
 K:=G.K.le_refl
 sm:=fun _ _ h=>h
 cS:=fun _ _ hr=>⟨hr,h.other _ (fun e=>hb (e ▸ hr))⟩
 eS:=fun _ τ _ hr=>.inr ⟨τ,hr⟩
 d_:=fun _ _ _ _ _ hk=>hk
theorem h_.known {ρ:bh} {mem:List (Nat×List AV)} {sh:Sh} {aa:aq} (hi:Inv ρ G w mem sh aa) {w':World} {b:Nat} (h:h_ G w w' b)
   (hb:G.role b≠.cS) (hbt:∀τ,G.role b≠.tok τ):∀b' o v,G.K b' o=some v→w'.cell? ⟨b',o,none⟩=some v:=by
 intro b' o v hk
 have hne:b'≠b:=by
   rintro rfl
   rcases hi.aI _ _ _ hk with h1 | ⟨τ,h1⟩
   · exact hb h1
   · exact hbt τ h1
 have:=hi.known b' o v hk
 unfold World.cell? at this ⊢
 simp only at this ⊢
 rw [h.other b' hne]
 exact this
theorem h_.tok {ρ:bh} {mem:List (Nat×List AV)} {sh:Sh} {aa:aq} (hi:Inv ρ G w mem sh aa) {w':World} {b:Nat} (h:h_ G w w' b)
   (hbt:∀τ,G.role b≠.tok τ):∀τ n,aa[τ]?=some n→∃t,G.tk τ=some t∧t.len=n∧FF G w' τ t:=by
 intro τ n hn
 obtain ⟨t,e1,e2,e3⟩:=hi.cq τ n hn
 refine ⟨t,e1,e2,e3.cap,e3.zero,fun hlt=>?_⟩
 obtain ⟨b',o,c,ty,f1,f2,f3,f4,f5⟩:=e3.spare hlt
 exact ⟨b',o,c,ty,f1,f2,by rw [h.other b' (fun e=>hbt τ (e ▸ f2))];exact f3,f4,f5⟩
theorem Inv.xf {ρ:bh} {mem:List (Nat×List AV)} {sh:Sh} {aa:aq} (hi:Inv ρ G w mem sh aa) {d b:Nat} {cells cells':List AV} {c':Array Value}
   (hl:look mem d=some cells) (hp:G.pm d=some b) (hr:ae ρ G cells' c'.toList) (hb:cells'.all aH=true) :
   Inv ρ G (w.setRow b c') (cC mem d cells') sh aa∧bf G w G (w.setRow b c'):=by
 obtain ⟨b0,e1,e2,e3⟩:=hi.bT d cells hl
 have:b0=b:=by rw [hp] at e1;simpa using e1.symm
 subst this
 obtain ⟨hrole,c,t,hh,_⟩:=e2
 have hne:G.role b0≠.cS:=by rw [hrole];simp
 have hnt:∀τ,G.role b0≠.tok τ:=by intro τ;rw [hrole];simp
 have hA:=h_.setRow (G:=G) (w:=w) b0 c'
 refine ⟨⟨hA.known hi hne hnt,hi.aI,?_,?_,?_,?_,hi.cV,hA.tok hi hnt,hi.dy,hi.eA (hA.tg hne)⟩,hA.tg hne⟩
 · intro k hk;rw [hA.size] at hk;exact hi.fresh k hk
 · intro d' cs hd'
   by_cases hdd:d=d'
   · subst hdd
     rw [bo] at hd'
     simp at hd';subst hd'
     exact ⟨b0,hp,⟨hrole,c',t,setRow_heap _ _ _ _ _ _ hh,hr⟩,hb⟩
   · rw [a_ _ _ _ _ hdd] at hd'
     obtain ⟨b',g1,g2,g3⟩:=hi.bT d' cs hd'
     refine ⟨b',g1,⟨g2.role,?_⟩,g3⟩
     obtain ⟨c2,t2,hh2,hr2⟩:=g2.at_
     refine ⟨c2,t2,?_,hr2⟩
     rw [hA.other b']
     · exact hh2
     · rintro rfl
       have:=g2.role
       rw [hrole] at this
       simp at this
       exact hdd this
 · intro d' b' hd'
   by_cases hdd:d=d'
   · subst hdd;rw [bo];rfl
   · rw [a_ _ _ _ _ hdd];exact hi.ep d' b' hd'
 · intro s cs hs
   obtain ⟨b',g1,g2,g3⟩:=hi.cr s cs hs
   refine ⟨b',g1,⟨g2.role,?_⟩,g3⟩
   obtain ⟨o2,hh2,hr2⟩:=g2.at_
   refine ⟨o2,?_,hr2⟩
   rw [hA.other b'.1]
   · exact hh2
   · intro he
     have:=g2.role
     rw [he,hrole] at this
     simp at this
theorem Inv.xg {ρ:bh} {mem:List (Nat×List AV)} {sh:Sh} {aa:aq} (hi:Inv ρ G w mem sh aa) {s:Nat} {b:Nat×Nat} {cells cells':List AV} {w':World} {o':Obj}
   (hl:sh[s]?=some (some cells)) (hp:G.sm s=some b) (hA:h_ G w w' b.1) (ho:w'.heap[b.1]?=some o') (hr:Holds ρ G o' b.2 cells') (hb:cells'.all cp=true) (hf:cells'.all (aw (s+1))=true) :
   Inv ρ G w' mem (sh.set s (some cells')) aa∧bf G w G w':=by
 obtain ⟨b0,e1,e2,e3⟩:=hi.cr s cells hl
 have:b0=b:=by rw [hp] at e1;simpa using e1.symm
 subst this
 have hrole:=e2.role
 have hne:G.role b0.1≠.cS:=by rw [hrole];simp
 have hnt:∀τ,G.role b0.1≠.tok τ:=by intro τ;rw [hrole];simp
 refine ⟨⟨hA.known hi hne hnt,hi.aI,?_,?_,hi.ep,?_,?_,hA.tok hi hnt,hi.dy,hi.eA (hA.tg hne)⟩,hA.tg hne⟩
 · intro k hk;rw [hA.size] at hk;exact hi.fresh k hk
 · intro d' cs hd'
   obtain ⟨b',g1,g2,g3⟩:=hi.bT d' cs hd'
   refine ⟨b',g1,⟨g2.role,?_⟩,g3⟩
   obtain ⟨c2,t2,hh2,hr2⟩:=g2.at_
   refine ⟨c2,t2,?_,hr2⟩
   rw [hA.other b']
   · exact hh2
   · rintro rfl
     have:=g2.role
     rw [hrole] at this
     simp at this
 · intro s' cs hs
   rw [List.getElem?_set] at hs
   split at hs
   · rename_i he;subst he
     split at hs
     · simp at hs;subst hs
       exact ⟨b0,hp,⟨hrole,o',ho,hr⟩,hb,hf⟩
     · simp at hs
   · rename_i hne'
     obtain ⟨b',g1,g2,g3⟩:=hi.cr s' cs hs
     refine ⟨b',g1,⟨g2.role,?_⟩,g3⟩
     obtain ⟨o2,hh2,hr2⟩:=g2.at_
     refine ⟨o2,?_,hr2⟩
     rw [hA.other b'.1]
     · exact hh2
     · intro he
       have:=g2.role
       rw [he,hrole] at this
       simp at this
       exact hne' this
 · intro s' b' h;simpa using hi.cV s' b' h
theorem Inv.jG {ρ:bh} {mem:List (Nat×List AV)} {sh:Sh} {aa:aq} (hi:Inv ρ G w mem sh aa) {s:Nat} {b:Nat×Nat} {cells cells':List AV} {c c':Array Value} {t:TypeId} {vs suf:List Value}
   (hl:sh[s]?=some (some cells)) (hp:G.sm s=some b) (hh:w.heap[b.1]?=some (.cells c t (0,0))) (hsz:c'.size=b.2) (hsp:c'.toList=vs++suf) (hr:ae ρ G cells' vs) (hb:cells'.all cp=true) (hf:cells'.all (aw (s+1))=true) :
   Inv ρ G (w.setRow b.1 c') mem (sh.set s (some cells')) aa∧bf G w G (w.setRow b.1 c'):=
 hi.xg hl hp (h_.setRow b.1 c') (setRow_heap _ _ _ _ _ _ hh) (.inl ⟨c',t,vs,suf,rfl,hsz,hsp,hr⟩) hb hf
def Gh.bX (G:Gh) (d b:Nat):Gh:={ G with role:=fun k=>if k=b then .ic d else G.role k,pm:=fun k=>if k=d then some b else G.pm k }
def Gh.cn (G:Gh) (s b n:Nat):Gh:={ G with role:=fun k=>if k=b then .shr s else G.role k,sm:=fun k=>if k=s then some (b,n) else G.sm k }
theorem Inv.ku {ρ:bh} {mem:List (Nat×List AV)} {sh:Sh} {aa:aq} (hi:Inv ρ G w mem sh aa) {d:Nat} {cells:List AV} {c:Array Value} (t:TypeId)
   (hl:look mem d=none) (hr:ae ρ G cells c.toList) (hb:cells.all aH=true) :
   Inv ρ (G.bX d w.heap.size) (w.alloc (.cells c t)) (cC mem d cells) sh aa∧G.le (G.bX d w.heap.size)∧bf G w (G.bX d w.heap.size) (w.alloc (.cells c t)):=by
 have hpm:G.pm d=none:=by
   cases h:G.pm d with
   | none=>rfl
   | some b=>have:=hi.ep d b h;rw [hl] at this;simp at this
 have hle:G.le (G.bX d w.heap.size):=⟨G.K.le_refl,fun k b h=>by
   simp only [Gh.bX]
   split
   · rename_i e;subst e;rw [hpm] at h;simp at h
   · exact h,fun _ _ h=>h,fun _ t h=>⟨t,h,⟨Nat.le_refl _,t.d9⟩,fun _=>rfl⟩⟩
 have hevo:bf G w (G.bX d w.heap.size) (w.alloc (.cells c t)):={
           size:=by simp,os:=rfl,tape:=rfl,output:=rfl,K:=G.K.le_refl,sm:=fun _ _ h=>h,
           cS:=fun b hb hr=>⟨by simp only [Gh.bX];rw [if_neg (by omega)];exact hr,aT hb⟩
           eS:=fun b τ hb hr=>.inr ⟨τ,by simp only [Gh.bX];rw [if_neg (by omega)];exact hr⟩
           d_:=fun _ _ _ _ _ hk=>hk }
 refine ⟨⟨?_,?_,?_,?_,?_,?_,hi.cV,?_,hi.dy,hi.eA hevo⟩,hle,hevo⟩
 · intro b o v hk
   have hlt:b<w.heap.size:=hi.ft (o:=o) (v:=v) hk
   rw [World.cell?_alloc_lt _ _ ⟨b,o,none⟩ hlt]
   exact hi.known b o v hk
 · intro b o v hk
   have:=hi.ft (o:=o) (v:=v) hk
   simp only [Gh.bX]
   rw [if_neg (by omega)]
   exact hi.aI b o v hk
 · intro b hb'
   simp at hb'
   simp only [Gh.bX]
   rw [if_neg (by omega)]
   exact hi.fresh b (by omega)
 · intro d' cs hd'
   by_cases hdd:d=d'
   · subst hdd
     rw [bo] at hd'
     simp at hd';subst hd'
     exact ⟨w.heap.size,by simp [Gh.bX],⟨by simp [Gh.bX],c,t,heap_alloc_new,ae.mono hle hr⟩,hb⟩
   · rw [a_ _ _ _ _ hdd] at hd'
     obtain ⟨b',g1,g2,g3⟩:=hi.bT d' cs hd'
     have hlt:b'<w.heap.size:=by obtain ⟨_,_,hh,_⟩:=g2.at_;exact bC hh
     exact ⟨b',by simp only [Gh.bX];rw [if_neg (Ne.symm hdd)];exact g1,g2.mono hle (by simp only [Gh.bX];rw [if_neg (by omega)]) (aT hlt),g3⟩
 · intro d' b' hd'
   by_cases hdd:d=d'
   · subst hdd;rw [bo];rfl
   · rw [a_ _ _ _ _ hdd]
     simp only [Gh.bX] at hd'
     rw [if_neg (Ne.symm hdd)] at hd'
     exact hi.ep d' b' hd'
 · intro s cs hs
   obtain ⟨b',g1,g2,g3⟩:=hi.cr s cs hs
   have hlt:b'.1<w.heap.size:=g2.lt
   exact ⟨b',g1,g2.mono hle (by simp only [Gh.bX];rw [if_neg (by omega)]) (aT hlt),g3⟩
 · intro τ n hn
   obtain ⟨tk,e1,e2,e3⟩:=hi.cq τ n hn
   refine ⟨tk,e1,e2,e3.cap,e3.zero,fun hlt=>?_⟩
   obtain ⟨b,o,cc,ty,f1,f2,f3,f4,f5⟩:=e3.spare hlt
   have hb:=bC f3
   exact ⟨b,o,cc,ty,f1,by simp only [Gh.bX];rw [if_neg (by omega)];exact f2,(aT hb).trans f3,f4,f5⟩
theorem Inv.tj {ρ:bh} {mem:List (Nat×List AV)} {sh:Sh} {aa:aq} (hi:Inv ρ G w mem sh aa) {cells:List AV} {o':Obj} {N:Nat}
   (hr:Holds ρ G o' N cells) (hb:cells.all cp=true) (hf:cells.all (aw (sh.length+1))=true) :
   Inv ρ (G.cn sh.length w.heap.size N) (w.alloc o') mem (sh++[some cells]) aa∧G.le (G.cn sh.length w.heap.size N)∧bf G w (G.cn sh.length w.heap.size N) (w.alloc o'):=by
 have hsm:G.sm sh.length=none:=by
   cases h:G.sm sh.length with
   | none=>rfl
   | some b=>have:=hi.cV _ b h;omega
 have hle:G.le (G.cn sh.length w.heap.size N):=⟨G.K.le_refl,fun _ _ h=>h,fun k b h=>by
   simp only [Gh.cn]
   split
   · rename_i e;subst e;rw [hsm] at h;simp at h
   · exact h,fun _ t h=>⟨t,h,⟨Nat.le_refl _,t.d9⟩,fun _=>rfl⟩⟩
 have hevo:bf G w (G.cn sh.length w.heap.size N) (w.alloc o'):={
           size:=by simp,os:=rfl,tape:=rfl,output:=rfl,K:=G.K.le_refl,sm:=hle.sm,
           cS:=fun b hb hr=>⟨by simp only [Gh.cn];rw [if_neg (by omega)];exact hr,aT hb⟩
           eS:=fun b τ hb hr=>.inr ⟨τ,by simp only [Gh.cn];rw [if_neg (by omega)];exact hr⟩
           d_:=fun _ _ _ _ _ hk=>hk }
 refine ⟨⟨?_,?_,?_,?_,hi.ep,?_,?_,?_,hi.dy,hi.eA hevo⟩,hle,hevo⟩
 · intro b o v hk
   have hlt:b<w.heap.size:=hi.ft (o:=o) (v:=v) hk
   rw [World.cell?_alloc_lt _ _ ⟨b,o,none⟩ hlt]
   exact hi.known b o v hk
 · intro b o v hk
   have:=hi.ft (o:=o) (v:=v) hk
   simp only [Gh.cn]
   rw [if_neg (by omega)]
   exact hi.aI b o v hk
 · intro b hb'
   simp at hb'
   simp only [Gh.cn]
   rw [if_neg (by omega)]
   exact hi.fresh b (by omega)
 · intro d' cs hd'
   obtain ⟨b',g1,g2,g3⟩:=hi.bT d' cs hd'
   have hlt:b'<w.heap.size:=by obtain ⟨_,_,hh,_⟩:=g2.at_;exact bC hh
   exact ⟨b',g1,g2.mono hle (by simp only [Gh.cn];rw [if_neg (by omega)]) (aT hlt),g3⟩
 · intro s cs hs
   rw [List.getElem?_append] at hs
   split at hs
   · obtain ⟨b',g1,g2,g3⟩:=hi.cr s cs hs
     have hlt:b'.1<w.heap.size:=g2.lt
     exact ⟨b',hle.sm _ _ g1,g2.mono hle (by simp only [Gh.cn];rw [if_neg (by omega)]) (aT hlt),g3⟩
   · rename_i hge
     have hs':s=sh.length:=by
       rcases Nat.lt_or_ge (s-sh.length) 1 with h | h
       · omega
       · rw [List.getElem?_eq_none (by simpa using h)] at hs;simp at hs
     subst hs'
     simp at hs;subst hs
     exact ⟨(w.heap.size,N),by simp [Gh.cn],⟨by simp [Gh.cn],o',heap_alloc_new,hr.mono hle⟩,hb,hf⟩
 · intro s b h
   simp only [Gh.cn] at h
   split at h
   · rename_i e;subst e;simp
   · have:=hi.cV s b h;simp;omega
 · intro τ n hn
   obtain ⟨tk,e1,e2,e3⟩:=hi.cq τ n hn
   refine ⟨tk,e1,e2,e3.cap,e3.zero,fun hlt=>?_⟩
   obtain ⟨b,o,cc,ty,f1,f2,f3,f4,f5⟩:=e3.spare hlt
   have hb:=bC f3
   exact ⟨b,o,cc,ty,f1,by simp only [Gh.cn];rw [if_neg (by omega)];exact f2,(aT hb).trans f3,f4,f5⟩
theorem Inv.mr {ρ:bh} {mem:List (Nat×List AV)} {sh:Sh} {aa:aq} (hi:Inv ρ G w mem sh aa) {cells:List AV} {c:Array Value} (t:TypeId)
   (hr:ae ρ G cells c.toList) (hb:cells.all cp=true) (hf:cells.all (aw (sh.length+1))=true) :
   Inv ρ (G.cn sh.length w.heap.size c.size) (w.alloc (.cells c t)) mem (sh++[some cells]) aa∧G.le (G.cn sh.length w.heap.size c.size)∧bf G w (G.cn sh.length w.heap.size c.size) (w.alloc (.cells c t)):=
 hi.tj (Holds.full hr) hb hf
end
end Go.Ab
namespace Go.Ab
section
variable {P:Program} {ns:Names} {G:Gh} {w:World}
structure jd (G:Gh) (aa toks':aq) (τ n:Nat):Prop where
 at_:toks'[τ]?=some n
 other:∀σ,σ≠τ→toks'[σ]?=aa[σ]?
 aC:∀t,G.tk τ=some t→t.len<n
def Gh.aW (G:Gh) (τ:Nat) (t:Tk) (role:Nat→iu) (K:aU):Gh:=
 { G with K,role,tk:=fun σ=>if σ=τ then some t else G.tk σ }
theorem Gh.kv {τ:Nat} {t:Tk} {role:Nat→iu} {K:aU} (hK:G.K.le K) (ho:∀t0,G.tk τ=some t0→(t0.len≤t.len∧t0.on t)∧(t0.len=t.len→t=t0)):G.le (G.aW τ t role K) where
 K:=hK
 pm:=fun _ _ h=>h
 sm:=fun _ _ h=>h
 tk:=fun σ t0 h=>by
   simp only [Gh.aW]
   by_cases hσ:σ=τ
   · subst hσ
     simp only [if_true]
     obtain ⟨h1,h2⟩:=ho t0 h
     exact ⟨t,rfl,h1,h2⟩
   · rw [if_neg hσ]
     exact ⟨t0,h,⟨Nat.le_refl _,Tk.d9 _⟩,fun _=>rfl⟩
def cW (G:Gh) (b τ:Nat):Nat→iu:=fun k=>if k=b then .tok τ else if G.role k=.tok τ then .cS else G.role k
def fu (G:Gh) (b m:Nat) (c:Array Value):aU:=fun k o=>if k=b then (if o<m then c[o]? else none) else G.K k o
theorem Inv.grow {ρ:bh} {mem:List (Nat×List AV)} {sh:Sh} {aa toks':aq} (hi:Inv ρ G w mem sh aa) {τ:Nat} {t:Tk} {c:Array Value} (ty:TypeId)
   (hb:t.base=some ⟨w.heap.size,0,none⟩) (hc:t.cap*t.sz≤c.size) (hl:t.len≤t.cap) (h0:0<t.len) (hu:jd G aa toks' τ t.len) (hg:∀t0,G.tk τ=some t0→¬t0.dead∧t0.cap<t.len) :
   Inv ρ (G.aW τ t (cW G w.heap.size τ) (fu G w.heap.size (t.len*t.sz) c)) (w.alloc (.cells c ty)) mem sh toks' ∧
   G.le (G.aW τ t (cW G w.heap.size τ) (fu G w.heap.size (t.len*t.sz) c)) ∧
   bf G w (G.aW τ t (cW G w.heap.size τ) (fu G w.heap.size (t.len*t.sz) c)) (w.alloc (.cells c ty)):=by
 have hK:G.K.le (fu G w.heap.size (t.len*t.sz) c):=fun b o v hk=>by
   have:=hi.ft hk
   simp only [fu];rw [if_neg (by omega)];exact hk
 have hle:G.le (G.aW τ t (cW G w.heap.size τ) (fu G w.heap.size (t.len*t.sz) c)):=
   Gh.kv hK fun t0 h=>by have:=hu.aC t0 h;exact ⟨⟨by omega,fun d=>absurd d (hg t0 h).1,.inr (.inl (hg t0 h).2)⟩,by omega⟩
 have hrole:∀b r,b<w.heap.size→G.role b=r→(∀σ,r≠.tok σ)→cW G w.heap.size τ b=r:=by
   intro b r hb hr hn
   simp only [cW]
   rw [if_neg (by omega),if_neg (by rw [hr];exact hn τ),hr]
 have hevo:bf G w (G.aW τ t (cW G w.heap.size τ) (fu G w.heap.size (t.len*t.sz) c)) (w.alloc (.cells c ty)):={
           size:=by simp,os:=rfl,tape:=rfl,output:=rfl,K:=hK,sm:=fun _ _ h=>h,
           cS:=fun b hb hr=>⟨hrole b _ hb hr (by simp),aT hb⟩
           eS:=fun b σ hb hr=>by
             simp only [Gh.aW,cW]
             rw [if_neg (by omega)]
             split
             · exact .inl rfl
             · exact .inr ⟨σ,hr⟩
           d_:=fun b o v hb _ hk=>by
             simp only [Gh.aW,fu] at hk
             rwa [if_neg (by omega)] at hk }
 refine ⟨⟨?_,?_,?_,?_,hi.ep,?_,hi.cV,?_,?_,hi.eA hevo⟩,hle,hevo⟩
 · intro b o v hk
   simp only [Gh.aW,fu] at hk
   split at hk
   · rename_i e;subst e
     split at hk
     · simp [hk]
     · simp at hk
   · have hlt:b<w.heap.size:=hi.ft (o:=o) (v:=v) hk
     rw [World.cell?_alloc_lt _ _ ⟨b,o,none⟩ hlt]
     exact hi.known b o v hk
 · intro b o v hk
   simp only [Gh.aW,fu] at hk
   simp only [Gh.aW,cW]
   split at hk
   · rename_i e;subst e;exact .inr ⟨τ,by simp⟩
   · rename_i e
     rw [if_neg e]
     split
     · exact .inl rfl
     · exact hi.aI b o v hk
 · intro b hb'
   simp at hb'
   simp only [Gh.aW,cW]
   rw [if_neg (by omega)]
   have:=hi.fresh b (by omega)
   rw [this];simp
 · intro d cs hd
   obtain ⟨b',g1,g2,g3⟩:=hi.bT d cs hd
   have hlt:b'<w.heap.size:=by obtain ⟨_,_,hh,_⟩:=g2.at_;exact bC hh
   exact ⟨b',g1,g2.mono hle ((hrole b' _ hlt g2.role (by simp)).trans g2.role.symm) (aT hlt),g3⟩
 · intro s cs hs
   obtain ⟨b',g1,g2,g3⟩:=hi.cr s cs hs
   have hlt:b'.1<w.heap.size:=g2.lt
   exact ⟨b',g1,g2.mono hle ((hrole b'.1 _ hlt g2.role (by simp)).trans g2.role.symm) (aT hlt),g3⟩
 · intro σ n hn
   by_cases hσ:σ=τ
   · subst hσ
     rw [hu.at_] at hn
     simp at hn
     refine ⟨t,by simp [Gh.aW],hn,hl,fun h=>by omega,fun hlt=>⟨w.heap.size,0,c,ty,hb,by simp [Gh.aW,cW],heap_alloc_new,by omega,fun j v hk=>?_⟩⟩
     simp only [Gh.aW,fu,if_true] at hk
     split at hk
     · omega
     · simp at hk
   · rw [hu.other σ hσ] at hn
     obtain ⟨t0,e1,e2,e3⟩:=hi.cq σ n hn
     refine ⟨t0,by simp only [Gh.aW];rw [if_neg hσ];exact e1,e2,e3.cap,e3.zero,fun hlt=>?_⟩
     obtain ⟨b',o,cc,ty',f1,f2,f3,f4,f5⟩:=e3.spare hlt
     have hb':=bC f3
     refine ⟨b',o,cc,ty',f1,?_,(aT hb').trans f3,f4,fun j v hk=>f5 j v ?_⟩
     · simp only [Gh.aW,cW]
       rw [if_neg (by omega),if_neg (by rw [f2];simp;exact hσ)]
       exact f2
     · simp only [Gh.aW,fu] at hk
       rwa [if_neg (by omega)] at hk
 · intro σ t0 h
   simp only [Gh.aW] at h
   split at h
   · rename_i e;subst e;simp at h;subst h;exact hu.at_
   · rename_i e;rw [hu.other σ e];exact hi.dy σ t0 h
theorem Inv.Cy {ρ:bh} {mem:List (Nat×List AV)} {sh:Sh} {aa toks':aq} (hi:Inv ρ G w mem sh aa) {τ:Nat} {t:Tk}
   (hl:t.cap=t.len) (hown:t.own=false) (hn:G.tk τ=none) (h1:toks'[τ]?=some t.len) (h2:∀σ,σ≠τ→toks'[σ]?=aa[σ]?) :
   Inv ρ (G.aW τ t G.role G.K) w mem sh toks'∧G.le (G.aW τ t G.role G.K)∧bf G w (G.aW τ t G.role G.K) w:=by
 have hle:G.le (G.aW τ t G.role G.K):=Gh.kv G.K.le_refl fun t0 h=>by rw [hn] at h;simp at h
 have hevo:bf G w (G.aW τ t G.role G.K) w:={
           size:=Nat.le_refl _,os:=rfl,tape:=rfl,output:=rfl,K:=G.K.le_refl,sm:=fun _ _ h=>h,
           cS:=fun b hb hr=>⟨hr,rfl⟩,eS:=fun b σ hb hr=>.inr ⟨σ,hr⟩,d_:=fun _ _ _ _ _ hk=>hk }
 refine ⟨⟨hi.known,hi.aI,hi.fresh,?_,hi.ep,?_,hi.cV,?_,?_,hi.eA hevo⟩,hle,hevo⟩
 · intro d cs hd
   obtain ⟨b',g1,g2,g3⟩:=hi.bT d cs hd
   exact ⟨b',g1,g2.mono hle rfl rfl,g3⟩
 · intro d cs hd
   obtain ⟨b',g1,g2,g3⟩:=hi.cr d cs hd
   exact ⟨b',g1,g2.mono hle rfl rfl,g3⟩
 · intro σ n hn'
   by_cases hσ:σ=τ
   · subst hσ
     rw [h1] at hn';simp at hn'
     exact ⟨t,by simp [Gh.aW],hn',by omega,fun _=>by omega,fun h=>h.elim (fun h=>by omega) (fun h=>by rw [hown] at h;cases h)⟩
   · rw [h2 σ hσ] at hn'
     obtain ⟨t0,e1,e2,e3⟩:=hi.cq σ n hn'
     exact ⟨t0,by simp only [Gh.aW];rw [if_neg hσ];exact e1,e2,e3.cap,e3.zero,e3.spare⟩
 · intro σ t0 h
   simp only [Gh.aW] at h
   split at h
   · rename_i e;subst e;simp at h;subst h;exact h1
   · rename_i e;rw [h2 σ e];exact hi.dy σ t0 h
def fw (G:Gh) (b o:Nat) (l:List Value):aU:=fun k j=>if k=b∧o≤j∧j<o+l.length then l[j-o]? else G.K k j
theorem Inv.fill {ρ:bh} {mem:List (Nat×List AV)} {sh:Sh} {aa toks':aq} (hi:Inv ρ G w mem sh aa) {τ b o n:Nat} {t:Tk} {c c':Array Value} {ty:TypeId} {l:List Value}
   (ht:G.tk τ=some t) (hb:t.base=some ⟨b,o,none⟩) (hrole:G.role b=.tok τ) (hh:w.heap[b]?=some (.cells c ty (0,0))) (hcap:o+t.cap*t.sz≤c.size)
   (hfree:∀j v,G.K b j=some v→j<o+t.len*t.sz) (hl:l.length=n*t.sz) (hn:0<n) (hfit:t.len+n≤t.cap)
   (hc':c'=(c.toList.take (o+t.len*t.sz)++l++c.toList.drop (o+t.len*t.sz+l.length)).toArray) (hu:jd G aa toks' τ (t.len+n)) :
   Inv ρ (G.aW τ { t with len:=t.len+n,own:=true } G.role (fw G b (o+t.len*t.sz) l)) (w.setRow b c') mem sh toks' ∧
   G.le (G.aW τ { t with len:=t.len+n,own:=true } G.role (fw G b (o+t.len*t.sz) l)) ∧
   bf G w (G.aW τ { t with len:=t.len+n,own:=true } G.role (fw G b (o+t.len*t.sz) l)) (w.setRow b c'):=by
 have hne:G.role b≠.cS:=by rw [hrole];simp
 have hmul:(t.len+n)*t.sz=t.len*t.sz+n*t.sz:=Nat.add_mul _ _ _
 have hmul2:(t.len+n)*t.sz≤t.cap*t.sz:=Nat.mul_le_mul_right _ hfit
 have hsz:c'.size=c.size:=by
   subst hc';simp;omega
 have hK:G.K.le (fw G b (o+t.len*t.sz) l):=fun k j v hk=>by
   simp only [fw]
   rw [if_neg]
   · exact hk
   · rintro ⟨rfl,h1,_⟩
     have:=hfree j v hk
     omega
 have hle:G.le (G.aW τ { t with len:=t.len+n,own:=true } G.role (fw G b (o+t.len*t.sz) l)):=
   Gh.kv hK fun t0 h=>by rw [ht] at h;simp at h;subst h;exact ⟨⟨by simp,fun d=>(by rw [Tk.dead,hb] at d;simp at d),.inr (.inr ⟨rfl,rfl,.inr rfl⟩)⟩,by simp;omega⟩
 have hA:=h_.setRow (G:=G) (w:=w) b c'
 have hnew:(w.setRow b c').heap[b]?=some (.cells c' ty (0,0)):=setRow_heap _ _ _ _ _ _ hh
 have hevo:bf G w (G.aW τ { t with len:=t.len+n,own:=true } G.role (fw G b (o+t.len*t.sz) l)) (w.setRow b c'):={
           size:=by rw [hA.size];exact Nat.le_refl _,os:=rfl,tape:=rfl,output:=rfl,K:=hK,sm:=fun _ _ h=>h,
           cS:=fun k hk hr=>⟨hr,hA.other k (fun e=>hne (e ▸ hr))⟩
           eS:=fun k σ hk hr=>.inr ⟨σ,hr⟩
           d_:=fun k j v hk hr hkk=>by
             simp only [Gh.aW,fw] at hkk
             rwa [if_neg (by rintro ⟨e,_⟩;subst e;exact hne hr)] at hkk }
 refine ⟨⟨?_,?_,?_,?_,hi.ep,?_,hi.cV,?_,?_,hi.eA hevo⟩,hle,hevo⟩
 · intro k j v hk
   simp only [Gh.aW,fw] at hk
   split at hk
   · rename_i e
     obtain ⟨rfl,e1,e2⟩:=e
     simp only [World.cell?,hnew]
     subst hc'
     simp only [Option.isSome_none,Bool.false_eq_true,if_false,List.getElem?_toArray]
     rw [List.getElem?_append_left (by simp;omega),List.getElem?_append_right (by simp;omega)]
     have:(c.toList.take (o+t.len*t.sz)).length=o+t.len*t.sz:=by simp;omega
     rw [this]
     exact hk
   · rename_i e
     by_cases hkb:k=b
     · subst hkb
       have hj:=hfree j v hk
       have hold:=hi.known k j v hk
       simp only [World.cell?,hh,Option.isSome_none,Bool.false_eq_true,if_false] at hold
       simp only [World.cell?,hnew]
       subst hc'
       simp only [Option.isSome_none,Bool.false_eq_true,if_false,List.getElem?_toArray]
       rw [List.getElem?_append_left (by simp;omega),List.getElem?_append_left (by simp;omega),List.getElem?_take,if_pos hj]
       simpa using hold
     · have hold:=hi.known k j v hk
       unfold World.cell? at hold ⊢
       simp only at hold ⊢
       rw [hA.other k hkb]
       exact hold
 · intro k j v hk
   simp only [Gh.aW,fw] at hk
   split at hk
   · rename_i e
     obtain ⟨rfl,_⟩:=e
     exact .inr ⟨τ,hrole⟩
   · exact hi.aI k j v hk
 · intro k hk;rw [hA.size] at hk;exact hi.fresh k hk
 · intro d cs hd
   obtain ⟨b',g1,g2,g3⟩:=hi.bT d cs hd
   refine ⟨b',g1,g2.mono hle rfl (hA.other b' ?_),g3⟩
   rintro rfl
   have:=g2.role;rw [hrole] at this;simp at this
 · intro d cs hd
   obtain ⟨b',g1,g2,g3⟩:=hi.cr d cs hd
   refine ⟨b',g1,g2.mono hle rfl (hA.other b'.1 ?_),g3⟩
   intro he
   have:=g2.role;rw [he,hrole] at this;simp at this
 · intro σ m hm
   by_cases hσ:σ=τ
   · subst hσ
     rw [hu.at_] at hm
     simp at hm
     refine ⟨{ t with len:=t.len+n,own:=true },by simp [Gh.aW],hm,hfit,fun h=>by simp at h;omega,fun hlt=>⟨b,o,c',ty,hb,hrole,hnew,by rw [hsz];exact hcap,fun j v hk=>?_⟩⟩
     simp only [Gh.aW,fw] at hk
     show j<o+(t.len+n)*t.sz
     split at hk
     · rename_i e;rw [hmul];omega
     · have:=hfree j v hk;rw [hmul];omega
   · rw [hu.other σ hσ] at hm
     obtain ⟨t0,e1,e2,e3⟩:=hi.cq σ m hm
     refine ⟨t0,by simp only [Gh.aW];rw [if_neg hσ];exact e1,e2,e3.cap,e3.zero,fun hlt=>?_⟩
     obtain ⟨b',o',cc,ty',f1,f2,f3,f4,f5⟩:=e3.spare hlt
     have hbb:b'≠b:=by rintro rfl;rw [hrole] at f2;simp at f2;exact hσ f2.symm
     refine ⟨b',o',cc,ty',f1,f2,(hA.other b' hbb).trans f3,f4,fun j v hk=>f5 j v ?_⟩
     simp only [Gh.aW,fw] at hk
     rwa [if_neg (by rintro ⟨e,_⟩;exact hbb e)] at hk
 · intro σ t0 h
   simp only [Gh.aW] at h
   split at h
   · rename_i e;subst e;simp at h;subst h;exact hu.at_
   · rename_i e;rw [hu.other σ e];exact hi.dy σ t0 h
end
end Go.Ab
namespace Go.Ab
section
variable {P:Program} {ns:Names} {G:Gh} {w:World}
theorem oj (n:Nat):∀(r c:Nat),c≤2*n→256≤c→Builtin.growBy n r c≤2*n
 | 0,c,h,_=>h
 | r+1,c,h,h2=>by
   simp only [Builtin.growBy]
   split
   · exact h
   · exact oj n r _ (by omega) (by omega)
theorem nextslicecap_le (n c:Nat) (h:c<n):Builtin.nextslicecap n c≤2*n:=by
 unfold Builtin.nextslicecap
 split
 · omega
 · split
   · omega
   · exact oj n 4 c (by omega) (by omega)
theorem fx {els:List PV} {v:Value} {sz n:Nat} (hk:∀b o u,G.K b o=some u→w.cell? ⟨b,o,none⟩=some u) (hr:Rel G.K (.aE els) v) (hs:a6 sz els=true) (hn:els.length=n) :
   ∃vss:List Value,(Builtin.firstCells sz n v).run P w=.ok vss.toArray w∧vss.length=n*sz ∧
     (∀(K':aU) (b' o':Nat),G.K.le K'→At K' b' o' vss→Row K' b' o' sz els)∧(∀u∈vss,u.oneCell'=true):=by
 obtain ⟨base,len,cap,rfl,_,hlen,hrow'⟩:=bu.1 hr
 by_cases hnil:els=[]
 · subst hnil
   simp at hn;subst hn
   refine ⟨[],?_,by simp,fun _ _ _ _ _=>by simp only [Row],by simp⟩
   cases base with
   | none=>simp [Builtin.firstCells]
   | some a=>simp [Builtin.firstCells,loadCells,loadCellsFrom]
 · obtain ⟨b,o,sz',rfl,hrow⟩:=hrow'.resolve_left hnil
   have:=hrow.sz hs hnil
   subst this
   obtain ⟨vss,g1,g2,g3,g4⟩:=hrow.flat
   refine ⟨vss,?_,by rw [g1,hn],g3,g4⟩
   have hl:=run_loadCells_list (P:=P) w ⟨b,o,none⟩ vss (fun j u hj=>by rw [Addr.cO];exact hk _ _ _ (g2 j u hj))
   rw [g1,hn] at hl
   simpa [Builtin.firstCells] using hl
theorem dB {argTypes:Array TypeId} {type t e e1 t1 sz:Nat} {base:Option Addr} {len cap n:Nat} {x:Value} {new:Array Value} {xb:Option Addr} {xc:Nat} (h0:argTypes[0]?=some t) (h1:argTypes[1]?=some t1)
   (hu:P.underlying t=some (.slice e)) (hu1:P.underlying t1=some (.slice e1)) (hsz:bS P e=some sz) (hx:x=.slice xb n xc)
   (hnew:(Builtin.firstCells sz n x).run P w=.ok new w) (hfit:len+n≤cap) :
   (Builtin.append_ argTypes type #[.slice base len cap,x]).run P w =
     match base with
     | some a=>((storeCells (a.add (len*sz)) new.toList).run P w).andThen fun _ w'=>.ok (.slice base (len+n) cap) w'
     | none=>.ok (.slice base (len+n) cap) w:=by
 subst hx
 cases base with
 | none=>simp [Builtin.append_,h0,h1,run_underlying hu,run_underlying hu1,cf hsz,Builtin.lenOf,hfit,hnew]
 | some a=>simp [Builtin.append_,h0,h1,run_underlying hu,run_underlying hu1,cf hsz,Builtin.lenOf,hfit,hnew]
theorem gM {argTypes:Array TypeId} {type t e e1 t1 sz by_:Nat} {base:Option Addr} {len cap n:Nat} {x:Value} {aC new:Array Value} {xb:Option Addr} {xc:Nat} {z:List PV} (h0:argTypes[0]?=some t) (h1:argTypes[1]?=some t1)
   (hu:P.underlying t=some (.slice e)) (hu1:P.underlying t1=some (.slice e1)) (hsz:bS P e=some sz) (hby:df P e=some by_) (hz:bF P e=some z) (hzl:z.length=sz) (hx:x=.slice xb n xc)
   (hold:∀w',w'=w.drew→(Builtin.firstCells sz len (.slice base len cap)).run P w'=.ok aC w') (hnew:∀w',w'=w.drew→(Builtin.firstCells sz n x).run P w'=.ok new w')
   (hfit:cap<len+n) (hb0:0<by_) (hbytes:(len+n)*by_≤140737488355328) :
   ∃(rest:Array Value) (newCap:Nat),len+n≤newCap∧rest.size=(newCap-(len+n))*sz ∧
     (Builtin.append_ argTypes type #[.slice base len cap,x]).run P w =
       .ok (.slice (some ⟨w.heap.size,0,none⟩) (len+n) newCap) (w.drew.alloc (.cells (aC++new++rest) e)):=by
 subst hx
 obtain ⟨i,hi,hib,hirun⟩:=iw hby w
 have hcap:¬Builtin.nextslicecap (len+n) cap*i.bytes > 2 ^ 48:=by
   have h1:=nextslicecap_le (len+n) cap hfit
   have h2:Builtin.nextslicecap (len+n) cap*i.bytes≤2*(len+n)*i.bytes:=Nat.mul_le_mul_right _ h1
   have h3:2*(len+n)*i.bytes=2*((len+n)*by_):=by rw [hib,Nat.mul_assoc]
   rw [h3] at h2
   have:(2:Nat)^48=281474976710656:=by decide
   omega
 have hnf:(Question.appendCap (len+n) cap e).forced=false:=rfl
 have hir:∀w',(typeInfo e).run P w'=.ok i w':=fun w'=>by simp [typeInfo,hi]
 obtain ⟨zv,hzv,hz2⟩:=d7 (P:=P) (w:=w.drew) hz
 have hzs:zv.cells.size=sz:=by have:=d6 hz2;simp at this;omega
 refine ⟨Builtin.zeroCells zv.cells ((Question.appendCap (len+n) cap e).cut (w.tape w.drawn (.appendCap (len+n) cap e))-(len+n)),(Question.appendCap (len+n) cap e).cut (w.tape w.drawn (.appendCap (len+n) cap e)),?_,?_,?_⟩
 · simp only [Question.cut];omega
 · simp [Builtin.zeroCells,hzs]
 · have ho:=hold w.drew rfl
   have hn:=hnew w.drew rfl
   have hi0:i.bytes≠0:=by omega
   simp [Builtin.append_,h0,h1,run_underlying hu,run_underlying hu1,cf hsz,Builtin.lenOf,Nat.not_le.2 hfit,hir,hi0,hcap,hnf]
   simp only [ho,hn,hzv,Result.andThen_ok]
   rfl
theorem ga {x:AV} {v:Value} {els:List PV} (h:cy x=some els) (hr:ah (num ns) G x v):∃xb xc,v=.slice xb els.length xc:=by
 obtain ⟨b,l,c,rfl,_,hl,_⟩:=bu.1 (cP h hr)
 exact ⟨b,c,by rw [hl]⟩
theorem tl {c:Call} {A:gJ} {dst:Option Nat} {args:List Operand} {sz by_:Nat} (h:a9 P ns A dst (.call c)=some (.append sz by_,args)) :
   ∃x y t e t1 e1 z,c.callee=.builtin .append∧c.args=#[x,y]∧args=[x,y]∧c.argTypes[0]?=some t∧c.argTypes[1]?=some t1∧P.underlying t=some (.slice e) ∧
     P.underlying t1=some (.slice e1)∧bS P e=some sz∧df P e=some by_∧bF P e=some z∧z.length=sz∧0<sz∧0<by_:=by
 obtain ⟨callee,cargs,ctypes⟩:=c
 simp only [a9] at h
 split at h
 · split at h<;>simp at h
 · split at h<;>simp at h
 · split at h<;>simp at h
 · rename_i hcal
   split at h
   · rename_i x y e e1 ha ht ht1
     split at h
     · rename_i sz' by' z hs hb hz
       rw [Option.ite_none_right_eq_some] at h
       obtain ⟨⟨h1,h2,h3⟩,h⟩:=h
       split at h
       · simp at h
       split at h
       · simp at h
       simp only [Option.some.injEq,Prod.mk.injEq,AK.append.injEq] at h
       obtain ⟨⟨rfl,rfl⟩,rfl⟩:=h
       simp only [Option.bind_eq_some_iff] at ht ht1
       obtain ⟨t,ht,htu⟩:=ht
       obtain ⟨t1,ht1,ht1u⟩:=ht1
       exact ⟨x,y,t,e,t1,e1,z,rfl,by apply Array.ext';simpa using ha,rfl,ht,ht1,cz htu,cz ht1u,hs,hb,hz,h1,h2,h3⟩
     · simp at h
   · simp at h
 · split at h
   · split at h
     · split at h<;>simp at h
     · simp at h
   · simp at h
 · split at h
   · split at h<;>simp at h
   · simp at h
 · split at h
   · split at h
     · (repeat' (split at h))<;>simp at h
     · split at h
       · simp at h
       · split at h
         · simp at h
         · split at h<;>simp at h
   · simp at h
 · split at h<;>simp at h
 · simp at h
theorem qJ {c:Call} {A:gJ} {dst:Option Nat} {args:List Operand} {sz by_:Nat} {ag:Bool} (h:a9 P ns A dst (.call c)=some (.cR sz by_ ag,args)) :
   ∃x y t e t1 e1 z,c.callee=.builtin .append∧c.args=#[x,y]∧args=[x,y]∧c.argTypes[0]?=some t∧c.argTypes[1]?=some t1∧P.underlying t=some (.slice e) ∧
     P.underlying t1=some (.slice e1)∧bS P e=some sz∧df P e=some by_∧bF P e=some z∧z.length=sz∧0<sz∧0<by_:=by
 obtain ⟨callee,cargs,ctypes⟩:=c
 simp only [a9] at h
 split at h
 · split at h<;>simp at h
 · split at h<;>simp at h
 · split at h<;>simp at h
 · rename_i hcal
   split at h
   · rename_i x y e e1 ha ht ht1
     split at h
     · rename_i sz' by' z hs hb hz
       rw [Option.ite_none_right_eq_some] at h
       obtain ⟨⟨h1,h2,h3⟩,h⟩:=h
       split at h
       · simp only [Option.map_eq_some_iff,Prod.mk.injEq,AK.cR.injEq] at h
         obtain ⟨ag',hag,⟨rfl,rfl,rfl⟩,rfl⟩:=h
         simp only [Option.bind_eq_some_iff] at ht ht1
         obtain ⟨t,ht,htu⟩:=ht
         obtain ⟨t1,ht1,ht1u⟩:=ht1
         exact ⟨x,y,t,e,t1,e1,z,rfl,by apply Array.ext';simpa using ha,rfl,ht,ht1,cz htu,cz ht1u,hs,hb,hz,h1,h2,h3⟩
       · split at h<;>simp at h
     · simp at h
   · simp at h
 · split at h
   · split at h
     · split at h<;>simp at h
     · simp at h
   · simp at h
 · split at h
   · split at h<;>simp at h
   · simp at h
 · split at h
   · split at h
     · (repeat' (split at h))<;>simp at h
     · split at h
       · simp at h
       · split at h
         · simp at h
         · split at h<;>simp at h
   · simp at h
 · split at h<;>simp at h
 · simp at h
theorem Cz {K:aU} {els:List PV} {base:Option Addr} {len sz:Nat} (h:DO K els base len) (hs:a6 sz els=true):els=[]∨∃b o,base=some ⟨b,o,none⟩∧Row K b o sz els:=by
 rcases h.2 with h1 | ⟨b,o,sz',e,hr⟩
 · exact .inl h1
 · by_cases hn:els=[]
   · exact .inl hn
   · have:=hr.sz hs hn
     subst this
     exact .inr ⟨b,o,e,hr⟩
theorem xh {mem:List (Nat×List AV)} {sh:Sh} {aa toks':aq} (hi:Inv (num ns) G w mem sh aa) {τ:Nat} {l xs:List PV} {sz newCap:Nat} {aC new:List Value} {rest:Array Value} (e:TypeId)
   (ho:aC.length=l.length*sz) (hn:new.length=xs.length*sz) (ho':∀(K':aU) (b' o':Nat),G.K.le K'→At K' b' o' aC→Row K' b' o' sz l)
   (hn':∀(K':aU) (b' o':Nat),G.K.le K'→At K' b' o' new→Row K' b' o' sz xs) (hcap:l.length+xs.length≤newCap) (hr:rest.size=(newCap-(l.length+xs.length))*sz) (h0:0<xs.length)
   (hu:jd G aa toks' τ (l.length+xs.length)) (hg:∀t0,G.tk τ=some t0→¬t0.dead∧t0.cap<l.length+xs.length) :
   ∃G',ah (num ns) G' (.own (l++xs) τ) (.slice (some ⟨w.heap.size,0,none⟩) (l.length+xs.length) newCap) ∧
     Inv (num ns) G' (w.alloc (.cells (aC.toArray++new.toArray++rest) e)) mem sh toks'∧G.le G'∧bf G w G' (w.alloc (.cells (aC.toArray++new.toArray++rest) e)):=by
 let t:Tk:={ base:=some ⟨w.heap.size,0,none⟩,len:=l.length+xs.length,cap:=newCap,sz:=sz,own:=true }
 have hsz:(aC.toArray++new.toArray++rest).size=newCap*sz:=by
   simp [ho,hn,hr]
   have:newCap=(l.length+xs.length)+(newCap-(l.length+xs.length)):=by omega
   conv=>rhs;rw [this,Nat.add_mul,Nat.add_mul]
 obtain ⟨h1,h2,h3⟩:=hi.grow (t:=t) (c:=aC.toArray++new.toArray++rest) e rfl (by rw [hsz];exact Nat.le_refl _) hcap (by show 0<l.length+xs.length;omega) hu hg
 refine ⟨_,?_,h1,h2,h3⟩
 have hat:At (fu G w.heap.size (t.len*t.sz) (aC.toArray++new.toArray++rest)) w.heap.size 0 (aC++new):=by
   intro j v hj
   have hlt:=(List.getElem?_eq_some_iff.1 hj).1
   simp only [List.length_append,ho,hn] at hlt
   simp only [fu,if_true,Nat.zero_add]
   rw [if_pos (by show j<(l.length+xs.length)*sz;rw [Nat.add_mul];exact hlt)]
   rw [Array.getElem?_append_left (by simp [ho,hn];exact hlt)]
   simpa using hj
 have hrow:Row (fu G w.heap.size (t.len*t.sz) (aC.toArray++new.toArray++rest)) w.heap.size 0 sz (l++xs):=by
   refine Row.append (ho' _ _ _ h2.K fun j v hj=>hat j v ?_) (hn' _ _ _ h2.K fun j v hj=>?_)
   · rw [List.getElem?_append_left (List.getElem?_eq_some_iff.1 hj).1];exact hj
   · have:=hat (l.length*sz+j) v (by rw [List.getElem?_append_right (by omega),ho,Nat.add_sub_cancel_left];exact hj)
     rwa [Nat.zero_add,←Nat.zero_add (l.length*sz+j),←Nat.add_assoc] at this
 simp only [ah]
 refine ⟨t,by simp [Gh.aW],⟨by simp [t],t.lX⟩,bu.2 ⟨_,_,_,rfl,hcap,by simp,.inr ⟨_,_,_,rfl,hrow⟩⟩,fun _=>⟨rfl,.inr ⟨_,_,rfl,hrow⟩⟩⟩
theorem tm {ρ:bh} {mem:List (Nat×List AV)} {sh:Sh} {aa:aq} (hi:Inv ρ G w mem sh aa) (n:Nat):jd G aa (aa++[n]) aa.length n:=by
 refine ⟨by simp,fun σ hσ=>?_,fun t h=>?_⟩
 · rcases Nat.lt_or_ge σ aa.length with h | h
   · rw [List.getElem?_append_left h]
   · rw [List.getElem?_eq_none (by simp;omega),List.getElem?_eq_none h]
 · have:=hi.dy _ t h
   rw [List.getElem?_eq_none (Nat.le_refl _)] at this
   simp at this
theorem ph {argTypes:Array TypeId} {type t e e1 t1 sz by_:Nat} {z:List PV} {s x y:AV} {vs vx:Value} {mem:List (Nat×List AV)} {sh:Sh} {aa toks':aq}
   (h0:argTypes[0]?=some t) (h1:argTypes[1]?=some t1)
   (hu:P.underlying t=some (.slice e)) (hu1:P.underlying t1=some (.slice e1)) (hsz:bS P e=some sz) (hby:df P e=some by_) (hz:bF P e=some z) (hzl:z.length=sz) (hb0:0<by_)
   (hs:ah (num ns) G s vs) (hx:ah (num ns) G x vx) (hi:Inv (num ns) G w mem sh aa) (h:bn sz by_ s x aa=some (y,toks')) :
   ∃v w' G',(Builtin.append_ argTypes type #[vs,vx]).run P w=.ok v w'∧ah (num ns) G' y v∧Inv (num ns) G' w' mem sh toks'∧G.le G'∧bf G w G' w':=by
 unfold bn at h
 split at h
 · simp at h
 · rename_i xs hxs
   simp only [Option.ite_none_right_eq_some] at h
   obtain ⟨hhx,h⟩:=h
   obtain ⟨xb,xc,rfl⟩:=ga hxs hx
   have hrx:=cP hxs hx
   have known':∀w',w'=w.drew→∀b o u,G.K b o=some u→w'.cell? ⟨b,o,none⟩=some u:=fun w' e b o u hk=>by subst e;exact hi.known b o u hk
   obtain ⟨new,n1,n2,n3,n4⟩:=fx (P:=P) hi.known hrx hhx rfl
   have n1':∀w',w'=w.drew→(Builtin.firstCells sz xs.length (.slice xb xs.length xc)).run P w'=.ok new.toArray w':=by
     intro w' e
     obtain ⟨new',m1,_,_⟩:=fx (P:=P) (known' w' e) hrx hhx rfl
     have hsame:(Builtin.firstCells sz xs.length (.slice xb xs.length xc)).run P w'=.ok new'.toArray w':=m1
     have:new'=new:=by
       subst e
       obtain ⟨base,len,cap,e1,_,hlen,hrow'⟩:=bu.1 hrx
       cases e1
       by_cases hnil:xs=[]
       · subst hnil
         have a1:new=[]:=by apply List.eq_nil_of_length_eq_zero;simpa using n2
         have a2:new'=[]:=by
           cases xb with
           | none=>simpa [Builtin.firstCells] using m1.symm
           | some a=>simpa [Builtin.firstCells,loadCells,loadCellsFrom] using m1.symm
         rw [a1,a2]
       · obtain ⟨b,o,sz',e2,hrow⟩:=hrow'.resolve_left hnil
         cases e2
         have:=hrow.sz hhx hnil
         subst this
         obtain ⟨vss,g1,g2,_,_⟩:=hrow.flat
         have l1:=run_loadCells_list (P:=P) w ⟨b,o,none⟩ vss (fun j u hj=>by rw [Addr.cO];exact hi.known _ _ _ (g2 j u hj))
         have l2:=run_loadCells_list (P:=P) w.drew ⟨b,o,none⟩ vss (fun j u hj=>by rw [Addr.cO];exact hi.known _ _ _ (g2 j u hj))
         rw [g1] at l1 l2
         simp only [Builtin.firstCells] at n1 m1
         rw [l1] at n1
         rw [l2] at m1
         simp at n1 m1
         rw [←n1,←m1]
     rw [hsame,this]
   have grows:∀(l:List PV) (base:Option Addr) (cap τ:Nat),Rel G.K (.aE l) (.slice base l.length cap)→a6 sz l=true→cap<l.length+xs.length→(l.length+xs.length)*by_≤140737488355328 →
       jd G aa toks' τ (l.length+xs.length)→(∀t0,G.tk τ=some t0→¬t0.dead∧t0.cap<l.length+xs.length)→y=.own (l++xs) τ →
       ∃v w' G',(Builtin.append_ argTypes type #[.slice base l.length cap,.slice xb xs.length xc]).run P w=.ok v w'∧ah (num ns) G' y v∧Inv (num ns) G' w' mem sh toks'∧G.le G'∧bf G w G' w':=by
     intro l base cap τ hrl hhl hfit hbytes hup hg hy
     obtain ⟨aC,o1,o2,o3,o4⟩:=fx (P:=P) (w:=w.drew) (known' _ rfl) hrl hhl rfl
     obtain ⟨rest,newCap,p1,p2,p3⟩:=gM (type:=type) (aC:=aC.toArray) (new:=new.toArray) h0 h1 hu hu1 hsz hby hz hzl (base:=base) (len:=l.length) (cap:=cap) (n:=xs.length) (xb:=xb) (xc:=xc) rfl
       (fun w' e=>by subst e;exact o1) n1' hfit hb0 hbytes
     have hpos:0<xs.length:=by
       rcases Nat.eq_zero_or_pos xs.length with hz' | hz'
       · have:=(bu.1 hrl)
         obtain ⟨b',l',c',e',hle,hlen,_⟩:=this
         cases e'
         omega
       · exact hz'
     obtain ⟨G',q1,q2,q3,q4⟩:=xh (ns:=ns) (w:=w.drew) hi.drew e o2 n2 o3 n3 p1 p2 hpos hup hg
     exact ⟨_,_,G',p3,by rw [hy];exact q1,q2,q3,(bf.drew G w).trans q4⟩
   split at h
   · -- a slice without room to spare
     rename_i l
     split at h
     · rename_i hemp
       have hxs0:xs=[]:=List.isEmpty_iff.1 hemp
       subst hxs0
       simp only [Option.some.injEq,Prod.mk.injEq] at h
       obtain ⟨rfl,rfl⟩:=h
       have hs':=hs
       simp only [ah] at hs
       obtain ⟨base,len,rfl,hsl⟩:=hs
       have hlen:=hsl.1
       subst hlen
       have hnew:new=[]:=by apply List.eq_nil_of_length_eq_zero;simpa using n2
       subst hnew
       have hrun:=dB (type:=type) h0 h1 hu hu1 hsz (base:=base) (len:=l.length) (cap:=l.length) (n:=0) (xb:=xb) (xc:=xc) rfl n1 (by omega)
       refine ⟨.slice base l.length l.length,w,G,?_,hs',hi,G.le_refl,bf.refl G w⟩
       refine Eq.trans hrun ?_
       cases base<;>simp [storeCells]
     simp only [Option.ite_none_right_eq_some,Option.some.injEq,Prod.mk.injEq] at h
     obtain ⟨⟨hhl,hbytes⟩,rfl,rfl⟩:=h
     have hs':=hs
     simp only [ah] at hs
     obtain ⟨base,len,rfl,hsl⟩:=hs
     have hlen:=hsl.1
     subst hlen
     have hlen2:(l++xs).length=l.length+xs.length:=by simp
     have hup:jd G aa (aa++[(l++xs).length]) aa.length (l.length+xs.length):=by
       rw [hlen2];exact tm hi (l.length+xs.length)
     have htk:G.tk aa.length=none:=by
       cases hh:G.tk aa.length with
       | none=>rfl
       | some t0=>have:=hi.dy _ t0 hh;rw [List.getElem?_eq_none (Nat.le_refl _)] at this;simp at this
     by_cases hn0:xs.length=0
     · have hxs0:xs=[]:=by cases xs with | nil=>rfl | cons _ _=>simp at hn0
       subst hxs0
       have hnew:new=[]:=by apply List.eq_nil_of_length_eq_zero;simpa using n2
       subst hnew
       have hrun:=dB (type:=type) h0 h1 hu hu1 hsz (base:=base) (len:=l.length) (cap:=l.length) (n:=0) (xb:=xb) (xc:=xc) rfl n1 (by omega)
       let tk:Tk:={ base,len:=l.length,cap:=l.length,sz }
       obtain ⟨g1,g2,g3⟩:=hi.Cy (τ:=aa.length) (t:=tk) (toks':=aa++[(l++[]).length]) rfl rfl htk hup.at_ hup.other
       refine ⟨.slice base l.length l.length,w,_,?_,?_,g1,g2,g3⟩
       · refine Eq.trans hrun ?_
         cases base<;>simp [storeCells]
       · simp only [ah]
         refine ⟨tk,by simp [Gh.aW],⟨by simp [tk],tk.lX⟩,?_,fun _=>⟨rfl,?_⟩⟩
         · simp only [List.append_nil]
           exact bu.2 ⟨_,_,_,rfl,Nat.le_refl _,hsl⟩
         · simp only [List.append_nil]
           exact Cz hsl hhl
     · exact grows l base l.length aa.length (bu.2 ⟨_,_,_,rfl,Nat.le_refl _,hsl⟩) hhl (by omega) hbytes hup (fun t0 h=>by rw [htk] at h;cases h) rfl
   · -- a slice that has its room to spare to itself
     rename_i l τ
     simp only [Option.ite_none_right_eq_some,Option.some.injEq,Prod.mk.injEq] at h
     obtain ⟨⟨htok,hhl,hbytes⟩,rfl,rfl⟩:=h
     have hs':=hs
     simp only [ah] at hs
     obtain ⟨tk,e1,e2,e3,e4⟩:=hs
     have hlen:l.length=tk.len:=by
       have:=hi.dy τ tk e1
       rw [htok] at this;simpa using this
     obtain ⟨hv,hrow⟩:=e4 hlen
     obtain ⟨tk',f1,f2,f3⟩:=hi.cq τ _ htok
     rw [e1] at f1;cases f1
     have hlen2:(l++xs).length=l.length+xs.length:=by simp
     obtain ⟨base,tlen,cap,tsz,town⟩:=tk
     simp only [Tk.val] at hv hlen f2 f3
     subst hv
     subst hlen
     by_cases hn0:xs.length=0
     · have hxs0:xs=[]:=by cases xs with | nil=>rfl | cons _ _=>simp at hn0
       subst hxs0
       have hnew:new=[]:=by apply List.eq_nil_of_length_eq_zero;simpa using n2
       subst hnew
       have hrun:=dB (type:=type) h0 h1 hu hu1 hsz (base:=base) (len:=l.length) (cap:=cap) (n:=0) (xb:=xb) (xc:=xc) rfl n1 (by have:=f3.cap;simpa using this)
       have hset:aa.set τ (l++([]:List PV)).length=aa:=by
         apply List.ext_getElem?
         intro j
         rw [List.getElem?_set]
         split
         · rename_i e;subst e
           have:=(List.getElem?_eq_some_iff.1 htok)
           obtain ⟨hlt,_⟩:=this
           rw [if_pos hlt,htok];simp
         · rfl
       rw [hset]
       refine ⟨.slice base l.length cap,w,G,?_,?_,hi,G.le_refl,bf.refl G w⟩
       · refine Eq.trans hrun ?_
         cases base<;>simp [storeCells]
       · simpa using hs'
     · have hpos:0<xs.length:=by omega
       have hup:jd G aa (aa.set τ (l++xs).length) τ (l.length+xs.length):=by
         rw [hlen2]
         have hlt:=(List.getElem?_eq_some_iff.1 htok).1
         refine ⟨by rw [List.getElem?_set];simp [hlt],fun σ hσ=>by rw [List.getElem?_set,if_neg (Ne.symm hσ)],fun t0 h=>?_⟩
         rw [e1] at h;cases h;simp;omega
       rcases Nat.lt_or_ge cap (l.length+xs.length) with hfit | hfit
       · refine grows l base cap τ e3 hhl hfit hbytes hup (fun t0 h=>?_) rfl
         rw [e1] at h;cases h
         refine ⟨?_,hfit⟩
         rintro ⟨d1,d2⟩
         rcases hrow with rfl | ⟨b,o,e,_⟩
         · simp at d2
         · rw [d1] at e;cases e
       · have hl0:l≠[]:=by
           rintro rfl
           have:=f3.zero rfl
           simp at this hfit
           omega
         obtain ⟨b,o,hbase,hrow⟩:=hrow.resolve_left hl0
         simp only at hbase;subst hbase
         have:=hrow.sz hhl hl0
         subst this
         obtain ⟨b',o',c,ty,p1,p2,p3,p4,p5⟩:=f3.spare (.inl (by simp;omega))
         simp only [Option.some.injEq,Addr.mk.injEq] at p1
         obtain ⟨rfl,rfl,_⟩:=p1
         simp only at p4 p5
         have hmul:(l.length+xs.length)*sz≤cap*sz:=Nat.mul_le_mul_right _ hfit
         rw [Nat.add_mul] at hmul
         have nI:=run_storeCells_at (P:=P) b (o+l.length*sz) ty new 0 c w p3 (by rw [n2];omega) n4
         have hrun:=dB (type:=type) h0 h1 hu hu1 hsz (base:=some ⟨b,o,none⟩) (len:=l.length) (cap:=cap) (n:=xs.length) (xb:=xb) (xc:=xc) rfl n1 hfit
         simp only [Nat.add_zero] at nI
         obtain ⟨g1,g2,g3⟩:=hi.fill (t:=⟨some ⟨b,o,none⟩,l.length,cap,sz,town⟩) (n:=xs.length) e1 rfl p2 p3 p4 p5 n2 hpos hfit rfl hup
         refine ⟨.slice (some ⟨b,o,none⟩) (l.length+xs.length) cap,_,_,?_,?_,g1,g2,g3⟩
         · refine Eq.trans hrun ?_
           simp only [Addr.cO,nI,Result.andThen_ok]
         · have hat:At (fw G b (o+l.length*sz) new) b (o+l.length*sz) new:=by
             intro j v hj
             have hlt:=(List.getElem?_eq_some_iff.1 hj).1
             simp only [fw]
             rw [if_pos ⟨trivial,by omega,by omega⟩,Nat.add_sub_cancel_left]
             exact hj
           have hrow':Row (fw G b (o+l.length*sz) new) b o sz (l++xs):=Row.append (Row.mono g2.K _ _ _ _ hrow) (n3 _ _ _ g2.K hat)
           simp only [ah]
           exact ⟨⟨some ⟨b,o,none⟩,l.length+xs.length,cap,sz,true⟩,by simp [Gh.aW],⟨by simp,Tk.lX _⟩,bu.2 ⟨_,_,_,rfl,hfit,by simp,.inr ⟨_,_,_,rfl,hrow'⟩⟩,fun _=>⟨rfl,.inr ⟨_,_,rfl,hrow'⟩⟩⟩
   · simp at h
end
end Go.Ab
namespace Go.Ab
section
variable {P:Program} {ns:Names} {G:Gh} {w:World}
theorem xi {ρ:bh} {x:AV} {v:Value} (h:ah ρ G x v) (hl:aH x=true):v.oneCell'=true:=by
 cases x with
 | pv p=>
   simp only [ah] at h
   cases p with
   | agg _=>simp [aH] at hl
   | aE _=>obtain ⟨b,l,c,rfl,_⟩:=bu.1 h;rfl
   | bool _=>rw [fq] at h;subst h;rfl
   | int _ _=>rw [ed] at h;subst h;rfl
   | str _=>rw [iL] at h;subst h;rfl
 | cI _=>simp only [ah] at h;obtain ⟨_,_,rfl,_⟩:=h;rfl
 | own _ _=>simp only [ah] at h;obtain ⟨_,_,_,h,_⟩:=h;obtain ⟨b,l,c,rfl,_⟩:=bu.1 h;rfl
 | aJ _ _=>simp only [ah] at h;obtain ⟨_,_,rfl⟩:=h;rfl
 | aX _ _ _ _=>simp only [ah] at h;obtain ⟨_,_,_,rfl,_⟩:=h;rfl
 | fn _ _=>simp only [ah] at h;obtain ⟨_,_,_,rfl,_⟩:=h;rfl
 | gz=>simp only [ah] at h;rcases h with rfl | rfl<;>rfl
 | gA _=>simp only [ah] at h;obtain ⟨_,_,rfl⟩:=h;rfl
 | dT _=>simp only [ah] at h
 | _=>simp [aH] at hl
theorem gN {ρ:bh}:∀{xs:List AV} {vs:List Value},ae ρ G xs vs→xs.all aH=true→∀u∈vs,u.oneCell'=true
 | [],_,h,_,u,hu=>by simp only [ae] at h;subst h;simp at hu
 | x::xs,_,h,hl,u,hu=>by
   simp only [ae] at h
   obtain ⟨v,r,rfl,e1,e2⟩:=h
   simp only [List.all_cons,Bool.and_eq_true] at hl
   simp only [List.mem_cons] at hu
   rcases hu with rfl | hu
   · exact xi e1 hl.1
   · exact gN e2 hl.2 u hu
theorem e7 {xs:List AV} (h:xs.all cp=true):xs.all aH=true:=by
 rw [List.all_eq_true] at *
 intro x hx
 have:=h x hx
 cases x<;>simp_all [cp,aH,bm]
def FG (ns:Names) (P:Program) (G:Gh) (w:World) (mem:List (Nat×List AV)) (sh:Sh) (aa:aq) (s:Sem Next) (x:AV):Prop:=
 ∃n v w' G',s.run P w=.ok n w'∧(n=.value v∨(n=.skip∧v=undef))∧ah (num ns) G' x v∧Inv (num ns) G' w' mem sh aa∧G.le G'∧bf G w G' w'
theorem jH {t sz b off:Nat} {v:Value} {c:Array Value} {ty:TypeId} (hsz:bS P t=some sz) (hv:v.cells.size=sz) (hh:w.heap[b]?=some (.cells c ty (0,0)))
   (hl:off+sz≤c.size) (h1:∀u∈v.cells.toList,u.oneCell'=true) :
   (storeVar t ⟨b,off,none⟩ v).run P w=.ok () (w.setRow b (c.toList.take off++v.cells.toList++c.toList.drop (off+v.cells.toList.length)).toArray):=by
 have:=run_storeCells_at (P:=P) b off ty v.cells.toList 0 c w hh (by simp [hv];omega) h1
 simp only [Nat.add_zero] at this
 simp only [storeVar,Sem.run_bind,cf hsz,Result.andThen_ok]
 rw [if_neg (by simp [hv])]
 simpa using this
theorem gO {t:TypeId} {v:Value}:(newVar t v).run P w=.ok ⟨w.heap.size,0,none⟩ (w.alloc (.cells v.cells t)):=rfl
theorem e8 {ρ:bh}:∀{xs:List AV} {vs:List Value},vs.length=xs.length→(∀(j:Nat) (x:AV) (v:Value),xs[j]?=some x→vs[j]?=some v→ah ρ G x v)→ae ρ G xs vs
 | [],vs,hl,_=>by
   have:vs=[]:=by cases vs<;>simp_all
   subst this;simp [ae]
 | x::xs,[],hl,_=>by simp at hl
 | x::xs,v::vs,hl,h=>by
   simp only [ae]
   exact ⟨v,vs,rfl,h 0 x v rfl rfl,e8 (by simpa using hl) fun j y u hy hu=>h (j+1) y u (by simpa using hy) (by simpa using hu)⟩
theorem cA {α:Type} (l:List α):∀(n j:Nat),j<n*l.length→(List.replicate n l).flatten[j]?=l[j % l.length]?
 | 0,j,h=>by simp at h
 | n+1,j,h=>by
   rw [List.replicate_succ,List.flatten_cons]
   by_cases hj:j<l.length
   · rw [List.getElem?_append_left hj,Nat.mod_eq_of_lt hj]
   · rw [List.getElem?_append_right (by omega),cA l n (j-l.length) (by rw [Nat.add_mul] at h;omega)]
     congr 1
     exact (Nat.mod_eq_sub_mod (by omega)).symm
theorem om {n:Int} (h0:0≤n) (h1:n≤9223372036854775807):IntKind.i64.wrap n=n:=by
 unfold IntKind.wrap
 have e1:(2:Int) ^ IntKind.i64.bits=18446744073709551616:=by decide
 have e2:(2:Int) ^ (IntKind.i64.bits-1)=9223372036854775808:=by decide
 have e3:IntKind.i64.signed=true:=rfl
 simp only [e1,e2,e3]
 have:n % 18446744073709551616=n:=Int.emod_eq_of_lt h0 (by omega)
 simp only [this]
 rw [if_neg]
 simp;omega
theorem gP {ρ:bh}:∀{l:List Value} {z:List PV},bI b_ l=some z→ae ρ G (z.map .pv) l∧(z.map AV.pv).all cp=true
 | [],_,h=>by simp [bI] at h;subst h;simp [ae]
 | v::l,z,h=>by
   simp only [bI] at h
   split at h
   · rename_i y ys h1 h2
     simp at h;subst h
     obtain ⟨g1,g2⟩:=gP (ρ:=ρ) h2
     obtain ⟨g3,g4⟩:=gK (K:=G.K) h1
     have g5:cp (.pv y)=true:=by cases y<;>simp_all [cp,aH,er]
     simp only [List.map_cons,ae,List.all_cons,g5,g2,Bool.and_true,and_true]
     exact ⟨v,l,rfl,by simp only [ah];exact Rel.Fu g3,g1⟩
   · simp at h
theorem pj (n:Nat) (z:List PV):(z.map AV.pv).all (aw n)=true:=by
 rw [List.all_eq_true]
 intro x hx
 simp only [List.mem_map] at hx
 obtain ⟨p,_,rfl⟩:=hx
 simp [aw]
theorem xj (n:Nat) (z:List PV):(z.map a5.zeroCell).all (aw n)=true:=by
 rw [List.all_eq_true]
 intro x hx
 simp only [List.mem_map] at hx
 obtain ⟨p,_,rfl⟩:=hx
 unfold a5.zeroCell
 split<;>simp [aw]
end
mutual
theorem ld {n m:Nat} (h:n≤m):∀{x:AV},aw n x=true→aw m x=true
 | .un,_=>by simp [aw]
 | .pv _,_=>by simp [aw]
 | .cI _,_=>by simp [aw]
 | .own ..,_=>by simp [aw]
 | .gz,_=>by simp [aw]
 | .ek _,_=>by simp [aw]
 | .aJ b _,hx=>by simp [aw] at hx ⊢;omega
 | .aX b _ _ _,hx=>by simp [aw] at hx ⊢;omega
 | .fn _ cap,hx=>by simp only [aw] at hx ⊢;exact gQ h hx
 | .agg cs,hx=>by simp only [aw] at hx ⊢;exact gQ h hx
 | .aN ..,hx=>by simp [aw] at hx
 | .kP _,hx=>by simp [aw] at hx
 | .gA b,hx=>by simp [aw] at hx ⊢;omega
 | .dT _,_=>by simp [aw]
 | .lN ..,hx=>by simp [aw] at hx
theorem gQ {n m:Nat} (h:n≤m):∀{xs:List AV},aw.bG n xs=true→aw.bG m xs=true
 | [],_=>by simp [aw.bG]
 | x::xs,hx=>by
   simp only [aw.bG,Bool.and_eq_true] at hx ⊢
   exact ⟨ld h hx.1,gQ h hx.2⟩
end
theorem gR {n m:Nat} (h:n≤m) {xs:List AV} (hx:xs.all (aw n)=true):xs.all (aw m)=true:=by
 rw [List.all_eq_true] at *
 exact fun x hm=>ld h (hx x hm)
section
variable {P:Program} {ns:Names} {G:Gh} {w:World}
theorem gf {ρ:bh} {k:IntKind} {n:Int} {v:Value} (h:ah ρ G (.pv (.int k n)) v):v=.int k n:=by
 simp only [ah] at h;exact ed.1 h
theorem qK {t e sz by_:Nat} {ag:Bool} {z:List PV} {k k':IntKind} {n:Int} {mem:List (Nat×List AV)} {sh:Sh} {aa:aq} (hu:P.underlying t=some (.slice e)) (hsz:bS P e=some sz)
   (hby:df P e=some by_) (hz:bF P e=some z) (hzl:z.length=sz) (hs0:0<sz) (h0:0≤n) (h1:n≤9223372036854775807) (h2:n*by_≤140737488355328) (hi:Inv (num ns) G w mem sh aa) :
   ∃v w' G',(Instr.makeSlice t (.int k n) (.int k' n)).run P w=.ok v w'∧ah (num ns) G' (.aX sh.length sz n.toNat ag) v ∧
     Inv (num ns) G' w' mem (sh++[some ((List.replicate n.toNat (z.map .pv)).flatten)]) aa∧G.le G'∧bf G w G' w':=by
 obtain ⟨i,hii,hib,hirun⟩:=iw hby w
 obtain ⟨zv,hz1,hz2⟩:=d7 (P:=P) (w:=w) hz
 have hzs:zv.cells.size=sz:=by have:=d6 hz2;simp at this;omega
 obtain ⟨zr,zl⟩:=gP (G:=G) (ρ:=num ns) hz2
 let z0:Array Value:=if n.toNat*sz=0 then #[] else zv.cells
 let c:Array Value:=(Array.range (n.toNat*sz)).map (z0[· % z0.size]!)
 have hw:IntKind.i64.wrap n=n:=om h0 h1
 have hbytes:(i.bytes:Int)*n≤281474976710656:=by rw [hib,Int.mul_comm];omega
 have hlen:((List.replicate n.toNat (z.map AV.pv)).flatten).length=n.toNat*sz:=by simp [hzl]
 have hrel:ae (num ns) G ((List.replicate n.toNat (z.map .pv)).flatten) c.toList:=by
   refine e8 (by simp [c,hzl]) fun j x v hx hv=>?_
   have hlt:j<n.toNat*sz:=by have:=(List.getElem?_eq_some_iff.1 hx).1;omega
   rw [cA _ _ _ (by simpa [hzl] using hlt)] at hx
   have hn0:¬n.toNat*sz=0:=by omega
   have hz0:z0=zv.cells:=if_neg hn0
   obtain ⟨v',g1,g2⟩:=zr.get hx
   have:v=v':=by
     simp only [c,hz0,Array.toList_map,List.getElem?_map,Array.toList_range,Option.map_eq_some_iff] at hv
     obtain ⟨j',hj',hv⟩:=hv
     rw [List.getElem?_range hlt] at hj'
     cases hj'
     simp only [List.length_map,hzl] at g1
     rw [hzs] at hv
     have hm:j % sz<zv.cells.size:=by rw [hzs];exact Nat.mod_lt _ hs0
     rw [getElem!_pos zv.cells (j % sz) hm] at hv
     have g1':zv.cells[j % sz]?=some v':=by simpa using g1
     rw [Array.getElem?_eq_getElem hm] at g1'
     simp at g1'
     rw [←hv,g1']
   subst this
   exact g2
 have hall:((List.replicate n.toNat (z.map AV.pv)).flatten).all cp=true:=by
   rw [List.all_eq_true] at *
   intro x hx
   simp only [List.mem_flatten,List.mem_replicate] at hx
   obtain ⟨l,⟨_,rfl⟩,hx⟩:=hx
   exact zl x hx
 have href:((List.replicate n.toNat (z.map AV.pv)).flatten).all (aw (sh.length+1))=true:=by
   have:=pj (sh.length+1) z
   rw [List.all_eq_true] at *
   intro x hx
   simp only [List.mem_flatten,List.mem_replicate] at hx
   obtain ⟨l,⟨_,rfl⟩,hx⟩:=hx
   exact this x hx
 obtain ⟨g1,g2,g3⟩:=hi.mr (cells:=(List.replicate n.toNat (z.map .pv)).flatten) (c:=c) e hrel hall href
 refine ⟨.slice (some ⟨w.heap.size,0,none⟩) n.toNat n.toNat,_,_,?_,?_,g1,g2,g3⟩
 · have hp:(2:Int) ^ 48=281474976710656:=by decide
   have ht:(decide (n<0) || decide ((i.bytes:Int)*n > 2 ^ 48))=false:=by
     rw [hp];simp;omega
   have hir:∀w',(typeInfo e).run P w'=.ok i w':=fun w'=>by simp [typeInfo,hii]
   have hcond:¬((decide (n<0) || decide ((i.bytes:Int)*n > 2 ^ 48)) || decide (n<0) || decide (n > n))=true:=by
     rw [ht];simp;omega
   simp only [Instr.makeSlice,Sem.run_bind,run_underlying hu,Result.andThen_ok,asInt,asIntOf,Sem.run_pure,hir,hw]
   rw [if_neg hcond]
   simp only [Sem.run_bind,run_askRoom,Result.andThen_ok,cf hsz]
   by_cases h00:n.toNat*sz=0
   · rw [if_pos h00]
     simp only [Sem.run_bind,Sem.run_pure,Result.andThen_ok]
     have hz0:z0=#[]:=if_pos h00
     simp only [c,hz0]
     rfl
   · rw [if_neg h00]
     simp only [Sem.run_bind,Sem.run_pure,hz1,Result.andThen_ok]
     have hz0:z0=zv.cells:=if_neg h00
     simp only [c,hz0]
     rfl
 · simp only [ah]
   exact ⟨(w.heap.size,c.size),0,by simp [Gh.cn],rfl,by simp [c]⟩
theorem qL {t e sz by_ d:Nat} {z:List PV} {k k':IntKind} {n:Int} {mem:List (Nat×List AV)} {sh:Sh} {aa:aq} (hu:P.underlying t=some (.slice e)) (hsz:bS P e=some sz)
   (hby:df P e=some by_) (hz:bF P e=some z) (hzl:z.length=sz) (hs0:0<sz) (h0:0≤n) (h1:n≤9223372036854775807) (h2:n*by_≤140737488355328) (hi:Inv (num ns) G w mem sh aa) (hl:look mem d=none) :
   ∃v w' G',(Instr.makeSlice t (.int k n) (.int k' n)).run P w=.ok v w'∧ah (num ns) G' (.gB d n.toNat) v ∧
     Inv (num ns) G' w' (cC mem d ((List.replicate n.toNat (z.map .pv)).flatten)) sh aa∧G.le G'∧bf G w G' w':=by
 obtain ⟨i,hii,hib,hirun⟩:=iw hby w
 obtain ⟨zv,hz1,hz2⟩:=d7 (P:=P) (w:=w) hz
 have hzs:zv.cells.size=sz:=by have:=d6 hz2;simp at this;omega
 obtain ⟨zr,zl⟩:=gP (G:=G) (ρ:=num ns) hz2
 let z0:Array Value:=if n.toNat*sz=0 then #[] else zv.cells
 let c:Array Value:=(Array.range (n.toNat*sz)).map (z0[· % z0.size]!)
 have hw:IntKind.i64.wrap n=n:=om h0 h1
 have hbytes:(i.bytes:Int)*n≤281474976710656:=by rw [hib,Int.mul_comm];omega
 have hlen:((List.replicate n.toNat (z.map AV.pv)).flatten).length=n.toNat*sz:=by simp [hzl]
 have hrel:ae (num ns) G ((List.replicate n.toNat (z.map .pv)).flatten) c.toList:=by
   refine e8 (by simp [c,hzl]) fun j x v hx hv=>?_
   have hlt:j<n.toNat*sz:=by have:=(List.getElem?_eq_some_iff.1 hx).1;omega
   rw [cA _ _ _ (by simpa [hzl] using hlt)] at hx
   have hn0:¬n.toNat*sz=0:=by omega
   have hz0:z0=zv.cells:=if_neg hn0
   obtain ⟨v',g1,g2⟩:=zr.get hx
   have:v=v':=by
     simp only [c,hz0,Array.toList_map,List.getElem?_map,Array.toList_range,Option.map_eq_some_iff] at hv
     obtain ⟨j',hj',hv⟩:=hv
     rw [List.getElem?_range hlt] at hj'
     cases hj'
     simp only [List.length_map,hzl] at g1
     rw [hzs] at hv
     have hm:j % sz<zv.cells.size:=by rw [hzs];exact Nat.mod_lt _ hs0
     rw [getElem!_pos zv.cells (j % sz) hm] at hv
     have g1':zv.cells[j % sz]?=some v':=by simpa using g1
     rw [Array.getElem?_eq_getElem hm] at g1'
     simp at g1'
     rw [←hv,g1']
   subst this
   exact g2
 have hall:((List.replicate n.toNat (z.map AV.pv)).flatten).all cp=true:=by
   rw [List.all_eq_true] at *
   intro x hx
   simp only [List.mem_flatten,List.mem_replicate] at hx
   obtain ⟨l,⟨_,rfl⟩,hx⟩:=hx
   exact zl x hx
 obtain ⟨g1,g2,g3⟩:=hi.ku (d:=d) (cells:=(List.replicate n.toNat (z.map .pv)).flatten) (c:=c) e hl hrel (e7 hall)
 refine ⟨.slice (some ⟨w.heap.size,0,none⟩) n.toNat n.toNat,_,_,?_,?_,g1,g2,g3⟩
 · have hp:(2:Int) ^ 48=281474976710656:=by decide
   have ht:(decide (n<0) || decide ((i.bytes:Int)*n > 2 ^ 48))=false:=by
     rw [hp];simp;omega
   have hir:∀w',(typeInfo e).run P w'=.ok i w':=fun w'=>by simp [typeInfo,hii]
   have hcond:¬((decide (n<0) || decide ((i.bytes:Int)*n > 2 ^ 48)) || decide (n<0) || decide (n > n))=true:=by
     rw [ht];simp;omega
   simp only [Instr.makeSlice,Sem.run_bind,run_underlying hu,Result.andThen_ok,asInt,asIntOf,Sem.run_pure,hir,hw]
   rw [if_neg hcond]
   simp only [Sem.run_bind,run_askRoom,Result.andThen_ok,cf hsz]
   by_cases h00:n.toNat*sz=0
   · rw [if_pos h00]
     simp only [Sem.run_bind,Sem.run_pure,Result.andThen_ok]
     have hz0:z0=#[]:=if_pos h00
     simp only [c,hz0]
     rfl
   · rw [if_neg h00]
     simp only [Sem.run_bind,Sem.run_pure,hz1,Result.andThen_ok]
     have hz0:z0=zv.cells:=if_neg h00
     simp only [c,hz0]
     rfl
 · simp only [ah]
   exact ⟨w.heap.size,by simp [Gh.bX],rfl⟩
end
end Go.Ab
namespace Go.Ab
section
variable {P:Program} {ns:Names} {G:Gh} {w:World}
theorem gG {K:aU}:∀{cs:List PV} {vs:List Value},cx K cs vs→∀p∈cs,er p=true
 | [],_,_,p,hp=>by simp at hp
 | c::cs,_,h,p,hp=>by
   simp only [cx] at h
   obtain ⟨v,r,rfl,e2,e3⟩:=h
   simp only [List.mem_cons] at hp
   rcases hp with rfl | hp
   · cases p with
     | agg _=>simp [R] at e2
     | _=>rfl
   · exact gG e3 p hp
theorem Row.mu {K:aU}:∀{els:List PV} {b o sz:Nat},Row K b o sz els →
   ∃vss:List Value,vss.length=els.length*sz∧At K b o vss∧cx K (els.flatMap aL) vss∧∀u∈vss,u.oneCell'=true
 | [],b,o,sz,_=>⟨[],by simp,by intro j v h;simp at h,by simp [cx],by simp⟩
 | el::r,b,o,sz,hr=>by
   simp only [Row] at hr
   obtain ⟨⟨vs,h1,h2,h3⟩,h4⟩:=hr
   obtain ⟨vss,g1,g2,g3,g4⟩:=Row.mu h4
   refine ⟨vs++vss,by simp [h1,g1,Nat.add_mul];omega,?_,by rw [List.flatMap_cons];exact cx.append h3.cells g3,?_⟩
   · intro j v hj
     rw [List.getElem?_append] at hj
     split at hj
     · exact h2 j v hj
     · have:=g2 _ v hj
       rw [h1] at this
       rwa [show o+sz+(j-sz)=o+j from by omega] at this
   · intro u hu
     simp only [List.mem_append] at hu
     rcases hu with hu | hu
     · exact cx.one h3.cells u hu
     · exact g4 u hu
theorem kx {els:List PV} {base:Option Addr} {cap:Nat} {sz:Nat} (hr:Rel G.K (.aE els) (.slice base els.length cap)) (hs:a6 sz els=true) :
   ∃vss:List Value,vss.length=els.length*sz∧cx G.K (els.flatMap aL) vss∧(∀u∈vss,u.oneCell'=true) ∧
     ∀w:World,(∀b o u,G.K b o=some u→w.cell? ⟨b,o,none⟩=some u)→(Builtin.firstCells sz els.length (.slice base els.length cap)).run P w=.ok vss.toArray w:=by
 obtain ⟨base',len,cap',e,_,hlen,hrow'⟩:=bu.1 hr
 cases e
 by_cases hnil:els=[]
 · subst hnil
   refine ⟨[],by simp,by simp [cx],by simp,fun w _=>?_⟩
   cases base with
   | none=>simp [Builtin.firstCells]
   | some a=>simp [Builtin.firstCells,loadCells,loadCellsFrom]
 · obtain ⟨b,o,sz',rfl,hrow⟩:=hrow'.resolve_left hnil
   have:=hrow.sz hs hnil
   subst this
   obtain ⟨vss,g1,g2,g3,g4⟩:=hrow.mu
   refine ⟨vss,g1,g3,g4,fun w hk=>?_⟩
   have hl:=run_loadCells_list (P:=P) w ⟨b,o,none⟩ vss (fun j u hj=>by rw [Addr.cO];exact hk _ _ _ (g2 j u hj))
   rw [g1] at hl
   simpa [Builtin.firstCells] using hl
theorem mw {b n cap sz:Nat} {c:Array Value} {t:TypeId} {vs suf:List Value} (hh:w.heap[b]?=some (.cells c t (0,0))) (hsp:c.toList=vs++suf) (hn:n*sz≤vs.length) :
   (Builtin.firstCells sz n (.slice (some ⟨b,0,none⟩) n cap)).run P w=.ok (vs.take (n*sz)).toArray w:=by
 have hl:=run_loadCells_list (P:=P) w ⟨b,0,none⟩ (vs.take (n*sz)) (fun j u hj=>by
   rw [Addr.cO,Nat.zero_add]
   rw [List.getElem?_take] at hj
   split at hj
   · have:c.toList[j]?=some u:=by rw [hsp,List.getElem?_append_left (List.getElem?_eq_some_iff.1 hj).1];exact hj
     simp only [World.cell?,hh]
     simpa using this
   · simp at hj)
 rw [List.length_take,Nat.min_eq_left hn] at hl
 simpa [Builtin.firstCells] using hl
theorem Inv.FH {ρ:bh} {mem:List (Nat×List AV)} {sh:Sh} {aa:aq} (hi:Inv ρ G w mem sh aa) (s:Nat):Inv ρ G w mem (sh.set s none) aa:=
 { hi with
   cr:=fun s' cs hs'=>by
     rw [List.getElem?_set] at hs'
     split at hs'
     · split at hs'<;>simp at hs'
     · exact hi.cr s' cs hs'
   cV:=fun s' b h=>by simpa using hi.cV s' b h }
def Gh.eK (G:Gh) (s':Nat) (b:Nat×Nat):Gh:={ G with role:=fun k=>if k=b.1 then .shr s' else G.role k,sm:=fun k=>if k=s' then some b else G.sm k }
theorem Inv.eK {ρ:bh} {mem:List (Nat×List AV)} {sh:Sh} {aa:aq} (hi:Inv ρ G w mem sh aa) {s:Nat} {b:Nat×Nat} {cells:List AV} (hs:sh[s]?=some (some cells)) (hb:G.sm s=some b) :
   Inv ρ (G.eK sh.length b) w mem (sh.set s none++[some cells]) aa∧G.le (G.eK sh.length b)∧bf G w (G.eK sh.length b) w:=by
 obtain ⟨b0,e1,e2,e3,e4⟩:=hi.cr s cells hs
 rw [hb] at e1;cases e1
 have hr:G.role b.1=.shr s:=e2.role
 have hsm:G.sm sh.length=none:=by
   cases h:G.sm sh.length with
   | none=>rfl
   | some b=>have:=hi.cV _ b h;omega
 have hle:G.le (G.eK sh.length b):=⟨G.K.le_refl,fun _ _ h=>h,fun k b h=>by
   simp only [Gh.eK]
   split
   · rename_i e;subst e;rw [hsm] at h;simp at h
   · exact h,fun _ t h=>⟨t,h,⟨Nat.le_refl _,t.d9⟩,fun _=>rfl⟩⟩
 have hrole:∀k r,G.role k=r→r≠.shr s→(G.eK sh.length b).role k=r:=by
   intro k r hk hn
   simp only [Gh.eK]
   rw [if_neg]
   · exact hk
   · rintro rfl;exact hn (hk.symm.trans hr)
 have hslt:s<sh.length:=(List.getElem?_eq_some_iff.1 hs).1
 have hevo:bf G w (G.eK sh.length b) w:={
           size:=Nat.le_refl _,os:=rfl,tape:=rfl,output:=rfl,K:=G.K.le_refl,sm:=hle.sm,
           cS:=fun k _ hk=>⟨hrole k _ hk (by simp),rfl⟩
           eS:=fun k τ _ hk=>.inr ⟨τ,hrole k _ hk (by simp)⟩
           d_:=fun _ _ _ _ _ h=>h }
 refine ⟨⟨hi.known,?_,?_,?_,hi.ep,?_,?_,?_,hi.dy,hi.eA hevo⟩,hle,hevo⟩
 · intro k o v hk
   rcases hi.aI k o v hk with h | ⟨τ,h⟩
   · exact .inl (hrole k _ h (by simp))
   · exact .inr ⟨τ,hrole k _ h (by simp)⟩
 · intro k hk;exact hrole k _ (hi.fresh k hk) (by simp)
 · intro d cs hd
   obtain ⟨b',e1,e2,e3⟩:=hi.bT d cs hd
   exact ⟨b',e1,e2.mono hle ((hrole b' _ e2.role (by simp)).trans e2.role.symm) rfl,e3⟩
 · intro s' cs hs'
   rw [List.getElem?_append] at hs'
   split at hs'
   · rw [List.getElem?_set] at hs'
     split at hs'
     · simp at hs'
     · rename_i hne
       obtain ⟨b',f1,f2,f3⟩:=hi.cr s' cs hs'
       exact ⟨b',hle.sm _ _ f1,f2.mono hle ((hrole b'.1 _ f2.role (by simp;exact fun h=>hne h.symm)).trans f2.role.symm) rfl,f3⟩
   · rename_i hge
     have hs'':s'=sh.length:=by
       rcases Nat.eq_or_lt_of_le (Nat.le_of_not_lt hge) with h | h
       · simpa using h.symm
       · rw [List.getElem?_eq_none (by simp at h ⊢;omega)] at hs';simp at hs'
     subst hs''
     simp at hs';subst hs'
     obtain ⟨_,o,hh,hold⟩:=e2
     exact ⟨b,by simp [Gh.eK],⟨by simp [Gh.eK],o,hh,hold.mono hle⟩,e3,gR (by omega) e4⟩
 · intro s' b' h
   simp only [Gh.eK] at h
   split at h
   · rename_i e;subst e;simp
   · have:=hi.cV s' b' h;simp;omega
 · intro τ n hn
   obtain ⟨tk,e1,e2,e3⟩:=hi.cq τ n hn
   refine ⟨tk,e1,e2,e3.cap,e3.zero,fun hlt=>?_⟩
   obtain ⟨b',o,cc,ty,f1,f2,f3,f4,f5⟩:=e3.spare hlt
   exact ⟨b',o,cc,ty,f1,hrole b' _ f2 (by simp),f3,f4,f5⟩
theorem qM {cs:List PV} (h:∀p∈cs,er p=true):(cs.map AV.pv).all cp=true:=by
 rw [List.all_eq_true]
 intro x hx
 obtain ⟨p,hp,rfl⟩:=List.mem_map.1 hx
 have:=h p hp
 cases p<;>simp_all [cp,aH,er]
theorem nJ {argTypes:Array TypeId} {type t e e1 t1 sz by_:Nat} {ag:Bool} {z:List PV} {s x y:AV} {xs:List PV} {vs vx:Value} {mem:List (Nat×List AV)} {sh sh':Sh} {aa:aq}
   (h0:argTypes[0]?=some t) (h1:argTypes[1]?=some t1)
   (hu:P.underlying t=some (.slice e)) (hu1:P.underlying t1=some (.slice e1)) (hsz:bS P e=some sz) (hby:df P e=some by_) (hz:bF P e=some z) (hzl:z.length=sz) (hb0:0<by_)
   (hs:ah (num ns) G s vs) (hx:ah (num ns) G x vx) (hi:Inv (num ns) G w mem sh aa) (hxs:cy x=some xs) (hhx:a6 sz xs=true) (h:lO sz by_ ag s xs sh aa=some (y,sh')) :
   ∃v w' G',(Builtin.append_ argTypes type #[vs,vx]).run P w=.ok v w'∧ah (num ns) G' y v∧Inv (num ns) G' w' mem sh' aa∧G.le G'∧bf G w G' w':=by
 obtain ⟨xb,xc,rfl⟩:=ga hxs hx
 have hrx:=cP hxs hx
 have knownD:∀w',w'=w.drew→∀b o u,G.K b o=some u→w'.cell? ⟨b,o,none⟩=some u:=fun w' e b o u hk=>by subst e;exact hi.known b o u hk
 obtain ⟨new,n1,n2,n3,n4⟩:=kx (P:=P) hrx hhx
 have hleaf:((xs.flatMap aL).map AV.pv).all cp=true:=qM (gG n2)
 have hrefs:∀k,((xs.flatMap aL).map AV.pv).all (aw k)=true:=by
   intro k
   rw [List.all_eq_true]
   intro x hx
   obtain ⟨p,_,rfl⟩:=List.mem_map.1 hx
   rfl
 have onto:∀base,vs=.slice base 0 0→me sz by_ ag s xs sh=some (y,sh') →
     ∃v w' G',(Builtin.append_ argTypes type #[vs,.slice xb xs.length xc]).run P w=.ok v w'∧ah (num ns) G' y v∧Inv (num ns) G' w' mem sh' aa∧G.le G'∧bf G w G' w':=by
   rintro base rfl ha
   unfold me at ha
   split at ha
   · rename_i hemp
     have hxs0:xs=[]:=List.isEmpty_iff.1 hemp
     subst hxs0
     simp only [Option.some.injEq,Prod.mk.injEq] at ha
     obtain ⟨rfl,rfl⟩:=ha
     have hnew:new=[]:=by apply List.eq_nil_of_length_eq_zero;simpa using n1
     subst hnew
     have hrun:=dB (type:=type) h0 h1 hu hu1 hsz (base:=base) (len:=0) (cap:=0) (n:=0) (xb:=xb) (xc:=xc) rfl (n4 w hi.known) (by omega)
     refine ⟨.slice base 0 0,w,G,?_,hs,hi,G.le_refl,bf.refl G w⟩
     refine Eq.trans hrun ?_
     cases base<;>simp [storeCells]
   · rename_i hemp
     simp only [Option.ite_none_right_eq_some,Option.some.injEq,Prod.mk.injEq] at ha
     obtain ⟨hbytes,rfl,rfl⟩:=ha
     have hpos:0<xs.length:=by
       cases xs with
       | nil=>simp at hemp
       | cons _ _=>simp
     obtain ⟨rest,newCap,p1,p2,p3⟩:=gM (type:=type) (aC:=#[]) (new:=new.toArray) h0 h1 hu hu1 hsz hby hz hzl (base:=base) (len:=0) (cap:=0) (n:=xs.length) (xb:=xb) (xc:=xc) rfl
       (fun w' e=>by cases base<;>simp [Builtin.firstCells,loadCells,loadCellsFrom]) (fun w' e=>n4 w' (knownD w' e)) (by omega) hb0 (by simpa using hbytes)
     have hrel:ae (num ns) G ((xs.flatMap aL).map .pv) new:=eJ n2
     obtain ⟨g1,g2,g3⟩:=hi.drew.tj (o':=.cells (#[]++new.toArray++rest) e) (N:=(#[]++new.toArray++rest).size) (cells:=(xs.flatMap aL).map .pv)
       (.inl ⟨_,e,new,rest.toList,rfl,rfl,by simp,hrel⟩) hleaf (hrefs _)
     refine ⟨_,_,_,p3,?_,g1,g2,(bf.drew G w).trans g3⟩
     simp only [ah]
     refine ⟨(w.drew.heap.size,(#[]++new.toArray++rest).size),newCap-xs.length,by simp [Gh.cn],?_,?_⟩
     · have:xs.length+(newCap-xs.length)=newCap:=by omega
       show Value.slice (some ⟨w.heap.size,0,none⟩) (0+xs.length) newCap=Value.slice (some ⟨w.heap.size,0,none⟩) xs.length (xs.length+(newCap-xs.length))
       simp [this]
     · have:xs.length+(newCap-xs.length)=newCap:=by omega
       rw [this]
       simp [n1,p2]
       have:newCap=xs.length+(newCap-xs.length):=by omega
       conv=>lhs;rw [this,Nat.add_mul]
       omega
 unfold lO at h
 split at h
 · have hs':=hs
   simp only [ah] at hs
   obtain ⟨base,len,rfl,hsl⟩:=hs
   have hlen:len=0:=by have:=hsl.1;simpa using this.symm
   subst hlen
   exact onto base rfl h
 · rename_i τ
   simp only [Option.ite_none_right_eq_some] at h
   obtain ⟨htok,h⟩:=h
   simp only [ah] at hs
   obtain ⟨tk,e1,e2,e3,e4⟩:=hs
   have hlen:([]:List PV).length=tk.len:=by
     have:=hi.dy τ tk e1
     rw [htok] at this;simpa using this
   obtain ⟨hv,_⟩:=e4 hlen
   obtain ⟨tk',f1,f2,f3⟩:=hi.cq τ _ htok
   rw [e1] at f1;cases f1
   have hcap:=f3.zero (by simpa using hlen.symm)
   refine onto tk.base ?_ h
   rw [hv]
   simp only [Tk.val]
   rw [hcap,←hlen];rfl
 · rename_i b z' n g
   split at h
   · rename_i cells hcs
     simp only [Option.ite_none_right_eq_some] at h
     obtain ⟨⟨rfl,rfl,hmb,hnc,hbytes⟩,h⟩:=h
     have hs':=hs
     simp only [ah] at hs
     obtain ⟨blk,cap,hsm,rfl,hroom⟩:=hs
     obtain ⟨blk',hp',hblk,hlf,hrf⟩:=hi.cr _ _ hcs
     rw [hsm] at hp';cases hp'
     obtain ⟨_,c,ty,us,suf,hh,hcz,hsp,hrel⟩:=hblk.cells hmb
     have hul:us.length=cells.length:=hrel.length
     split at h
     · rename_i hemp
       have hxs0:xs=[]:=List.isEmpty_iff.1 hemp
       subst hxs0
       simp only [Option.some.injEq,Prod.mk.injEq] at h
       obtain ⟨rfl,rfl⟩:=h
       have hnew:new=[]:=by apply List.eq_nil_of_length_eq_zero;simpa using n1
       subst hnew
       have hrun:=dB (type:=type) h0 h1 hu hu1 hsz (base:=some ⟨blk.1,0,none⟩) (len:=n) (cap:=n+cap) (n:=0) (xb:=xb) (xc:=xc) rfl (n4 w hi.known) (by omega)
       refine ⟨.slice (some ⟨blk.1,0,none⟩) n (n+cap),w,G,?_,hs',hi,G.le_refl,bf.refl G w⟩
       refine Eq.trans hrun ?_
       simp [storeCells]
     · rename_i hemp
       simp only [Option.some.injEq,Prod.mk.injEq] at h
       obtain ⟨rfl,rfl⟩:=h
       have hpos:0<xs.length:=by
         cases xs with
         | nil=>simp at hemp
         | cons _ _=>simp
       have hrel1:ae (num ns) G (cells.take (n*z')) (us.take (n*z')):=hrel.take _
       have hlf1:(cells.take (n*z')).all cp=true:=by
         rw [List.all_eq_true] at hlf ⊢
         exact fun x hx=>hlf x (List.mem_of_mem_take hx)
       have hrf1:(cells.take (n*z')).all (aw (b+1))=true:=by
         rw [List.all_eq_true] at hrf ⊢
         exact fun x hx=>hrf x (List.mem_of_mem_take hx)
       have hblt:b<sh.length:=(List.getElem?_eq_some_iff.1 hcs).1
       have hlfN:(cells.take (n*z')++(xs.flatMap aL).map AV.pv).all cp=true:=by
         rw [List.all_append,hlf1,hleaf];rfl
       have hrfN:(cells.take (n*z')++(xs.flatMap aL).map AV.pv).all (aw (sh.length+1))=true:=by
         rw [List.all_append,gR (by omega) hrf1,hrefs];rfl
       have htl:(us.take (n*z')).length=n*z':=by rw [List.length_take];omega
       rcases Nat.lt_or_ge (n+cap) (n+xs.length) with hfit | hfit
       · -- a new block
         obtain ⟨rest,newCap,p1,p2,p3⟩:=gM (type:=type) (aC:=(us.take (n*z')).toArray) (new:=new.toArray) h0 h1 hu hu1 hsz hby hz hzl (base:=some ⟨blk.1,0,none⟩) (len:=n) (cap:=n+cap) (n:=xs.length) (xb:=xb) (xc:=xc) rfl
           (fun w' e=>by subst e;exact mw (w:=w.drew) hh hsp (by omega)) (fun w' e=>n4 w' (knownD w' e)) hfit hb0 hbytes
         have hrel:ae (num ns) G (cells.take (n*z')++(xs.flatMap aL).map .pv) (us.take (n*z')++new):=hrel1.append (eJ n2)
         have hi1:=hi.drew.FH b
         have hlen:(sh.set b none).length=sh.length:=by simp
         obtain ⟨g1,g2,g3⟩:=hi1.tj (o':=.cells ((us.take (n*z')).toArray++new.toArray++rest) e) (N:=((us.take (n*z')).toArray++new.toArray++rest).size) (cells:=cells.take (n*z')++(xs.flatMap aL).map .pv)
           (.inl ⟨_,e,us.take (n*z')++new,rest.toList,rfl,rfl,by simp,hrel⟩) hlfN (by rw [hlen];exact hrfN)
         rw [hlen] at g1 g2 g3
         refine ⟨_,_,_,p3,?_,g1,g2,(bf.drew G w).trans g3⟩
         simp only [ah]
         refine ⟨(w.drew.heap.size,((us.take (n*z')).toArray++new.toArray++rest).size),newCap-(n+xs.length),by simp [Gh.cn],?_,?_⟩
         · have:n+xs.length+(newCap-(n+xs.length))=newCap:=by omega
           show Value.slice (some ⟨w.heap.size,0,none⟩) (n+xs.length) newCap=Value.slice (some ⟨w.heap.size,0,none⟩) (n+xs.length) (n+xs.length+(newCap-(n+xs.length)))
           simp [this]
         · have:n+xs.length+(newCap-(n+xs.length))=newCap:=by omega
           rw [this]
           simp only [Array.size_append,List.size_toArray,htl,n1,p2]
           have:newCap=n+xs.length+(newCap-(n+xs.length)):=by omega
           conv=>lhs;rw [this,Nat.add_mul,Nat.add_mul]
           omega
       · -- in its place
         have hmul:(n+xs.length)*z'≤(n+cap)*z':=Nat.mul_le_mul_right _ hfit
         rw [Nat.add_mul] at hmul
         have hcsz:n*z'+xs.length*z'≤c.size:=by omega
         obtain ⟨m1,m2,m3⟩:=hi.eK hcs hsm
         have nI:=run_storeCells_at (P:=P) blk.1 (n*z') ty new 0 c w hh (by rw [n1];omega) n3
         have hrun:=dB (type:=type) h0 h1 hu hu1 hsz (base:=some ⟨blk.1,0,none⟩) (len:=n) (cap:=n+cap) (n:=xs.length) (xb:=xb) (xc:=xc) rfl (n4 w hi.known) hfit
         simp only [Nat.add_zero] at nI
         have hget:(sh.set b none++[some cells])[sh.length]?=some (some cells):=by
           rw [List.getElem?_append_right (by simp)];simp
         have hct:c.toList.take (n*z')=us.take (n*z'):=by
           rw [hsp,List.take_append_of_le_length (by omega)]
         obtain ⟨g1,g2⟩:=m1.jG (cells':=cells.take (n*z')++(xs.flatMap aL).map .pv) (c':=(c.toList.take (n*z')++new++c.toList.drop (n*z'+new.length)).toArray) (vs:=us.take (n*z')++new) (suf:=c.toList.drop (n*z'+new.length))
           hget (by simp [Gh.eK]) hh (by
             have:c.toList.length=c.size:=by simp
             simp only [List.size_toArray,List.length_append,List.length_take,List.length_drop,n1,this]
             omega)
           (by simp [hct]) (ae.mono m2 (hrel1.append (eJ n2))) hlfN hrfN
         have hset:(sh.set b none++[some cells]).set sh.length (some (cells.take (n*z')++(xs.flatMap aL).map .pv))=sh.set b none++[some (cells.take (n*z')++(xs.flatMap aL).map .pv)]:=by
           rw [List.set_append_right _ _ (by simp)];simp
         rw [hset] at g1
         refine ⟨.slice (some ⟨blk.1,0,none⟩) (n+xs.length) (n+cap),_,_,?_,?_,g1,m2,m3.trans g2⟩
         · refine Eq.trans hrun ?_
           simp only [Addr.cO,Nat.zero_add,nI,Result.andThen_ok]
         · simp only [ah]
           refine ⟨blk,cap-xs.length,by simp [Gh.eK],?_,?_⟩
           · have:n+xs.length+(cap-xs.length)=n+cap:=by omega
             rw [this]
           · have:n+xs.length+(cap-xs.length)=n+cap:=by omega
             rw [this];exact hroom
   · simp at h
 · simp at h
theorem tn {c:Call} {A:gJ} {dst:Option Nat} {args:List Operand} {sz:Nat} {z:List PV} (h:a9 P ns A dst (.call c)=some (.gm sz z,args)) :
   ∃x t e,c.callee=.builtin .clear∧c.args=#[x]∧args=[x]∧c.argTypes[0]?=some t∧P.underlying t=some (.slice e)∧bS P e=some sz∧bF P e=some z∧z.length=sz∧0<sz:=by
 obtain ⟨callee,cargs,ctypes⟩:=c
 simp only [a9] at h
 split at h
 · split at h<;>simp at h
 · split at h<;>simp at h
 · split at h<;>simp at h
 · split at h
   · split at h
     · rw [Option.ite_none_right_eq_some] at h
       obtain ⟨_,h⟩:=h
       split at h
       · simp at h
       · split at h<;>simp at h
     · simp at h
   · simp at h
 · rename_i hcal
   split at h
   · rename_i x e ha ht
     split at h
     · rename_i sz' z' hs hz
       simp only [Option.ite_none_right_eq_some,Option.some.injEq,Prod.mk.injEq,AK.gm.injEq] at h
       obtain ⟨⟨h1,h2⟩,⟨rfl,rfl⟩,rfl⟩:=h
       simp only [Option.bind_eq_some_iff] at ht
       obtain ⟨t,ht,htu⟩:=ht
       exact ⟨x,t,e,rfl,by apply Array.ext';simpa using ha,rfl,ht,cz htu,hs,hz,h1,h2⟩
     · simp at h
   · simp at h
 · split at h
   · split at h<;>simp at h
   · simp at h
 · split at h
   · split at h
     · (repeat' (split at h))<;>simp at h
     · split at h
       · simp at h
       · split at h
         · simp at h
         · split at h<;>simp at h
   · simp at h
 · split at h<;>simp at h
 · simp at h
theorem xk {l:Array Value} {z:List PV} {n:Nat} (hz:bI b_ l.toList=some z) (hs0:0<z.length) :
   ae (num ns) G ((List.replicate n (z.map AV.pv)).flatten) (Builtin.zeroCells l n).toList∧((List.replicate n (z.map AV.pv)).flatten).all cp=true∧∀k,((List.replicate n (z.map AV.pv)).flatten).all (aw k)=true:=by
 obtain ⟨zr,zl⟩:=gP (G:=G) (ρ:=num ns) hz
 have hzs:l.size=z.length:=by have:=d6 hz;simp at this;omega
 refine ⟨?_,?_,?_⟩
 · refine e8 (by simp [Builtin.zeroCells,hzs]) fun j x v hx hv=>?_
   have hlt:j<n*z.length:=by have:=(List.getElem?_eq_some_iff.1 hx).1;simpa using this
   rw [cA _ _ _ (by simpa using hlt)] at hx
   obtain ⟨v',g1,g2⟩:=zr.get hx
   have:v=v':=by
     simp only [Builtin.zeroCells,Array.toList_map,List.getElem?_map,Array.toList_range,Option.map_eq_some_iff] at hv
     obtain ⟨j',hj',hv⟩:=hv
     rw [List.getElem?_range (by rw [hzs];exact hlt)] at hj'
     cases hj'
     simp only [List.length_map] at g1
     rw [hzs] at hv
     have hm:j % z.length<l.size:=by rw [hzs];exact Nat.mod_lt _ hs0
     rw [getElem!_pos l (j % z.length) hm] at hv
     have g1':l[j % z.length]?=some v':=by simpa using g1
     rw [Array.getElem?_eq_getElem hm] at g1'
     simp at g1'
     rw [←hv,g1']
   subst this
   exact g2
 · rw [List.all_eq_true] at *
   intro x hx
   simp only [List.mem_flatten,List.mem_replicate] at hx
   obtain ⟨l,⟨_,rfl⟩,hx⟩:=hx
   exact zl x hx
 · intro k
   have:=pj k z
   rw [List.all_eq_true] at *
   intro x hx
   simp only [List.mem_flatten,List.mem_replicate] at hx
   obtain ⟨l,⟨_,rfl⟩,hx⟩:=hx
   exact this x hx
theorem pk {argTypes:Array TypeId} {type t e sz:Nat} {z:List PV} {x:AV} {v:Value} {mem:List (Nat×List AV)} {sh sh':Sh} {aa:aq}
   (h0:argTypes[0]?=some t) (hu:P.underlying t=some (.slice e)) (hz:bF P e=some z) (hzl:z.length=sz) (hs0:0<sz)
   (hx:ah (num ns) G x v) (hi:Inv (num ns) G w mem sh aa) (h:l9 sz z sh (qp sz x)=some sh') :
   ∃w',(Builtin.clear_ argTypes type #[v]).run P w=.ok (.tuple #[]) w'∧Inv (num ns) G w' mem sh' aa∧bf G w G w':=by
 cases hsub:qp sz x with
 | none=>rw [hsub] at h;simp [l9] at h
 | some q=>
   obtain ⟨b,off,n⟩:=q
   rw [hsub] at h
   have hv:∃blk base cap,G.sm b=some blk∧v=.slice base n cap∧(n=0∨base=some ⟨blk.1,off,none⟩):=by
     unfold qp at hsub
     split at hsub
     · simp only [Option.ite_none_right_eq_some,Option.some.injEq,Prod.mk.injEq] at hsub
       obtain ⟨rfl,rfl,rfl,rfl⟩:=hsub
       simp only [ah] at hx
       obtain ⟨blk,cap,e1,e2,_⟩:=hx
       exact ⟨blk,_,_,e1,e2,.inr rfl⟩
     · simp only [Option.some.injEq,Prod.mk.injEq] at hsub
       obtain ⟨rfl,rfl,rfl⟩:=hsub
       simpa only [ah] using hx
     · simp at hsub
   obtain ⟨blk,base,cap,hsm,rfl,hbase⟩:=hv
   simp only [l9] at h
   split at h
   · rename_i cells hcs
     simp only [Option.ite_none_right_eq_some,Option.some.injEq] at h
     obtain ⟨⟨hmb,hle,_⟩,rfl⟩:=h
     by_cases hn:n=0
     · subst hn
       have e1:aO cells off ((List.replicate 0 (z.map AV.pv)).flatten)=cells:=by simp [aO]
       have e2:sh.set b (some cells)=sh:=by
         apply List.ext_getElem?
         intro j
         rw [List.getElem?_set]
         split
         · rename_i e;subst e
           split
           · exact hcs.symm
           · rename_i hj;rw [List.getElem?_eq_none (by omega)] at hcs;simp at hcs
         · rfl
       rw [e1,e2]
       refine ⟨w,?_,hi,bf.refl G w⟩
       cases base<;>simp [Builtin.clear_,h0,run_underlying hu]
     · have hb:=hbase.resolve_left hn
       subst hb
       obtain ⟨blk',hp',hblk,hlf,hrf⟩:=hi.cr _ _ hcs
       rw [hsm] at hp';cases hp'
       obtain ⟨_,c,ty,us,suf,hh,hcz,hsp,hrel⟩:=hblk.cells hmb
       have hul:us.length=cells.length:=hrel.length
       obtain ⟨zv,hz1,hz2⟩:=d7 (P:=P) (w:=w) hz
       have hz0:0<z.length:=by omega
       obtain ⟨zr,zl,zf⟩:=xk (ns:=ns) (G:=G) (n:=n) hz2 hz0
       have hone:∀u∈(Builtin.zeroCells zv.cells n).toList,u.oneCell'=true:=gN zr (e7 zl)
       have hzn:(Builtin.zeroCells zv.cells n).toList.length=n*sz:=by rw [zr.length];simp [hzl]
       have hcl:c.toList.length=us.length+suf.length:=by rw [hsp];simp
       have hcl':c.size=us.length+suf.length:=by simpa using hcl
       have nI:=run_storeCells_at (P:=P) blk.1 off ty (Builtin.zeroCells zv.cells n).toList 0 c w hh (by rw [hzn];omega) hone
       simp only [Nat.add_zero] at nI
       have hctt:c.toList.take off=us.take off:=by rw [hsp,List.take_append_of_le_length (by omega)]
       have hcd:c.toList.drop (off+(Builtin.zeroCells zv.cells n).toList.length)=us.drop (off+(Builtin.zeroCells zv.cells n).toList.length)++suf:=by
         rw [hsp,List.drop_append_of_le_length (by rw [hzn];omega)]
       have hleaf:(aO cells off ((List.replicate n (z.map AV.pv)).flatten)).all cp=true:=by
         rw [List.all_eq_true] at *
         intro y hy
         simp only [aO,List.mem_append] at hy
         rcases hy with (hy | hy) | hy
         · exact hlf y (List.mem_of_mem_take hy)
         · exact zl y hy
         · exact hlf y (List.mem_of_mem_drop hy)
       have hrefs:(aO cells off ((List.replicate n (z.map AV.pv)).flatten)).all (aw (b+1))=true:=by
         have zf':=zf (b+1)
         rw [List.all_eq_true] at *
         intro y hy
         simp only [aO,List.mem_append] at hy
         rcases hy with (hy | hy) | hy
         · exact hrf y (List.mem_of_mem_take hy)
         · exact zf' y hy
         · exact hrf y (List.mem_of_mem_drop hy)
       have hrel':ae (num ns) G (aO cells off ((List.replicate n (z.map AV.pv)).flatten)) (us.take off++(Builtin.zeroCells zv.cells n).toList++us.drop (off+(Builtin.zeroCells zv.cells n).toList.length)):=dz off hrel zr
       obtain ⟨g1,g2⟩:=hi.jG (cells':=aO cells off ((List.replicate n (z.map AV.pv)).flatten)) (c':=(c.toList.take off++(Builtin.zeroCells zv.cells n).toList++c.toList.drop (off+(Builtin.zeroCells zv.cells n).toList.length)).toArray)
         (vs:=us.take off++(Builtin.zeroCells zv.cells n).toList++us.drop (off+(Builtin.zeroCells zv.cells n).toList.length)) (suf:=suf) hcs hsm hh (by
           simp only [List.size_toArray,List.length_append,List.length_take,List.length_drop,hzn,hcl]
           rw [←hcz,hcl']
           omega)
         (by simp only [hctt,hcd,List.append_assoc]) hrel' hleaf hrefs
       refine ⟨_,?_,g1,g2⟩
       cases n with
       | zero=>exact absurd rfl hn
       | succ n=>
         simp only [Builtin.clear_,h0]
         simp [run_underlying hu,hz1,nI]
   · simp at h
end
end Go.Ab
namespace Go.Ab
section
variable {P:Program} {ns:Names} {G:Gh} {w:World} {A:gJ}
theorem lQ {els:List PV} {base:Option Addr} {len cap sz k:Nat} (hr:Rel G.K (.aE els) (.slice base len cap)) (hs:a6 sz els=true) (hk:k≤els.length) :
   ∃vss:List Value,vss.length=k*sz∧cx G.K ((els.take k).flatMap aL) vss∧(∀u∈vss,u.oneCell'=true) ∧
     ∀w:World,(∀b o u,G.K b o=some u→w.cell? ⟨b,o,none⟩=some u)→(Builtin.firstCells sz k (.slice base len cap)).run P w=.ok vss.toArray w:=by
 obtain ⟨base',len',cap',e,_,hlen,hrow'⟩:=bu.1 hr
 cases e
 by_cases hnil:els=[]
 · subst hnil
   have:k=0:=by simpa using hk
   subst this
   refine ⟨[],by simp,by simp [cx],by simp,fun w _=>?_⟩
   cases base with
   | none=>simp [Builtin.firstCells]
   | some a=>simp [Builtin.firstCells,loadCells,loadCellsFrom]
 · obtain ⟨b,o,sz',rfl,hrow⟩:=hrow'.resolve_left hnil
   have:=hrow.sz hs hnil
   subst this
   obtain ⟨vss,g1,g2,g3,g4⟩:=(hrow.take k).mu
   rw [List.length_take,Nat.min_eq_left hk] at g1
   refine ⟨vss,g1,g3,g4,fun w hk=>?_⟩
   have hl:=run_loadCells_list (P:=P) w ⟨b,o,none⟩ vss (fun j u hj=>by rw [Addr.cO];exact hk _ _ _ (g2 j u hj))
   rw [g1] at hl
   simpa [Builtin.firstCells] using hl
theorem qN {argTypes:Array TypeId} {type t e sz k:Nat} {xs:List PV} {x y:AV} {v u:Value} {mem:List (Nat×List AV)} {sh sh':Sh} {aa:aq}
   (h0:argTypes[0]?=some t) (hu:P.underlying t=some (.slice e)) (hsz:bS P e=some sz)
   (hx:ah (num ns) G x v) (hy:ah (num ns) G y u) (hi:Inv (num ns) G w mem sh aa) (hxs:cy y=some xs) (h:og sz sh xs x=some (k,sh')) :
   ∃w',(Builtin.copy_ argTypes type #[v,u]).run P w=.ok (.int .i64 k) w'∧Inv (num ns) G w' mem sh' aa∧bf G w G w':=by
 obtain ⟨xb,xc,rfl⟩:=ga hxs hy
 have hrx:=cP hxs hy
 unfold og at h
 split at h
 · rename_i b z n _
   split at h
   · rename_i cells hcs
     simp only [Option.ite_none_right_eq_some,Option.some.injEq,Prod.mk.injEq] at h
     obtain ⟨⟨rfl,hhx,hmb,hle⟩,rfl,rfl⟩:=h
     simp only [ah] at hx
     obtain ⟨blk,cap,hsm,rfl,_⟩:=hx
     have hkx:min xs.length n≤xs.length:=Nat.min_le_left _ _
     have hkn:min xs.length n≤n:=Nat.min_le_right _ _
     obtain ⟨new,n1,n2,n3,n4⟩:=lQ (P:=P) hrx hhx hkx
     have htk:xs.take (min xs.length n)=xs.take n:=by
       rcases Nat.le_total xs.length n with h | h
       · rw [Nat.min_eq_left h,List.take_of_length_le h,List.take_of_length_le (Nat.le_refl _)]
       · rw [Nat.min_eq_right h]
     rw [htk] at n2
     generalize hk:min xs.length n=k at *
     have hleafN:(((xs.take n).flatMap aL).map AV.pv).all cp=true:=qM (gG n2)
     have hrefsN:∀k,(((xs.take n).flatMap aL).map AV.pv).all (aw k)=true:=by
       intro k
       rw [List.all_eq_true]
       intro x hx
       obtain ⟨p,_,rfl⟩:=List.mem_map.1 hx
       rfl
     have hrelN:ae (num ns) G (((xs.take n).flatMap aL).map .pv) new:=eJ n2
     obtain ⟨blk',hp',hblk,hlf,hrf⟩:=hi.cr _ _ hcs
     rw [hsm] at hp';cases hp'
     obtain ⟨_,c,ty,us,suf,hh,hcz,hsp,hrel⟩:=hblk.cells hmb
     have hul:us.length=cells.length:=hrel.length
     have hkz:k*z≤n*z:=Nat.mul_le_mul_right z hkn
     have hcl:c.toList.length=us.length+suf.length:=by rw [hsp];simp
     have hcl':c.size=us.length+suf.length:=by simpa using hcl
     have nI:=run_storeCells_at (P:=P) blk.1 0 ty new 0 c w hh (by rw [n1];omega) n3
     simp only [Nat.add_zero] at nI
     have hctt:c.toList.take 0=us.take 0:=by simp
     have hcd:c.toList.drop (0+new.length)=us.drop (0+new.length)++suf:=by
       rw [hsp,List.drop_append_of_le_length (by rw [n1];omega)]
     have hleaf:(aO cells 0 (((xs.take n).flatMap aL).map AV.pv)).all cp=true:=by
       rw [List.all_eq_true] at *
       intro y hy
       simp only [aO,List.mem_append] at hy
       rcases hy with (hy | hy) | hy
       · exact hlf y (List.mem_of_mem_take hy)
       · exact hleafN y hy
       · exact hlf y (List.mem_of_mem_drop hy)
     have hrefs:(aO cells 0 (((xs.take n).flatMap aL).map AV.pv)).all (aw (b+1))=true:=by
       have zf':=hrefsN (b+1)
       rw [List.all_eq_true] at *
       intro y hy
       simp only [aO,List.mem_append] at hy
       rcases hy with (hy | hy) | hy
       · exact hrf y (List.mem_of_mem_take hy)
       · exact zf' y hy
       · exact hrf y (List.mem_of_mem_drop hy)
     have hrel':=dz 0 hrel hrelN
     obtain ⟨g1,g2⟩:=hi.jG (cells':=aO cells 0 (((xs.take n).flatMap aL).map AV.pv)) (c':=(c.toList.take 0++new++c.toList.drop (0+new.length)).toArray)
       (vs:=us.take 0++new++us.drop (0+new.length)) (suf:=suf) hcs hsm hh (by
         simp only [List.size_toArray,List.length_append,List.length_take,List.length_drop,n1,hcl]
         rw [←hcz,hcl']
         omega)
       (by simp only [hctt,hcd,List.append_assoc]) hrel' hleaf hrefs
     refine ⟨_,?_,g1,g2⟩
     have hmin:Nat.min xs.length n=k:=hk
     have hl:=n4 w hi.known
     simp [Builtin.copy_,h0,run_underlying hu,Builtin.lenOf,hmin,cf hsz,hl,nI,goInt]
   · simp at h
 · simp at h
theorem xl {c:Call} {dst:Option Nat} {args:List Operand} {sz:Nat} (h:a9 P ns A dst (.call c)=some (.ij sz,args)) :
   ∃x y t e t1 e1,c.callee=.builtin .copy∧c.args=#[x,y]∧args=[x,y]∧c.argTypes[0]?=some t∧c.argTypes[1]?=some t1∧P.underlying t=some (.slice e)∧P.underlying t1=some (.slice e1)∧bS P e=some sz:=by
 obtain ⟨callee,cargs,ctypes⟩:=c
 simp only [a9] at h
 repeat' (split at h)
 all_goals try (simp at h;done)
 rename_i x y e e1 ha ht ht1 _ sz' hs
 simp only [Option.some.injEq,Prod.mk.injEq,AK.ij.injEq] at h
 obtain ⟨rfl,rfl⟩:=h
 simp only [Option.bind_eq_some_iff] at ht ht1
 obtain ⟨t,ht,htu⟩:=ht
 obtain ⟨t1,ht1,htu1⟩:=ht1
 exact ⟨x,y,t,e,t1,e1,rfl,by apply Array.ext';simpa using ha,rfl,ht,ht1,cz htu,cz htu1,hs⟩
end
end Go.Ab
namespace Go.Ab
section
variable {P:Program} {ns:Names} {A:gJ} {dst:Option Nat} {op:Op} {args:List Operand}
theorem qO {k o sz:Nat} {ag:Bool} (h:a9 P ns A dst op=some (.bU k o sz ag,args)) :
   ∃t tx,op=.load t (.tmp tx)∧args=[.tmp tx]∧bS P t=some sz∧eW P t=some ag:=by
 cases op<;>simp only [a9] at h
 all_goals (repeat' (split at h))
 all_goals (try (simp at h;done))
 all_goals
   simp only [Option.some.injEq,Prod.mk.injEq,AK.bU.injEq] at h
   obtain ⟨⟨rfl,rfl,rfl,rfl⟩,rfl⟩:=h
   exact ⟨_,_,rfl,rfl,by assumption,by assumption⟩
theorem qP {sz:Nat} {ag:Bool} (h:a9 P ns A dst op=some (.dJ sz ag,args)) :
   ∃t tx,op=.load t (.tmp tx)∧args=[.tmp tx]∧bS P t=some sz∧eW P t=some ag:=by
 cases op<;>simp only [a9] at h
 all_goals (repeat' (split at h))
 all_goals (try (simp at h;done))
 all_goals
   simp only [Option.some.injEq,Prod.mk.injEq,AK.dJ.injEq] at h
   obtain ⟨⟨rfl,rfl⟩,rfl⟩:=h
   exact ⟨_,_,rfl,rfl,by assumption,by assumption⟩
theorem pn {k o sz:Nat} (h:a9 P ns A dst op=some (.bA k o sz,args)) :
   ∃t tx v,op=.store t (.tmp tx) v∧args=[.tmp tx,v]∧bS P t=some sz:=by
 cases op<;>simp only [a9] at h
 all_goals (repeat' (split at h))
 all_goals (try (simp at h;done))
 all_goals
   simp only [Option.some.injEq,Prod.mk.injEq,AK.bA.injEq] at h
   obtain ⟨⟨rfl,rfl,rfl⟩,rfl⟩:=h
   exact ⟨_,_,_,rfl,rfl,by assumption⟩
theorem po {sz:Nat} (h:a9 P ns A dst op=some (.ev sz,args)) :
   ∃t tx v,op=.store t (.tmp tx) v∧args=[.tmp tx,v]∧bS P t=some sz:=by
 cases op<;>simp only [a9] at h
 all_goals (repeat' (split at h))
 all_goals (try (simp at h;done))
 all_goals
   simp only [Option.some.injEq,Prod.mk.injEq,AK.ev.injEq] at h
   obtain ⟨rfl,rfl⟩:=h
   exact ⟨_,_,_,rfl,rfl,by assumption⟩
theorem qQ {k:Nat} {z:List PV} (h:a9 P ns A dst op=some (.alloc k z,args)) :
   ∃t,op=.alloc t∧args=[]∧bF P t=some z∧dst=some k:=by
 cases op<;>simp only [a9] at h
 all_goals (repeat' (split at h))
 all_goals (try (simp at h;done))
 all_goals
   simp only [Option.some.injEq,Prod.mk.injEq,AK.alloc.injEq] at h
   obtain ⟨⟨rfl,rfl⟩,rfl⟩:=h
   exact ⟨_,rfl,rfl,by assumption,rfl⟩
theorem pq {z:List PV} (h:a9 P ns A dst op=some (.gl z,args)) :
   ∃t,op=.alloc t∧args=[]∧bF P t=some z:=by
 cases op<;>simp only [a9] at h
 all_goals (repeat' (split at h))
 all_goals (try (simp at h;done))
 all_goals
   simp only [Option.some.injEq,Prod.mk.injEq,AK.gl.injEq] at h
   obtain ⟨rfl,rfl⟩:=h
   exact ⟨_,rfl,rfl,by assumption⟩
theorem xm {k sz:Nat} (h:a9 P ns A dst op=some (.box k sz,args)) :
   ∃t x,op=.box t x∧args=[x]∧bS P t=some sz∧dst=some k:=by
 cases op<;>simp only [a9] at h
 all_goals (repeat' (split at h))
 all_goals (try (simp at h;done))
 all_goals
   simp only [Option.some.injEq,Prod.mk.injEq,AK.box.injEq] at h
   obtain ⟨⟨rfl,rfl⟩,rfl⟩:=h
   exact ⟨_,_,rfl,rfl,by assumption,rfl⟩
theorem tq {sz:Nat} (h:a9 P ns A dst op=some (.kj sz,args)) :
   ∃t x,op=.box t x∧args=[x]∧bS P t=some sz:=by
 cases op<;>simp only [a9] at h
 all_goals (repeat' (split at h))
 all_goals (try (simp at h;done))
 all_goals
   simp only [Option.some.injEq,Prod.mk.injEq,AK.kj.injEq] at h
   obtain ⟨rfl,rfl⟩:=h
   exact ⟨_,_,rfl,rfl,by assumption⟩
theorem my {k:AK} (h:a9 P ns A dst op=some (k,args)) (hk:(∃sz by_ ag z,k=.hU sz by_ ag z)∨∃d sz by_ z,k=.fj d sz by_ z) :
   ∃t e l c sz by_ ag z,op=.makeSlice t l c∧args=[l,c]∧P.underlying t=some (.slice e)∧bS P e=some sz∧df P e=some by_∧bF P e=some z∧z.length=sz∧0<sz ∧
     (k=.hU sz by_ ag z∨∃d,dst=some d∧k=.fj d sz by_ z):=by
 have hno:∀{o:Co},k≠.v o:=by rintro o rfl;rcases hk with ⟨_,_,_,_,e⟩ | ⟨_,_,_,_,e⟩<;>cases e
 cases op with
 | makeSlice t l c=>
   simp only [a9] at h
   split at h
   · rename_i e he
     split at h
     · rename_i sz by_ ag z h1 h2 h3 h4
       rw [Option.ite_none_right_eq_some] at h
       obtain ⟨⟨h5,h6⟩,h⟩:=h
       split at h
       · rename_i k' d hd
         rw [Option.ite_none_right_eq_some] at h
         obtain ⟨_,h⟩:=h
         simp only [Option.some.injEq,Prod.mk.injEq] at h
         exact ⟨t,e,l,c,sz,by_,ag,z,rfl,h.2.symm,cz he,h1,h2,h4,h5,h6,.inr ⟨d,rfl,h.1.symm⟩⟩
       · simp at h
       · simp only [Option.some.injEq,Prod.mk.injEq] at h
         exact ⟨t,e,l,c,sz,by_,ag,z,rfl,h.2.symm,cz he,h1,h2,h4,h5,h6,.inl h.1.symm⟩
     · simp at h
   · simp at h
 | _=>
   exfalso
   simp only [a9] at h
   (repeat' (split at h))
   all_goals (try (simp at h;done))
   all_goals (try simp only [Option.some.injEq,Prod.mk.injEq,Option.map_eq_some_iff,Option.ite_none_right_eq_some] at h)
   all_goals (rcases hk with ⟨_,_,_,_,rfl⟩ | ⟨_,_,_,_,rfl⟩<;>simp at h)
theorem qR {sz by_:Nat} {ag:Bool} {z:List PV} (h:a9 P ns A dst op=some (.hU sz by_ ag z,args)) :
   ∃t e l c,op=.makeSlice t l c∧args=[l,c]∧P.underlying t=some (.slice e)∧bS P e=some sz∧df P e=some by_∧bF P e=some z∧z.length=sz∧0<sz:=by
 obtain ⟨t,e,l,c,sz',by',ag',z',h1,h2,h3,h4,h5,h6,h7,h8,h9⟩:=my h (.inl ⟨_,_,_,_,rfl⟩)
 rcases h9 with h9 | ⟨d,_,h9⟩<;>cases h9
 exact ⟨t,e,l,c,h1,h2,h3,h4,h5,h6,h7,h8⟩
theorem qS {d sz by_:Nat} {z:List PV} (h:a9 P ns A dst op=some (.fj d sz by_ z,args)) :
   ∃t e l c,op=.makeSlice t l c∧args=[l,c]∧P.underlying t=some (.slice e)∧bS P e=some sz∧df P e=some by_∧bF P e=some z∧z.length=sz∧0<sz∧dst=some d:=by
 obtain ⟨t,e,l,c,sz',by',ag',z',h1,h2,h3,h4,h5,h6,h7,h8,h9⟩:=my h (.inr ⟨_,_,_,_,rfl⟩)
 rcases h9 with h9 | ⟨d',h0,h9⟩<;>cases h9
 exact ⟨t,e,l,c,h1,h2,h3,h4,h5,h6,h7,h8,h0⟩
theorem pw {sz by_:Nat} (h:a9 P ns A dst op=some (.append sz by_,args)):∃c,op=.call c:=by
 cases op<;>simp only [a9] at h
 all_goals (repeat' (split at h))
 all_goals (try (simp at h;done))
 all_goals exact ⟨_,rfl⟩
theorem nK {sz by_:Nat} {ag:Bool} (h:a9 P ns A dst op=some (.cR sz by_ ag,args)):∃c,op=.call c:=by
 cases op<;>simp only [a9] at h
 all_goals (repeat' (split at h))
 all_goals (try (simp at h;done))
 all_goals exact ⟨_,rfl⟩
theorem qT {sz:Nat} (h:a9 P ns A dst op=some (.ij sz,args)):∃c,op=.call c:=by
 cases op<;>simp only [a9] at h
 all_goals (repeat' (split at h))
 all_goals (try (simp at h;done))
 all_goals exact ⟨_,rfl⟩
theorem py {sz:Nat} {z:List PV} (h:a9 P ns A dst op=some (.gm sz z,args)):∃c,op=.call c:=by
 cases op<;>simp only [a9] at h
 all_goals (repeat' (split at h))
 all_goals (try (simp at h;done))
 all_goals exact ⟨_,rfl⟩
theorem tt {k:AK} (hk:(match k with | .aR _ | .ew _ | .bV .. | .ik _ | .fl | .da | .clone .. | .ig ..=>true | _=>false)=true) (h:a9 P ns A dst op=some (k,args)):∃c,op=.call c:=by
 cases op<;>simp only [a9] at h
 all_goals (repeat' (split at h))
 all_goals (try (simp at h;done))
 all_goals (first | exact ⟨_,rfl⟩ | skip)
 all_goals (simp at h;first | (obtain ⟨rfl,_⟩:=h;simp at hk;done) | (obtain ⟨_,_,rfl,_⟩:=h;simp at hk;done))
end
section
variable {orc:dr} {vals:List AV} {cells:Option (List AV)} {sh:Sh} {aa:aq} {out:Out}
theorem eB {key off sz:Nat} {ag:Bool} (h:exec orc (.bU key off sz ag) vals cells sh aa=some out) :
   ∃cs x,vals=[.aN key off]∧cells=some cs∧br ag sz cs off=some x∧out=⟨x,none,sh,aa⟩:=by
 rcases vals with _ | ⟨v,_ | ⟨u,r⟩⟩
 · simp [exec] at h
 · cases v with
   | aN d o=>
     simp only [exec,Option.ite_none_right_eq_some] at h
     obtain ⟨⟨rfl,rfl⟩,h⟩:=h
     cases cells with
     | none=>simp at h
     | some cs=>
       simp only [Option.map_eq_some_iff] at h
       obtain ⟨x,h1,rfl⟩:=h
       exact ⟨cs,x,rfl,rfl,h1,rfl⟩
   | _=>simp [exec] at h
 · cases v<;>simp [exec] at h
theorem eL {key off sz:Nat} (h:exec orc (.bA key off sz) vals cells sh aa=some out) :
   ∃cs v,vals=[.aN key off,v]∧cells=some cs∧(aM v).length=sz∧(aM v).all aH=true∧off+sz≤cs.length∧out=⟨.un,some (aO cs off (aM v)),sh,aa⟩:=by
 rcases vals with _ | ⟨v,_ | ⟨u,_ | ⟨_,_⟩⟩⟩
 · simp [exec] at h
 · cases v<;>simp [exec] at h
 · cases v with
   | aN d o=>
     simp only [exec,Option.ite_none_right_eq_some] at h
     obtain ⟨⟨rfl,rfl,h1,h2⟩,h⟩:=h
     cases cells with
     | none=>simp at h
     | some cs=>
       simp only [Option.ite_none_right_eq_some,Option.some.injEq] at h
       obtain ⟨h3,rfl⟩:=h
       exact ⟨cs,u,rfl,rfl,h1,h2,h3,rfl⟩
   | _=>simp [exec] at h
 · cases v<;>simp [exec] at h
theorem fy {key:Nat} {z:List PV} (h:exec orc (.alloc key z) vals cells sh aa=some out) :
   vals=[]∧cells=none∧out=⟨.aN key 0,some (z.map a5.zeroCell),sh,aa⟩:=by
 cases vals with
 | nil=>cases cells with
   | none=>simp [exec] at h;exact ⟨rfl,rfl,h.symm⟩
   | some _=>simp [exec] at h
 | cons _ _=>simp [exec] at h
theorem iy {key sz:Nat} (h:exec orc (.box key sz) vals cells sh aa=some out) :
   ∃v,vals=[v]∧cells=none∧(aM v).length=sz∧(aM v).all aH=true∧out=⟨.aN key 0,some (aM v),sh,aa⟩:=by
 rcases vals with _ | ⟨v,_ | ⟨u,r⟩⟩
 · simp [exec] at h
 · cases cells with
   | none=>
     simp only [exec,Option.ite_none_right_eq_some,Option.some.injEq] at h
     obtain ⟨⟨h1,h2⟩,rfl⟩:=h
     exact ⟨v,rfl,rfl,h1,h2,rfl⟩
   | some _=>simp [exec] at h
 · simp [exec] at h
theorem gS {sz:Nat} {ag:Bool} (h:exec orc (.dJ sz ag) vals cells sh aa=some out) :
   ∃p x,vals=[p]∧out=⟨x,none,sh,aa⟩∧((∃cs,p=.ek cs∧bN ag sz cs=some x)∨∃b off cs,p=.aJ b off∧sh[b]?=some (some cs)∧db cs=false∧br ag sz cs off=some x):=by
 rcases vals with _ | ⟨v,_ | ⟨u,r⟩⟩
 · simp [exec] at h
 · simp only [exec] at h
   split at h
   · rename_i cs
     simp only [Option.map_eq_some_iff] at h
     obtain ⟨x,h1,rfl⟩:=h
     exact ⟨_,x,rfl,rfl,.inl ⟨cs,rfl,h1⟩⟩
   · rename_i b off
     split at h
     · rename_i cs hcs
       split at h
       · cases h
       · rename_i hm
         simp only [Option.map_eq_some_iff] at h
         obtain ⟨x,h1,rfl⟩:=h
         exact ⟨_,x,rfl,rfl,.inr ⟨b,off,cs,rfl,hcs,by simpa using hm,h1⟩⟩
     · simp at h
   · simp at h
 · simp [exec] at h
theorem eM {sz:Nat} (h:exec orc (.ev sz) vals cells sh aa=some out) :
   ∃b off v cs,vals=[.aJ b off,v]∧sh[b]?=some (some cs)∧db cs=false∧(bE v).length=sz∧off+sz≤cs.length∧(bE v).all cp=true∧(bE v).all (aw (b+1))=true ∧
     out=⟨.un,none,sh.set b (some (aO cs off (bE v))),aa⟩:=by
 rcases vals with _ | ⟨v,_ | ⟨u,_ | ⟨_,_⟩⟩⟩
 · simp [exec] at h
 · cases v<;>simp [exec] at h
 · cases v with
   | aJ b off=>
     simp only [exec] at h
     split at h
     · rename_i cs hcs
       simp only [Option.ite_none_right_eq_some,Option.some.injEq] at h
       obtain ⟨⟨h0,h1,h2,h3,h4⟩,rfl⟩:=h
       exact ⟨b,off,u,cs,rfl,hcs,h0,h1,h2,h3,h4,rfl⟩
     · simp at h
   | _=>simp [exec] at h
 · cases v<;>simp [exec] at h
theorem iN {sz:Nat} (h:exec orc (.kj sz) vals cells sh aa=some out) :
   ∃v,vals=[v]∧(bE v).length=sz∧(bE v).all cp=true∧(bE v).all (aw sh.length)=true∧out=⟨.aJ sh.length 0,none,sh++[some (bE v)],aa⟩:=by
 rcases vals with _ | ⟨v,_ | ⟨u,r⟩⟩
 · simp [exec] at h
 · simp only [exec,Option.ite_none_right_eq_some,Option.some.injEq] at h
   obtain ⟨⟨h1,h2,h3⟩,rfl⟩:=h
   exact ⟨v,rfl,h1,h2,h3,rfl⟩
 · simp [exec] at h
theorem gg {z:List PV} (h:exec orc (.gl z) vals cells sh aa=some out):vals=[]∧out=⟨.aJ sh.length 0,none,sh++[some (z.map a5.zeroCell)],aa⟩:=by
 cases vals with
 | nil=>simp [exec] at h;exact ⟨rfl,h.symm⟩
 | cons _ _=>simp [exec] at h
theorem gT {sz by_:Nat} {ag:Bool} {z:List PV} (h:exec orc (.hU sz by_ ag z) vals cells sh aa=some out) :
   ∃k k' n,vals=[.pv (.int k n),.pv (.int k' n)]∧0≤n∧n≤9223372036854775807∧n*by_≤140737488355328∧z.length=sz ∧
     out=⟨.aX sh.length sz n.toNat ag,none,sh++[some ((List.replicate n.toNat (z.map .pv)).flatten)],aa⟩:=by
 rcases vals with _ | ⟨v,_ | ⟨u,_ | ⟨_,_⟩⟩⟩
 · simp [exec] at h
 · simp [exec] at h
 · cases v with
   | pv p=>cases p with
     | int k n=>cases u with
       | pv q=>cases q with
         | int k' n'=>
           simp only [exec,Option.ite_none_right_eq_some,Option.some.injEq] at h
           obtain ⟨⟨rfl,h1,h2,h3,h4⟩,rfl⟩:=h
           exact ⟨k,k',n,rfl,h1,h2,h3,h4,rfl⟩
         | _=>simp [exec] at h
       | _=>simp [exec] at h
     | _=>simp [exec] at h
   | _=>simp [exec] at h
 · simp [exec] at h
theorem fC {d sz by_:Nat} {z:List PV} (h:exec orc (.fj d sz by_ z) vals cells sh aa=some out) :
   ∃k k' n,vals=[.pv (.int k n),.pv (.int k' n)]∧0≤n∧n≤9223372036854775807∧n*by_≤140737488355328∧z.length=sz∧cells=none ∧
     out=⟨.gB d n.toNat,some ((List.replicate n.toNat (z.map .pv)).flatten),sh,aa⟩:=by
 rcases vals with _ | ⟨v,_ | ⟨u,_ | ⟨_,_⟩⟩⟩
 · simp [exec] at h
 · simp [exec] at h
 · cases v with
   | pv p=>cases p with
     | int k n=>cases u with
       | pv q=>cases q with
         | int k' n'=>
           cases cells with
           | some _=>simp [exec] at h
           | none=>
           simp only [exec,Option.ite_none_right_eq_some,Option.some.injEq] at h
           obtain ⟨⟨rfl,h1,h2,h3,h4⟩,rfl⟩:=h
           exact ⟨k,k',n,rfl,h1,h2,h3,h4,rfl,rfl⟩
         | _=>simp [exec] at h
       | _=>simp [exec] at h
     | _=>simp [exec] at h
   | _=>simp [exec] at h
 · simp [exec] at h
theorem je {sz by_:Nat} (h:exec orc (.clone sz by_) vals cells sh aa=some out) :
   ∃x y ts,vals=[x]∧bn sz by_ (.cI []) x aa=some (y,ts)∧out=⟨y,none,sh,ts⟩:=by
 rcases vals with _ | ⟨v,_ | ⟨_,_⟩⟩
 · simp [exec] at h
 · simp only [exec,Option.map_eq_some_iff] at h
   obtain ⟨⟨y,ts⟩,h1,rfl⟩:=h
   exact ⟨v,y,ts,rfl,h1,rfl⟩
 · simp [exec] at h
theorem gh {sz by_:Nat} (h:exec orc (.append sz by_) vals cells sh aa=some out) :
   ∃s x y ts,vals=[s,x]∧bn sz by_ s x aa=some (y,ts)∧out=⟨y,none,sh,ts⟩:=by
 rcases vals with _ | ⟨v,_ | ⟨u,_ | ⟨_,_⟩⟩⟩
 · simp [exec] at h
 · simp [exec] at h
 · simp only [exec,Option.map_eq_some_iff] at h
   obtain ⟨⟨y,ts⟩,h1,rfl⟩:=h
   exact ⟨v,u,y,ts,rfl,h1,rfl⟩
 · simp [exec] at h
theorem gU {sz:Nat} (h:exec orc (.ij sz) vals cells sh aa=some out) :
   ∃x y xs k sh',vals=[x,y]∧cy y=some xs∧og sz sh xs x=some (k,sh')∧out=⟨.pv (.int .i64 (k:Int)),none,sh',aa⟩:=by
 rcases vals with _ | ⟨v,_ | ⟨u,_ | ⟨_,_⟩⟩⟩
 · simp [exec] at h
 · simp [exec] at h
 · simp only [exec] at h
   cases hx:cy u with
   | none=>rw [hx] at h;simp at h
   | some xs=>
     rw [hx] at h
     simp only [Option.map_eq_some_iff] at h
     obtain ⟨⟨k,sh'⟩,h1,rfl⟩:=h
     exact ⟨v,u,xs,k,sh',rfl,hx,h1,rfl⟩
 · simp [exec] at h
theorem lg {sz:Nat} {z:List PV} (h:exec orc (.gm sz z) vals cells sh aa=some out) :
   ∃x sh',vals=[x]∧l9 sz z sh (qp sz x)=some sh'∧out=⟨.kP [],none,sh',aa⟩:=by
 rcases vals with _ | ⟨v,_ | ⟨u,_⟩⟩
 · simp [exec] at h
 · simp only [exec,Option.map_eq_some_iff] at h
   obtain ⟨sh',h1,rfl⟩:=h
   exact ⟨v,sh',rfl,h1,rfl⟩
 · simp [exec] at h
theorem gV {sz by_:Nat} {ag:Bool} (h:exec orc (.cR sz by_ ag) vals cells sh aa=some out) :
   ∃s x xs y sh',vals=[s,x]∧cy x=some xs∧a6 sz xs=true∧lO sz by_ ag s xs sh aa=some (y,sh')∧out=⟨y,none,sh',aa⟩:=by
 rcases vals with _ | ⟨v,_ | ⟨u,_ | ⟨_,_⟩⟩⟩
 · simp [exec] at h
 · simp [exec] at h
 · simp only [exec] at h
   split at h
   · rename_i xs hxs
     simp only [Option.ite_none_right_eq_some,Option.map_eq_some_iff] at h
     obtain ⟨h0,⟨y,sh'⟩,h1,rfl⟩:=h
     exact ⟨v,u,xs,y,sh',rfl,hxs,h0,h1,rfl⟩
   · simp at h
 · simp [exec] at h
end
end Go.Ab
namespace Go.Ab
section
variable {P:Program} {ns:Names} {G:Gh} {w:World}
def AK.calls:AK→Bool
 | .aR _ | .ew _ | .bV .. | .ik _ | .fl | .da | .clone .. | .ig ..=>true
 | _=>false
theorem dI {mem:List (Nat×List AV)} (k:Option Nat):dk mem k none=mem:=by cases k<;>rfl
theorem lh {v:AV} {rv:Value} (h:ah (num ns) G v rv) (hl:(bE v).all aH=true):ae (num ns) G (bE v) rv.cells.toList:=by
 cases v with
 | cI l=>exact ah.cells (x:=.cI l) h hl
 | own l τ=>exact ah.cells (x:=.own l τ) h hl
 | _=>
   simp only [bE] at hl ⊢
   split
   · rename_i p hp
     simp only [hp] at hl
     exact ah.cells (by simp only [ah];exact pd hp h) hl
   · rename_i hp
     simp only [hp] at hl
     exact h.cells hl
theorem bO {mem:List (Nat×List AV)} {sh:Sh} {aa:aq} {s:Sem Value} {s':Sem Next} {x:AV} {v:Value} {w':World} {G':Gh} (hs:s'=(do pure (.value (←s)))) (h1:s.run P w=.ok v w') (h2:ah (num ns) G' x v)
   (h3:Inv (num ns) G' w' mem sh aa) (h4:G.le G') (h5:bf G w G' w'):FG ns P G w mem sh aa s' x:=
 ⟨.value v,v,w',G',by rw [hs];simp only [Sem.run_bind,h1,Result.andThen_ok,Sem.run_pure],.inl rfl,h2,h3,h4,h5⟩
theorem ll {A:gJ} {o:Oper} {k:AK} {args:List Operand} {orc:dr} (hc:a9 P ns A o.dst o.op=some (k,args)) (hk:k.calls=false) {a:Act} {vals:List AV} {out:Out}
   {mem:List (Nat×List AV)} {sh:Sh} {aa:aq} (hr:ae (num ns) G vals (args.map a.eval)) (hi:Inv (num ns) G w mem sh aa)
   (h:exec orc k vals (k.key.bind (look mem)) sh aa=some out) :
   FG ns P G w (dk mem k.key out.cells) out.sh out.aa (execOp a.eval o) out.val:=by
 obtain ⟨dst,op,type,pos,after,guard⟩:=o
 cases k with
 | v vo=>
   simp only [exec,Option.map_eq_some_iff] at h
   obtain ⟨x,h1,rfl⟩:=h
   obtain ⟨v,w',G',g1,g2,g3,g4,g5⟩:=qI hc hr hi h1
   exact ⟨.value v,v,w',G',g1,.inl rfl,g2,by simpa [dI] using g3,g4,g5⟩
 | aR g=>simp [AK.calls] at hk
 | ew g=>simp [AK.calls] at hk
 | bV g own=>simp [AK.calls] at hk
 | ik g=>simp [AK.calls] at hk
 | fl=>simp [AK.calls] at hk
 | da=>simp [AK.calls] at hk
 | clone sz by_=>simp [AK.calls] at hk
 | ig sz by_ ag=>simp [AK.calls] at hk
 | we=>first | (simp [exec] at h;done) | (simp [exec] at e;done) | (simp [exec];done)
 | l8 c ok z=>first | (simp [exec] at h;done) | (simp [exec] at e;done) | (simp [exec];done)
 | Cr c=>first | (simp [exec] at h;done) | (simp [exec] at e;done) | (simp [exec];done)
 | bU key off sz ag=>
   obtain ⟨t,tx,rfl,rfl,hsz,hag⟩:=qO hc
   obtain ⟨cs,x,rfl,hcs,hx,rfl⟩:=eB h
   simp only [AK.key,Option.bind_some] at hcs
   obtain ⟨x',e,h1⟩:=bw (by simpa using hr)
   cases e
   simp only [ah] at h1
   obtain ⟨b,hp,hv⟩:=h1
   obtain ⟨b',hp',hblk,_⟩:=hi.bT _ _ hcs
   rw [hp] at hp';cases hp'
   obtain ⟨_,c,ty,hh,hrel⟩:=hblk
   obtain ⟨u,g1,g2⟩:=eY (w:=w) hsz hag hx hrel (gp hh)
   refine bO (s:=Instr.loadAt t (a.eval (.tmp tx))) (v:=u) (w':=w) rfl ?_ g2 (by simpa [dI] using hi) G.le_refl (bf.refl G w)
   rw [hv];simp [Instr.loadAt,Instr.sureAddr,g1]
 | dJ sz ag=>
   obtain ⟨t,tx,rfl,rfl,hsz,hag⟩:=qP hc
   obtain ⟨p,x,rfl,rfl,hor⟩:=gS h
   obtain ⟨x',e,h1⟩:=bw (by simpa using hr)
   cases e
   rcases hor with ⟨cs,rfl,hx⟩ | ⟨s,off,cs,rfl,hcs,hx⟩
   · simp only [ah] at h1
     obtain ⟨b,o,vs,hv,ha,hrl⟩:=h1
     obtain ⟨u,g1,g2⟩:=i4 (ns:=ns) (w:=w) hsz hag hx hrl (fun j v hj=>hi.known _ _ _ (ha j v hj))
     refine bO (s:=Instr.loadAt t (a.eval (.tmp tx))) (v:=u) (w':=w) rfl ?_ g2 (by simpa [dI] using hi) G.le_refl (bf.refl G w)
     rw [hv];simp [Instr.loadAt,Instr.sureAddr,g1]
   · obtain ⟨hmb,hx⟩:=hx
     simp only [ah] at h1
     obtain ⟨b,hp,hv⟩:=h1
     obtain ⟨b',hp',hblk,_⟩:=hi.cr _ _ hcs
     rw [hp] at hp';cases hp'
     obtain ⟨_,c,ty,vs,suf,hh,_,hsp,hrel⟩:=hblk.cells hmb
     obtain ⟨u,g1,g2⟩:=eY (w:=w) hsz hag hx hrel (jE hh hsp)
     refine bO (s:=Instr.loadAt t (a.eval (.tmp tx))) (v:=u) (w':=w) rfl ?_ g2 (by simpa [dI] using hi) G.le_refl (bf.refl G w)
     rw [hv];simp [Instr.loadAt,Instr.sureAddr,g1]
 | bA key off sz=>
   obtain ⟨t,tx,v,rfl,rfl,hsz⟩:=pn hc
   obtain ⟨cs,x,rfl,hcs,hl,hlf,hle,rfl⟩:=eL h
   simp only [AK.key,Option.bind_some] at hcs
   obtain ⟨x1,x2,e,h1,h2⟩:=ct (by simpa using hr)
   cases e
   simp only [ah] at h1
   obtain ⟨b,hp,hv⟩:=h1
   obtain ⟨b',hp',hblk,hcl⟩:=hi.bT _ _ hcs
   rw [hp] at hp';cases hp'
   obtain ⟨_,c,ty,hh,hrel⟩:=hblk
   have hcells:=h2.cells hlf
   have hcsz:(a.eval v).cells.size=sz:=by have:=hcells.length;simp at this;omega
   have hsize:=hrel.length
   simp at hsize
   have hrun:=jH (P:=P) (w:=w) hsz hcsz hh (off:=off) (by omega) (gN hcells hlf)
   obtain ⟨g1,g2⟩:=hi.xf (cells':=aO cs off (aM x)) hcs hp (c':=(c.toList.take off++(a.eval v).cells.toList++c.toList.drop (off+(a.eval v).cells.toList.length)).toArray)
     (by simpa using dz off hrel hcells) (eZ hcl hlf)
   refine ⟨.skip,undef,_,G,?_,.inr ⟨rfl,rfl⟩,by simp [ah],g1,G.le_refl,g2⟩
   simp [execOp,hv,Instr.storeAt,Instr.sureAddr,hrun]
 | ev sz=>
   obtain ⟨t,tx,v,rfl,rfl,hsz⟩:=po hc
   obtain ⟨s,off,x,cs,rfl,hcs,hmb,hl,hle,hlf,hrf,rfl⟩:=eM h
   obtain ⟨x1,x2,e,h1,h2⟩:=ct (by simpa using hr)
   cases e
   simp only [ah] at h1
   obtain ⟨b,hp,hv⟩:=h1
   obtain ⟨b',hp',hblk,hcl,hcr⟩:=hi.cr _ _ hcs
   rw [hp] at hp';cases hp'
   obtain ⟨_,c,ty,vs,suf,hh,hcz,hsp,hrel⟩:=hblk.cells hmb
   have hcells:=lh h2 (e7 hlf)
   have hcsz:(a.eval v).cells.size=sz:=by have:=hcells.length;simp at this;omega
   have hsize:=hrel.length
   have hcl2:c.size=vs.length+suf.length:=by rw [←Array.length_toList,hsp,List.length_append]
   have hnl:(a.eval v).cells.toList.length=sz:=by simpa using hcsz
   have hrun:=jH (P:=P) (w:=w) hsz hcsz hh (off:=off) (by omega) (gN hcells (e7 hlf))
   obtain ⟨g1,g2⟩:=hi.jG (cells':=aO cs off (bE x)) hcs hp hh (c':=(c.toList.take off++(a.eval v).cells.toList++c.toList.drop (off+(a.eval v).cells.toList.length)).toArray)
     (suf:=suf) (vs:=vs.take off++(a.eval v).cells.toList++vs.drop (off+(a.eval v).cells.toList.length))
     (by rw [←hcz];simp;omega)
     (by
       show c.toList.take off++(a.eval v).cells.toList++c.toList.drop (off+(a.eval v).cells.toList.length)=_
       rw [hsp,List.take_append_of_le_length (by omega),List.drop_append_of_le_length (by omega)]
       simp [List.append_assoc])
     (dz off hrel hcells) (eZ hcl hlf) (eZ hcr hrf)
   refine ⟨.skip,undef,_,G,?_,.inr ⟨rfl,rfl⟩,by simp [ah],by simpa [AK.key,dk] using g1,G.le_refl,g2⟩
   simp [execOp,hv,Instr.storeAt,Instr.sureAddr,hrun]
 | o6 sz=>first | (simp [exec] at h;done) | (simp [exec] at e;done) | (simp [exec];done)
 | alloc key z=>
   obtain ⟨t,rfl,rfl,hz,rfl⟩:=qQ hc
   obtain ⟨rfl,hcs,rfl⟩:=fy h
   simp only [AK.key,Option.bind_some] at hcs
   obtain ⟨zv,hz1,hz2⟩:=d7 (P:=P) (w:=w) hz
   obtain ⟨zr,zl⟩:=eH (G:=G) (ρ:=num ns) hz2
   obtain ⟨g1,g2,g3⟩:=hi.ku (c:=zv.cells) t hcs zr zl
   refine bO (s:=Instr.alloc t true (.tuple #[])) (v:=.pointer (some ⟨w.heap.size,0,none⟩)) rfl ?_ ?_ g1 g2 g3
   · simp only [Instr.alloc,Sem.run_bind,hz1,Result.andThen_ok,gO,Sem.run_pure]
   · simp only [ah];exact ⟨_,by simp [Gh.bX],rfl⟩
 | box key sz=>
   obtain ⟨t,y,rfl,rfl,hsz,rfl⟩:=xm hc
   obtain ⟨x,rfl,hcs,hl,hlf,rfl⟩:=iy h
   simp only [AK.key,Option.bind_some] at hcs
   obtain ⟨x',e,h1⟩:=bw (by simpa using hr)
   cases e
   have hcells:=h1.cells hlf
   obtain ⟨g1,g2,g3⟩:=hi.ku (c:=(a.eval y).cells) t hcs hcells hlf
   refine bO (s:=Instr.box t (a.eval y)) (v:=.pointer (some ⟨w.heap.size,0,none⟩)) rfl ?_ ?_ g1 g2 g3
   · simp only [Instr.box,Sem.run_bind,gO,Result.andThen_ok,Sem.run_pure]
   · simp only [ah];exact ⟨_,by simp [Gh.bX],rfl⟩
 | gl z=>
   obtain ⟨t,rfl,rfl,hz⟩:=pq hc
   obtain ⟨rfl,rfl⟩:=gg h
   obtain ⟨zv,hz1,hz2⟩:=d7 (P:=P) (w:=w) hz
   obtain ⟨zr,zl⟩:=eH (G:=G) (ρ:=num ns) hz2
   obtain ⟨g1,g2,g3⟩:=hi.mr (c:=zv.cells) t zr zl (xj _ z)
   refine bO (s:=Instr.alloc t true (.tuple #[])) (v:=.pointer (some ⟨w.heap.size,0,none⟩)) rfl ?_ ?_ g1 g2 g3
   · simp only [Instr.alloc,Sem.run_bind,hz1,Result.andThen_ok,gO,Sem.run_pure]
   · simp only [ah];exact ⟨(w.heap.size,zv.cells.size),by simp [Gh.cn],rfl⟩
 | kj sz=>
   obtain ⟨t,y,rfl,rfl,hsz⟩:=tq hc
   obtain ⟨x,rfl,hl,hlf,hrf,rfl⟩:=iN h
   obtain ⟨x',e,h1⟩:=bw (by simpa using hr)
   cases e
   have hcells:=lh h1 (e7 hlf)
   obtain ⟨g1,g2,g3⟩:=hi.mr (c:=(a.eval y).cells) t hcells hlf (gR (Nat.le_succ _) hrf)
   refine bO (s:=Instr.box t (a.eval y)) (v:=.pointer (some ⟨w.heap.size,0,none⟩)) rfl ?_ ?_ g1 g2 g3
   · simp only [Instr.box,Sem.run_bind,gO,Result.andThen_ok,Sem.run_pure]
   · simp only [ah];exact ⟨(w.heap.size,(a.eval y).cells.size),by simp [Gh.cn],rfl⟩
 | Cq sz=>first | (simp [exec] at h;done) | (simp [exec] at e;done) | (simp [exec];done)
 | hU sz by_ ag z=>
   obtain ⟨t,e,l,c,rfl,rfl,hu,hsz,hby,hz,hzl,h0⟩:=qR hc
   obtain ⟨k,k',n,rfl,h1,h2,h3,_,rfl⟩:=gT h
   obtain ⟨x1,x2,e',r1,r2⟩:=ct (by simpa using hr)
   cases e'
   obtain ⟨v,w',G',g1,g2,g3,g4,g5⟩:=qK (k:=k) (k':=k') (ag:=ag) hu hsz hby hz hzl h0 h1 h2 h3 hi
   refine bO (s:=Instr.makeSlice t (a.eval l) (a.eval c)) rfl ?_ g2 g3 g4 g5
   rw [gf r1,gf r2];exact g1
 | fj d sz by_ z=>
   obtain ⟨t,e,l,c,rfl,rfl,hu,hsz,hby,hz,hzl,h0,rfl⟩:=qS hc
   obtain ⟨k,k',n,rfl,h1,h2,h3,_,hcs,rfl⟩:=fC h
   simp only [AK.key,Option.bind_some] at hcs
   obtain ⟨x1,x2,e',r1,r2⟩:=ct (by simpa using hr)
   cases e'
   obtain ⟨v,w',G',g1,g2,g3,g4,g5⟩:=qL (k:=k) (k':=k') hu hsz hby hz hzl h0 h1 h2 h3 hi hcs
   refine bO (s:=Instr.makeSlice t (a.eval l) (a.eval c)) rfl ?_ g2 g3 g4 g5
   rw [gf r1,gf r2];exact g1
 | append sz by_=>
   obtain ⟨c,rfl⟩:=pw hc
   obtain ⟨x,y,t,e,t1,e1,z,hcal,hargs,rfl,h0,h1,hu,hu1,hsz,hby,hz,hzl,hs0,hb0⟩:=tl hc
   obtain ⟨s,x',y',ts,rfl,happ,rfl⟩:=gh h
   obtain ⟨x1,x2,e',r1,r2⟩:=ct (by simpa using hr)
   cases e'
   obtain ⟨v,w',G',g1,g2,g3,g4,g5⟩:=ph (type:=type) h0 h1 hu hu1 hsz hby hz hzl hb0 r1 r2 hi happ
   refine bO (s:=Builtin.append_ c.argTypes type #[a.eval x,a.eval y]) ?_ g1 g2 g3 g4 g5
   obtain ⟨callee,cargs,ctypes⟩:=c
   simp only at hcal hargs
   subst hcal;subst hargs
   simp [execOp,resolve,invoke,builtin]
 | cR sz by_ ag=>
   obtain ⟨c,rfl⟩:=nK hc
   obtain ⟨x,y,t,e,t1,e1,z,hcal,hargs,rfl,h0,h1,hu,hu1,hsz,hby,hz,hzl,hs0,hb0⟩:=qJ hc
   obtain ⟨s,x',xs,y',sh',rfl,hxs,hhx,happ,rfl⟩:=gV h
   obtain ⟨x1,x2,e',r1,r2⟩:=ct (by simpa using hr)
   cases e'
   obtain ⟨v,w',G',g1,g2,g3,g4,g5⟩:=nJ (type:=type) h0 h1 hu hu1 hsz hby hz hzl hb0 r1 r2 hi hxs hhx happ
   refine bO (s:=Builtin.append_ c.argTypes type #[a.eval x,a.eval y]) ?_ g1 g2 g3 g4 g5
   obtain ⟨callee,cargs,ctypes⟩:=c
   simp only at hcal hargs
   subst hcal;subst hargs
   simp [execOp,resolve,invoke,builtin]
 | jA sz by_=>first | (simp [exec] at h;done) | (simp [exec] at e;done) | (simp [exec];done)
 | ij sz=>
   obtain ⟨c,rfl⟩:=qT hc
   obtain ⟨x,y,t,e,t1,e1,hcal,hargs,rfl,h0,h1,hu,hu1,hsz⟩:=xl hc
   obtain ⟨x',y',xs,k,sh',rfl,hxs,hcp,rfl⟩:=gU h
   obtain ⟨x1,x2,e',r1,r2⟩:=ct (by simpa using hr)
   cases e'
   obtain ⟨w',g1,g2,g3⟩:=qN (type:=type) h0 hu hsz r1 r2 hi hxs hcp
   refine bO (s:=Builtin.copy_ c.argTypes type #[a.eval x,a.eval y]) (v:=.int .i64 k) ?_ g1 (by simp only [ah];exact ed.2 rfl) g2 G.le_refl g3
   obtain ⟨callee,cargs,ctypes⟩:=c
   simp only at hcal hargs
   subst hcal;subst hargs
   simp [execOp,resolve,invoke,builtin]
 | gm sz z=>
   obtain ⟨c,rfl⟩:=py hc
   obtain ⟨x,t,e,hcal,hargs,rfl,h0,hu,hsz,hz,hzl,hs0⟩:=tn hc
   obtain ⟨x',sh',rfl,hcl,rfl⟩:=lg h
   obtain ⟨x1,e',r1⟩:=bw (by simpa using hr)
   cases e'
   obtain ⟨w',g1,g2,g3⟩:=pk (type:=type) h0 hu hz hzl hs0 r1 hi hcl
   refine bO (s:=Builtin.clear_ c.argTypes type #[a.eval x]) (v:=.tuple #[]) ?_ g1 (by simp only [ah];exact ⟨[],rfl,by simp [ae]⟩) g2 G.le_refl g3
   obtain ⟨callee,cargs,ctypes⟩:=c
   simp only at hcal hargs
   subst hcal;subst hargs
   simp [execOp,resolve,invoke,builtin]
end
end Go.Ab
