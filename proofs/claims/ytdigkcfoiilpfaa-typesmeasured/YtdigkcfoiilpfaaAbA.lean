import GoSem.Core.Value
import GoSem.Core.Ast
import GoSem.Core.View
import Derived.Calls
import Derived.Laws.World
import Derived.Laws.Sem
import Derived.Orders
import Derived.Below
import Derived.Laws.Cells
import Derived.Laws.CopyRow
import Derived.Laws.Entries
import Derived.Laws.Strings
import Derived.Laws.StructEq
import Derived.RangeFuncRecord
import Derived.Laws.IdiomStrings
import Derived.Laws.Tables
/-
  The abstract machine: pure data, abstract values, slim code, and an evaluator with fuel. Nothing here mentions a program.
  What an abstract value says of a value of the model: relations over what is known of memory for IH.
  From the loaded program's code to slim code: types resolved, functions under their lasting numbers. 'compF' is what the kernel holds a function's slim code against.
  The relation between an abstract state and a state of the model.
  Operations on values alone: what the slim operation gives is what the model's gives.
  Parts, places, memory that is only read.
  Literals, cuts, and the rest of the operations on values.
  Comparisons of structs, and the entries of maps.
  Slices' literals and cuts; the operations on values, all together.
  Cuts of slices and strings; the operations on values, all together.
  The operations on values, all together.
  Operations with memory.
  append.
  append, run.
  The operations with memory that call nothing.
  append onto arrays that may still be written.
  The builtin copy: elements over the head of an array that may be written.
  The same strings appended once more onto a slice from before.
-/
set_option linter.unusedVariables false
set_option linter.unusedSimpArgs false
set_option linter.unnecessarySimpa false
set_option maxRecDepth 100000
set_option maxHeartbeats 8000000
namespace Go.Ab
inductive PV where
 | bool (b:Bool)
 | int (k:IntKind) (n:Int)
 | str (s:List UInt8)
 | agg (cs:List PV)
 | aF (els:List PV)
 deriving Inhabited
inductive AV where
 | un
 | pv (p:PV)
 | cz (els:List PV)
 | own (els:List PV) (tok:Nat)
 | agg (cs:List AV)
 | lr (vs:List AV)
 | bg (d off:Nat)
 | aO (b off:Nat)
 | cS (cs:List PV)
 | aY (b sz len:Nat) (ag:Bool)
 | fn (g:Nat) (cap:List AV)
 | eN
 | d_ (s:Nat)
 | cT (kvs:List (PV×PV))
 | mM (b off n:Nat)
 | gR (d n:Nat)
 deriving Inhabited
abbrev Sh:=List (Option (List AV))
abbrev al:=List Nat
inductive dL where
 | t (n:Nat)
 | c (v:AV)
 deriving Inhabited
inductive CK where
 | int | str | bool
 deriving Inhabited,DecidableEq
inductive ED where
 | mv | pick
 | bin (op:BinOp)
 | beq (neg:Bool)
 | un (op:UnOp)
 | conv (k:IntKind)
 | ext (i:Nat)
 | field (off sz:Nat) (ag:Bool)
 | fw (off:Nat)
 | e8 (sz:Nat)
 | index
 | build (zero:List PV) (places:List (Nat×Nat))
 | cJ (sz:Nat)
 | e9 (sz:Nat) (ag:Bool)
 | slice (str:Bool) (sz:Nat) (lo hi mx:Bool)
 | len | uV | lu
 | mn | mx
 | r9 (g:Nat)
 | HB (cs:List CK) (neg:Bool)
 | uW (sz:Nat) (lo hi:Bool)
 | b2s
 deriving Inhabited
inductive AK where
 | v (o:ED)
 | cq (key off sz:Nat) (ag:Bool)
 | bC (key off sz:Nat)
 | alloc (key:Nat) (zero:List PV)
 | box (key sz:Nat)
 | dt (sz:Nat) (ag:Bool)
 | df (sz:Nat)
 | iC (sz:Nat)
 | kA (sz:Nat)
 | ph (sz:Nat)
 | gn (zero:List PV)
 | i_ (sz bytes:Nat) (ag:Bool) (zero:List PV)
 | fW (key sz bytes:Nat) (zero:List PV)
 | append (sz bytes:Nat)
 | dw (sz bytes:Nat) (ag:Bool)
 | ek (sz bytes:Nat)
 | kB
 | ij (c:CK) (ok:Bool) (zero:PV)
 | nf (c:CK)
 | clone (sz bytes:Nat)
 | iD (sz bytes:Nat) (ag:Bool)
 | gp (sz:Nat) (zero:List PV)
 | ja (sz:Nat)
 | aN (g:Nat)
 | gq (g:Nat)
 | bJ (g:Nat) (own:List Nat)
 | ik (g:Nat)
 | fC
 | dN
 deriving Inhabited
structure cr where
 dst:Option Nat
 guard:Option (Nat×Bool)
 args:List dL
 op:AK
 deriving Inhabited
inductive aq where
 | skip
 | kb (ops:List cr) (live:List Nat)
 | seq (a b:aq)
 | cond (c:dL) (a b:aq)
 | block (id:Nat) (b:aq)
 | loop (live:List Nat) (b:aq)
 | exit (id:Nat)
 | ret
 | back (f:dL) (gb pi px sz:Nat) (ag:Bool) (live:List Nat) (x y:aq)
 | gQ (ts:List Nat)
 | F9 (ds:List (Nat×Nat))
 | jj (ps:List (Nat×Nat×Bool))
 | jk (ts:List Nat)
 | Gt (ts:List Nat)
 deriving Inhabited
inductive lx where
 | t (n:Nat)
 | c (key sz:Nat) (ag:Bool)
 deriving Inhabited
structure Prim where
 f:(Nat→List PV→Option (List PV))→List PV→Option (List PV)
 fin:∀o x r,f o x=some r→∃l:List (Nat×List PV×List PV),(∀c∈l,o c.1 c.2.1=some c.2.2)∧∀o',(∀c∈l,o' c.1 c.2.1=some c.2.2)→f o' x=some r
def Prim.pure (f:List PV→Option (List PV)):Prim:=⟨fun _=>f,fun _ _ _ h=>⟨[],by simp,fun _ _=>h⟩⟩
theorem Prim.mono (p:Prim) {a b:Nat→List PV→Option (List PV)} (h:∀g x r,a g x=some r→b g x=some r) {x:List PV} {r:List PV} (e:p.f a x=some r):p.f b x=some r:=by
 obtain ⟨l,h1,h2⟩:=p.fin a x r e
 exact h2 b fun c hc=>h _ _ _ (h1 c hc)
structure aw where
 nparams:Nat
 ntmps:Nat
 results:List lx
 body:aq
 ng:Option Prim:=none
 ks:Bool:=false
 deriving Inhabited
def look {α:Type}:List (Nat×α)→Nat→Option α
 | [],_=>none
 | (k,v)::r,t=>if k=t then some v else look r t
def bN {α:Type}:List (Nat×α)→Nat→α→List (Nat×α)
 | [],t,u=>[(t,u)]
 | (k,v)::r,t,u=>if k=t then (k,u)::r else (k,v)::bN r t u
structure St where
 env:List (Nat×AV)
 mem:List (Nat×List AV)
 sh:Sh
 aa:al
 deriving Inhabited
def aH:PV→List PV
 | .agg cs=>cs
 | p=>[p]
def aE:AV→List AV
 | .agg cs=>cs
 | .pv (.agg cs)=>cs.map .pv
 | v=>[v]
def bm:AV→Bool
 | .pv _ | .cz _ | .aO .. | .aY .. | .eN | .d_ _ | .cT _=>true
 | .fn _ cap=>gu cap
 | .agg cs=>gu cs
 | _=>false
where gu:List AV→Bool
 | []=>true
 | v::r=>bm v && gu r
def aJ:AV→Bool
 | .pv (.agg _)=>false
 | .pv _ | .cz _ | .aO .. | .aY .. | .eN | .d_ _ | .cT _=>true
 | .fn g cap=>bm (.fn g cap)
 | .own ..=>true
 | _=>false
def bO (v:AV):Bool:=aJ v
def bl:AV→Bool
 | .own .. | .bg .. | .gR ..=>false
 | .agg cs=>ee cs
 | .lr cs=>ee cs
 | .fn _ cap=>ee cap
 | _=>true
where ee:List AV→Bool
 | []=>true
 | v::r=>bl v && ee r
def gT:AV→Bool
 | .own ..=>true
 | v=>bl v
def ep:List AV→Bool
 | []=>true
 | v::r=>gT v && ep r
def ly:AV→Option PV
 | .pv p=>some p
 | .cz l=>some (.aF l)
 | .own l _=>some (.aF l)
 | _=>none
def e_:PV→Bool
 | .agg _=>false
 | _=>true
def chunk (sz:Nat):Nat→List PV→List (List PV)
 | 0,_=>[]
 | n+1,l=>l.take sz::chunk sz n (l.drop sz)
def kC:List AV→Option (List PV)
 | []=>some []
 | v::r=>match ly v,kC r with
   | some p,some ps=>some (p::ps)
   | _,_=>none
def jl (sz:Nat) (ag:Bool) (n:Nat) (cells:List PV):Option (List PV):=
 if ag then some ((chunk sz n cells).map .agg)
 else if sz=1 then some cells else none
def cK:List AV→Bool
 | .cT _::_=>true
 | _=>false
def cV (sh:Sh):AV→Option PV
 | .aY b sz n ag=>match sh[b]? with
   | some (some cells)=>if cells.length=n*sz then ((kC cells).bind (jl sz ag n)).map .aF
     else if cK cells=false∧n*sz≤cells.length then ((kC (cells.take (n*sz))).bind (jl sz ag n)).map .aF else none
   | _=>none
 | v=>ly v
def cW (sh:Sh):List AV→Option (List PV)
 | []=>some []
 | v::r=>if aJ v=true then
     match cV sh v,cW sh r with
     | some p,some ps=>some (p::ps)
     | _,_=>none
   else none
def gQ (sh:Sh):AV→Option PV
 | .agg cs=>(cW sh cs).map .agg
 | v=>cV sh v
def bY (sh:Sh):List AV→Option (List PV)
 | []=>some []
 | v::r=>match gQ sh v,bY sh r with
   | some p,some ps=>some (p::ps)
   | _,_=>none
def dq:AV→List Nat
 | .aY b _ _ _=>[b]
 | .agg cs=>cs.flatMap fun | .aY b _ _ _=>[b] | _=>[]
 | _=>[]
def kill (sh:Sh) (l:List Nat):Sh:=l.foldl (fun s b=>s.set b none) sh
def ct (sh:Sh) (vs:List AV):Sh:=kill sh (vs.flatMap dq)
def au (n:Nat):AV→Bool
 | .un | .pv _ | .cz _ | .own .. | .eN | .cS _ | .cT _=>true
 | .aO b _ | .aY b _ _ _ | .d_ b=>decide (b<n)
 | .fn _ cap=>bK n cap
 | .agg cs=>bK n cs
 | _=>false
where bK (n:Nat):List AV→Bool
 | []=>true
 | v::r=>au n v && bK n r
def nh:CK→PV→PV→Option Bool
 | .int,.int k a,.int k' b=>if k=k' then some (a == b) else none
 | .str,.str a,.str b=>some (a == b)
 | .bool,.bool a,.bool b=>some (a == b)
 | _,_,_=>none
def cX:List CK→List PV→List PV→Option Bool
 | [],[],[]=>some true
 | c::cs,p::ps,q::qs=>match nh c p q with
   | some true=>cX cs ps qs
   | some false=>if ps.length=cs.length∧qs.length=cs.length then some false else none
   | none=>none
 | _,_,_=>none
def h_ (c:CK):List (PV×PV)→PV→Option (Option PV)
 | [],_=>some none
 | (k',v)::r,k=>match nh c k k' with
   | some true=>some (some v)
   | some false=>h_ c r k
   | none=>none
def jm (c:CK):List (PV×PV)→PV→PV→Option (List (PV×PV))
 | [],k,p=>some [(k,p)]
 | (k',v)::r,k,p=>match nh c k k' with
   | some true=>some ((k,p)::r)
   | some false=>(jm c r k p).map ((k',v)::·)
   | none=>none
def fY (ok:Bool) (zero:PV) (r:Option PV):AV:=if ok then .lr [.pv (r.getD zero),.pv (.bool r.isSome)] else .pv (r.getD zero)
def bP (op:BinOp):AV→AV→Option AV
 | .pv (.int k a),.pv (.int k' b)=>
   if k=k'∨op=.shl∨op=.shr then
     match op with
     | .add=>some (.pv (.int k (k.wrap (a+b))))
     | .sub=>some (.pv (.int k (k.wrap (a-b))))
     | .mul=>some (.pv (.int k (k.wrap (a*b))))
     | .quo=>if b=0 then none else some (.pv (.int k (k.wrap (a.tdiv b))))
     | .rem=>if b=0 then none else some (.pv (.int k (a.tmod b)))
     | .eql=>some (.pv (.bool (a == b)))
     | .neq=>some (.pv (.bool (a != b)))
     | .lss=>some (.pv (.bool (decide (a<b))))
     | .leq=>some (.pv (.bool (decide (a≤b))))
     | .gtr=>some (.pv (.bool (decide (a > b))))
     | .geq=>some (.pv (.bool (decide (a≥b))))
     | .and=>some (.pv (.int k (k.wrap (BitVec.ofInt k.bits a &&& BitVec.ofInt k.bits b).toNat)))
     | .shl=>if b<0 then none else some (.pv (.int k (k.wrap (a*2 ^ (min b.toNat k.bits)))))
     | .shr=>if b<0 then none else some (.pv (.int k (a.fdiv (2 ^ (min b.toNat k.bits)))))
     | _=>none
   else none
 | .pv (.str a),.pv (.str b)=>
   match op with
   | .add=>if a.length+b.length≤9223372036854775807 then some (.pv (.str (a++b))) else none
   | .eql=>some (.pv (.bool (a == b)))
   | .neq=>some (.pv (.bool (!(a == b))))
   | .lss=>some (.pv (.bool (de a b)))
   | .gtr=>some (.pv (.bool (!(de a b || a == b))))
   | .leq=>some (.pv (.bool (de a b || a == b)))
   | .geq=>some (.pv (.bool (!de a b)))
   | _=>none
 | _,_=>none
where de:List UInt8→List UInt8→Bool
 | _,[]=>false
 | [],_::_=>true
 | a::x,b::y=>a<b || (a == b && de x y)
def HC (op:UnOp):AV→Option AV
 | .pv (.bool b)=>match op with | .not=>some (.pv (.bool !b)) | _=>none
 | .pv (.int k n)=>match op with | .neg=>some (.pv (.int k (k.wrap (0-n)))) | _=>none
 | _=>none
def bF:AV→Option (List PV)
 | .pv (.aF l)=>some l
 | .cz l=>some l
 | .own l _=>some l
 | _=>none
def aQ (sz:Nat):List PV→Bool
 | []=>true
 | p::_=>(aH p).length == sz
def aM (cells:List AV) (off:Nat) (vs:List AV):List AV:=cells.take off++vs++cells.drop (off+vs.length)
def jb (cells:List AV):List (Nat×Nat)→List AV→Option (List AV)
 | [],[]=>some cells
 | (off,sz)::ps,v::vs=>
   if (aE v).length=sz∧off+sz≤cells.length∧(aE v).all aJ=true then jb (aM cells off (aE v)) ps vs else none
 | _,_=>none
def bz (ag:Bool) (sz:Nat) (cs:List AV) (off:Nat):Option AV:=
 if off+sz≤cs.length then
   if ag then some (.agg ((cs.drop off).take sz))
   else if sz=1 then cs[off]? else none
 else none
def bQ (ag:Bool) (sz:Nat) (cs:List PV):Option AV:=
 if sz≤cs.length then
   if ag then some (.pv (.agg (cs.take sz)))
   else if sz=1 then (cs[0]?).map .pv else none
 else none
def jn (lo hi mx:Bool) (n:Nat) (rest:List AV):Option (Int×Int×Option Int):=
 match lo,hi,mx,rest with
 | false,false,false,[]=>some (0,n,none)
 | true,false,false,[.pv (.int _ l)]=>some (l,n,none)
 | false,true,false,[.pv (.int _ h)]=>some (0,h,none)
 | true,true,false,[.pv (.int _ l),.pv (.int _ h)]=>some (l,h,none)
 | false,true,true,[.pv (.int _ h),.pv (.int _ m)]=>some (0,h,some m)
 | true,true,true,[.pv (.int _ l),.pv (.int _ h),.pv (.int _ m)]=>some (l,h,some m)
 | _,_,_,_=>none
def iE (str:Bool) (sz:Nat) (lo hi mx:Bool):List AV→Option AV
 | x::rest=>if str then
     match x with
     | .pv (.str s)=>match jn lo hi mx s.length rest with
       | some (l,h,none)=>if 0≤l∧l≤h∧h≤s.length then some (.pv (.str ((s.take h.toNat).drop l.toNat))) else none
       | _=>none
     | _=>none
   else match bF x with
     | some els=>match jn lo hi mx els.length rest with
       | some (l,h,m)=>if 0≤l∧l≤h∧h≤els.length∧(l=0∨aQ sz els=true) then
           match m with
           | some m=>if m=h then some (.cz ((els.take h.toNat).drop l.toNat)) else none
           | none=>some (.pv (.aF ((els.take h.toNat).drop l.toNat)))
         else none
       | none=>none
     | none=>none
 | []=>none
def kD (sz:Nat) (lo hi:Bool):List AV→Option AV
 | .aY b z n ag::rest=>if z=sz then
     match jn lo hi false n rest with
     | some (l,h,none)=>if 0≤l∧l≤h∧h≤n then some (if l=0 then .aY b z h.toNat ag else .mM b (l.toNat*sz) (h.toNat-l.toNat)) else none
     | _=>none
   else none
 | _=>none
def r_ (sz:Nat):AV→Option (Nat×Nat×Nat)
 | .aY b z n _=>if z=sz then some (b,0,n) else none
 | .mM b off n=>some (b,off,n)
 | _=>none
def ni (sz:Nat) (zero:List PV) (sh:Sh):Option (Nat×Nat×Nat)→Option Sh
 | some (b,off,n)=>match sh[b]? with
   | some (some cells)=>if cK cells=false∧off+n*sz≤cells.length∧zero.length=sz then some (sh.set b (some (aM cells off (List.replicate n (zero.map .pv)).flatten))) else none
   | _=>none
 | none=>none
def nj (sz:Nat) (sh:Sh) (xs:List PV):AV→Option (Nat×Sh)
 | .aY b z n _=>match sh[b]? with
   | some (some cells)=>if z=sz∧aQ sz xs=true∧cK cells=false∧n*sz≤cells.length then
       some (min xs.length n,sh.set b (some (aM cells 0 (((xs.take n).flatMap aH).map .pv)))) else none
   | _=>none
 | _=>none
def dW:List PV→Option (List UInt8)
 | []=>some []
 | .int .u8 n::r=>if 0≤n∧n<256 then (dW r).map (UInt8.ofNat n.toNat::·) else none
 | _=>none
def a6:ED→List AV→Option AV
 | .mv,[x]=>some x
 | .pick,[.pv (.bool c),a,b]=>some (if c then a else b)
 | .bin op,[a,b]=>bP op a b
 | .beq neg,[.pv (.bool a),.pv (.bool b)]=>some (.pv (.bool (if neg then !(a == b) else (a == b))))
 | .un op,[a]=>HC op a
 | .conv k,[.pv (.int _ n)]=>some (.pv (.int k (k.wrap n)))
 | .ext i,[.lr vs]=>vs[i]?
 | .field off sz ag,[x]=>match x with
   | .agg cs=>bz ag sz cs off
   | .pv (.agg cs)=>bQ ag sz (cs.drop off)
   | _=>none
 | .fw off,[x]=>match x with
   | .bg d o=>some (.bg d (o+off))
   | .aO b o=>some (.aO b (o+off))
   | .cS cs=>some (.cS (cs.drop off))
   | _=>none
 | .e8 sz,[x,.pv (.int _ i)]=>
   if i<0 then none else
   match x with
   | .aY b sz' n _=>if sz=sz'∧i.toNat<n then some (.aO b (i.toNat*sz)) else none
   | x=>match bF x with
     | some els=>match els[i.toNat]? with
       | some el=>if (aH el).length=sz then some (.cS (aH el)) else none
       | none=>none
     | none=>none
 | .index,[.pv (.str s),.pv (.int _ i)]=>if i<0 then none else (s[i.toNat]?).map fun b=>.pv (.int .u8 b.toNat)
 | .build zero places,vs=>(jb (zero.map zeroCell) places vs).map .agg
 | .cJ sz,vs=>(bY [] vs).bind fun els=>if els.all (fun e=>(aH e).length == sz) then some (.cz els) else none
 | .e9 sz ag,[.cS cs]=>bQ ag sz cs
 | .slice str sz lo hi mx,vs=>iE str sz lo hi mx vs
 | .uW sz lo hi,vs=>kD sz lo hi vs
 | .uV,[.pv (.str s)]=>some (.pv (.int .i64 s.length))
 | .len,[x]=>match x with
   | .aY _ _ n _=>some (.pv (.int .i64 n))
   | x=>(bF x).map fun l=>.pv (.int .i64 l.length)
 | .lu,[x]=>match x with
   | .bg .. | .aO .. | .cS _ | .fn ..=>some x
   | _=>none
 | .mn,[.pv (.int k x),.pv (.int k' y)]=>if k=k' then some (.pv (.int k (if y<x then y else x))) else none
 | .mx,[.pv (.int k x),.pv (.int k' y)]=>if k=k' then some (.pv (.int k (if y > x then y else x))) else none
 | .r9 g,cap=>some (.fn g cap)
 | .b2s,[x]=>((bF x).bind dW).map fun s=>.pv (.str s)
 | .HB cs neg,[x,y]=>match gQ [] x,gQ [] y with
   | some (.agg ps),some (.agg qs)=>(cX cs ps qs).map fun b=>.pv (.bool (if neg then !b else b))
   | _,_=>none
 | _,_=>none
where zeroCell:PV→AV
 | .aF []=>.cz []
 | p=>.pv p
structure Out where
 val:AV
 cells:Option (List AV)
 sh:Sh
 aa:al
structure dh where
 p:Nat→List PV→Option (List PV)
 i:Nat→List AV→Sh→al→Option (List AV×Sh×al)
def nk:List PV→AV
 | [r]=>.pv r
 | rs=>.lr (rs.map .pv)
def kE:List AV→AV
 | [r]=>r
 | rs=>.lr rs
def il (v:AV):AV:=match gQ [] v with | some p=>.pv p | none=>v
def AK.key:AK→Option Nat
 | .cq k _ _ _ | .bC k _ _ | .alloc k _ | .box k _ | .fW k _ _ _=>some k
 | _=>none
def aS (sz bytes:Nat) (s x:AV) (aa:al):Option (AV×al):=
 match bF x with
 | none=>none
 | some xs=>if aQ sz xs=true then
   match s with
   | .cz l=>if xs.isEmpty=true then some (.cz l,aa) else if aQ sz l=true∧(l.length+xs.length)*bytes≤140737488355328 then
       some (.own (l++xs) aa.length,aa++[(l++xs).length]) else none
   | .own l τ=>if aa[τ]?=some l.length∧aQ sz l=true∧(l.length+xs.length)*bytes≤140737488355328 then
       some (.own (l++xs) τ,aa.set τ (l++xs).length) else none
   | _=>none
   else none
def cR:List PV→List PV→Bool
 | [],[]=>true
 | .str a::r,.str b::q=>(a == b) && cR r q
 | _,_=>false
def sd (sz bytes:Nat) (xs:List PV) (s e:AV) (aa:al):Option PV:=
 match s,e with
 | .own l τ,.own m σ=>if τ=σ∧aa[τ]?=some m.length∧m.length=l.length+xs.length∧aQ 1 l=true∧aQ 1 xs=true∧sz=1 ∧
     cR (m.drop l.length) xs=true∧xs.isEmpty=false∧m.length*bytes≤140737488355328 then some (.aF (l++xs)) else none
 | _,_=>none
def nm (sz bytes:Nat) (ag:Bool) (s:AV) (xs:List PV) (sh:Sh):Option (AV×Sh):=
 if xs.isEmpty=true then some (s,sh) else if xs.length*bytes≤140737488355328 then some (.aY sh.length sz xs.length ag,sh++[some ((xs.flatMap aH).map .pv)]) else none
def pj (sz bytes:Nat) (ag:Bool) (s:AV) (xs:List PV) (sh:Sh) (aa:al):Option (AV×Sh):=
 match s with
 | .cz []=>nm sz bytes ag s xs sh
 | .own [] τ=>if aa[τ]?=some 0 then nm sz bytes ag s xs sh else none
 | .aY b z n g=>match sh[b]? with
   | some (some cells)=>if z=sz∧g=ag∧cK cells=false∧n*sz≤cells.length∧(n+xs.length)*bytes≤140737488355328 then
       if xs.isEmpty=true then some (.aY b sz n ag,sh) else some (.aY sh.length sz (n+xs.length) ag,sh.set b none++[some (cells.take (n*sz)++(xs.flatMap aH).map .pv)])
     else none
   | _=>none
 | _=>none
def ia (o:Option Bool) (sz bytes:Nat) (x:AV) (sh:Sh) (aa:al):Option (AV×Sh×al):=match o with
 | none=>(aS sz bytes (.cz []) x aa).map fun (v,ts)=>(v,sh,ts)
 | some ag=>match bF x with
   | some xs=>if aQ sz xs=true then (nm sz bytes ag (.cz []) xs sh).map fun (v,sh')=>(v,sh',aa) else none
   | none=>none
def di (aB ts:al):AV→AV×al×al
 | .own l τ=>if aB[τ]?=some l.length then (.own l ts.length,aB.set τ (l.length+1),ts++[l.length]) else (.pv (.aF l),aB,ts)
 | v=>(v,aB,ts)
def bR (aB ts:al):List AV→List AV×al×al
 | []=>([],aB,ts)
 | v::r=>((di aB ts v).1::(bR (di aB ts v).2.1 (di aB ts v).2.2 r).1,(bR (di aB ts v).2.1 (di aB ts v).2.2 r).2)
def a8 (aB ts:al):AV→AV×al×al
 | .own l τ=>if aB[τ]?=some l.length then (.own l ts.length,aB.set τ (l.length+1),ts++[l.length]) else (.pv (.aF l),aB,ts)
 | .cz l=>(.own l ts.length,aB,ts++[l.length])
 | .agg cs=>if bl.ee cs=true then (.agg cs,aB,ts) else (.agg (bR aB ts cs).1,(bR aB ts cs).2.1,(bR aB ts cs).2.2)
 | v=>(v,aB,ts)
def aV (aB ts:al):List AV→List AV×al×al
 | []=>([],aB,ts)
 | v::r=>((a8 aB ts v).1::(aV (a8 aB ts v).2.1 (a8 aB ts v).2.2 r).1,(aV (a8 aB ts v).2.1 (a8 aB ts v).2.2 r).2)
def bZ (aB ts:al):Sh→Sh×al×al
 | []=>([],aB,ts)
 | none::r=>(none::(bZ aB ts r).1,(bZ aB ts r).2)
 | some cs::r=>(some (aV aB ts cs).1::(bZ (aV aB ts cs).2.1 (aV aB ts cs).2.2 r).1,(bZ (aV aB ts cs).2.1 (aV aB ts cs).2.2 r).2)
def cf (aa:al) (xs:List AV) (sh:Sh):List AV×Sh×al×al:=
 ((aV aa [] xs).1,(bZ (aV aa [] xs).2.1 (aV aa [] xs).2.2 sh).1,(bZ (aV aa [] xs).2.1 (aV aa [] xs).2.2 sh).2.1,(bZ (aV aa [] xs).2.1 (aV aa [] xs).2.2 sh).2.2)
def im:AV→Bool
 | .own ..=>true
 | v=>bm v
def dO:List AV→Bool
 | []=>true
 | v::r=>im v && dO r
def a9:AV→Bool
 | .own ..=>true
 | .agg cs=>dO cs
 | v=>bm v
def fK (n:Nat):AV→AV
 | .own l τ=>.own l (τ+n)
 | v=>v
def bL (n:Nat):AV→AV
 | .own l τ=>.own l (τ+n)
 | .agg cs=>if bl.ee cs=true then .agg cs else .agg (cs.map (fK n))
 | v=>v
def ew (n:Nat) (sh:Sh):Sh:=sh.map fun o=>o.map fun cs=>cs.map (bL n)
def dc (own:List Nat):Nat→List AV→List AV
 | _,[]=>[]
 | i,v::r=>(if own.contains i then v else il v)::dc own (i+1) r
def cY (orc:dh) (g:Nat) (own:List Nat) (vals:List AV) (sh:Sh) (aa:al):Option (AV×Sh×al):=
 if (dc own 0 vals).all a9=true then
   (orc.i g (cf aa (dc own 0 vals) sh).1 (cf aa (dc own 0 vals) sh).2.1 (cf aa (dc own 0 vals) sh).2.2.2).map fun (rs,sh',ts)=>
     (kE (rs.map (bL aa.length)),ew aa.length sh',(cf aa (dc own 0 vals) sh).2.2.1++ts)
 else none
def bA (v:AV):List AV:=match v with
 | .cz l=>[.cz l]
 | .own l τ=>[.own l τ]
 | v=>match gQ [] v with | some p=>aE (.pv p) | none=>aE v
mutual
def pk:PV→PV→Bool
 | .bool a,.bool b=>a == b
 | .int k a,.int l b=>decide (k=l) && (a == b)
 | .str a,.str b=>a == b
 | .agg a,.agg b=>np a b
 | .aF a,.aF b=>np a b
 | _,_=>false
def np:List PV→List PV→Bool
 | [],[]=>true
 | a::r,b::q=>pk a b && np r q
 | _,_=>false
end
def HD:AV→AV→Bool
 | .pv a,.pv b=>pk a b
 | _,_=>false
def pn:List AV→List AV→Bool
 | [],[]=>true
 | a::r,b::q=>HD a b && pn r q
 | _,_=>false
def jZ:Sh→Sh→Bool
 | [],[]=>true
 | none::r,none::q=>jZ r q
 | some a::r,some b::q=>pn a b && jZ r q
 | _,_=>false
def II (sh:Sh):AV×Sh×al→Option Out
 | (v,sh',ts)=>if jZ sh' sh=true then some ⟨v,none,sh,ts⟩ else none
def exec (orc:dh) (op:AK) (vals:List AV) (cells:Option (List AV)) (sh:Sh) (aa:al):Option Out:=
 match op,vals with
 | .v o,vals=>(a6 o vals).map fun x=>⟨x,none,sh,aa⟩
 | .cq key off sz ag,[.bg d o]=>if d=key∧o=off then
     match cells with
     | some cs=>(bz ag sz cs off).map fun x=>⟨x,none,sh,aa⟩
     | none=>none
   else none
 | .bC key off sz,[.bg d o,v]=>if d=key∧o=off∧(aE v).length=sz∧(aE v).all aJ=true then
     match cells with
     | some cs=>if off+sz≤cs.length then some ⟨.un,some (aM cs off (aE v)),sh,aa⟩ else none
     | none=>none
   else none
 | .alloc key zero,[]=>match cells with
   | none=>some ⟨.bg key 0,some (zero.map a6.zeroCell),sh,aa⟩
   | some _=>none
 | .box key sz,[v]=>match cells with
   | none=>if (aE v).length=sz∧(aE v).all aJ=true then some ⟨.bg key 0,some (aE v),sh,aa⟩ else none
   | some _=>none
 | .dt sz ag,[p]=>match p with
   | .cS cs=>(bQ ag sz cs).map fun x=>⟨x,none,sh,aa⟩
   | .aO b off=>match sh[b]? with
     | some (some cs)=>if cK cs=true then none else (bz ag sz cs off).map fun x=>⟨x,none,sh,aa⟩
     | _=>none
   | _=>none
 | .df sz,[.aO b off,v]=>match sh[b]? with
   | some (some cs)=>
     let vs:=bA v
     if cK cs=false∧vs.length=sz∧off+sz≤cs.length∧vs.all bO=true∧vs.all (au (b+1))=true then
       some ⟨.un,none,sh.set b (some (aM cs off vs)),aa⟩ else none
   | _=>none
 | .iC sz,[.aO b off,v]=>match sh[b]? with
   | some (some cs)=>
     let vs:=aE v
     if cK cs=false∧vs.length=sz∧off+sz≤cs.length∧vs.all bO=true∧vs.all (au (b+1))=true then
       some ⟨.un,none,sh.set b (some (aM cs off vs)),aa⟩ else none
   | _=>none
 | .kA sz,[v]=>
   let vs:=bA v
   if vs.length=sz∧vs.all bO=true∧vs.all (au sh.length)=true then
     some ⟨.aO sh.length 0,none,sh++[some vs],aa⟩ else none
 | .ph sz,[v]=>
   let vs:=aE v
   if vs.length=sz∧vs.all bO=true∧vs.all (au sh.length)=true then
     some ⟨.aO sh.length 0,none,sh++[some vs],aa⟩ else none
 | .gn zero,[]=>some ⟨.aO sh.length 0,none,sh++[some (zero.map a6.zeroCell)],aa⟩
 | .i_ sz bytes ag zero,[.pv (.int _ n),.pv (.int _ n')]=>
   if n=n'∧0≤n∧n≤9223372036854775807∧n*bytes≤140737488355328∧zero.length=sz then
     some ⟨.aY sh.length sz n.toNat ag,none,sh++[some ((List.replicate n.toNat (zero.map .pv)).flatten)],aa⟩ else none
 | .fW key sz bytes zero,[.pv (.int _ n),.pv (.int _ n')]=>match cells with
   | none=>if n=n'∧0≤n∧n≤9223372036854775807∧n*bytes≤140737488355328∧zero.length=sz then
       some ⟨.gR key n.toNat,some ((List.replicate n.toNat (zero.map .pv)).flatten),sh,aa⟩ else none
   | some _=>none
 | .append sz bytes,[s,x]=>(aS sz bytes s x aa).map fun (v,ts)=>⟨v,none,sh,ts⟩
 | .dw sz bytes ag,[s,x]=>match bF x with
   | some xs=>if aQ sz xs=true then (pj sz bytes ag s xs sh aa).map fun (v,sh')=>⟨v,none,sh',aa⟩ else none
   | none=>none
 | .ek sz bytes,[s,x,e]=>match bF x with
   | some xs=>(sd sz bytes xs s e aa).map fun p=>⟨.pv p,none,sh,aa⟩
   | none=>none
 | .clone sz bytes,[x]=>(aS sz bytes (.cz []) x aa).map fun (v,ts)=>⟨v,none,sh,ts⟩
 | .iD sz bytes ag,[x]=>(ia (some ag) sz bytes x sh aa).map fun (v,sh',ts)=>⟨v,none,sh',ts⟩
 | .gp sz zero,[x]=>(ni sz zero sh (r_ sz x)).map fun sh'=>⟨.lr [],none,sh',aa⟩
 | .ja sz,[x,y]=>match bF y with
   | some xs=>(nj sz sh xs x).map fun (k,sh')=>⟨.pv (.int .i64 (k:Int)),none,sh',aa⟩
   | none=>none
 | .kB,[]=>some ⟨.d_ sh.length,none,sh++[some [.cT []]],aa⟩
 | .ij c ok zero,[m,k]=>match m,k with
   | .d_ s,.pv k=>match sh[s]? with
     | some (some [.cT kvs])=>(h_ c kvs k).map fun r=>⟨fY ok zero r,none,sh,aa⟩
     | _=>none
   | _,_=>none
 | .nf c,[m,k,v]=>match m,k with
   | .d_ s,.pv k=>match sh[s]?,gQ [] v with
     | some (some [.cT kvs]),some p=>(jm c kvs k p).map fun kvs'=>⟨.un,none,sh.set s (some [.cT kvs']),aa⟩
     | _,_=>none
   | _,_=>none
 | .aN g,vals=>match bY [] vals with
   | some cM=>(orc.p g cM).map fun rs=>⟨nk rs,none,sh,aa⟩
   | none=>none
 | .gq g,vals=>match bY sh vals with
   | some cM=>(orc.p g cM).map fun rs=>⟨nk rs,none,ct sh vals,aa⟩
   | none=>none
 | .bJ g own,vals=>(cY orc g own vals sh aa).map fun (v,sh',ts)=>⟨v,none,sh',ts⟩
 | .ik g,vals=>match bY [] vals with
   | some cM=>match orc.i g (cM.map .pv) [] [] with
     | some (rs,[],ts)=>some ⟨kE (rs.map (bL aa.length)),none,sh,aa++ts⟩
     | _=>none
   | none=>none
 | .dN,f::vals=>match f with
   | .fn g cap=>(cY orc g [] (vals++cap) sh aa).bind (II sh)
   | _=>none
 | .fC,f::vals=>match f with
   | .fn g cap=>(cY orc g [] (vals++cap) sh aa).map fun (v,sh',ts)=>⟨v,none,sh',ts⟩
   | _=>none
 | _,_=>none
def b_ (env:List (Nat×AV)):dL→Option AV
 | .t n=>look env n
 | .c v=>some v
def bc (env:List (Nat×AV)):List dL→Option (List AV)
 | []=>some []
 | x::r=>match b_ env x,bc env r with
   | some v,some vs=>some (v::vs)
   | _,_=>none
def a_ (env:List (Nat×AV)):Option (Nat×Bool)→Option Bool
 | none=>some true
 | some (t,b)=>match look env t with
   | some (.pv (.bool c))=>some (c == b)
   | some .un=>some false
   | _=>none
def dz (env:List (Nat×AV)):Option Nat→AV→List (Nat×AV)
 | some d,v=>bN env d v
 | none,_=>env
def dr (mem:List (Nat×List AV)):Option Nat→Option (List AV)→List (Nat×List AV)
 | some k,some cs=>bN mem k cs
 | _,_=>mem
def bj (orc:dh) (o:cr) (st:St):Option St:=
 match a_ st.env o.guard with
 | none=>none
 | some false=>some { st with env:=dz st.env o.dst .un }
 | some true=>
   match bc st.env o.args with
   | none=>none
   | some vals=>
     match exec orc o.op vals (o.op.key.bind (look st.mem)) st.sh st.aa with
     | none=>none
     | some out=>some { env:=dz st.env o.dst out.val,mem:=dr st.mem o.op.key out.cells,sh:=out.sh,aa:=out.aa }
def aW (orc:dh):List cr→St→Option St
 | [],st=>some st
 | o::r,st=>match bj orc o st with
   | none=>none
   | some st'=>aW orc r st'
def cZ (live:List Nat):AV→Bool
 | .bg d _=>live.contains d
 | .gR d _=>live.contains d
 | .own ..=>true
 | .agg cs=>ep cs
 | v=>bl v
def aX (live:List Nat) (env:List (Nat×AV)):List Nat→List (Nat×AV)
 | []=>[]
 | t::r=>match look env t with
   | some v=>if cZ live v=true then (t,v)::aX live env r else aX live env r
   | none=>aX live env r
def bf (mem:List (Nat×List AV)):List Nat→List (Nat×List AV)
 | []=>[]
 | t::r=>match look mem t with
   | some v=>(t,v)::bf mem r
   | none=>bf mem r
def restrict (live:List Nat) (st:St):St:=
 { st with env:=aX live st.env live,mem:=bf st.mem live }
def cA (aB ts:al):List (Nat×AV)→List (Nat×AV)×al×al
 | []=>([],aB,ts)
 | (t,v)::r=>((t,(a8 aB ts v).1)::(cA (a8 aB ts v).2.1 (a8 aB ts v).2.2 r).1,(cA (a8 aB ts v).2.1 (a8 aB ts v).2.2 r).2)
def dP (aB ts:al):List (Nat×List AV)→List (Nat×List AV)×al×al
 | []=>([],aB,ts)
 | (t,v)::r=>((t,(aV aB ts v).1)::(dP (aV aB ts v).2.1 (aV aB ts v).2.2 r).1,(dP (aV aB ts v).2.1 (aV aB ts v).2.2 r).2)
def norm (st:St):St:=
 { env:=(cA st.aa [] st.env).1,
   mem:=(dP (cA st.aa [] st.env).2.1 (cA st.aa [] st.env).2.2 st.mem).1,
   sh:=(bZ (dP (cA st.aa [] st.env).2.1 (cA st.aa [] st.env).2.2 st.mem).2.1 (dP (cA st.aa [] st.env).2.1 (cA st.aa [] st.env).2.2 st.mem).2.2 st.sh).1,
   aa:=(bZ (dP (cA st.aa [] st.env).2.1 (cA st.aa [] st.env).2.2 st.mem).2.1 (dP (cA st.aa [] st.env).2.1 (cA st.aa [] st.env).2.2 st.mem).2.2 st.sh).2.2 }
inductive aG where
 | normal | ret | exit (id:Nat)
 deriving Inhabited,DecidableEq
def dQ (f:St→Option (aG×St)) (pre:St→St):Nat→St→Option (aG×St)
 | 0,_=>none
 | n+1,st=>match f (pre st) with
   | some (.normal,st')=>dQ f pre n st'
   | r=>r
def po (sz:Nat) (ag:Bool) (el:PV):Option AV:=if (aH el).length=sz then bQ ag sz (aH el) else none
def gv (f:St→Option (aG×St)) (live:List Nat) (pi px sz:Nat) (ag:Bool) (env:List (Nat×AV)):List (PV×Nat)→St→Option (aG×St)
 | [],st=>some (.normal,{ st with env:=env })
 | (el,i)::r,st=>match po sz ag el with
   | none=>none
   | some v=>match f (norm (restrict live { st with env:=bN (bN env pi (.pv (.int .i64 i))) px v })) with
     | some (.normal,st')=>gv f live pi px sz ag env r st'
     | some (e,st')=>some (e,{ st' with env:=env })
     | none=>none
def andThen (f g:St→Option (aG×St)) (st:St):Option (aG×St):=match f st with
 | some (.normal,st')=>g st'
 | _=>none
def jK (live:List Nat) (env:List (Nat×AV)):List (Nat×AV):=(aX live env live).filter fun p=>bl p.2
def gw (f:St→Option (aG×St)) (v:Option AV) (gb pi px sz:Nat) (ag:Bool) (live:List Nat) (st:St):Option (aG×St):=
 match v with
 | some (.fn g [.aO s 0])=>if g=gb then
     match st.sh[s]? with
     | some (some [.pv (.aF l)])=>if l.length<4611686018427387904 then gv f live pi px sz ag (jK live st.env) l.zipIdx.reverse { st with sh:=kill st.sh [s] } else none
     | _=>none
   else none
 | _=>none
def j6:AV→AV
 | .cz l=>.pv (.aF l)
 | v=>v
def uX:AV→St→St
 | .aO b 0,st=>match st.sh[b]? with
   | some (some cs)=>{ st with sh:=st.sh.set b (some ((cs.take (cs.length / 2)).map j6++cs.drop (cs.length / 2))) }
   | _=>st
 | .bg d 0,st=>match look st.mem d with
   | some cs=>match cW st.sh cs with
     | some ps=>{ st with mem:=bN st.mem d (ps.map .pv),sh:=ct st.sh [.agg cs] }
     | none=>st
   | none=>st
 | _,st=>st
def kc:List Nat→St→St
 | [],st=>st
 | t::r,st=>match look st.env t with
   | some v=>match gQ st.sh v with
     | some p=>kc r { st with env:=bN st.env t (.pv p),sh:=ct st.sh [v] }
     | none=>kc r (uX v st)
   | none=>kc r st
def apart:Option AV→Option AV→Bool
 | some (.aO b _),some (.aO b' _)=>b != b'
 | _,_=>false
def eA (env:List (Nat×AV)):List (Nat×Nat)→Bool
 | []=>true
 | (a,b)::r=>apart (look env a) (look env b) && eA env r
def uY (d s sz n:Nat) (ag:Bool):AV→Option AV
 | .bg d' o=>some (if d'=d then .aO s o else .bg d' o)
 | .gR d' m=>if d'=d then (if m*sz≤n then some (.aY s sz m ag) else none) else some (.gR d' m)
 | v=>if cZ [] v=true then some v else none
def qJ (d s sz n:Nat) (ag:Bool) (env:List (Nat×AV)):List Nat→List (Nat×AV)
 | []=>[]
 | t::r=>match (look env t).bind (uY d s sz n ag) with
   | some v=>(t,v)::qJ d s sz n ag env r
   | none=>qJ d s sz n ag env r
def jg {α:Type} (d:Nat):List (Nat×α)→List (Nat×α)
 | []=>[]
 | (k,v)::r=>if k=d then jg d r else (k,v)::jg d r
def EE (d sz:Nat) (ag:Bool) (st:St):St:=match look st.mem d with
 | some cells=>if cells.all bO=true∧cells.all (au (st.sh.length+1))=true then
     { st with env:=qJ d st.sh.length sz cells.length ag st.env (st.env.map (·.1)),mem:=jg d st.mem,sh:=st.sh++[some cells] } else st
 | none=>st
def se:List (Nat×Nat×Bool)→St→St
 | [],st=>st
 | (d,sz,ag)::r,st=>se r (EE d sz ag st)
def j0 (b b':Nat):List Nat→List (Nat×AV)→List (Nat×AV)
 | [],env=>env
 | t::r,env=>match look env t with
   | some (.aY s z n ag)=>if s=b then j0 b b' r (bN env t (.aY b' z n ag)) else j0 b b' r env
   | _=>j0 b b' r env
def yV:List Nat→St→St
 | [],st=>st
 | t::r,st=>match look st.env t with
   | some (.aY b _ _ _)=>match st.sh[b]? with
     | some (some cells)=>if cK cells=false then { st with env:=j0 b st.sh.length (t::r) st.env,sh:=st.sh.set b none++[some cells] } else st
     | _=>st
   | _=>st
def gS:List Nat→St→St
 | [],st=>st
 | t::r,st=>match look st.env t with
   | some (.aY b _ _ _)=>match st.sh[b]? with
     | some (some cells)=>if cK cells=false∧(dq (.agg cells)).contains b=false then
         match cW st.sh cells with
         | some ps=>gS r { st with sh:=(ct st.sh [.agg cells]).set b (some (ps.map .pv)) }
         | none=>gS r st
       else gS r st
     | _=>gS r st
   | _=>gS r st
def bX (orc:dh) (k:Nat):aq→St→Option (aG×St)
 | .skip,st=>some (.normal,st)
 | .kb ops live,st=>match aW orc ops st with
   | some st'=>some (.normal,restrict live st')
   | none=>none
 | .seq a b,st=>match bX orc k a st with
   | some (.normal,st')=>bX orc k b st'
   | r=>r
 | .cond c a b,st=>match b_ st.env c with
   | some (.pv (.bool t))=>if t then bX orc k a st else bX orc k b st
   | _=>none
 | .block id b,st=>match bX orc k b st with
   | some (.exit id',st')=>if id'=id then some (.normal,st') else some (.exit id',st')
   | r=>r
 | .loop live b,st=>dQ (bX orc k b) (fun s=>norm (restrict live s)) k st
 | .exit id,st=>some (.exit id,st)
 | .ret,st=>some (.ret,st)
 | .back c gb pi px sz ag live x y,st=>gw (andThen (bX orc k x) (bX orc k y)) (b_ st.env c) gb pi px sz ag live st
 | .gQ ts,st=>some (.normal,kc ts st)
 | .F9 ds,st=>if eA st.env ds=true then some (.normal,st) else none
 | .jj ps,st=>some (.normal,se ps st)
 | .jk ts,st=>some (.normal,yV ts st)
 | .Gt ts,st=>some (.normal,gS ts st)
def bt:Nat→List AV→List (Nat×AV)
 | _,[]=>[]
 | i,v::r=>(i,v)::bt (i+1) r
def lZ (st:St):lx→Option AV
 | .t n=>look st.env n
 | .c key sz ag=>match look st.env key with
   | some (.bg d 0)=>match look st.mem key with
     | some cs=>if d=key then bz ag sz cs 0 else none
     | none=>none
   | some (.aO s 0)=>match st.sh[s]? with
     | some (some cs)=>if cK cs=true then none else bz ag sz cs 0
     | _=>none
   | _=>none
def dj (st:St):List lx→Option (List AV)
 | []=>some []
 | r::rs=>match lZ st r,dj st rs with
   | some v,some vs=>some (v::vs)
   | _,_=>none
def nq (sh:Sh) (v:AV):AV:=match gQ sh v with | some p=>.pv p | none=>v
def mN (sh:Sh) (v:AV):AV:=match v with
 | .cz l=>.cz l
 | v=>if aJ v=true then nq sh v else v
def nr (sh:Sh) (v:AV):AV:=match v with
 | .cz l=>.cz l
 | .own l τ=>.own l τ
 | .agg cs=>.agg (cs.map (mN sh))
 | v=>nq sh v
def bG (aD ks:Bool) (sh:Sh) (vs:List AV):List AV:=if aD then (if ks then vs else vs.map (nr sh)) else vs.map (nq sh)
def dH (aD ks:Bool) (sh:Sh) (vs:List AV):Sh:=if aD && ks then sh else ct sh vs
def bu (orc:dh) (k:Nat) (aD:Bool) (af:aw) (args:List AV) (sh:Sh) (ts:al):Option (List AV×Sh×al):=
 match bX orc k af.body { env:=bt 0 args,mem:=[],sh,aa:=ts } with
 | some (e,st)=>
   if e=.ret∨e=.normal then
     match dj st af.results with
     | some vs=>
       let rs:=bG aD af.ks st.sh vs
       let sh':=if rs.all (au sh.length)=true then (dH aD af.ks st.sh vs).take sh.length else dH aD af.ks st.sh vs
       if rs.all a9=true then some ((cf st.aa rs sh').1,(cf st.aa rs sh').2.1,(cf st.aa rs sh').2.2.2) else none
     | none=>none
   else none
 | none=>none
def dX:List AV→Option (List PV)
 | []=>some []
 | .pv p::r=>(dX r).map (p::·)
 | _=>none
def run (AP:Nat→Option aw) (k:Nat):Nat→dh
 | 0=>{ p:=fun _ _=>none,i:=fun _ _ _ _=>none }
 | n+1=>
   { p:=fun g cM=>match AP g with
       | some af=>match af.ng with
         | some f=>f.f (run AP k n).p cM
         | none=>if cM.length=af.nparams∧cM.length≤af.ntmps then
             match bu (run AP k n) k false af (cM.map .pv) [] [] with
             | some (rs,_)=>dX rs
             | none=>none
           else none
       | none=>none
     i:=fun g args sh ts=>match AP g with
       | some af=>if args.length≤af.ntmps then bu (run AP k n) k true af args sh ts else none
       | none=>none }
end Go.Ab
namespace Go.Ab
theorem EF {a b c:Prop} (h:a∨b) (f:b→c):a∨c:=h.elim .inl fun x=>.inr (f x)
abbrev aP:=Nat→Nat→Option Value
def At (K:aP) (b o:Nat) (vs:List Value):Prop:=∀j v,vs[j]?=some v→K b (o+j)=some v
mutual
def R (K:aP) (top:Bool):PV→List Value→Prop
 | .bool b,vs=>vs=[.bool b]
 | .int k n,vs=>vs=[.int k n]
 | .str s,vs=>vs=[.string ⟨s.toArray⟩]
 | .agg cs,vs=>top=true∧cg K cs vs
 | .aF els,vs=>∃base len cap,vs=[.slice base len cap]∧len≤cap∧els.length=len∧(els=[]∨∃b o sz,base=some ⟨b,o,none⟩∧Row K b o sz els)
def cg (K:aP):List PV→List Value→Prop
 | [],vs=>vs=[]
 | c::cs,vs=>∃v r,vs=v::r∧R K false c [v]∧cg K cs r
def Row (K:aP) (b o sz:Nat):List PV→Prop
 | []=>True
 | el::r=>(∃vs,vs.length=sz∧At K b o vs∧R K true el vs)∧Row K b (o+sz) sz r
end
def Rel (K:aP):PV→Value→Prop
 | .agg cs,v=>∃vs:List Value,v=.agg vs.toArray∧cg K cs vs
 | p,v=>R K false p [v]
def iq (K:aP):List PV→List Value→Prop
 | [],vs=>vs=[]
 | c::cs,vs=>∃v r,vs=v::r∧Rel K c v∧iq K cs r
def aP.le (K K':aP):Prop:=∀b o v,K b o=some v→K' b o=some v
theorem aP.le_refl (K:aP):K.le K:=fun _ _ _ h=>h
theorem aP.le_trans {a b c:aP} (h:a.le b) (k:b.le c):a.le c:=fun x y z w=>k x y z (h x y z w)
theorem At.mono {K K':aP} (h:K.le K') {b o:Nat} {vs:List Value} (ha:At K b o vs):At K' b o vs:=fun j v hj=>h _ _ _ (ha j v hj)
mutual
theorem R.mono {K K':aP} (h:K.le K'):∀(p:PV) (top:Bool) (vs:List Value),R K top p vs→R K' top p vs
 | .bool _,_,_,hr=>by simpa only [R] using hr
 | .int _ _,_,_,hr=>by simpa only [R] using hr
 | .str _,_,_,hr=>by simpa only [R] using hr
 | .agg cs,_,vs,hr=>by
   simp only [R] at hr ⊢
   exact ⟨hr.1,cg.mono h cs vs hr.2⟩
 | .aF els,_,vs,hr=>by
   simp only [R] at hr ⊢
   obtain ⟨base,len,cap,e1,e0,e2,e3⟩:=hr
   refine ⟨base,len,cap,e1,e0,e2,EF e3 ?_⟩
   rintro ⟨b,o,sz,e4,e5⟩
   exact ⟨b,o,sz,e4,Row.mono h els b o sz e5⟩
theorem cg.mono {K K':aP} (h:K.le K'):∀(cs:List PV) (vs:List Value),cg K cs vs→cg K' cs vs
 | [],_,hr=>by simpa only [cg] using hr
 | c::cs,vs,hr=>by
   simp only [cg] at hr ⊢
   obtain ⟨v,r,e1,e2,e3⟩:=hr
   exact ⟨v,r,e1,R.mono h c false [v] e2,cg.mono h cs r e3⟩
theorem Row.mono {K K':aP} (h:K.le K'):∀(els:List PV) (b o sz:Nat),Row K b o sz els→Row K' b o sz els
 | [],_,_,_,_=>by simp only [Row]
 | el::r,b,o,sz,hr=>by
   simp only [Row] at hr ⊢
   obtain ⟨⟨vs,e1,e2,e3⟩,e4⟩:=hr
   exact ⟨⟨vs,e1,e2.mono h,R.mono h el true vs e3⟩,Row.mono h r b (o+sz) sz e4⟩
end
theorem Rel.mono {K K':aP} (h:K.le K') {p:PV} {v:Value} (hr:Rel K p v):Rel K' p v:=by
 cases p with
 | agg cs=>obtain ⟨vs,e1,e2⟩:=hr;exact ⟨vs,e1,cg.mono h _ _ e2⟩
 | _=>exact R.mono h _ _ _ hr
theorem iq.mono {K K':aP} (h:K.le K'):∀{cs:List PV} {vs:List Value},iq K cs vs→iq K' cs vs
 | [],_,hr=>hr
 | _::_,_,⟨v,r,e1,e2,e3⟩=>⟨v,r,e1,e2.mono h,iq.mono h e3⟩
theorem cg.length {K:aP}:∀{cs:List PV} {vs:List Value},cg K cs vs→vs.length=cs.length
 | [],_,hr=>by simp only [cg] at hr;simp [hr]
 | _::cs,_,hr=>by
   simp only [cg] at hr
   obtain ⟨v,r,rfl,_,e3⟩:=hr
   simp [cg.length e3]
theorem iq.length {K:aP}:∀{cs:List PV} {vs:List Value},iq K cs vs→vs.length=cs.length
 | [],_,hr=>by cases hr;rfl
 | _::_,_,⟨v,r,rfl,_,e3⟩=>by simp [iq.length e3]
theorem R.length {K:aP} {p:PV} {vs:List Value} (h:R K true p vs):vs.length=(aH p).length:=by
 cases p with
 | agg cs=>simp only [R] at h;simp [aH,h.2.length]
 | aF els=>simp only [R] at h;obtain ⟨b,l,c,rfl,_⟩:=h;rfl
 | _=>simp only [R] at h;subst h;rfl
theorem R.cells {K:aP} {p:PV} {vs:List Value} (h:R K true p vs):cg K (aH p) vs:=by
 cases p with
 | agg cs=>simp only [R] at h;exact h.2
 | aF els=>
   have h':=h
   simp only [R] at h;obtain ⟨b,l,c,rfl,e⟩:=h
   simp only [aH,cg]
   exact ⟨_,[],rfl,by simp only [R];exact ⟨b,l,c,rfl,e⟩,rfl⟩
 | _=>simp only [R] at h;subst h;simp [aH,cg,R]
theorem R.top {K:aP} {p:PV} {vs:List Value} (h:R K false p vs):R K true p vs:=by
 cases p with
 | agg cs=>simp [R] at h
 | _=>simp only [R] at h ⊢;exact h
theorem cg.get {K:aP}:∀{cs:List PV} {vs:List Value},cg K cs vs→∀{j:Nat} {c:PV},cs[j]?=some c→∃v,vs[j]?=some v∧R K false c [v]
 | [],_,_,j,c,hc=>by simp at hc
 | c0::cs,vs,h,j,c,hc=>by
   simp only [cg] at h
   obtain ⟨v,r,rfl,e2,e3⟩:=h
   cases j with
   | zero=>simp at hc;subst hc;exact ⟨v,by simp,e2⟩
   | succ j=>simpa using cg.get e3 (by simpa using hc)
theorem cg.drop {K:aP}:∀(n:Nat) {cs:List PV} {vs:List Value},cg K cs vs→cg K (cs.drop n) (vs.drop n)
 | 0,_,_,h=>by simpa using h
 | n+1,[],_,h=>by simp only [cg] at h;subst h;simp [cg]
 | n+1,_::cs,_,h=>by
   simp only [cg] at h
   obtain ⟨v,r,rfl,_,e3⟩:=h
   simpa using cg.drop n e3
theorem cg.take {K:aP}:∀(n:Nat) {cs:List PV} {vs:List Value},cg K cs vs→cg K (cs.take n) (vs.take n)
 | 0,_,_,_=>by simp [cg]
 | n+1,[],_,h=>by simp only [cg] at h;subst h;simp [cg]
 | n+1,_::cs,_,h=>by
   simp only [cg] at h
   obtain ⟨v,r,rfl,e2,e3⟩:=h
   simp only [List.take_succ_cons,cg]
   exact ⟨v,_,rfl,e2,cg.take n e3⟩
theorem cg.append {K:aP}:∀{cs:List PV} {vs:List Value} {ds:List PV} {us:List Value},cg K cs vs→cg K ds us→cg K (cs++ds) (vs++us)
 | [],_,_,_,h,k=>by simp only [cg] at h;subst h;simpa using k
 | _::cs,_,_,_,h,k=>by
   simp only [cg] at h
   obtain ⟨v,r,rfl,e2,e3⟩:=h
   simp only [List.cons_append,cg]
   exact ⟨v,_,rfl,e2,cg.append e3 k⟩
theorem Row.get {K:aP}:∀{els:List PV} {b o sz:Nat},Row K b o sz els→∀{i:Nat} {el:PV},els[i]?=some el →
   ∃vs,vs.length=sz∧At K b (o+i*sz) vs∧R K true el vs
 | [],_,_,_,_,i,el,h=>by simp at h
 | e0::r,b,o,sz,hr,i,el,h=>by
   simp only [Row] at hr
   obtain ⟨e1,e2⟩:=hr
   cases i with
   | zero=>simp at h;subst h;simpa using e1
   | succ i=>
     obtain ⟨vs,h1,h2,h3⟩:=Row.get e2 (i:=i) (by simpa using h)
     exact ⟨vs,h1,by rw [show o+(i+1)*sz=o+sz+i*sz from by rw [Nat.add_mul];omega];exact h2,h3⟩
theorem cg.one {K:aP}:∀{cs:List PV} {vs:List Value},cg K cs vs→∀u∈vs,u.oneCell'=true
 | [],_,h,u,hu=>by simp only [cg] at h;subst h;simp at hu
 | c::cs,_,h,u,hu=>by
   simp only [cg] at h
   obtain ⟨v,r,rfl,e2,e3⟩:=h
   simp only [List.mem_cons] at hu
   rcases hu with rfl | hu
   · cases c with
     | agg _=>simp [R] at e2
     | aF _=>simp only [R] at e2;obtain ⟨b,l,c,e,_⟩:=e2;simp at e;subst e;rfl
     | _=>simp [R] at e2;subst e2;rfl
   · exact cg.one e3 u hu
theorem Row.flat {K:aP}:∀{els:List PV} {b o sz:Nat},Row K b o sz els →
   ∃vss:List Value,vss.length=els.length*sz∧At K b o vss∧(∀(K':aP) (b' o':Nat),K.le K'→At K' b' o' vss→Row K' b' o' sz els)∧∀u∈vss,u.oneCell'=true
 | [],b,o,sz,_=>⟨[],by simp,by intro j v h;simp at h,by intros;simp only [Row],by simp⟩
 | el::r,b,o,sz,hr=>by
   simp only [Row] at hr
   obtain ⟨⟨vs,h1,h2,h3⟩,h4⟩:=hr
   obtain ⟨vss,g1,g2,g3,g4⟩:=Row.flat h4
   refine ⟨vs++vss,by simp [h1,g1,Nat.add_mul];omega,?_,?_,?_⟩
   · intro j v hj
     rw [List.getElem?_append] at hj
     split at hj
     · exact h2 j v hj
     · have:=g2 _ v hj
       rw [h1] at this
       rwa [show o+sz+(j-sz)=o+j from by omega] at this
   · intro K' b' o' hle ha
     simp only [Row]
     refine ⟨⟨vs,h1,?_,R.mono hle _ _ _ h3⟩,?_⟩
     · intro j v hj
       exact ha j v (by rw [List.getElem?_append_left];exact hj;exact (List.getElem?_eq_some_iff.1 hj).1)
     · refine g3 K' b' (o'+sz) hle ?_
       intro j v hj
       have:=ha (sz+j) v (by rw [List.getElem?_append_right (by omega),h1];simpa using hj)
       rwa [show o'+sz+j=o'+(sz+j) from by omega]
   · intro u hu
     simp only [List.mem_append] at hu
     rcases hu with hu | hu
     · exact cg.one h3.cells u hu
     · exact g4 u hu
theorem Row.append {K:aP}:∀{els:List PV} {b o sz:Nat} {els':List PV},Row K b o sz els→Row K b (o+els.length*sz) sz els'→Row K b o sz (els++els')
 | [],_,_,_,_,_,k=>by simpa using k
 | el::r,b,o,sz,els',h,k=>by
   simp only [Row,List.cons_append] at h ⊢
   refine ⟨h.1,Row.append h.2 ?_⟩
   rw [show o+sz+r.length*sz=o+(el::r).length*sz from by simp [Nat.add_mul];omega]
   exact k
theorem Row.drop {K:aP}:∀(n:Nat) {els:List PV} {b o sz:Nat},Row K b o sz els→Row K b (o+n*sz) sz (els.drop n)
 | 0,_,_,_,_,h=>by simpa using h
 | n+1,[],_,_,_,_=>by simp only [List.drop_nil,Row]
 | n+1,el::r,b,o,sz,h=>by
   simp only [Row] at h
   simp only [List.drop_succ_cons]
   rw [show o+(n+1)*sz=o+sz+n*sz from by rw [Nat.add_mul];omega]
   exact Row.drop n h.2
theorem Row.take {K:aP}:∀(n:Nat) {els:List PV} {b o sz:Nat},Row K b o sz els→Row K b o sz (els.take n)
 | 0,_,_,_,_,_=>by simp only [List.take_zero,Row]
 | n+1,[],_,_,_,_=>by simp only [List.take_nil,Row]
 | n+1,el::r,b,o,sz,h=>by
   simp only [Row] at h
   simp only [List.take_succ_cons,Row]
   exact ⟨h.1,Row.take n h.2⟩
theorem Row.sz {K:aP} {els:List PV} {b o sz s:Nat} (h:Row K b o sz els) (hs:aQ s els=true) (hne:els≠[]):s=sz:=by
 cases els with
 | nil=>exact absurd rfl hne
 | cons el r=>
   simp only [Row] at h
   obtain ⟨⟨vs,h1,_,h3⟩,_⟩:=h
   have:=h3.length
   simp [aQ] at hs
   omega
def F_ (K:aP) (els:List PV) (base:Option Addr) (len:Nat):Prop:=
 els.length=len∧(els=[]∨∃b o sz,base=some ⟨b,o,none⟩∧Row K b o sz els)
theorem F_.mono {K K':aP} (h:K.le K') {els:List PV} {base:Option Addr} {len:Nat} (hr:F_ K els base len):F_ K' els base len:=
 ⟨hr.1,EF hr.2 fun ⟨b,o,sz,e,r⟩=>⟨b,o,sz,e,Row.mono h _ _ _ _ r⟩⟩
theorem a7 {K:aP} {els:List PV} {v:Value}:Rel K (.aF els) v↔∃base len cap,v=.slice base len cap∧len≤cap∧F_ K els base len:=by
 simp only [Rel,R,F_]
 constructor
 · rintro ⟨b,l,c,e,h⟩;exact ⟨b,l,c,by simpa using e,h⟩
 · rintro ⟨b,l,c,e,h⟩;exact ⟨b,l,c,by simpa using e,h⟩
theorem Cc {K:aP} {p:PV} {v:Value} (h:e_ p=true):Rel K p v↔R K false p [v]:=by
 cases p with
 | agg cs=>simp [e_] at h
 | _=>exact Iff.rfl
theorem Rel.Cd {K:aP} {p:PV} {v:Value} (h:R K false p [v]):Rel K p v:=by
 cases p with
 | agg cs=>simp [R] at h
 | _=>exact h
end Go.Ab
namespace Go.Ab
structure gm where
 jh:List (Nat×Nat×Nat)
 F':List Nat
 ps:List Nat
 live:List (Nat×List Nat)
 loops:List (Nat×List Nat)
 site:List Nat
 own:List (Nat×List Nat)
 yn:List (Nat×Nat):=[]
 ks:Bool:=false
 q:List Nat:=[]
 IJ:List Nat:=[]
 fz:List (Nat×List Nat):=[]
 dup:List (Nat×Nat):=[]
 ro:List Nat:=[]
 IK:List (Nat×List (Nat×Nat)):=[]
 jj:List (Nat×List (Nat×Nat×Bool)):=[]
 pr:List (Nat×List (Nat×Nat×Nat)):=[]
 cut:List (Nat×Nat×List Nat×List Nat):=[]
 fs:List (Nat×List Nat):=[]
 kp:List Nat:=[]
 Jv:List Nat:=[]
def gm.at (A:gm) (id:Nat):gm:=match look A.pr id with
 | some l=>{ A with jh:=l++A.jh }
 | none=>A
structure Names where
 g:List (Nat×Nat)
 Jw:List Nat
 bk:List (Nat×Nat×Bool):=[]
 cl:List (Nat×Nat×Nat):=[]
 jo:Nat→Option (Array Value):=fun _=>none
def Names.of (ρ:Names) (f:Nat):Option Nat:=look ρ.g f
def bw (P:Program) (t:TypeId):Option Nat:=(P.info? t).map (·.size)
def cN (P:Program) (t:TypeId):Option Nat:=(P.info? t).map (·.bytes)
def eD (P:Program) (t:TypeId):Option Bool:=(P.underlying t).map fun | .struct _ | .array ..=>true | _=>false
def ck:Value→Option PV
 | .bool b=>some (.bool b)
 | .int k n=>some (.int k n)
 | .string s=>some (.str s.data.toList)
 | .slice none 0 0=>some (.aF [])
 | _=>none
def bB {α β:Type} (f:α→Option β):List α→Option (List β)
 | []=>some []
 | x::r=>match f x,bB f r with
   | some y,some ys=>some (y::ys)
   | _,_=>none
def uZ (v:Value):Option AV:=
 match v with
 | .slice none 0 0=>some (.cz [])
 | .pointer none=>some .eN
 | .nilFunc=>some .eN
 | .agg cs=>(bB ck cs.toList).map fun l=>.pv (.agg l)
 | v=>(ck v).map .pv
def bn (P:Program) (t:TypeId):Option (List PV):=
 match (P.info? t).bind (·.zero) with
 | some z=>bB ck z.cells.toList
 | none=>none
def cO (ρ:Names):Operand→Option dL
 | .tmp t=>some (.t t)
 | .const v=>(uZ v).map .c
 | .func f=>(ρ.of f).map fun g=>.c (.fn g [])
 | .global _=>none
def c_ (P:Program) (t:TypeId):Option TypeId:=match P.underlying t with | some (.slice e)=>some e | _=>none
def gz (P:Program) (t:TypeId) (f:Nat):Option Field:=match P.underlying t with | some (.struct fs)=>fs[f]? | _=>none
def eP (P:Program) (t:TypeId):Option CK:=if bw P t=some 1 then match P.underlying t with
 | some (.int _)=>some .int
 | some .string=>some .str
 | some .bool=>some .bool
 | _=>none
 else none
def fh (P:Program):Nat→List Field→Option (List CK)
 | _,[]=>some []
 | i,f::r=>if f.name ≠ "_"∧f.offset=i then match eP P f.type,fh P (i+1) r with
   | some c,some cs=>some (c::cs)
   | _,_=>none
   else none
def zeroOf (P:Program) (t:TypeId):Option PV:=match (P.info? t).bind (·.zero) with
 | some (.agg cs)=>(bB ck cs.toList).map .agg
 | some v=>ck v
 | none=>none
def yo (P:Program) (op:BinOp) (t:TypeId):Option ED:=
 match P.underlying t with
 | some (.int _) | some .string=>some (.bin op)
 | some .bool=>if op=.eql then some (.beq false) else if op=.neq then some (.beq true) else none
 | some (.struct fs)=>if P.stoodInHeld t=false∧P.eqGuardType P.depth t=false then match fh P 0 fs.toList with
     | some cs=>if op=.eql then some (.HB cs false) else if op=.neq then some (.HB cs true) else none
     | none=>none
   else none
 | _=>none
def fieldsOf (P:Program) (t:TypeId):Option (List (Nat×Nat)):=
 match P.underlying t with
 | some (.struct fs)=>bB (fun f=>(bw P f.type).map fun s=>(f.offset,s)) fs.toList
 | _=>none
def placesOf (P:Program) (t:TypeId) (is:List Nat):Option (List (Nat×Nat)):=
 match fieldsOf P t with
 | some all=>bB (fun i=>all[i]?) is
 | none=>none
def mT:Nat→List (Nat×Operand)→Bool
 | _,[]=>true
 | i,(j,_)::r=>i == j && mT (i+1) r
def aU (P:Program) (ρ:Names) (A:gm) (dst:Option Nat):Op→Option (AK×List Operand)
 | .move x | .assign x=>some (.v .mv,[x])
 | .pick c a b=>some (.v .pick,[c,a,b])
 | .binOp op t x y _=>(yo P op t).map fun o=>(.v o,[x,y])
 | .unOp op _ x=>some (.v (.un op),[x])
 | .convert s d x=>match P.underlying s,P.underlying d with
   | some (.int _),some (.int k)=>some (.v (.conv k),[x])
   | some (.slice e),some .string=>match P.underlying e with
     | some (.int .u8)=>some (.v .b2s,[x])
     | _=>none
   | _,_=>none
 | .extract x i=>some (.v (.ext i),[x])
 | .field t x f=>match gz P t f with
   | some fd=>match bw P fd.type,eD P fd.type with
     | some sz,some ag=>some (.v (.field fd.offset sz ag),[x])
     | _,_=>none
   | none=>none
 | .fieldAddr t x f=>match gz P t f with
   | some fd=>match bw P fd.type with
     | some s=>if s=0 then none else some (.v (.fw fd.offset),[x])
     | none=>none
   | none=>none
 | .indexAddr t x i=>match c_ P t with
   | some e=>(bw P e).map fun sz=>(.v (.e8 sz),[x,i])
   | none=>none
 | .index t x i=>match P.underlying t with
   | some .string=>some (.v .index,[x,i])
   | _=>none
 | .build t ps=>match P.underlying t with
   | some (.struct _)=>match bn P t,placesOf P t (ps.toList.map (·.1)) with
     | some z,some pl=>some (.v (.build z pl),ps.toList.map (·.2))
     | _,_=>none
   | _=>none
 | .buildSlice t n ps=>match c_ P t with
   | some e=>match bw P e,bn P e with
     | some sz,some _=>if ps.size=n∧mT 0 ps.toList=true∧0<sz∧n*sz≤16777216 then some (.v (.cJ sz),ps.toList.map (·.2)) else none
     | _,_=>none
   | none=>none
 | .load t x=>match bw P t,eD P t with
   | some sz,some ag=>match x with
     | .tmp tx=>match look A.jh tx with
       | some (k,o)=>some (.cq k o sz ag,[x])
       | none=>if A.F'.contains tx then some (.dt sz ag,[x]) else some (.v (.e9 sz ag),[x])
     | _=>none
   | _,_=>none
 | .store t x v=>match bw P t,x with
   | some sz,.tmp tx=>match look A.jh tx with
     | some (k,o)=>some (.bC k o sz,[x,v])
     | none=>if A.kp.contains tx=true then some (.iC sz,[x,v]) else some (.df sz,[x,v])
   | _,_=>none
 | .alloc t=>match bn P t,dst with
   | some z,some d=>match look A.jh d with
     | some (k,0)=>if k=d then some (.alloc d z,[]) else none
     | some _=>none
     | none=>some (.gn z,[])
   | _,_=>none
 | .box t x=>match bw P t,dst with
   | some sz,some d=>match look A.jh d with
     | some (k,0)=>if k=d then some (.box d sz,[x]) else none
     | some _=>none
     | none=>if A.kp.contains d=true then some (.ph sz,[x]) else some (.kA sz,[x])
   | _,_=>none
 | .makeMap _ r=>if r.isNone=true then some (.kB,[]) else none
 | .lookup t x i ok=>match P.underlying t with
   | some (.map k e)=>match eP P k,zeroOf P e with
     | some c,some z=>some (.ij c ok z,[x,i])
     | _,_=>none
   | _=>none
 | .mapUpdate t m i x | .insert t m i x=>match P.underlying t with
   | some (.map k _)=>(eP P k).map fun c=>(.nf c,[m,i,x])
   | _=>none
 | .nilCheck x=>some (.v .lu,[x])
 | .makeFunc fn first cap=>match fn with
   | .func f=>if first.size=0 then (ρ.of f).map fun g=>(.v (.r9 g),cap.toList) else none
   | _=>none
 | .makeSlice t l c=>match c_ P t with
   | some e=>match bw P e,cN P e,eD P e,bn P e with
     | some sz,some by_,some ag,some z=>if z.length=sz∧0<sz then match dst.bind (look A.jh),dst with
         | some (k,0),some d=>if k=d then some (.fW d sz by_ z,[l,c]) else none
         | some _,_=>none
         | none,_=>some (.i_ sz by_ ag z,[l,c])
       else none
     | _,_,_,_=>none
   | none=>none
 | .slice t x lo hi mx=>match P.underlying t with
   | some (.slice e)=>if mx.isSome=false∧(dst.map (A.IJ.contains ·)).getD false=true then (bw P e).map fun sz=>(.v (.uW sz lo.isSome hi.isSome),x::(lo.toList++hi.toList++mx.toList))
     else (bw P e).map fun sz=>(.v (.slice false sz lo.isSome hi.isSome mx.isSome),x::(lo.toList++hi.toList++mx.toList))
   | some .string=>if mx.isSome then none else some (.v (.slice true 0 lo.isSome hi.isSome false),x::(lo.toList++hi.toList++mx.toList))
   | _=>none
 | .call c=>match c.callee with
   | .builtin .len=>match c.args.toList,(c.argTypes[0]?).bind P.underlying with
     | [x],some (.slice _)=>some (.v .len,[x])
     | [x],some .string=>some (.v .uV,[x])
     | _,_=>none
   | .builtin .min=>match c.args.toList with
     | [x,y]=>some (.v .mn,[x,y])
     | _=>none
   | .builtin .max=>match c.args.toList with
     | [x,y]=>some (.v .mx,[x,y])
     | _=>none
   | .builtin .append=>match c.args.toList,(c.argTypes[0]?).bind (c_ P),(c.argTypes[1]?).bind (c_ P) with
     | [x,y],some e,some _=>match bw P e,cN P e,bn P e with
       | some sz,some by_,some z=>if z.length=sz∧0<sz∧0<by_ then
           if (dst.map (A.IJ.contains ·)).getD false then (eD P e).map fun ag=>(.dw sz by_ ag,[x,y]) else match dst.bind (look A.dup) with
             | some u=>some (.ek sz by_,[x,y,.tmp u])
             | none=>some (.append sz by_,[x,y])
         else none
       | _,_,_=>none
     | _,_,_=>none
   | .builtin .clear=>match c.args.toList,(c.argTypes[0]?).bind (c_ P) with
     | [x],some e=>match bw P e,bn P e with
       | some sz,some z=>if z.length=sz∧0<sz then some (.gp sz z,[x]) else none
       | _,_=>none
     | _,_=>none
   | .builtin .copy=>match c.args.toList,(c.argTypes[0]?).bind (c_ P),(c.argTypes[1]?).bind (c_ P) with
     | [x,y],some e,some _=>match bw P e with
       | some sz=>some (.ja sz,[x,y])
       | none=>none
     | _,_,_=>none
   | .value (.func f)=>match ρ.of f with
     | some g=>match look ρ.cl g with
       | some (sz,by_)=>if c.args.size=1 then
           (if (dst.map (A.IJ.contains ·)).getD false=true then match (c.argTypes[0]?).bind (c_ P) with
             | some e=>(eD P e).map fun ag=>(.iD sz by_ ag,c.args.toList)
             | none=>none
           else some (.clone sz by_,c.args.toList)) else none
       | none=>if (dst.map (A.q.contains ·)).getD false then some (.ik g,c.args.toList)
       else if ρ.Jw.contains g || (dst.map (A.site.contains ·)).getD false then some (.bJ g ((dst.bind (look A.own)).getD []),c.args.toList)
       else if (dst.map (A.ps.contains ·)).getD false then some (.gq g,c.args.toList) else some (.aN g,c.args.toList)
     | none=>none
   | .value (.tmp t)=>if (dst.map (A.ro.contains ·)).getD false=true then some (.dN,.tmp t::c.args.toList) else some (.fC,.tmp t::c.args.toList)
   | _=>none
 | _=>none
def bH (P:Program) (ρ:Names) (A:gm) (N:Nat) (ops:Array Oper) (o:Oper):Option cr:=
 match aU P ρ A o.dst o.op with
 | some (k,args)=>match bB (cO ρ) args with
   | some as=>
     if (o.dst.map (fun d=>decide (d<N))).getD true=true then
       match o.guard with
       | none=>some { dst:=o.dst,guard:=none,args:=as,op:=k }
       | some (j,b)=>match (ops[j]?).bind (·.dst) with
         | some t=>some { dst:=o.dst,guard:=some (t,b),args:=as,op:=k }
         | none=>none
     else none
   | none=>none
 | none=>none
def cr.looks (o:cr):List Nat:=
 (o.args.filterMap fun | .t n=>some n | _=>none)++(match o.guard with | some (t,_)=>[t] | none=>[])
def AK.fM:AK→Bool
 | .dt .. | .df _ | .iC _ | .kA _ | .ph _ | .gn _ | .i_ .. | .gq _ | .bJ .. | .fC | .dN | .kB | .ij .. | .nf _ | .dw .. | .iD .. | .gp .. | .ja _=>true
 | _=>false
def AK.pQ:AK→Bool
 | .dt .. | .ij .. | .dN=>true
 | _=>false
def AK.dY:AK→Bool
 | .append .. | .dw .. | .ek .. | .clone .. | .bJ .. | .ik _ | .fC | .dN=>true
 | _=>false
def AK.fp:AK→Bool
 | .bC .. | .alloc .. | .box .. | .fW ..=>true
 | _=>false
def indep (x y:cr):Bool:=
 (match x.dst with | some d=>!(y.looks).contains d && y.dst != some d | none=>true) &&
 (match y.dst with | some d=>!(x.looks).contains d | none=>true) &&
 (!(x.op.fM && y.op.fM) || (x.op.pQ && y.op.pQ)) && !(x.op.dY && y.op.dY) &&
 (match x.op.key,y.op.key with
  | some a,some b=>a != b || !(x.op.fp || y.op.fp)
  | _,_=>true)
def cr.addr (o:cr):Option Nat:=match o.op,o.args with
 | .dt ..,.t a::_ | .df _,.t a::_=>some a
 | _,_=>none
def sf (ds:List (Nat×Nat)) (x y:cr):Bool:=
 (match x.dst with | some d=>!(y.looks).contains d && y.dst != some d | none=>true) &&
 (match y.dst with | some d=>!(x.looks).contains d | none=>true) &&
 (match x.addr,y.addr with
  | some a,some b=>ds.contains (a,b)
  | _,_=>false)
def qK:List cr→Bool
 | []=>true
 | x::r=>(match x.addr with | some a=>(x::r).all (fun o=>o.dst != some a) | none=>true) && qK r
def jq:List Oper→List Nat→List Nat
 | [],acc=>acc
 | o::r,acc=>jq r (acc++[o.after.toList.foldl (fun s e=>if Region.binds .any e then s ||| 2 ^ e.on ||| acc.getD e.on 0 else s) 0])
def mU (ds:List (Nat×Nat)) (ms:List Nat) (i:Nat) (x:cr):Nat→List cr→Bool
 | _,[]=>true
 | j,y::r=>((ms.getD j 0).testBit i || indep x y || sf ds x y) && mU ds ms i x (j+1) r
def jr (ds:List (Nat×Nat)) (ms:List Nat):Nat→List cr→Bool
 | _,[]=>true
 | i,x::r=>mU ds ms i x (i+1) r && jr ds ms (i+1) r
def dV:Nat→List Oper→Bool
 | _,[]=>true
 | i,o::r=>o.after.toList.all (fun e=>!Region.binds .any e || decide (e.on<i)) && dV (i+1) r
def lz (ds:List (Nat×Nat)) (ops:List Oper) (as:List cr):Bool:=dV 0 ops && (jr ds (jq ops []) 0 as && qK as)
def gA:Code→Option Nat
 | .region id _ _=>some id
 | .seq a b | .cond _ a b=>match gA a with | some i=>some i | none=>gA b
 | .block _ c | .loop c | .scope c=>gA c
 | _=>none
def aq.dB:aq→Bool
 | .seq a b | .cond _ a b=>a.dB && b.dB
 | .block _ b | .loop _ b=>b.dB
 | .back ..=>false
 | _=>true
def gU (o:Option (List Nat)) (c:aq):aq:=match o with
 | some ts=>.seq (.gQ ts) c
 | none=>c
def mV (o:Option (List Nat)) (c:aq):aq:=match o with
 | some ts=>.seq (.Gt ts) c
 | none=>c
def u_ (o:Option (Nat×List Nat×List Nat)) (as:List cr) (live:List Nat):aq:=match o with
 | some (k,l,ts)=>.seq (.kb (as.take k) l) (.seq (.jk ts) (.kb (as.drop k) live))
 | none=>.kb as live
def behind (ds:Option (List (Nat×Nat))) (ps:Option (List (Nat×Nat×Bool))) (c:aq):aq:=
 let c1:=match ds with
   | some ds=>.seq c (.F9 ds)
   | none=>c
 match ps with
 | some ps=>.seq c1 (.jj ps)
 | none=>c1
def yp (o:cr):Option (Nat×Nat×Nat×Bool):=match o.op,o.dst,o.guard,o.args with
 | .dt sz ag,some d,none,[.t a]=>some (d,a,sz,ag)
 | _,_,_,_=>none
def Gu (o:cr):Option (Nat×Nat):=match o.op,o.dst,o.guard,o.args with
 | .v .len,some d,none,[.t a]=>some (d,a)
 | _,_,_,_=>none
def IL (o:cr):Option (Nat×List PV×Nat):=match o.op,o.dst,o.guard,o.args with
 | .v (.cJ sz),some d,none,[.c (.pv (.agg zs))]=>some (d,zs,sz)
 | _,_,_,_=>none
def Gv (o:cr):Option (Nat×Nat×Nat×Nat×Nat):=match o.op,o.dst,o.guard,o.args with
 | .append sz by_,some d,none,[.t s,.t z]=>some (d,s,z,sz,by_)
 | _,_,_,_=>none
def IM (o:cr):Option (Nat×Nat×Nat):=match o.op,o.dst,o.guard,o.args with
 | .df sz,none,none,[.t c,.t v]=>some (c,v,sz)
 | _,_,_,_=>none
def Gw (o:Oper):Option (Nat×Nat×Nat×Nat):=match o.op,o.dst,o.guard with
 | .indexAddr t (.tmp v) (.tmp l),some p,none=>some (p,t,v,l)
 | _,_,_=>none
def Gx (o:Oper):Option (Nat×Nat×Nat):=match o.op,o.dst,o.guard with
 | .store te (.tmp p) (.tmp x),none,none=>some (te,p,x)
 | _,_,_=>none
def va:List Nat→Bool
 | []=>true
 | x::r=>!r.contains x && va r
def Gy (P:Program) (ρ:Names) (A:gm) (N:Nat) (ops:Array Oper):Option (Nat×Nat×List cr):=
 match ops.toList with
 | [o0,o1,o2,o3,o4,o5,o6,o7]=>
   match bB (bH P ρ A N #[o0,o1,o2,o3]) [o0,o1,o2,o3],bH P ρ A N ops o4,bH P ρ A N ops o7 with
   | some [b0,b1,b2,b3],some b4,some b7=>
     match yp b0,yp b1,Gu b2,IL b3 with
     | some (s,_,_,_),some (x,_,sz,_),some (l,s1),some (z,zs,sz1)=>
       match Gv b4,IM b7,Gw o5,Gx o6 with
       | some (v,s2,z1,sz2,_),some (c,v1,_),some (p,t,v2,l1),some (te,p1,x1)=>
         if ([s,s,z,sz,sz,sz,v,v,l,p,x] == [s1,s2,z1,sz1,sz2,zs.length,v1,v2,l1,p1,x1] && decide (p<N) && va [s,x,l,z,v,p,c] && (c_ P t).bind (bw P) == some sz && bw P te == some sz) &&
           lz [] [o0,o1,o2,o3] [b0,b1,b2,b3] &&
           ([o4,o5,o6,o7].all fun o=>[0,1,2,3].all fun i=>o.after.toList.any fun e=>Region.binds .any e && e.on == i) &&
           (Region.ready .any ops #[true,true,true,true,false,false,false,false] == [4] &&
            Region.ready .any ops #[true,true,true,true,true,false,false,false] == [5,7] &&
            Region.ready .any ops #[true,true,true,true,true,true,false,false] == [6,7] &&
            Region.ready .any ops #[true,true,true,true,true,false,false,true] == [5] &&
            Region.ready .any ops #[true,true,true,true,true,true,true,false] == [7] &&
            Region.ready .any ops #[true,true,true,true,true,true,false,true] == [6] &&
            Region.ready .any ops #[true,true,true,true,true,true,true,true] == [])
         then some (z,p,[b0,b1,b2,b3,⟨some z,none,[.t x],.v (.cJ sz)⟩,b4,b7]) else none
       | _,_,_,_=>none
     | _,_,_,_=>none
   | _,_,_=>none
 | _=>none
def dI (P:Program) (ρ:Names) (A:gm) (N:Nat):Code→Option aq
 | .skip=>some .skip
 | .region id ops draw=>if A.Jv.contains id=true then (if draw=true then match Gy P ρ (A.at id) N ops with
       | some (z,p,as)=>if ((look A.live id).getD []).contains z=false∧((look A.live id).getD []).contains p=false then some (.kb as ((look A.live id).getD [])) else none
       | none=>none
     else none)
   else match bB (bH P ρ (A.at id) N ops) ops.toList with
   | some as=>if draw then (if lz ((look A.IK id).getD []) ops.toList as then some (gU (look A.fz id) (behind (look A.IK id) (look A.jj id) (.kb as ((look A.live id).getD [])))) else none)
     else match look A.cut id with
       | some q=>some (mV (look A.fs id) (gU (look A.fz id) (u_ (some q) as ((look A.live id).getD []))))
       | none=>some (mV (look A.fs id) (gU (look A.fz id) (behind (look A.IK id) (look A.jj id) (.kb as ((look A.live id).getD [])))))
   | none=>none
 | .seq a b=>match dI P ρ A N a,dI P ρ A N b with
   | some x,some y=>some (.seq x y)
   | _,_=>none
 | .cond c a b=>match cO ρ c,dI P ρ A N a,dI P ρ A N b with
   | some c,some x,some y=>some (.cond c x y)
   | _,_,_=>none
 | .block id b=>(dI P ρ A N b).map (.block id)
 | .loop b=>(dI P ρ A N b).map (.loop (((gA b).bind (look A.loops)).getD []))
 | .exit id=>some (.exit id)
 | .ret=>some .ret
 | .rangeFunc (.tmp t) ps a b=>match ps.toList,look A.yn t with
   | [pi,px],some gb=>match look ρ.bk gb,dI P ρ A N a,dI P ρ A N b with
     | some (sz,ag),some x,some y=>if x.dB=true∧y.dB=true∧pi<N∧px<N then some (.back (.t t) gb pi px sz ag (((gA a).bind (look A.loops)).getD []) x y) else none
     | _,_,_=>none
   | _,_=>none
 | _=>none
def yq (P:Program):ResultVar→Option lx
 | .tmp t=>some (.t t)
 | .cell a t=>match bw P t,eD P t with
   | some sz,some ag=>some (.c a sz ag)
   | _,_=>none
def l0 (P:Program) (ρ:Names) (A:gm) (fn:Func):Option aw:=
 match fn.body,bB (yq P) fn.results.toList with
 | some b,some rs=>if fn.params.size+fn.nfree≤fn.ntmps∧fn.name != "runtime.NumGoroutine" then
     (dI P ρ A fn.ntmps b).map fun c=>{ nparams:=fn.params.size,ntmps:=fn.ntmps,results:=rs,body:=c,ks:=A.ks } else none
 | _,_=>none
end Go.Ab
namespace Go.Ab
inductive js where
 | cP | jh (d:Nat) | shr (b:Nat) | tok (τ:Nat)
 deriving DecidableEq
structure Tk where
 base:Option Addr
 len:Nat
 cap:Nat
 sz:Nat
 own:Bool:=false
def Tk.val (t:Tk):Value:=.slice t.base t.len t.cap
def Tk.dead (t:Tk):Prop:=t.base=none∧0<t.len
def Tk.on (t t':Tk):Prop:=(t.dead→t'.dead)∧(t'.dead∨t.cap<t'.len∨(t'.base=t.base∧t'.cap=t.cap∧(t'=t∨t'.own=true)))
def Tk.HE (t:Tk) (v:Value):Prop:=t.dead∨∃base len cap,v=.slice base len cap∧(cap<t.len∨(base=t.base∧cap=t.cap∧(len=t.len∨t.own=true)))
theorem Tk.eQ (t:Tk):t.on t:=⟨id,.inr (.inr ⟨rfl,rfl,.inl rfl⟩)⟩
theorem Tk.Ce {a b c:Tk} (h:a.on b) (k:b.on c) (hl:b.len≤c.len):a.on c:=by
 refine ⟨fun d=>k.1 (h.1 d),?_⟩
 rcases h.2 with d | hc | ⟨e1,e2,e3⟩
 · exact .inl (k.1 d)
 · exact .inr (.inl (by omega))
 · rcases k.2 with d | hc | ⟨f1,f2,f3⟩
   · exact .inl d
   · exact .inr (.inl (by omega))
   · refine .inr (.inr ⟨f1.trans e1,f2.trans e2,?_⟩)
     rcases f3 with rfl | f3
     · exact e3
     · exact .inr f3
theorem Tk.kF (t:Tk):t.HE t.val:=.inr ⟨_,_,_,rfl,.inr ⟨rfl,rfl,.inl rfl⟩⟩
theorem Tk.Gz {t t':Tk} {v:Value} (h:t.HE v) (k:t.on t') (hl:t.len≤t'.len):t'.HE v:=by
 rcases h with d | ⟨base,len,cap,e,h⟩
 · exact .inl (k.1 d)
 · rcases k.2 with d | hc | ⟨e1,e2,e3⟩
   · exact .inl d
   · refine .inr ⟨base,len,cap,e,.inl ?_⟩
     rcases h with h | ⟨_,h,_⟩<;>omega
   · refine .inr ⟨base,len,cap,e,?_⟩
     rcases h with h | ⟨h1,h2,h3⟩
     · exact .inl (by omega)
     · refine .inr ⟨h1.trans e1.symm,h2.trans e2.symm,?_⟩
       rcases e3 with rfl | e3
       · exact h3
       · exact .inr e3
structure Gh where
 K:aP
 role:Nat→js
 pm:Nat→Option Nat
 sm:Nat→Option (Nat×Nat)
 tk:Nat→Option Tk
structure bh where
 r:Nat→Nat→Prop
 jo:Nat→Option (Array Value)
mutual
def ah (ρ:bh) (G:Gh):AV→Value→Prop
 | .un,v=>v=undef
 | .pv p,v=>Rel G.K p v
 | .cz els,v=>∃base len,v=.slice base len len∧F_ G.K els base len
 | .own els τ,v=>∃t,G.tk τ=some t∧(els.length≤t.len∧t.HE v)∧Rel G.K (.aF els) v ∧
     (els.length=t.len→v=t.val∧(els=[]∨∃b o,t.base=some ⟨b,o,none⟩∧Row G.K b o t.sz els))
 | .agg cs,v=>∃vs:List Value,v=.agg vs.toArray∧ae ρ G cs vs
 | .lr cs,v=>∃vs:List Value,v=.tuple vs.toArray∧ae ρ G cs vs
 | .bg d off,v=>∃b,G.pm d=some b∧v=.pointer (some ⟨b,off,none⟩)
 | .aO s off,v=>∃b,G.sm s=some b∧v=.pointer (some ⟨b.1,off,none⟩)
 | .cS cs,v=>∃b o vs,v=.pointer (some ⟨b,o,none⟩)∧At G.K b o vs∧cg G.K cs vs
 | .aY s z n _,v=>∃b cap,G.sm s=some b∧v=.slice (some ⟨b.1,0,none⟩) n (n+cap)∧(n+cap)*z≤b.2
 | .fn g cap,v=>∃f vs,ρ.r g f∧v=.func (.func f) #[] (List.toArray vs)∧ae ρ G cap vs
 | .eN,v=>v=.pointer none∨v=.nilFunc
 | .d_ s,v=>∃b,G.sm s=some b∧v=.map (some b.1)
 | .cT _,_=>False
 | .gR d n,v=>∃b,G.pm d=some b∧v=.slice (some ⟨b,0,none⟩) n n
 | .mM s off n,v=>∃b base cap,G.sm s=some b∧v=.slice base n cap∧(n=0∨base=some ⟨b.1,off,none⟩)
def ae (ρ:bh) (G:Gh):List AV→List Value→Prop
 | [],vs=>vs=[]
 | c::cs,vs=>∃v r,vs=v::r∧ah ρ G c v∧ae ρ G cs r
end
structure Gh.le (G G':Gh):Prop where
 K:G.K.le G'.K
 pm:∀d b,G.pm d=some b→G'.pm d=some b
 sm:∀d b,G.sm d=some b→G'.sm d=some b
 tk:∀τ t,G.tk τ=some t→∃t',G'.tk τ=some t'∧(t.len≤t'.len∧t.on t')∧(t.len=t'.len→t'=t)
theorem Gh.le_refl (G:Gh):G.le G:=⟨G.K.le_refl,fun _ _ h=>h,fun _ _ h=>h,fun _ t h=>⟨t,h,⟨Nat.le_refl _,t.eQ⟩,fun _=>rfl⟩⟩
theorem Gh.le_trans {a b c:Gh} (h:a.le b) (k:b.le c):a.le c:=
 ⟨aP.le_trans h.K k.K,fun x y e=>k.pm _ _ (h.pm x y e),fun x y e=>k.sm _ _ (h.sm x y e),fun τ t e=>by
   obtain ⟨t',e1,e2,e3⟩:=h.tk τ t e
   obtain ⟨t'',f1,f2,f3⟩:=k.tk τ t' e1
   exact ⟨t'',f1,⟨Nat.le_trans e2.1 f2.1,Tk.Ce e2.2 f2.2 f2.1⟩,fun hl=>by
     have h1:t.len=t'.len:=Nat.le_antisymm e2.1 (hl ▸ f2.1)
     have h2:t'.len=t''.len:=h1 ▸ hl
     rw [f3 h2,e3 h1]⟩⟩
section
variable {ρ:bh} {G G':Gh}
mutual
theorem ah.mono (h:G.le G'):∀{x:AV} {v:Value},ah ρ G x v→ah ρ G' x v
 | .un,_,hr=>by simpa only [ah] using hr
 | .pv p,_,hr=>by simp only [ah] at hr ⊢;exact hr.mono h.K
 | .cz els,_,hr=>by
   simp only [ah] at hr ⊢
   obtain ⟨b,l,e,r⟩:=hr
   exact ⟨b,l,e,r.mono h.K⟩
 | .own els τ,v,hr=>by
   simp only [ah] at hr ⊢
   obtain ⟨t,e1,e2,e3,e4⟩:=hr
   obtain ⟨t',f1,f2,f3⟩:=h.tk τ t e1
   refine ⟨t',f1,⟨Nat.le_trans e2.1 f2.1,Tk.Gz e2.2 f2.2 f2.1⟩,e3.mono h.K,fun hl=>?_⟩
   have h1:els.length=t.len:=Nat.le_antisymm e2.1 (hl ▸ f2.1)
   have h2:=f3 (h1 ▸ hl)
   subst h2
   obtain ⟨g1,g2⟩:=e4 h1
   exact ⟨g1,EF g2 fun ⟨b,o,e,r⟩=>⟨b,o,e,Row.mono h.K _ _ _ _ r⟩⟩
 | .agg cs,_,hr=>by
   simp only [ah] at hr ⊢
   obtain ⟨vs,e,r⟩:=hr
   exact ⟨vs,e,ae.mono h r⟩
 | .lr cs,_,hr=>by
   simp only [ah] at hr ⊢
   obtain ⟨vs,e,r⟩:=hr
   exact ⟨vs,e,ae.mono h r⟩
 | .bg d off,_,hr=>by
   simp only [ah] at hr ⊢
   obtain ⟨b,e,r⟩:=hr
   exact ⟨b,h.pm _ _ e,r⟩
 | .aO d off,_,hr=>by
   simp only [ah] at hr ⊢
   obtain ⟨b,e,r⟩:=hr
   exact ⟨b,h.sm _ _ e,r⟩
 | .cS cs,_,hr=>by
   simp only [ah] at hr ⊢
   obtain ⟨b,o,vs,e,f,r⟩:=hr
   exact ⟨b,o,vs,e,f.mono h.K,cg.mono h.K _ _ r⟩
 | .aY s _ n _,_,hr=>by
   simp only [ah] at hr ⊢
   obtain ⟨b,c,e,r⟩:=hr
   exact ⟨b,c,h.sm _ _ e,r⟩
 | .fn g cap,_,hr=>by
   simp only [ah] at hr ⊢
   obtain ⟨f,vs,e1,e2,r⟩:=hr
   exact ⟨f,vs,e1,e2,ae.mono h r⟩
 | .eN,_,hr=>by simpa only [ah] using hr
 | .d_ s,_,hr=>by
   simp only [ah] at hr ⊢
   obtain ⟨b,e,r⟩:=hr
   exact ⟨b,h.sm _ _ e,r⟩
 | .cT _,_,hr=>by simp only [ah] at hr
 | .mM s _ _,_,hr=>by
   simp only [ah] at hr ⊢
   obtain ⟨b,x,c,e,r⟩:=hr
   exact ⟨b,x,c,h.sm _ _ e,r⟩
 | .gR d _,_,hr=>by
   simp only [ah] at hr ⊢
   obtain ⟨b,e,r⟩:=hr
   exact ⟨b,h.pm _ _ e,r⟩
theorem ae.mono (h:G.le G'):∀{xs:List AV} {vs:List Value},ae ρ G xs vs→ae ρ G' xs vs
 | [],_,hr=>by simpa only [ae] using hr
 | _::_,_,hr=>by
   simp only [ae] at hr ⊢
   obtain ⟨v,r,e,e1,e2⟩:=hr
   exact ⟨v,r,e,ah.mono h e1,ae.mono h e2⟩
end
theorem ae.length:∀{xs:List AV} {vs:List Value},ae ρ G xs vs→vs.length=xs.length
 | [],_,hr=>by simp only [ae] at hr;simp [hr]
 | _::_,_,hr=>by
   simp only [ae] at hr
   obtain ⟨v,r,rfl,_,e2⟩:=hr
   simp [ae.length e2]
theorem ae.get:∀{xs:List AV} {vs:List Value},ae ρ G xs vs→∀{j:Nat} {x:AV},xs[j]?=some x→∃v,vs[j]?=some v∧ah ρ G x v
 | [],_,_,j,x,hc=>by simp at hc
 | x0::xs,_,hr,j,x,hc=>by
   simp only [ae] at hr
   obtain ⟨v,r,rfl,e1,e2⟩:=hr
   cases j with
   | zero=>simp at hc;subst hc;exact ⟨v,by simp,e1⟩
   | succ j=>simpa using ae.get e2 (by simpa using hc)
theorem ae.drop:∀(n:Nat) {xs:List AV} {vs:List Value},ae ρ G xs vs→ae ρ G (xs.drop n) (vs.drop n)
 | 0,_,_,h=>by simpa using h
 | n+1,[],_,h=>by simp only [ae] at h;subst h;simp [ae]
 | n+1,_::cs,_,h=>by
   simp only [ae] at h
   obtain ⟨v,r,rfl,_,e3⟩:=h
   simpa using ae.drop n e3
theorem ae.take:∀(n:Nat) {xs:List AV} {vs:List Value},ae ρ G xs vs→ae ρ G (xs.take n) (vs.take n)
 | 0,_,_,_=>by simp [ae]
 | n+1,[],_,h=>by simp only [ae] at h;subst h;simp [ae]
 | n+1,_::cs,_,h=>by
   simp only [ae] at h
   obtain ⟨v,r,rfl,e2,e3⟩:=h
   simp only [List.take_succ_cons,ae]
   exact ⟨v,_,rfl,e2,ae.take n e3⟩
theorem ae.append:∀{xs:List AV} {vs:List Value} {ys:List AV} {us:List Value},ae ρ G xs vs→ae ρ G ys us→ae ρ G (xs++ys) (vs++us)
 | [],_,_,_,h,k=>by simp only [ae] at h;subst h;simpa using k
 | _::cs,_,_,_,h,k=>by
   simp only [ae] at h
   obtain ⟨v,r,rfl,e2,e3⟩:=h
   simp only [List.cons_append,ae]
   exact ⟨v,_,rfl,e2,ae.append e3 k⟩
theorem fD:∀{cs:List PV} {vs:List Value},cg G.K cs vs→ae ρ G (cs.map .pv) vs
 | [],_,h=>by simp only [cg] at h;subst h;simp [ae]
 | _::cs,_,h=>by
   simp only [cg] at h
   obtain ⟨v,r,rfl,e2,e3⟩:=h
   simp only [List.map_cons,ae]
   exact ⟨v,r,rfl,by simp only [ah];exact Rel.Cd e2,fD e3⟩
theorem ef:∀{cs:List PV} {vs:List Value},iq G.K cs vs→ae ρ G (cs.map .pv) vs
 | [],_,h=>by cases h;simp [ae]
 | _::cs,_,⟨v,r,e1,e2,e3⟩=>by
   subst e1
   simp only [List.map_cons,ae]
   exact ⟨v,r,rfl,by simp only [ah];exact e2,ef e3⟩
theorem ah.cells {x:AV} {v:Value} (h:ah ρ G x v) (hx:(aE x).all aJ=true):ae ρ G (aE x) v.cells.toList:=by
 cases x with
 | agg cs=>simp only [ah] at h;obtain ⟨vs,rfl,r⟩:=h;simpa [aE,Value.cells] using r
 | pv p=>
   cases p with
   | agg cs=>
     simp only [ah,Rel] at h
     obtain ⟨vs,rfl,r⟩:=h
     simpa [aE,Value.cells] using fD r
   | bool b=>have h':=h;simp only [ah,Rel,R] at h;simp at h;subst h;simp only [aE,Value.cells,ae];exact ⟨_,[],rfl,h',rfl⟩
   | int k n=>have h':=h;simp only [ah,Rel,R] at h;simp at h;subst h;simp only [aE,Value.cells,ae];exact ⟨_,[],rfl,h',rfl⟩
   | str s=>have h':=h;simp only [ah,Rel,R] at h;simp at h;subst h;simp only [aE,Value.cells,ae];exact ⟨_,[],rfl,h',rfl⟩
   | aF els=>
     have h':=h
     simp only [ah] at h
     obtain ⟨b,l,c,rfl,_⟩:=a7.1 h
     simp only [aE,Value.cells,ae];exact ⟨_,[],rfl,h',rfl⟩
 | cz els=>
   have h':=h
   simp only [ah] at h;obtain ⟨b,l,rfl,_⟩:=h
   simp only [aE,Value.cells,ae];exact ⟨_,[],rfl,h',rfl⟩
 | own els τ=>
   have h':=h
   simp only [ah] at h;obtain ⟨t,_,_,h3,_⟩:=h
   obtain ⟨b,l,c,rfl,_⟩:=a7.1 h3
   simp only [aE,Value.cells,ae];exact ⟨_,[],rfl,h',rfl⟩
 | aO s o=>
   have h':=h
   simp only [ah] at h;obtain ⟨b,_,rfl⟩:=h
   simp only [aE,Value.cells,ae];exact ⟨_,[],rfl,h',rfl⟩
 | aY s z n ag=>
   have h':=h
   simp only [ah] at h;obtain ⟨b,c,_,rfl,_⟩:=h
   simp only [aE,Value.cells,ae];exact ⟨_,[],rfl,h',rfl⟩
 | fn g cap=>
   have h':=h
   simp only [ah] at h;obtain ⟨f,vs,_,rfl,_⟩:=h
   simp only [aE,Value.cells,ae];exact ⟨_,[],rfl,h',rfl⟩
 | eN=>
   have h':=h
   simp only [ah] at h
   rcases h with rfl | rfl
   · simp only [aE,Value.cells,ae];exact ⟨_,[],rfl,h',rfl⟩
   · simp only [aE,Value.cells,ae];exact ⟨_,[],rfl,h',rfl⟩
 | d_ s=>
   have h':=h
   simp only [ah] at h;obtain ⟨b,_,rfl⟩:=h
   simp only [aE,Value.cells,ae];exact ⟨_,[],rfl,h',rfl⟩
 | cT kvs=>simp only [ah] at h
 | _=>simp [aE,aJ] at hx
end
structure Iw (ρ:bh) (G:Gh) (w:World) (b:Nat) (r:js) (cells:List AV):Prop where
 role:G.role b=r
 at_:∃c t,w.heap[b]?=some (.cells c t (0,0))∧ae ρ G cells c.toList
def dR (K:aP):List (PV×PV)→List MapEntry→Prop
 | [],es=>es=[]
 | (k,p)::r,es=>∃e es',es=e::es'∧Rel K k e.key∧Rel K p e.val∧dR K r es'
theorem dR.mono {K K':aP} (h:K.le K'):∀{kvs:List (PV×PV)} {es:List MapEntry},dR K kvs es→dR K' kvs es
 | [],_,hr=>hr
 | (_,_)::_,_,⟨e,es',e1,e3,e4,e5⟩=>⟨e,es',e1,e3.mono h,e4.mono h,dR.mono h e5⟩
def Holds (ρ:bh) (G:Gh) (o:Obj) (n:Nat) (cells:List AV):Prop:=
 (∃c t vs suf,o=.cells c t (0,0)∧c.size=n∧c.toList=vs++suf∧ae ρ G cells vs)∨∃es clock kvs,o=.map es clock∧cells=[.cT kvs]∧dR G.K kvs es.toList
theorem Holds.full {ρ:bh} {G:Gh} {c:Array Value} {t:TypeId} {cells:List AV} (h:ae ρ G cells c.toList):Holds ρ G (.cells c t (0,0)) c.size cells:=
 .inl ⟨c,t,c.toList,[],rfl,rfl,by simp,h⟩
structure qL (ρ:bh) (G:Gh) (w:World) (b:Nat×Nat) (r:js) (cells:List AV):Prop where
 role:G.role b.1=r
 at_:∃o,w.heap[b.1]?=some o∧Holds ρ G o b.2 cells
theorem Holds.to {ρ:bh} {G G':Gh} {o:Obj} {n:Nat} {cells cells':List AV} (h:Holds ρ G o n cells) (hK:G.K.le G'.K) (hm:∀kvs,cells=[.cT kvs]→cells'=[.cT kvs])
   (hc:∀vs,ae ρ G cells vs→ae ρ G' cells' vs):Holds ρ G' o n cells':=by
 rcases h with ⟨c,t,vs,suf,e,e3,e4,r⟩ | ⟨es,cl,kvs,e,e2,r⟩
 · exact .inl ⟨c,t,vs,suf,e,e3,e4,hc _ r⟩
 · exact .inr ⟨es,cl,kvs,e,hm kvs e2,r.mono hK⟩
theorem Holds.mono {ρ:bh} {G G':Gh} {o:Obj} {n:Nat} {cells:List AV} (h:G.le G') (hh:Holds ρ G o n cells):Holds ρ G' o n cells:=
 hh.to h.K (fun _ e=>e) (fun _ r=>r.mono h)
structure HF (ρ:bh) (G:Gh) (w:World) (b:Nat×Nat) (r:js) (cells:List AV):Prop where
 role:G.role b.1=r
 at_:∃c t vs suf,w.heap[b.1]?=some (.cells c t (0,0))∧c.size=b.2∧c.toList=vs++suf∧ae ρ G cells vs
theorem qL.cells {ρ:bh} {G:Gh} {w:World} {b:Nat×Nat} {r:js} {cells:List AV} (h:qL ρ G w b r cells) (hm:cK cells=false):HF ρ G w b r cells:=by
 obtain ⟨h1,o,h2,h3⟩:=h
 rcases h3 with ⟨c,t,vs,suf,rfl,h4,h5,h6⟩ | ⟨es,cl,kvs,rfl,rfl,_⟩
 · exact ⟨h1,c,t,vs,suf,h2,h4,h5,h6⟩
 · simp [cK] at hm
theorem nu {ρ:bh} {G:Gh} {cells:List AV} {vs:List Value} (h:ae ρ G cells vs):cK cells=false:=by
 cases cells with
 | nil=>rfl
 | cons c r=>
   cases c with
   | cT kvs=>simp [ae,ah] at h
   | _=>rfl
structure HG (G:Gh) (w:World) (τ:Nat) (t:Tk):Prop where
 cap:t.len≤t.cap
 zero:t.len=0→t.cap=0
 spare:t.len<t.cap∨t.own=true→∃b o c ty,t.base=some ⟨b,o,none⟩∧G.role b=.tok τ∧w.heap[b]?=some (.cells c ty (0,0)) ∧
   o+t.cap*t.sz≤c.size∧∀j v,G.K b j=some v→j<o+t.len*t.sz
structure Inv (ρ:bh) (G:Gh) (w:World) (mem:List (Nat×List AV)) (sh:Sh) (aa:al):Prop where
 known:∀b o v,G.K b o=some v→w.cell? ⟨b,o,none⟩=some v
 aK:∀b o v,G.K b o=some v→G.role b=.cP∨∃τ,G.role b=.tok τ
 fresh:∀b,w.heap.size≤b→G.role b=.cP
 bM:∀d cells,look mem d=some cells→∃b,G.pm d=some b∧Iw ρ G w b (.jh d) cells∧cells.all aJ=true
 eR:∀d b,G.pm d=some b→(look mem d).isSome=true
 bS:∀s cells,sh[s]?=some (some cells)→∃b,G.sm s=some b∧qL ρ G w b (.shr s) cells∧cells.all bO=true∧cells.all (au (s+1))=true
 dC:∀s b,G.sm s=some b→s<sh.length
 bT:∀τ n,aa[τ]?=some n→∃t,G.tk τ=some t∧t.len=n∧HG G w τ t
 dD:∀τ t,G.tk τ=some t→aa[τ]?=some t.len
 jo:∀b c,ρ.jo b=some c→G.role b=.cP∧∃t z,w.heap[b]?=some (.cells c t z)
structure jt (ρ:bh) (G:Gh) (N:Nat) (env:List (Nat×AV)) (a:Act):Prop where
 size:a.tmps.size=N
 env:∀t x,look env t=some x→∃v,a.tmps[t]?=some v∧ah ρ G x v
def Marks (n0:Nat) (G:Gh) (a:Act) (w:World):Prop:=
 n0≤w.heap.size∧∃Ds:List Nat,a.defers=Ds.map (fun D=>{ target:=.collected D,args:=#[] })∧Ds.Nodup ∧
   ∀D∈Ds,n0≤D∧D<w.heap.size∧G.role D=.cP∧w.heap[D]?=some (.deferred (some []))
structure dM (ρ:bh) (n0 N:Nat) (G:Gh) (st:St) (a:Act) (w:World):Prop where
 env:jt ρ G N st.env a
 inv:Inv ρ G w st.mem st.sh st.aa
 marks:Marks n0 G a w
structure aZ (G:Gh) (w:World) (G':Gh) (w':World):Prop where
 size:w.heap.size≤w'.heap.size
 os:w'.os=w.os
 tape:w'.tape=w.tape
 output:w'.output=w.output
 K:G.K.le G'.K
 sm:∀s b,G.sm s=some b→G'.sm s=some b
 cP:∀b,b<w.heap.size→G.role b=.cP→G'.role b=.cP∧w'.heap[b]?=w.heap[b]?
 fQ:∀b τ,b<w.heap.size→G.role b=.tok τ→G'.role b=.cP∨∃τ',G'.role b=.tok τ'
 eS:∀b o v,b<w.heap.size→G.role b=.cP→G'.K b o=some v→G.K b o=some v
theorem aZ.refl (G:Gh) (w:World):aZ G w G w:=
 ⟨Nat.le_refl _,rfl,rfl,rfl,G.K.le_refl,fun _ _ h=>h,fun _ _ h=>⟨h,rfl⟩,fun _ τ _ h=>.inr ⟨τ,h⟩,fun _ _ _ _ _ h=>h⟩
theorem aZ.trans {G₁ G₂ G₃:Gh} {w₁ w₂ w₃:World} (h:aZ G₁ w₁ G₂ w₂) (k:aZ G₂ w₂ G₃ w₃):aZ G₁ w₁ G₃ w₃ where
 size:=Nat.le_trans h.size k.size
 os:=k.os.trans h.os
 tape:=k.tape.trans h.tape
 output:=k.output.trans h.output
 K:=aP.le_trans h.K k.K
 sm:=fun s b e=>k.sm _ _ (h.sm s b e)
 cP:=fun b hb hr=>by
   obtain ⟨h1,h2⟩:=h.cP b hb hr
   obtain ⟨k1,k2⟩:=k.cP b (Nat.lt_of_lt_of_le hb h.size) h1
   exact ⟨k1,k2.trans h2⟩
 fQ:=fun b τ hb hr=>by
   rcases h.fQ b τ hb hr with h1 | ⟨τ',h1⟩
   · exact .inl (k.cP b (Nat.lt_of_lt_of_le hb h.size) h1).1
   · exact k.fQ b τ' (Nat.lt_of_lt_of_le hb h.size) h1
 eS:=fun b o v hb hr hk=>h.eS b o v hb hr (k.eS b o v (Nat.lt_of_lt_of_le hb h.size) (h.cP b hb hr).1 hk)
theorem Marks.pd {n0:Nat} {G G':Gh} {a a':Act} {w w':World} (h:Marks n0 G a w) (he:aZ G w G' w') (hd:a'.defers=a.defers):Marks n0 G' a' w':=by
 obtain ⟨e0,Ds,e1,e2,e3⟩:=h
 refine ⟨Nat.le_trans e0 he.size,Ds,hd.trans e1,e2,fun D hD=>?_⟩
 obtain ⟨f0,f1,f2,f3⟩:=e3 D hD
 obtain ⟨g1,g2⟩:=he.cP D f1 f2
 exact ⟨f0,Nat.lt_of_lt_of_le f1 he.size,g1,g2.trans f3⟩
theorem Inv.fj {ρ:bh} {G G':Gh} {w w':World} {mem:List (Nat×List AV)} {sh:Sh} {aa:al} (h:Inv ρ G w mem sh aa) (he:aZ G w G' w') :
   ∀b c,ρ.jo b=some c→G'.role b=.cP∧∃t z,w'.heap[b]?=some (.cells c t z):=fun b c hb=>by
 obtain ⟨h1,t,z,h2⟩:=h.jo b c hb
 obtain ⟨k1,k2⟩:=he.cP b (Array.getElem?_eq_some_iff.1 h2).1 h1
 exact ⟨k1,t,z,k2.trans h2⟩
theorem aZ.drew (G:Gh) (w:World):aZ G w G w.drew:=
 ⟨Nat.le_refl _,rfl,rfl,rfl,G.K.le_refl,fun _ _ h=>h,fun _ _ h=>⟨h,rfl⟩,fun _ τ _ h=>.inr ⟨τ,h⟩,fun _ _ _ _ _ h=>h⟩
theorem Inv.drew {ρ:bh} {G:Gh} {w:World} {mem:List (Nat×List AV)} {sh:Sh} {aa:al} (h:Inv ρ G w mem sh aa):Inv ρ G w.drew mem sh aa where
 known:=h.known
 aK:=h.aK
 fresh:=h.fresh
 bM:=fun d cells e=>by obtain ⟨b,e1,e2,e3⟩:=h.bM d cells e;exact ⟨b,e1,⟨e2.role,e2.at_⟩,e3⟩
 eR:=h.eR
 bS:=fun d cells e=>by obtain ⟨b,e1,e2,e3⟩:=h.bS d cells e;exact ⟨b,e1,⟨e2.role,e2.at_⟩,e3⟩
 dC:=h.dC
 bT:=fun τ n e=>by obtain ⟨t,e1,e2,e3⟩:=h.bT τ n e;exact ⟨t,e1,e2,⟨e3.cap,e3.zero,e3.spare⟩⟩
 dD:=h.dD
 jo:=h.jo
end Go.Ab
namespace Go.Ab
section
variable {P:Program} {ns:Names} {G:Gh} {w:World}
abbrev num (ns:Names):bh:=⟨fun g f=>ns.of f=some g,ns.jo⟩
theorem cB {t n:Nat} (h:bw P t=some n) (w:World):(sizeOf t).run P w=.ok n w:=by
 unfold bw at h
 cases hi:P.info? t with
 | none=>simp [hi] at h
 | some i=>simp [hi] at h;simp [sizeOf,typeInfo,hi,h]
theorem ju {t n:Nat} (h:cN P t=some n) (w:World):∃i,P.info? t=some i∧i.bytes=n∧(typeInfo t).run P w=.ok i w:=by
 unfold cN at h
 cases hi:P.info? t with
 | none=>simp [hi] at h
 | some i=>simp [hi] at h;exact ⟨i,rfl,h,by simp [typeInfo,hi]⟩
theorem eE {t:Nat} {b:Bool} (h:eD P t=some b) (w:World):(isAgg t).run P w=.ok b w:=by
 unfold eD at h
 cases hu:P.underlying t with
 | none=>simp [hu] at h
 | some d=>
   simp [hu] at h
   simp only [isAgg,Sem.run_bind,run_underlying hu,Result.andThen_ok]
   cases d<;>simp_all
theorem fk {K:aP} {v:Value} {p:PV} (h:ck v=some p):R K false p [v]∧e_ p=true:=by
 cases v with
 | bool b=>simp [ck] at h;subst h;simp [R,e_]
 | int k n=>simp [ck] at h;subst h;simp [R,e_]
 | string s=>simp [ck] at h;subst h;simp [R,e_]
 | slice a l c=>
   cases a with
   | some a=>simp [ck] at h
   | none=>
     cases l with
     | succ l=>simp [ck] at h
     | zero=>
       cases c with
       | succ c=>simp [ck] at h
       | zero=>
         simp [ck] at h;subst h
         refine ⟨?_,rfl⟩
         simp only [R]
         exact ⟨none,0,0,rfl,Nat.le_refl _,rfl,by simp⟩
 | _=>simp [ck] at h
theorem pR {K:aP}:∀{l:List Value} {z:List PV},bB ck l=some z→cg K z l
 | [],_,h=>by simp [bB] at h;subst h;simp [cg]
 | v::l,z,h=>by
   simp only [bB] at h
   split at h
   · rename_i y ys h1 h2
     cases h
     simp only [cg]
     exact ⟨v,l,rfl,(fk h1).1,pR h2⟩
   · cases h
theorem vb {v:Value} {x:AV} (h:uZ v=some x):ah (num ns) G x v:=by
 unfold uZ at h
 split at h
 · simp at h;subst h;simp only [ah];exact ⟨none,0,rfl,rfl,.inl rfl⟩
 · simp at h;subst h;simp [ah]
 · simp at h;subst h;simp [ah]
 · rename_i cs
   simp only [Option.map_eq_some_iff] at h
   obtain ⟨ps,h1,rfl⟩:=h
   simp only [ah]
   exact ⟨cs.toList,by simp,pR h1⟩
 · cases hc:ck v with
   | none=>simp [hc] at h
   | some p=>simp [hc] at h;subst h;simp only [ah];exact Rel.Cd (fk hc).1
theorem yt {N:Nat} {env:List (Nat×AV)} {a:Act} (he:jt (num ns) G N env a) {x:Operand} {ax:dL} {v:AV}
   (hc:cO ns x=some ax) (hv:b_ env ax=some v):ah (num ns) G v (a.eval x):=by
 cases x with
 | tmp t=>
   simp [cO] at hc;subst hc
   obtain ⟨rv,h1,h2⟩:=he.env t v (by simpa [b_] using hv)
   have:a.eval (.tmp t)=rv:=by simp [Act.eval,h1]
   rw [this];exact h2
 | const c=>
   simp only [cO,Option.map_eq_some_iff] at hc
   obtain ⟨x,h1,rfl⟩:=hc
   simp [b_] at hv;subst hv
   exact vb h1
 | func f=>
   simp only [cO,Option.map_eq_some_iff] at hc
   obtain ⟨g,h1,rfl⟩:=hc
   simp [b_] at hv;subst hv
   simp only [ah]
   exact ⟨f,[],h1,rfl,by simp [ae]⟩
 | global g=>simp [cO] at hc
theorem sg {N:Nat} {env:List (Nat×AV)} {a:Act} (he:jt (num ns) G N env a):∀{xs:List Operand} {as:List dL} {vs:List AV},
   bB (cO ns) xs=some as→bc env as=some vs→ae (num ns) G vs (xs.map a.eval)
 | [],as,vs,hc,hv=>by
   simp [bB] at hc;subst hc;simp [bc] at hv;subst hv;simp [ae]
 | x::xs,as,vs,hc,hv=>by
   simp only [bB] at hc
   split at hc
   · rename_i ax axs h1 h2
     simp at hc;subst hc
     simp only [bc] at hv
     split at hv
     · rename_i v vs' g1 g2
       simp at hv;subst hv
       simp only [List.map_cons,ae]
       exact ⟨_,_,rfl,yt he h1 g1,sg he h2 g2⟩
     · simp at hv
   · simp at hc
theorem toList_mk (l:List UInt8):(ByteArray.mk l.toArray).toList=l:=by
 rw [ByteArray.toList_eq]
theorem nv:∀(a b:List UInt8),bP.de a b=Op.bytesLess a b
 | _,[]=>by simp [bP.de,Op.bytesLess]
 | [],_::_=>by simp [bP.de,Op.bytesLess]
 | a::x,b::y=>by simp [bP.de,Op.bytesLess,nv x y]
theorem dJ {K:aP} {k:IntKind} {n:Int} {v:Value}:Rel K (.int k n) v↔v=.int k n:=by simp [Rel,R]
theorem dS {K:aP} {b:Bool} {v:Value}:Rel K (.bool b) v↔v=.bool b:=by simp [Rel,R]
theorem gV {K:aP} {s:List UInt8} {v:Value}:Rel K (.str s) v↔v=.string ⟨s.toArray⟩:=by simp [Rel,R]
theorem cC {ρ:bh} {k:IntKind} {n:Int}:ah ρ G (.pv (.int k n)) (.int k n):=by simp only [ah];exact dJ.2 rfl
theorem ir {ρ:bh} {b:Bool}:ah ρ G (.pv (.bool b)) (.bool b):=by simp only [ah];exact dS.2 rfl
theorem nz {ρ:bh} {s:List UInt8}:ah ρ G (.pv (.str s)) (.string ⟨s.toArray⟩):=by simp only [ah];exact gV.2 rfl
theorem l3 {op:BinOp} {t:TypeId} {x y z:AV} {vx vy:Value} (hx:ah (num ns) G x vx) (hy:ah (num ns) G y vy)
   (h:bP op x y=some z) (ox oy:Operand):∃v,(do eqGuard op t ox oy vx vy;binOp op t vx vy:Sem Value).run P w=.ok v w∧ah (num ns) G z v:=by
 unfold bP at h
 split at h
 · rename_i k a k' b
   simp only [ah,dJ] at hx hy
   subst hx;subst hy
   have hg:(eqGuard op t ox oy (.int k a) (.int k' b)).run P w=.ok () w:=by cases op<;>simp [eqGuard]
   simp only [Sem.run_bind,hg,Result.andThen_ok]
   split at h
   · rename_i hk
     cases op<;>simp only [reduceCtorEq,or_false,or_self,or_true] at hk<;>simp at h
     case add=>subst hk;subst h;exact ⟨_,by simp [binOp,Op.intArith],cC⟩
     case sub=>subst hk;subst h;exact ⟨_,by simp [binOp,Op.intArith],cC⟩
     case mul=>subst hk;subst h;exact ⟨_,by simp [binOp,Op.intArith],cC⟩
     case quo=>subst hk;obtain ⟨h1,h⟩:=h;subst h;exact ⟨_,by simp [binOp,Op.intDiv,h1],cC⟩
     case rem=>subst hk;obtain ⟨h1,h⟩:=h;subst h;exact ⟨_,by simp [binOp,Op.intDiv,h1],cC⟩
     case and=>subst hk;subst h;exact ⟨_,by simp [binOp,Op.intBits],cC⟩
     case shl=>obtain ⟨h1,h⟩:=h;subst h;exact ⟨_,by simp [binOp,Op.shift,Int.not_lt.2 h1],cC⟩
     case shr=>obtain ⟨h1,h⟩:=h;subst h;exact ⟨_,by simp [binOp,Op.shift,Int.not_lt.2 h1],cC⟩
     all_goals (subst hk;subst h;exact ⟨_,by simp [binOp,Op.intCmp],ir⟩)
   · simp at h
 · rename_i a b
   simp only [ah,gV] at hx hy
   subst hx;subst hy
   have hg:(eqGuard op t ox oy (.string ⟨a.toArray⟩) (.string ⟨b.toArray⟩)).run P w=.ok () w:=by cases op<;>simp [eqGuard]
   simp only [Sem.run_bind,hg,Result.andThen_ok]
   cases op<;>simp at h
   case add=>
     obtain ⟨h1,h⟩:=h;subst h
     have h2:¬((((ByteArray.mk a.toArray).size+(ByteArray.mk b.toArray).size:Nat):Int) > IntKind.i64.max):=by
       have e1:(ByteArray.mk a.toArray).size=a.length:=by simp [ByteArray.size]
       have e2:(ByteArray.mk b.toArray).size=b.length:=by simp [ByteArray.size]
       rw [e1,e2]
       have:IntKind.i64.max=9223372036854775807:=by decide
       rw [this];omega
     have h3:(ByteArray.mk a.toArray)++(ByteArray.mk b.toArray)=ByteArray.mk (a++b).toArray:=by
       apply ByteArray.ext
       simp
     exact ⟨_,by simp only [binOp,Op.stringOp,if_neg h2,h3];rfl,nz⟩
   all_goals (subst h;exact ⟨_,by simp only [binOp,Op.stringOp,toList_mk,←nv,Sem.run_pure,Bool.not_or],ir⟩)
 · simp at h
theorem run_equalIn_bool (d:Nat) {t:TypeId} (hu:P.underlying t=some .bool) (a b:Bool):(Op.equalIn (d+1) t (.bool a) (.bool b)).run P w=.ok (a == b) w:=by
 simp only [Op.equalIn,Sem.run_bind,run_underlying hu,Result.andThen_ok,Sem.run_pure]
theorem run_equal_bool {t:TypeId} (hu:P.underlying t=some .bool) (a b:Bool):(Op.equal t (.bool a) (.bool b)).run P w=.ok (a == b) w:=
 run_equalIn_bool 9999 hu a b
theorem sj {op:BinOp} {t:TypeId} {neg:Bool} (hu:P.underlying t=some .bool) (hop:(op=.eql∧neg=false)∨(op=.neq∧neg=true)) (a b:Bool) (ox oy:Operand) :
   (do eqGuard op t ox oy (.bool a) (.bool b);binOp op t (.bool a) (.bool b):Sem Value).run P w=.ok (.bool (if neg then !(a == b) else (a == b))) w:=by
 rcases hop with ⟨rfl,rfl⟩ | ⟨rfl,rfl⟩
 · have hg:(eqGuard .eql t ox oy (.bool a) (.bool b)).run P w=.ok () w:=by simp [eqGuard]
   simp only [Sem.run_bind,hg,Result.andThen_ok,binOp,run_equal_bool hu,Sem.run_pure]
   rfl
 · have hg:(eqGuard .neq t ox oy (.bool a) (.bool b)).run P w=.ok () w:=by simp [eqGuard]
   simp only [Sem.run_bind,hg,Result.andThen_ok,binOp,run_equal_bool hu,Sem.run_pure]
   rfl
end
end Go.Ab
namespace Go.Ab
section
variable {P:Program} {ns:Names} {G:Gh} {w:World}
theorem Addr.cm (b o n:Nat):(⟨b,o,none⟩:Addr).add n=⟨b,o+n,none⟩:=by unfold Addr.add;split<;>simp_all
theorem l4 (vs:List Value) (off sz:Nat):vs.toArray.extract off (off+sz)=((vs.drop off).take sz).toArray:=by
 simp [List.extract_toArray]
theorem vc {t off sz:Nat} {ag:Bool} {cs:List AV} {vs:List Value} {x:AV} (hsz:bw P t=some sz) (hag:eD P t=some ag)
   (h:bz ag sz cs off=some x) (hr:ae (num ns) G cs vs) :
   ∃v,(part t vs.toArray off).run P w=.ok v w∧ah (num ns) G x v:=by
 unfold bz at h
 split at h
 · rename_i hle
   cases ag with
   | true=>
     simp at h;subst h
     refine ⟨.agg (vs.toArray.extract off (off+sz)),?_,?_⟩
     · simp only [part,Sem.run_bind,eE hag,Result.andThen_ok,if_true,cB hsz,Sem.run_pure]
     · simp only [ah]
       exact ⟨(vs.drop off).take sz,by rw [l4],(hr.drop off).take sz⟩
   | false=>
     simp at h
     obtain ⟨_,h⟩:=h
     obtain ⟨v,h1,h2⟩:=hr.get h
     refine ⟨v,?_,h2⟩
     simp only [part,Sem.run_bind,eE hag,Result.andThen_ok,Bool.false_eq_true,if_false]
     simp [h1]
 · simp at h
theorem sk {t off sz:Nat} {ag:Bool} {cs:List PV} {vs:List Value} {x:AV} (hsz:bw P t=some sz) (hag:eD P t=some ag)
   (h:bQ ag sz (cs.drop off)=some x) (hr:cg G.K cs vs) :
   ∃v,(part t vs.toArray off).run P w=.ok v w∧ah (num ns) G x v:=by
 unfold bQ at h
 split at h
 · rename_i hle
   cases ag with
   | true=>
     simp at h;subst h
     refine ⟨.agg (vs.toArray.extract off (off+sz)),?_,?_⟩
     · simp only [part,Sem.run_bind,eE hag,Result.andThen_ok,if_true,cB hsz,Sem.run_pure]
     · simp only [ah,Rel]
       exact ⟨(vs.drop off).take sz,by rw [l4],cg.take sz (cg.drop off hr)⟩
   | false=>
     simp only [Bool.false_eq_true,if_false,Option.ite_none_right_eq_some,Option.map_eq_some_iff] at h
     obtain ⟨_,c,h,rfl⟩:=h
     rw [List.getElem?_drop] at h
     obtain ⟨v,h1,h2⟩:=hr.get h
     simp only [Nat.add_zero] at h1
     refine ⟨v,?_,by simp only [ah];exact Rel.Cd h2⟩
     simp only [part,Sem.run_bind,eE hag,Result.andThen_ok,Bool.false_eq_true,if_false]
     simp [h1]
 · simp at h
theorem gW {t sz:Nat} {ag:Bool} {b o:Nat} {vs:List Value} (hsz:bw P t=some sz) (hag:eD P t=some ag)
   (hc:∀j v,vs[j]?=some v→w.cell? ⟨b,o+j,none⟩=some v) (hl:sz≤vs.length) (h1:ag=false→sz=1) :
   (loadVar t ⟨b,o,none⟩).run P w=.ok (if ag then .agg (vs.take sz).toArray else vs.getD 0 undef) w:=by
 cases ag with
 | true=>
   have hlen:(vs.take sz).length=sz:=by simp;omega
   have:=run_loadCells_list (P:=P) w ⟨b,o,none⟩ (vs.take sz) (fun j v hj=>by
     rw [Addr.cm]
     rw [List.getElem?_take] at hj
     split at hj
     · exact hc j v hj
     · simp at hj)
   rw [hlen] at this
   simp only [loadVar,Sem.run_bind,eE hag,Result.andThen_ok,if_true,cB hsz,this,Sem.run_pure]
 | false=>
   have:=h1 rfl
   subst this
   cases vs with
   | nil=>simp at hl
   | cons v r=>
     have:=hc 0 v rfl
     simp only [Nat.add_zero] at this
     simp only [loadVar,Sem.run_bind,eE hag,Result.andThen_ok,Bool.false_eq_true,if_false,run_load,this]
     simp
theorem j7 {t sz:Nat} {ag:Bool} {b o:Nat} {vs:List Value} {cs:List PV} {x:AV} (hsz:bw P t=some sz) (hag:eD P t=some ag)
   (h:bQ ag sz cs=some x) (hr:cg G.K cs vs) (hc:∀j v,vs[j]?=some v→w.cell? ⟨b,o+j,none⟩=some v) :
   ∃v,(loadVar t ⟨b,o,none⟩).run P w=.ok v w∧ah (num ns) G x v:=by
 have hlen:=hr.length
 unfold bQ at h
 split at h
 · rename_i hle
   cases ag with
   | true=>
     simp at h;subst h
     refine ⟨_,gW hsz hag hc (by omega) (by simp),?_⟩
     simp only [if_true,ah,Rel]
     exact ⟨_,rfl,cg.take sz hr⟩
   | false=>
     simp only [Bool.false_eq_true,if_false,Option.ite_none_right_eq_some,Option.map_eq_some_iff] at h
     obtain ⟨h1,c,h,rfl⟩:=h
     obtain ⟨v,h3,h4⟩:=hr.get h
     refine ⟨_,gW hsz hag hc (by omega) (fun _=>h1),?_⟩
     simp only [Bool.false_eq_true,if_false,ah]
     have:vs.getD 0 undef=v:=by simp [List.getD,h3]
     rw [this];exact Rel.Cd h4
 · simp at h
theorem fZ {t sz:Nat} {ag:Bool} {b off:Nat} {vs:List Value} {cs:List AV} {x:AV} (hsz:bw P t=some sz) (hag:eD P t=some ag)
   (h:bz ag sz cs off=some x) (hr:ae (num ns) G cs vs) (hc:∀j v,vs[j]?=some v→w.cell? ⟨b,j,none⟩=some v) :
   ∃v,(loadVar t ⟨b,off,none⟩).run P w=.ok v w∧ah (num ns) G x v:=by
 have hlen:=hr.length
 have hc':∀j v,(vs.drop off)[j]?=some v→w.cell? ⟨b,off+j,none⟩=some v:=fun j v hj=>by
   rw [List.getElem?_drop] at hj
   exact hc _ v hj
 unfold bz at h
 split at h
 · rename_i hle
   cases ag with
   | true=>
     simp at h;subst h
     refine ⟨_,gW hsz hag hc' (by simp;omega) (by simp),?_⟩
     simp only [if_true,ah]
     exact ⟨_,rfl,ae.take sz (ae.drop off hr)⟩
   | false=>
     simp at h
     obtain ⟨h1,h⟩:=h
     obtain ⟨v,h3,h4⟩:=hr.get h
     refine ⟨_,gW hsz hag hc' (by simp;omega) (fun _=>h1),?_⟩
     simp only [Bool.false_eq_true,if_false]
     have:(vs.drop off).getD 0 undef=v:=by simp [List.getD,List.getElem?_drop,h3]
     rw [this];exact h4
 · simp at h
theorem ib {b:Nat} {c:Array Value} {t:TypeId} {fr:Nat×Nat} (h:w.heap[b]?=some (.cells c t fr)):∀j v,c.toList[j]?=some v→w.cell? ⟨b,j,none⟩=some v:=by
 intro j v hj
 simp [World.cell?,h]
 simpa using hj
theorem kG {b:Nat} {c:Array Value} {t:TypeId} {fr:Nat×Nat} {vs suf:List Value} (h:w.heap[b]?=some (.cells c t fr)) (hs:c.toList=vs++suf):∀j v,vs[j]?=some v→w.cell? ⟨b,j,none⟩=some v:=by
 intro j v hj
 refine ib h j v ?_
 rw [hs,List.getElem?_append_left (List.getElem?_eq_some_iff.1 hj).1]
 exact hj
theorem l5 {t f:Nat} {fd:Field} (h:gz P t f=some fd):∃fs,P.underlying t=some (.struct fs)∧fs[f]?=some fd:=by
 unfold gz at h
 split at h
 · rename_i fs hu;exact ⟨fs,hu,h⟩
 · simp at h
theorem ca {t e:Nat} (h:c_ P t=some e):P.underlying t=some (.slice e):=by
 unfold c_ at h
 split at h
 · rename_i hu;simp at h;subst h;exact hu
 · simp at h
theorem sn {t f sz:Nat} {ag:Bool} {fd:Field} {x y:AV} {v:Value} (hf:gz P t f=some fd) (hsz:bw P fd.type=some sz) (hag:eD P fd.type=some ag)
   (h:a6 (.field fd.offset sz ag) [x]=some y) (hr:ah (num ns) G x v):∃u,(Instr.field t v f).run P w=.ok u w∧ah (num ns) G y u:=by
 obtain ⟨fs,hu,hg⟩:=l5 hf
 simp only [a6] at h
 split at h
 · rename_i cs
   simp only [ah] at hr
   obtain ⟨vs,rfl,hr⟩:=hr
   obtain ⟨u,h1,h2⟩:=vc (w:=w) hsz hag h hr
   refine ⟨u,?_,h2⟩
   simp only [Instr.field,Sem.run_bind,run_underlying hu,Result.andThen_ok,hg,asAgg,Sem.run_pure,h1]
 · rename_i cs
   simp only [ah,Rel] at hr
   obtain ⟨vs,rfl,hr⟩:=hr
   obtain ⟨u,h1,h2⟩:=sk (ns:=ns) (w:=w) hsz hag h hr
   refine ⟨u,?_,h2⟩
   simp only [Instr.field,Sem.run_bind,run_underlying hu,Result.andThen_ok,hg,asAgg,Sem.run_pure,h1]
 · simp at h
theorem jv {t f s:Nat} {fd:Field} (hf:gz P t f=some fd) (hsz:bw P fd.type=some s) (hs:s≠0) (b o:Nat) :
   (Instr.fieldAt t (.pointer (some ⟨b,o,none⟩)) f).run P w=.ok (.pointer (some ⟨b,o+fd.offset,none⟩)) w:=by
 obtain ⟨fs,hu,hg⟩:=l5 hf
 simp only [Instr.fieldAt,Sem.run_bind,run_underlying hu,Result.andThen_ok,hg,Instr.sureAddr,Sem.run_pure,fieldPlace,cB hsz,hs,if_false,Addr.cm]
theorem sq {t f s:Nat} {fd:Field} {x y:AV} {v:Value} (hf:gz P t f=some fd) (hsz:bw P fd.type=some s) (hs:s≠0)
   (h:a6 (.fw fd.offset) [x]=some y) (hr:ah (num ns) G x v):∃u,(Instr.fieldAt t v f).run P w=.ok u w∧ah (num ns) G y u:=by
 simp only [a6] at h
 split at h
 · simp at h;subst h
   simp only [ah] at hr
   obtain ⟨b,e,rfl⟩:=hr
   exact ⟨_,jv hf hsz hs _ _,by simp only [ah];exact ⟨b,e,rfl⟩⟩
 · simp at h;subst h
   simp only [ah] at hr
   obtain ⟨b,e,rfl⟩:=hr
   exact ⟨_,jv hf hsz hs _ _,by simp only [ah];exact ⟨b,e,rfl⟩⟩
 · simp at h;subst h
   simp only [ah] at hr
   obtain ⟨b,o,vs,rfl,h1,h2⟩:=hr
   refine ⟨_,jv hf hsz hs _ _,?_⟩
   simp only [ah]
   refine ⟨b,_,vs.drop fd.offset,rfl,?_,cg.drop _ h2⟩
   intro j u hj
   rw [List.getElem?_drop] at hj
   have:=h1 _ u hj
   rwa [Nat.add_assoc]
 · simp at h
theorem jw {t e sz:Nat} {k:IntKind} {i:Int} {b o len cap:Nat} (he:c_ P t=some e) (hsz:bw P e=some sz) (h0:0≤i) (hi:i.toNat<len) :
   (Instr.indexAt t (.slice (some ⟨b,o,none⟩) len cap) (.int k i)).run P w=.ok (.pointer (some ⟨b,o+i.toNat*sz,none⟩)) w:=by
 have hu:=ca he
 have:(0≤i∧i<(len:Int)):=⟨h0,by omega⟩
 simp only [Instr.indexAt,Sem.run_bind,asIntOf,Sem.run_pure,Result.andThen_ok,run_underlying hu]
 simp [this,cB hsz,Addr.cm]
theorem cE {x:AV} {v:Value} {els:List PV} (h:bF x=some els) (hr:ah (num ns) G x v):Rel G.K (.aF els) v:=by
 unfold bF at h
 split at h
 · simp at h;subst h;simpa only [ah] using hr
 · simp at h;subst h
   simp only [ah] at hr
   obtain ⟨b,l,rfl,hr⟩:=hr
   exact a7.2 ⟨b,l,l,rfl,Nat.le_refl _,hr⟩
 · simp at h;subst h
   simp only [ah] at hr
   obtain ⟨t,_,_,hr,_⟩:=hr
   exact hr
 · simp at h
theorem sr {t e sz:Nat} {k:IntKind} {i:Int} {x y:AV} {v:Value} (he:c_ P t=some e) (hsz:bw P e=some sz)
   (h:a6 (.e8 sz) [x,.pv (.int k i)]=some y) (hr:ah (num ns) G x v) :
   ∃u,(Instr.indexAt t v (.int k i)).run P w=.ok u w∧ah (num ns) G y u:=by
 simp only [a6] at h
 split at h
 · simp at h
 · rename_i h0
   split at h
   · rename_i s sz' n ag
     simp only [ah] at hr
     obtain ⟨b,c,e1,rfl,_⟩:=hr
     simp only [Option.ite_none_right_eq_some,Option.some.injEq] at h
     obtain ⟨⟨h1,h2⟩,rfl⟩:=h
     refine ⟨_,jw he hsz (by omega) h2,?_⟩
     simp only [ah]
     exact ⟨b,e1,by simp⟩
   · rename_i x' _
     split at h
     · rename_i els hels
       have hr':=cE hels hr
       obtain ⟨base,len,cap,rfl,_,hlen,hrow⟩:=a7.1 hr'
       split at h
       · rename_i el hel
         simp only [Option.ite_none_right_eq_some,Option.some.injEq] at h
         obtain ⟨hl,rfl⟩:=h
         have hlt:i.toNat<els.length:=(List.getElem?_eq_some_iff.1 hel).1
         rcases hrow with hnil | ⟨b,o,sz',rfl,hrow⟩
         · subst hnil;simp at hlt
         · obtain ⟨vs,g1,g2,g3⟩:=hrow.get hel
           have:sz=sz':=by rw [←hl,←g3.length,g1]
           subst this
           refine ⟨_,jw he hsz (by omega) (by omega),?_⟩
           simp only [ah]
           exact ⟨b,_,vs,rfl,g2,g3.cells⟩
       · simp at h
     · simp at h
theorem ss {t:Nat} {k:IntKind} {i:Int} {s:List UInt8} {y:AV} (hu:P.underlying t=some .string)
   (h:a6 .index [.pv (.str s),.pv (.int k i)]=some y) :
   ∃u,(Instr.index t (.string ⟨s.toArray⟩) (.int k i)).run P w=.ok u w∧ah (num ns) G y u:=by
 simp only [a6] at h
 split at h
 · simp at h
 · rename_i h0
   simp only [Option.map_eq_some_iff] at h
   obtain ⟨b,h1,rfl⟩:=h
   refine ⟨_,?_,cC⟩
   have h2:(ByteArray.mk s.toArray)[i.toNat]?=some b:=by
     have hlt:=(List.getElem?_eq_some_iff.1 h1).1
     rw [getElem?_pos (ByteArray.mk s.toArray) i.toNat (by simpa [ByteArray.size] using hlt)]
     have:=(List.getElem?_eq_some_iff.1 h1).2
     simp only [Option.some.injEq]
     rw [←this];rfl
   simp only [Instr.index,Sem.run_bind,asIntOf,Sem.run_pure,Result.andThen_ok,run_underlying hu]
   have h3:0≤i:=by omega
   simp only [h3,if_true,h2,Sem.run_pure]
end
end Go.Ab
namespace Go.Ab
section
variable {P:Program} {ns:Names} {G:Gh} {w:World}
theorem eF {α β:Type} {f:α→Option β}:∀{l:List α} {r:List β},bB f l=some r→r.length=l.length
 | [],_,h=>by simp [bB] at h;subst h;rfl
 | x::l,r,h=>by
   simp only [bB] at h
   split at h
   · rename_i y ys h1 h2
     simp at h;subst h
     simp [eF h2]
   · simp at h
theorem gB {α β:Type} {f:α→Option β}:∀{l:List α} {r:List β},bB f l=some r→∀{i:Nat} {x:α},l[i]?=some x→∃y,r[i]?=some y∧f x=some y
 | [],_,_,i,x,hx=>by simp at hx
 | a::l,r,h,i,x,hx=>by
   simp only [bB] at h
   split at h
   · rename_i y ys h1 h2
     simp at h;subst h
     cases i with
     | zero=>simp at hx;subst hx;exact ⟨y,by simp,h1⟩
     | succ i=>simpa using gB h2 (by simpa using hx)
   · simp at h
theorem su {α β:Type} {f:α→Sem β} {g:α→Option β} (hf:∀x y,g x=some y→(f x).run P w=.ok y w):∀{l:List α} {r:List β},
   bB g l=some r→(l.mapM f).run P w=.ok r w
 | [],_,h=>by simp [bB] at h;subst h;simp
 | x::l,r,h=>by
   simp only [bB] at h
   split at h
   · rename_i y ys h1 h2
     simp at h;subst h
     simp only [List.mapM_cons,Sem.run_bind,hf x y h1,Result.andThen_ok,su hf h2,Sem.run_pure]
   · simp at h
theorem eG {t:Nat} {z:List PV} (h:bn P t=some z):∃zv,(zeroValue t).run P w=.ok zv w∧bB ck zv.cells.toList=some z:=by
 unfold bn at h
 split at h
 · rename_i zv hz
   cases hi:P.info? t with
   | none=>simp [hi] at hz
   | some i=>
     simp [hi] at hz
     exact ⟨zv,by simp [zeroValue,typeInfo,hi,hz],h⟩
 · simp at h
theorem qM {ρ:bh} {v:Value} {p:PV} (h:ck v=some p):ah ρ G (a6.zeroCell p) v∧aJ (a6.zeroCell p)=true:=by
 obtain ⟨h1,h2⟩:=fk (K:=G.K) h
 unfold a6.zeroCell
 split
 · refine ⟨?_,rfl⟩
   cases v with
   | slice a l c=>
     cases a with
     | some a=>simp [ck] at h
     | none=>
       cases l with
       | succ l=>simp [ck] at h
       | zero=>
         cases c with
         | succ c=>simp [ck] at h
         | zero=>simp only [ah];exact ⟨none,0,rfl,rfl,.inl rfl⟩
   | _=>simp [ck] at h
 · refine ⟨by simp only [ah];exact Rel.Cd h1,?_⟩
   cases p<;>simp_all [aJ,e_]
theorem fq {ρ:bh}:∀{l:List Value} {z:List PV},bB ck l=some z→ae ρ G (z.map a6.zeroCell) l∧(z.map a6.zeroCell).all aJ=true
 | [],_,h=>by simp [bB] at h;subst h;simp [ae]
 | v::l,z,h=>by
   simp only [bB] at h
   split at h
   · rename_i y ys h1 h2
     simp at h;subst h
     obtain ⟨g1,g2⟩:=fq (ρ:=ρ) h2
     obtain ⟨g3,g4⟩:=qM (G:=G) (ρ:=ρ) h1
     simp only [List.map_cons,ae,List.all_cons,g4,g2,Bool.and_true,and_true]
     exact ⟨v,l,rfl,g3,g1⟩
   · simp at h
theorem lA (off:Nat):∀(l:List Value) (k:Nat) (cs:Array Value),off+k+l.length≤cs.size →
   ((l.zipIdx k).foldl (fun cs (x:Value×Nat)=>cs.setIfInBounds (off+x.2) x.1) cs).toList=cs.toList.take (off+k)++l++cs.toList.drop (off+k+l.length)
 | [],k,cs,_=>by simp
 | v::l,k,cs,h=>by
   simp only [List.zipIdx_cons,List.foldl_cons]
   have h':off+(k+1)+l.length≤(cs.setIfInBounds (off+k) v).size:=by simp at h ⊢;omega
   rw [lA off l (k+1) _ h']
   have:=list_seg_step cs.toList (off+k) v l (by simp at h ⊢;omega)
   simpa [Array.toList_setIfInBounds,Nat.add_assoc] using this
theorem cL {ρ:bh} {cs:List AV} {l:List Value} (off:Nat) {us:List AV} {vs:List Value} (h:ae ρ G cs l) (k:ae ρ G us vs) :
   ae ρ G (aM cs off us) (l.take off++vs++l.drop (off+vs.length)):=by
 unfold aM
 rw [←k.length]
 exact ae.append (ae.append (h.take off) k) (h.drop _)
theorem da {B:AV→Bool} {cs us:List AV} {off:Nat} (h:cs.all B=true) (k:us.all B=true):(aM cs off us).all B=true:=by
 unfold aM
 rw [List.all_eq_true] at *
 intro x hx
 simp only [List.mem_append] at hx
 rcases hx with (hx | hx) | hx
 · exact h x (List.mem_of_mem_take hx)
 · exact k x hx
 · exact h x (List.mem_of_mem_drop hx)
theorem nA {place:Nat→Option (Nat×Nat)}:∀{is:List Nat} {pl:List (Nat×Nat)} {vals:List AV} {rvs:List Value} {cells:List AV} {rc:Array Value} {cs:List AV},
   bB place is=some pl→ae (num ns) G vals rvs→ae (num ns) G cells rc.toList→cells.all aJ=true→is.length=rvs.length→jb cells pl vals=some cs →
   ∃rc',Instr.fill place rc (is.zip rvs)=some rc'∧ae (num ns) G cs rc'.toList∧cs.all aJ=true
 | [],pl,vals,rvs,cells,rc,cs,hp,hv,hc,hb,hl,h=>by
   simp [bB] at hp;subst hp
   have:rvs=[]:=by cases rvs<;>simp_all
   subst this
   have:=hv.length
   have:vals=[]:=by cases vals<;>simp_all
   subst this
   simp [jb] at h;subst h
   exact ⟨rc,by simp [Instr.fill],hc,hb⟩
 | i::is,pl,vals,rvs,cells,rc,cs,hp,hv,hc,hb,hl,h=>by
   simp only [bB] at hp
   split at hp
   · rename_i y ys h1 h2
     simp at hp;subst hp
     obtain ⟨off,sz⟩:=y
     cases vals with
     | nil=>simp [jb] at h
     | cons v vals=>
       simp only [ae] at hv
       obtain ⟨rv,rr,rfl,e1,e2⟩:=hv
       simp only [jb,Option.ite_none_right_eq_some] at h
       obtain ⟨⟨g1,g2,g3⟩,h⟩:=h
       have hcells:=e1.cells g3
       have hlen:=hcells.length
       have hsz:rv.cells.size=sz:=by rw [←g1,←hlen];simp
       have hrc:rc.size=cells.length:=by have:=hc.length;simpa using this
       simp only [List.zip_cons_cons,Instr.fill,h1]
       have hcond:(decide (rv.cells.size≠sz) || decide (off+rv.cells.size > rc.size))=false:=by
         simp [hsz];omega
       have hfold:(rv.cells.zipIdx.foldl (fun cs (x:Value×Nat)=>cs.setIfInBounds (off+x.2) x.1) rc).toList=rc.toList.take off++rv.cells.toList++rc.toList.drop (off+rv.cells.toList.length):=by
         have:=lA off rv.cells.toList 0 rc (by simp;omega)
         rw [←Array.foldl_toList]
         simpa using this
       rw [if_neg (by simp [hsz];omega)]
       refine nA (is:=is) h2 e2 (cells:=aM cells off (aE v)) ?_ (da hb g3) (by simpa using hl) h
       rw [hfold]
       exact cL off hc hcells
   · simp at hp
theorem qN {t:Nat} {all:List (Nat×Nat)} (h:fieldsOf P t=some all):∃fs,P.underlying t=some (.struct fs) ∧
   (fs.mapM fun f=>(do pure (f.offset,←sizeOf f.type):Sem (Nat×Nat))).run P w=.ok all.toArray w:=by
 unfold fieldsOf at h
 split at h
 · rename_i fs hu
   refine ⟨fs,hu,?_⟩
   rw [Array.mapM_eq_mapM_toList]
   simp only [Sem.run_map]
   rw [su (g:=fun f=>(bw P f.type).map fun s=>(f.offset,s)) ?_ h]
   · rfl
   · intro f y hy
     simp only [Option.map_eq_some_iff] at hy
     obtain ⟨s,h1,rfl⟩:=hy
     simp only [Sem.run_bind,cB h1,Result.andThen_ok,Sem.run_pure]
 · simp at h
theorem sw {t:Nat} {z:List PV} {is:List Nat} {pl:List (Nat×Nat)} {vals:List AV} {rvs:List Value} {x:AV}
   (hz:bn P t=some z) (hp:placesOf P t is=some pl) (hr:ae (num ns) G vals rvs) (hl:is.length=rvs.length) (h:a6 (.build z pl) vals=some x) :
   ∃v,(Instr.build t (is.zip rvs).toArray).run P w=.ok v w∧ah (num ns) G x v:=by
 obtain ⟨zv,hz1,hz2⟩:=eG (w:=w) hz
 unfold placesOf at hp
 split at hp
 · rename_i all hall
   obtain ⟨fs,hu,hm⟩:=qN (w:=w) hall
   simp only [a6,Option.map_eq_some_iff] at h
   obtain ⟨cs,h1,rfl⟩:=h
   obtain ⟨g1,g2⟩:=fq (G:=G) (ρ:=num ns) hz2
   obtain ⟨rc,e1,e2,_⟩:=nA (place:=(all.toArray[·]?)) (rc:=zv.cells) (by simpa using hp) hr g1 g2 hl h1
   refine ⟨.agg rc,?_,?_⟩
   · simp only [Instr.build,Sem.run_bind,hz1,Result.andThen_ok,run_underlying hu,hm]
     simp only [e1,Sem.run_pure]
   · simp only [ah]
     exact ⟨rc.toList,by simp,e2⟩
 · simp at hp
theorem Rel.I8 {K:aP} {p:PV} {v:Value} (h:Rel K p v):R K true p v.cells.toList:=by
 cases p with
 | agg cs=>obtain ⟨vs,rfl,h⟩:=h;simp only [R,Value.cells];exact ⟨trivial,by simpa using h⟩
 | bool b=>have h':=h;simp only [Rel,R] at h';simp at h';subst h';simpa [Value.cells] using R.top h
 | int k n=>have h':=h;simp only [Rel,R] at h';simp at h';subst h';simpa [Value.cells] using R.top h
 | str s=>have h':=h;simp only [Rel,R] at h';simp at h';subst h';simpa [Value.cells] using R.top h
 | aF els=>
   have h':=h
   obtain ⟨b,l,c,rfl,_⟩:=a7.1 h'
   simpa [Value.cells] using R.top h
theorem kH {x:AV} {p:PV} {v:Value} (h:ly x=some p) (hr:ah (num ns) G x v):Rel G.K p v:=by
 unfold ly at h
 split at h<;>simp at h<;>subst h
 · simpa only [ah] using hr
 · exact cE (x:=.cz _) rfl hr
 · exact cE (x:=.own _ _) rfl hr
theorem l6 {x:AV}:cV [] x=ly x:=by
 cases x<;>simp [cV,ly]
theorem lB {x:AV} {p:PV} (h:ly x=some p) (hl:aJ x=true):e_ p=true:=by
 cases x with
 | pv q=>simp [ly] at h;subst h;cases q<;>simp_all [aJ,e_]
 | cz _=>simp [ly] at h;subst h;rfl
 | own _ _=>simp [ly] at h;subst h;rfl
 | _=>simp [ly] at h
theorem Rel.Cf {K:aP} {p:PV} {v:Value} (h:Rel K p v) (hl:e_ p=true):R K false p [v]:=(Cc hl).1 h
theorem pS:∀{cs:List AV} {ps:List PV} {vs:List Value},cW [] cs=some ps→ae (num ns) G cs vs→cg G.K ps vs
 | [],ps,vs,h,hr=>by simp [cW] at h;subst h;simp only [ae] at hr;simp [cg,hr]
 | c::cs,ps,vs,h,hr=>by
   simp only [cW,l6,Option.ite_none_right_eq_some] at h
   obtain ⟨hl,h⟩:=h
   split at h
   · rename_i p ps' h1 h2
     simp at h;subst h
     simp only [ae] at hr
     obtain ⟨v,r,rfl,e1,e2⟩:=hr
     simp only [cg]
     exact ⟨v,r,rfl,(kH h1 e1).Cf (lB h1 hl),pS h2 e2⟩
   · simp at h
theorem iF {x:AV} {p:PV} {v:Value} (h:gQ [] x=some p) (hr:ah (num ns) G x v):Rel G.K p v:=by
 cases x with
 | agg cs=>
   simp only [gQ,Option.map_eq_some_iff] at h
   obtain ⟨ps,h1,rfl⟩:=h
   simp only [ah] at hr
   obtain ⟨vs,rfl,hr⟩:=hr
   simp only [Rel]
   exact ⟨vs,rfl,pS h1 hr⟩
 | _=>simp only [gQ,l6] at h;exact kH h hr
theorem iG:∀{xs:List AV} {ps:List PV} {vs:List Value},bY [] xs=some ps→ae (num ns) G xs vs→iq G.K ps vs
 | [],ps,vs,h,hr=>by simp [bY] at h;subst h;simp only [ae] at hr;exact hr
 | c::cs,ps,vs,h,hr=>by
   simp only [bY] at h
   split at h
   · rename_i p ps' h1 h2
     simp at h;subst h
     simp only [ae] at hr
     obtain ⟨v,r,rfl,e1,e2⟩:=hr
     exact ⟨v,r,rfl,iF h1 e1,iG h2 e2⟩
   · simp at h
def Gh.kI (G:Gh) (b:Nat) (c:Array Value):Gh:={ G with K:=fun b' o=>if b'=b then c[o]? else G.K b' o }
theorem Inv.gC {ρ:bh} {mem:List (Nat×List AV)} {sh:Sh} {aa:al} (h:Inv ρ G w mem sh aa) {b o:Nat} {v:Value} (hk:G.K b o=some v):b<w.heap.size:=
 World.block_lt_of_cell? _ _ (h.known b o v hk)
theorem Gh.jL {ρ:bh} {mem:List (Nat×List AV)} {sh:Sh} {aa:al} (h:Inv ρ G w mem sh aa) (c:Array Value):G.le (G.kI w.heap.size c) where
 K:=fun b o v hk=>by
   have:=h.gC hk
   simp only [Gh.kI]
   rw [if_neg (by omega)]
   exact hk
 pm:=fun _ _ h=>h
 sm:=fun _ _ h=>h
 tk:=fun _ t h=>⟨t,h,⟨Nat.le_refl _,t.eQ⟩,fun _=>rfl⟩
theorem aR {o:Obj} {b:Nat} (h:b<w.heap.size):(w.alloc o).heap[b]?=w.heap[b]?:=RowKit.Below.heap_alloc w o b h
theorem heap_alloc_new {o:Obj}:(w.alloc o).heap[w.heap.size]?=some o:=by
 show (w.heap.push o)[w.heap.size]?=some o
 simp
theorem bI {b:Nat} {o:Obj} (h:w.heap[b]?=some o):b<w.heap.size:=by
 rcases Nat.lt_or_ge b w.heap.size with h' | h'
 · exact h'
 · simp [Array.getElem?_eq_none h'] at h
theorem Iw.mono {ρ:bh} {G':Gh} {w':World} {b:Nat} {r:js} {cells:List AV} (h:Iw ρ G w b r cells) (hle:G.le G') (hr:G'.role b=G.role b) (hh:w'.heap[b]?=w.heap[b]?):Iw ρ G' w' b r cells:=by
 obtain ⟨h1,c,t,h2,h3⟩:=h
 exact ⟨hr.trans h1,c,t,hh.trans h2,ae.mono hle h3⟩
theorem qL.mono {ρ:bh} {G':Gh} {w':World} {b:Nat×Nat} {r:js} {cells:List AV} (h:qL ρ G w b r cells) (hle:G.le G') (hr:G'.role b.1=G.role b.1) (hh:w'.heap[b.1]?=w.heap[b.1]?):qL ρ G' w' b r cells:=by
 obtain ⟨h1,o,h2,h3⟩:=h
 exact ⟨hr.trans h1,o,hh.trans h2,h3.mono hle⟩
theorem qL.lt {ρ:bh} {b:Nat×Nat} {r:js} {cells:List AV} (h:qL ρ G w b r cells):b.1<w.heap.size:=by
 obtain ⟨_,o,h2,_⟩:=h
 exact bI h2
theorem Inv.jx {ρ:bh} {mem:List (Nat×List AV)} {sh:Sh} {aa:al} (h:Inv ρ G w mem sh aa) (c:Array Value) (t:TypeId) :
   Inv ρ (G.kI w.heap.size c) (w.alloc (.cells c t)) mem sh aa:=by
 have hle:=Gh.jL h c
 constructor
 · intro b o v hk
   simp only [Gh.kI] at hk
   split at hk
   · rename_i hb;subst hb
     simp [hk]
   · rw [World.cell?_alloc_old]
     · exact h.known b o v hk
     · simpa using ‹¬b=w.heap.size›
 · intro b o v hk
   simp only [Gh.kI] at hk
   split at hk
   · rename_i hb;subst hb
     exact .inl (h.fresh _ (Nat.le_refl _))
   · exact h.aK b o v hk
 · intro b hb
   simp at hb
   exact h.fresh b (by omega)
 · intro d cells hd
   obtain ⟨b,e1,e2,e3⟩:=h.bM d cells hd
   have hb:b<w.heap.size:=by obtain ⟨c,t,hh,_⟩:=e2.at_;exact bI hh
   exact ⟨b,e1,e2.mono hle rfl (aR hb),e3⟩
 · exact h.eR
 · intro d cells hd
   obtain ⟨b,e1,e2,e3⟩:=h.bS d cells hd
   have hb:b.1<w.heap.size:=e2.lt
   exact ⟨b,e1,e2.mono hle rfl (aR hb),e3⟩
 · exact h.dC
 · intro τ n hn
   obtain ⟨tk,e1,e2,e3⟩:=h.bT τ n hn
   refine ⟨tk,e1,e2,e3.cap,e3.zero,fun hlt=>?_⟩
   obtain ⟨b,o,cc,ty,f1,f2,f3,f4,f5⟩:=e3.spare hlt
   have hb:=bI f3
   refine ⟨b,o,cc,ty,f1,f2,(aR hb).trans f3,f4,fun j v hk=>f5 j v ?_⟩
   simp only [Gh.kI] at hk
   rwa [if_neg (by omega)] at hk
 · exact h.dD
 · intro b c' hb
   obtain ⟨h1,t',z,h2⟩:=h.jo b c' hb
   exact ⟨h1,t',z,(aR (Array.getElem?_eq_some_iff.1 h2).1).trans h2⟩
theorem aZ.jx {ρ:bh} {mem:List (Nat×List AV)} {sh:Sh} {aa:al} (h:Inv ρ G w mem sh aa) (c:Array Value) (t:TypeId) :
   aZ G w (G.kI w.heap.size c) (w.alloc (.cells c t)) where
 size:=by simp
 os:=rfl
 tape:=rfl
 output:=rfl
 K:=(Gh.jL h c).K
 sm:=fun _ _ h=>h
 cP:=fun b hb hr=>⟨hr,aR hb⟩
 fQ:=fun b τ _ hr=>.inr ⟨τ,hr⟩
 eS:=fun b o v hb _ hk=>by
   simp only [Gh.kI] at hk
   rwa [if_neg (by omega)] at hk
theorem EG {b:Nat} {l:List Value}:At (G.kI b l.toArray).K b 0 l:=by
 intro j v hj
 simp only [Gh.kI,if_true,Nat.zero_add]
 simpa using hj
end
end Go.Ab
namespace Go.Ab
section
variable {P:Program} {G:Gh} {w:World}
theorem gD {t:TypeId} {c:CK} (h:eP P t=some c):bw P t=some 1∧eD P t=some false ∧
   ((c=.int∧∃k,P.underlying t=some (.int k))∨(c=.str∧P.underlying t=some .string)∨(c=.bool∧P.underlying t=some .bool)):=by
 unfold eP at h
 simp only [Option.ite_none_right_eq_some] at h
 obtain ⟨h1,h⟩:=h
 refine ⟨h1,?_⟩
 split at h
 · rename_i k hu;cases h;exact ⟨by simp [eD,hu],.inl ⟨rfl,k,hu⟩⟩
 · rename_i hu;cases h;exact ⟨by simp [eD,hu],.inr (.inl ⟨rfl,hu⟩)⟩
 · rename_i hu;cases h;exact ⟨by simp [eD,hu],.inr (.inr ⟨rfl,hu⟩)⟩
 · cases h
theorem pT {c:CK} {p q:PV} {b:Bool} (h:nh c p q=some b) :
   (∃k x y,c=.int∧p=.int k x∧q=.int k y∧b=(x == y))∨(∃x y,c=.str∧p=.str x∧q=.str y∧b=(x == y))∨(∃x y,c=.bool∧p=.bool x∧q=.bool y∧b=(x == y)):=by
 unfold nh at h
 split at h
 · rename_i k x k' y
   simp only [Option.ite_none_right_eq_some,Option.some.injEq] at h
   obtain ⟨rfl,rfl⟩:=h
   exact .inl ⟨k,x,y,rfl,rfl,rfl,rfl⟩
 · rename_i x y;cases h;exact .inr (.inl ⟨x,y,rfl,rfl,rfl,rfl⟩)
 · rename_i x y;cases h;exact .inr (.inr ⟨x,y,rfl,rfl,rfl,rfl⟩)
 · cases h
theorem bytes_beq (a b:List UInt8):((⟨a.toArray⟩:ByteArray) == ⟨b.toArray⟩)=(a == b):=by
 rw [beq_toListBytes,toList_mk,toList_mk]
theorem pU {t:TypeId} {c:CK} (d:Nat) (ht:eP P t=some c) {K:aP} {p q:PV} {x y:Value} {b:Bool} (hx:Rel K p x) (hy:Rel K q y) (h:nh c p q=some b) :
   (Op.equalIn (d+1) t x y).run P w=.ok b w:=by
 obtain ⟨_,_,hk⟩:=gD ht
 rcases pT h with ⟨k,a,b',rfl,rfl,rfl,rfl⟩ | ⟨a,b',rfl,rfl,rfl,rfl⟩ | ⟨a,b',rfl,rfl,rfl,rfl⟩
 · rw [dJ] at hx hy;subst hx hy
   simp only [true_and,reduceCtorEq,false_and,or_false] at hk
   obtain ⟨k',hu⟩:=hk
   exact run_equalIn_int w d t k k' a b' hu
 · rw [gV] at hx hy;subst hx hy
   simp only [true_and,reduceCtorEq,false_and,or_false,false_or] at hk
   rw [run_equalIn_string w d t _ _ hk,toList_mk,toList_mk]
 · rw [dS] at hx hy;subst hx hy
   simp only [true_and,reduceCtorEq,false_and,false_or] at hk
   exact run_equalIn_bool' w d t a b' hk
theorem l7:∀{cs:List CK} {ps qs:List PV} {b:Bool},cX cs ps qs=some b→ps.length=cs.length∧qs.length=cs.length
 | [],[],[],_,_=>by simp
 | c::cs,p::ps,q::qs,b,h=>by
   simp only [cX] at h
   split at h
   · have:=l7 h;simp [this]
   · simp only [Option.ite_none_right_eq_some] at h
     simp [h.1]
   · cases h
 | [],_::_,_,_,h=>by simp [cX] at h
 | [],[],_::_,_,h=>by simp [cX] at h
 | _::_,[],_,_,h=>by simp [cX] at h
 | _::_,_::_,[],_,h=>by simp [cX] at h
theorem kJ (d:Nat):∀(fs:List Field) (i:Nat) {cs:List CK} {ps qs:List PV} {xs ys:List Value} {b:Bool},fh P i fs=some cs →
   cg G.K ps (xs.drop i)→cg G.K qs (ys.drop i)→cX cs ps qs=some b→(Op.eqFields (d+1) xs.toArray ys.toArray fs).run P w=.ok b w
 | [],i,cs,ps,qs,xs,ys,b,hp,hx,hy,h=>by
   simp [fh] at hp;subst hp
   obtain ⟨h1,h2⟩:=l7 h
   simp at h1 h2;subst h1 h2
   simp [cX] at h;subst h
   simp [Op.eqFields]
 | f::fs,i,cs,ps,qs,xs,ys,b,hp,hx,hy,h=>by
   simp only [fh,Option.ite_none_right_eq_some] at hp
   obtain ⟨⟨hn,ho⟩,hp⟩:=hp
   split at hp
   · rename_i c cs' hc hcs
     cases hp
     cases ps with
     | nil=>simp [cX] at h
     | cons p ps=>
       cases qs with
       | nil=>simp [cX] at h
       | cons q qs=>
         obtain ⟨hsz,hag,_⟩:=gD hc
         simp only [cg] at hx hy
         obtain ⟨x,xr,ex,rx,hx⟩:=hx
         obtain ⟨y,yr,ey,ry,hy⟩:=hy
         have gx:xs[i]?=some x:=by have:=congrArg (·[0]?) ex;simpa using this
         have gy:ys[i]?=some y:=by have:=congrArg (·[0]?) ey;simpa using this
         have dx:xs.drop (i+1)=xr:=by have:=congrArg (List.drop 1) ex;simpa [List.drop_drop,Nat.add_comm] using this
         have dy:ys.drop (i+1)=yr:=by have:=congrArg (List.drop 1) ey;simpa [List.drop_drop,Nat.add_comm] using this
         have px:∀w:World,(part f.type xs.toArray f.offset).run P w=.ok x w:=fun w=>by
           simp only [part,Sem.run_bind,eE hag,Result.andThen_ok,Bool.false_eq_true,if_false,ho]
           simp [gx]
         have py:∀w:World,(part f.type ys.toArray f.offset).run P w=.ok y w:=fun w=>by
           simp only [part,Sem.run_bind,eE hag,Result.andThen_ok,Bool.false_eq_true,if_false,ho]
           simp [gy]
         simp only [cX] at h
         simp only [Op.eqFields,if_pos hn,Sem.run_bind,px,py,Result.andThen_ok]
         split at h
         · rename_i hk
           rw [pU d hc (Rel.Cd rx) (Rel.Cd ry) hk]
           simp only [Result.andThen_ok,Bool.not_true,Bool.false_eq_true,if_false]
           exact kJ d fs (i+1) hcs (dx ▸ hx) (dy ▸ hy) h
         · rename_i hk
           simp only [Option.ite_none_right_eq_some,Option.some.injEq] at h
           obtain ⟨_,rfl⟩:=h
           rw [pU d hc (Rel.Cd rx) (Rel.Cd ry) hk]
           simp
         · cases h
   · cases hp
theorem yW {op:BinOp} {t:TypeId} {neg:Bool} {cs:List CK} {fs:Array Field} {ps qs:List PV} {x y:Value} {b:Bool} (hu:P.underlying t=some (.struct fs)) (h1:P.stoodInHeld t=false) (h2:P.eqGuardType P.depth t=false)
   (hp:fh P 0 fs.toList=some cs) (hop:(op=.eql∧neg=false)∨(op=.neq∧neg=true)) (hx:Rel G.K (.agg ps) x) (hy:Rel G.K (.agg qs) y) (h:cX cs ps qs=some b) (ox oy:Operand) :
   (do eqGuard op t ox oy x y;binOp op t x y:Sem Value).run P w=.ok (.bool (if neg then !b else b)) w:=by
 obtain ⟨xs,rfl,hx⟩:=hx
 obtain ⟨ys,rfl,hy⟩:=hy
 have hf:P.fieldsOf t=fs:=by simp [Program.fieldsOf,hu]
 have he:(Op.equalIn 10000 t (.agg xs.toArray) (.agg ys.toArray)).run P w=.ok b w:=by
   rw [show (10000:Nat)=9998+1+1 from rfl,run_equalIn_struct w (9998+1) t _ _ (by rw [hf];exact hu) h1,hf]
   exact kJ 9998 fs.toList 0 hp (by simpa using hx) (by simpa using hy) h
 simp only [Sem.run_bind,run_eqGuard_agg w op t ox oy _ _ h2,Result.andThen_ok]
 rcases hop with ⟨rfl,rfl⟩ | ⟨rfl,rfl⟩
 · rw [run_eql_struct,he];rfl
 · rw [run_neq_struct,he];rfl
theorem gX {t:TypeId} {c:CK} {d:TypeDesc} (ht:eP P t=some c) (hu:P.underlying t=some d) {K:aP} {p q:PV} {x y:Value} {b:Bool} (hx:Rel K p x) (hy:Rel K q y) (h:nh c p q=some b) :
   Instr.sameNow d x y=some b∧(b=true→Instr.sameBits 10000 y x=true):=by
 obtain ⟨_,_,hk⟩:=gD ht
 rw [hu] at hk
 rcases pT h with ⟨k,a,b',rfl,rfl,rfl,rfl⟩ | ⟨a,b',rfl,rfl,rfl,rfl⟩ | ⟨a,b',rfl,rfl,rfl,rfl⟩
 · rw [dJ] at hx hy;subst hx hy
   simp only [true_and,reduceCtorEq,false_and,or_false] at hk
   obtain ⟨k',hu⟩:=hk
   cases hu
   exact ⟨by simp [Instr.sameNow],fun e=>by simp at e;subst e;simp [Instr.sameBits]⟩
 · rw [gV] at hx hy;subst hx hy
   simp only [true_and,reduceCtorEq,false_and,or_false,false_or,Option.some.injEq] at hk
   subst hk
   exact ⟨by simp only [Instr.sameNow,bytes_beq],fun e=>by simp at e;subst e;simp only [Instr.sameBits,bytes_beq];simp⟩
 · rw [dS] at hx hy;subst hx hy
   simp only [true_and,reduceCtorEq,false_and,false_or,Option.some.injEq] at hk
   subst hk
   exact ⟨by simp [Instr.sameNow],fun e=>by simp at e;subst e;simp [Instr.sameBits]⟩
theorem l8 {t:TypeId} {c:CK} {d:TypeDesc} (ht:eP P t=some c) (hu:P.underlying t=some d) {K:aP} {k:PV} {kv:Value} (hk:Rel K k kv):∀{kvs:List (PV×PV)} {es:List MapEntry} {r:Option PV} (i:Nat),dR K kvs es→h_ c kvs k=some r →
   (r=none∧Instr.findNow d kv es i=some none)∨∃p v j,r=some p∧Instr.findNow d kv es i=some (some (j,v))∧Rel K p v
 | [],es,r,i,hm,h=>by
   simp only [dR] at hm;subst hm
   simp [h_] at h;subst h
   exact .inl ⟨rfl,by simp [Instr.findNow]⟩
 | (k',v')::kvs,es,r,i,hm,h=>by
   simp only [dR] at hm
   obtain ⟨e,es',rfl,h1,h2,h3⟩:=hm
   simp only [h_] at h
   split at h
   · rename_i hq
     cases h
     obtain ⟨g1,_⟩:=gX ht hu hk h1 hq
     exact .inr ⟨v',e.val,i,rfl,by simp [Instr.findNow,g1],h2⟩
   · rename_i hq
     obtain ⟨g1,_⟩:=gX ht hu hk h1 hq
     rcases l8 ht hu hk (i+1) h3 h with ⟨a1,a2⟩ | ⟨p,v,j,a1,a2,a3⟩
     · exact .inl ⟨a1,by simp [Instr.findNow,g1,a2]⟩
     · exact .inr ⟨p,v,j,a1,by simp [Instr.findNow,g1,a2],a3⟩
   · cases h
theorem eT {t:TypeId} {c:CK} (ht:eP P t=some c) (b:Bool) (n:Nat) (v:Value):(Instr.checkKey b (n+1) t v).run P w=.ok () w:=by
 obtain ⟨_,_,hk⟩:=gD ht
 rcases hk with ⟨_,k,hu⟩ | ⟨_,hu⟩ | ⟨_,hu⟩<;>simp [Instr.checkKey,run_underlying hu]
theorem gY {t:TypeId} {kv:Value} {es:List MapEntry} {d:TypeDesc} {r:Option (Nat×Value)} (hu:P.underlying t=some d) (h:Instr.findNow d kv es 0=some r) :
   (Instr.findKey t kv es).run P w=.ok r w:=by
 simp [Instr.findKey,run_underlying hu,h]
theorem kK {t:TypeId} {c:CK} (h:eP P t=some c):∃d,P.underlying t=some d:=by
 obtain ⟨_,_,hk⟩:=gD h
 rcases hk with ⟨_,k,hu⟩ | ⟨_,hu⟩ | ⟨_,hu⟩<;>exact ⟨_,hu⟩
theorem pV {t:TypeId} {c:CK} {d:TypeDesc} (ht:eP P t=some c) (hu:P.underlying t=some d) {K:aP} {k p:PV} {kv v:Value} (hk:Rel K k kv) (hp:Rel K p v) (clock:Nat):∀{kvs kvs':List (PV×PV)} {es:List MapEntry} (i:Nat),dR K kvs es→jm c kvs k p=some kvs' →
   (Instr.findNow d kv es i=some none∧dR K kvs' (es++[{ key:=kv,val:=v,born:=clock }])) ∨
   ∃j u e,Instr.findNow d kv es i=some (some (i+j,u))∧es[j]?=some e∧Instr.sameBits 10000 e.key kv=true∧dR K kvs' (es.modify j fun e=>{ e with key:=kv,val:=v })
 | [],kvs',es,i,hm,h=>by
   simp only [dR] at hm;subst hm
   simp [jm] at h;subst h
   exact .inl ⟨by simp [Instr.findNow],_,[],rfl,hk,hp,rfl⟩
 | (k',v')::kvs,kvs',es,i,hm,h=>by
   simp only [dR] at hm
   obtain ⟨e,es',rfl,h1,h2,h3⟩:=hm
   simp only [jm] at h
   split at h
   · rename_i hq
     cases h
     obtain ⟨g1,g2⟩:=gX ht hu hk h1 hq
     exact .inr ⟨0,e.val,e,by simp [Instr.findNow,g1],rfl,g2 rfl,_,es',rfl,hk,hp,h3⟩
   · rename_i hq
     simp only [Option.map_eq_some_iff] at h
     obtain ⟨kvs1,h,rfl⟩:=h
     obtain ⟨g1,_⟩:=gX ht hu hk h1 hq
     rcases pV ht hu hk hp clock (i+1) h3 h with ⟨a1,a2⟩ | ⟨j,u,e',a1,a2,a3,a4⟩
     · exact .inl ⟨by simp [Instr.findNow,g1,a1],e,_,rfl,h1,h2,a2⟩
     · refine .inr ⟨j+1,u,e',by simp [Instr.findNow,g1,a1];omega,by simpa using a2,a3,e,_,by simp,h1,h2,a4⟩
   · cases h
theorem pq {t kt et:TypeId} {c:CK} {d:TypeDesc} {b clock:Nat} {es:Array MapEntry} {k p:PV} {kv v:Value} {kvs kvs':List (PV×PV)} (hu:P.underlying t=some (.map kt et)) (ht:eP P kt=some c) (hd:P.underlying kt=some d)
   (hh:w.heap[b]?=some (.map es clock)) (hk:Rel G.K k kv) (hp:Rel G.K p v) (hm:dR G.K kvs es.toList) (h:jm c kvs k p=some kvs') :
   ∃es' clock',(Instr.mapUpdate t (.map (some b)) kv v).run P w=.ok () (w.putObj b (.map es' clock'))∧dR G.K kvs' es'.toList:=by
 have hget:(getObj b).run P w=.ok (.map es clock) w:=by simp [getObj,Sem.run,hh]
 have hset:∀o,(setObj b o).run P w=.ok () (w.putObj b o):=fun o=>by simp [setObj,Sem.run,hh,World.putObj]
 rcases pV ht hd hk hp clock 0 hm h with ⟨a1,a2⟩ | ⟨j,u,e,a1,a2,a3,a4⟩
 · refine ⟨es.push { key:=kv,val:=v,born:=clock },clock+1,?_,by simpa using a2⟩
   simp only [Instr.mapUpdate,Sem.run_bind,run_underlying hu,Result.andThen_ok,hget,eT ht,gY hd a1,hset]
 · refine ⟨es.modify j fun e=>{ e with key:=kv,val:=v },clock,?_,by simpa using a4⟩
   have he:es[0+j]?=some e:=by simpa using a2
   simp only [Instr.mapUpdate,Sem.run_bind,run_underlying hu,Result.andThen_ok,hget,eT ht,gY hd a1,hset,he,Option.map_some,Option.getD_some,Instr.keyThatStays,a3,if_true,Sem.run_pure]
   simp
theorem l9 {K:aP}:∀{l:List Value} {z:List PV},bB ck l=some z→cg K z l
 | [],_,h=>by simp [bB] at h;subst h;simp [cg]
 | v::l,z,h=>by
   simp only [bB] at h
   split at h
   · rename_i y ys h1 h2
     cases h
     simp only [cg]
     exact ⟨v,l,rfl,(fk h1).1,l9 h2⟩
   · cases h
theorem vd {t:TypeId} {z:PV} {K:aP} (h:zeroOf P t=some z):∃zv,(zeroValue t).run P w=.ok zv w∧Rel K z zv:=by
 unfold zeroOf at h
 cases hi:P.info? t with
 | none=>simp [hi] at h
 | some i=>
   simp only [hi,Option.bind_some] at h
   cases hz:i.zero with
   | none=>simp [hz] at h
   | some zv=>
     refine ⟨zv,by simp [zeroValue,typeInfo,hi,hz],?_⟩
     simp only [hz] at h
     split at h
     · rename_i cs hcs
       cases hcs
       simp only [Option.map_eq_some_iff] at h
       obtain ⟨ps,h1,rfl⟩:=h
       exact ⟨cs.toList,by simp,l9 h1⟩
     · rename_i v _ hv
       cases hv
       exact Rel.Cd (fk h).1
     · cases ‹_›
end
end Go.Ab
namespace Go.Ab
section
variable {P:Program} {ns:Names} {G:Gh} {w:World}
theorem l_ (sz:Nat):∀(rvs:List Value) (k:Nat) (rc:Array Value),rc.size=(k+rvs.length)*sz→(∀v∈rvs,v.cells.size=sz) →
   ∃rc',Instr.fill (fun i=>some (i*sz,sz)) rc ((List.range' k rvs.length).zip rvs)=some rc'∧rc'.toList=rc.toList.take (k*sz)++rvs.flatMap (fun v=>v.cells.toList)
 | [],k,rc,h,_=>⟨rc,by simp [Instr.fill],by simp at h;simp only [List.flatMap_nil,List.append_nil];rw [List.take_of_length_le];simp;omega⟩
 | v::rvs,k,rc,h,hs=>by
   have hv:=hs v (by simp)
   have hsz:rc.size=k*sz+(rvs.length+1)*sz:=by rw [h,Nat.add_mul];simp
   have hge:k*sz+sz≤rc.size:=by rw [hsz,Nat.add_mul];omega
   have hfold:(v.cells.zipIdx.foldl (fun cs (x:Value×Nat)=>cs.setIfInBounds (k*sz+x.2) x.1) rc).toList=rc.toList.take (k*sz)++v.cells.toList++rc.toList.drop (k*sz+sz):=by
     have:=lA (k*sz) v.cells.toList 0 rc (by simp [hv];omega)
     rw [←Array.foldl_toList]
     simpa [hv] using this
   have hsize:(v.cells.zipIdx.foldl (fun cs (x:Value×Nat)=>cs.setIfInBounds (k*sz+x.2) x.1) rc).size=rc.size:=by
     have hl:=congrArg List.length hfold
     rw [List.length_append,List.length_append,List.length_take,List.length_drop] at hl
     simp only [Array.length_toList,hv] at hl
     omega
   obtain ⟨rc',e1,e2⟩:=l_ sz rvs (k+1) _ (by rw [hsize,h];congr 1;simp;omega) (fun u hu=>hs u (by simp [hu]))
   refine ⟨rc',?_,?_⟩
   · simp only [List.length_cons,List.range'_succ,List.zip_cons_cons,Instr.fill]
     rw [if_neg (by simp [hv];omega)]
     exact e1
   · rw [e2,hfold]
     simp only [List.flatMap_cons]
     rw [List.append_assoc,List.take_append]
     have h1:(rc.toList.take (k*sz)).length=k*sz:=by simp;omega
     rw [h1]
     have h2:(k+1)*sz-k*sz=sz:=by rw [Nat.add_mul];omega
     rw [h2,List.take_of_length_le (by rw [h1,Nat.add_mul];omega),List.take_append]
     simp [hv,List.append_assoc]
     exact List.take_of_length_le (by simp [hv])
theorem mc (f:Operand→Value):∀(l:List (Nat×Operand)) (k:Nat),mT k l=true →
   l.map (fun x=>(x.1,f x.2))=(List.range' k ((l.map (·.2)).map f).length).zip ((l.map (·.2)).map f)
 | [],k,_=>by simp
 | (i,x)::l,k,h=>by
   simp only [mT,Bool.and_eq_true,beq_iff_eq] at h
   obtain ⟨rfl,h⟩:=h
   simp only [List.map_cons,List.length_cons,List.range'_succ,List.zip_cons_cons]
   rw [mc f l _ h]
theorem me (f:Operand→Value):∀(l:List (Nat×Operand)),l.map (fun x=>(x.1,f x.2))=(l.map (·.1)).zip ((l.map (·.2)).map f)
 | []=>by simp
 | x::l=>by simp [me f l]
theorem sx {K:aP} {b sz:Nat}:∀{els:List PV} {vs:List Value} {o:Nat},iq K els vs→els.all (fun e=>(aH e).length == sz)=true →
   At K b o (vs.flatMap fun v=>v.cells.toList)→Row K b o sz els
 | [],_,_,_,_,_=>by simp only [Row]
 | e::els,vs,o,⟨v,r,e1,e2,e3⟩,hs,ha=>by
   subst e1
   simp only [List.all_cons,Bool.and_eq_true,beq_iff_eq] at hs
   have hR:=e2.I8
   have hlen:v.cells.toList.length=sz:=by rw [hR.length,hs.1]
   simp only [Row]
   refine ⟨⟨v.cells.toList,hlen,?_,hR⟩,sx e3 hs.2 ?_⟩
   · intro j u hj
     exact ha j u (by simp only [List.flatMap_cons];rw [List.getElem?_append_left (List.getElem?_eq_some_iff.1 hj).1];exact hj)
   · intro j u hj
     have:=ha (sz+j) u (by simp only [List.flatMap_cons];rw [List.getElem?_append_right (by omega),hlen,Nat.add_sub_cancel_left];exact hj)
     rwa [←Nat.add_assoc] at this
theorem nB {K:aP} {sz:Nat}:∀{els:List PV} {vs:List Value},iq K els vs→els.all (fun e=>(aH e).length == sz)=true→∀v∈vs,v.cells.size=sz
 | [],vs,h,_,v,hv=>by cases h;simp at hv
 | e::els,vs,⟨u,r,e1,e2,e3⟩,hs,v,hv=>by
   subst e1
   simp only [List.all_cons,Bool.and_eq_true,beq_iff_eq] at hs
   simp only [List.mem_cons] at hv
   rcases hv with rfl | hv
   · have:=e2.I8.length;simp at this;rw [this,hs.1]
   · exact nB e3 hs.2 v hv
theorem qO {ρ:bh} {mem:List (Nat×List AV)} {sh:Sh} {aa:al} {t e sz n:Nat} {z:List PV} {vals:List AV} {rvs:List Value} {x:AV}
   (he:c_ P t=some e) (hsz:bw P e=some sz) (hz:bn P e=some z) (hn:rvs.length=n) (h0:0<sz) (hb:n*sz≤16777216)
   (hr:ae (num ns) G vals rvs) (hi:Inv ρ G w mem sh aa) (h:a6 (.cJ sz) vals=some x) :
   ∃v c,(Instr.buildSlice t n ((List.range' 0 rvs.length).zip rvs).toArray).run P w=.ok v (w.alloc (.cells c e)) ∧
     ah (num ns) (G.kI w.heap.size c) x v:=by
 have hu:=ca he
 simp only [a6,Option.bind_eq_some_iff,Option.ite_none_right_eq_some,Option.some.injEq] at h
 obtain ⟨els,h1,h2,rfl⟩:=h
 have hrl:=iG h1 hr
 have hlen:=hrl.length
 obtain ⟨zv,hz1,hz2⟩:=eG (w:=w) hz
 have hne:¬(n*sz=0∧0<n):=by rintro ⟨a,b⟩;have:=Nat.mul_pos b h0;omega
 let z0:Array Value:=if n*sz=0 then #[] else zv.cells
 have hinit:((Array.range (n*sz)).map (z0[· % z0.size]!)).size=(0+rvs.length)*sz:=by simp [hn]
 obtain ⟨rc,g1,g2⟩:=l_ sz rvs 0 _ hinit (nB hrl h2)
 have g2':rc.toList=rvs.flatMap (fun v=>v.cells.toList):=by simpa using g2
 refine ⟨.slice (some ⟨w.heap.size,0,none⟩) n n,rc,?_,?_⟩
 · simp only [Instr.buildSlice,Sem.run_bind,run_underlying hu,Result.andThen_ok,cB hsz]
   rw [if_neg (by omega)]
   by_cases h00:n*sz=0
   · have hz0:z0=#[]:=if_pos h00
     rw [hz0] at g1
     rw [if_pos h00]
     simp only [Sem.run_bind,Sem.run_pure,Result.andThen_ok,g1]
     rfl
   · have hz0:z0=zv.cells:=if_neg h00
     rw [hz0] at g1
     rw [if_neg h00]
     simp only [Sem.run_bind,Sem.run_pure,hz1,Result.andThen_ok,g1]
     rfl
 · simp only [ah]
   refine ⟨_,n,rfl,by omega,?_⟩
   by_cases hnil:els=[]
   · exact .inl hnil
   · refine .inr ⟨w.heap.size,0,sz,rfl,?_⟩
     have hle:=(Gh.jL hi rc).K
     refine sx (iq.mono hle hrl) h2 ?_
     rw [←g2']
     have:=EG (G:=G) (b:=w.heap.size) (l:=rc.toList)
     simpa using this
end
end Go.Ab
namespace Go.Ab
section
variable {P:Program} {ns:Names} {G:Gh} {w:World}
theorem bU {k:IntKind} {i:Int} {y:Nat} {code:BoundsCode} (h0:0≤i) (hy:i≤y):(Instr.sliceBound (.int k i) y code).run P w=.ok i.toNat w:=by
 simp only [Instr.sliceBound,Sem.run_bind,asIntOf,Sem.run_pure,Result.andThen_ok]
 rw [if_pos ⟨h0,hy⟩]
 rfl
theorem ke {lo hi mx:Option Operand} {f:Operand→Value} {rest:List AV} {n cap:Nat} {l h:Int} {m:Option Int} {b:Bool}
   (hr:ae (num ns) G rest ((lo.toList++hi.toList++mx.toList).map f)) (he:jn lo.isSome hi.isSome mx.isSome n rest=some (l,h,m))
   (h0:0≤l) (h1:l≤h) (h2:h≤n) (h3:n≤cap) (hm:∀x,m=some x→x=h) :
   (Instr.sliceBounds b n cap (lo.map f) (hi.map f) (mx.map f)).run P w=.ok (l.toNat,h.toNat,(m.map Int.toNat).getD cap) w:=by
 cases lo<;>cases hi<;>cases mx<;>simp only [Option.isSome_none,Option.isSome_some,jn] at he <;>
   (try (split at he<;>first | (simp at he;done) | skip))<;>(try (simp at he;done))
 all_goals simp at he
 all_goals obtain ⟨rfl,rfl,rfl⟩:=he
 all_goals (try contradiction)
 all_goals simp [ae,ah,Rel,R] at hr
 · simp only [Instr.sliceBounds,Option.map_none,Sem.run_bind,Sem.run_pure,Result.andThen_ok]
   simp
 · rename_i k h _ _ _
   have e1:=bU (P:=P) (w:=w) (k:=k) (i:=h) (y:=cap) (code:=if b then .sliceAcap else .sliceAlen) (by omega) (by omega)
   simp only [Instr.sliceBounds,Option.map_none,Option.map_some,hr,Sem.run_bind,Sem.run_pure,Result.andThen_ok,e1]
   simp
 · rename_i k h k' m _ _ _
   obtain ⟨hr1,hr2⟩:=hr
   have hmh:=hm m rfl
   subst hmh
   have e1:=bU (P:=P) (w:=w) (k:=k') (i:=m) (y:=cap) (code:=if b then .slice3Acap else .slice3Alen) (by omega) (by omega)
   have e2:=bU (P:=P) (w:=w) (k:=k) (i:=m) (y:=m.toNat) (code:=.slice3B) (by omega) (by omega)
   simp only [Instr.sliceBounds,Option.map_none,Option.map_some,hr1,hr2,Sem.run_bind,Sem.run_pure,Result.andThen_ok,e1,e2]
   simp
 · rename_i k l _ _ _
   have e1:=bU (P:=P) (w:=w) (k:=k) (i:=l) (y:=n) (code:=.sliceB) (by omega) (by omega)
   simp only [Instr.sliceBounds,Option.map_none,Option.map_some,hr,Sem.run_bind,Sem.run_pure,Result.andThen_ok,Option.isSome_none,Bool.false_eq_true,if_false,e1]
   simp
 · rename_i k l k' h _ _ _
   obtain ⟨hr1,hr2⟩:=hr
   have e1:=bU (P:=P) (w:=w) (k:=k') (i:=h) (y:=cap) (code:=if b then .sliceAcap else .sliceAlen) (by omega) (by omega)
   have e2:=bU (P:=P) (w:=w) (k:=k) (i:=l) (y:=h.toNat) (code:=.sliceB) (by omega) (by omega)
   simp only [Instr.sliceBounds,Option.map_none,Option.map_some,hr1,hr2,Sem.run_bind,Sem.run_pure,Result.andThen_ok,e1,Option.isSome_none,Bool.false_eq_true,if_false,e2]
   simp
 · rename_i k l k' h k'' m _ _ _
   obtain ⟨hr1,hr2,hr3⟩:=hr
   have hmh:=hm m rfl
   subst hmh
   have e1:=bU (P:=P) (w:=w) (k:=k'') (i:=m) (y:=cap) (code:=if b then .slice3Acap else .slice3Alen) (by omega) (by omega)
   have e2:=bU (P:=P) (w:=w) (k:=k') (i:=m) (y:=m.toNat) (code:=.slice3B) (by omega) (by omega)
   have e3:=bU (P:=P) (w:=w) (k:=k) (i:=l) (y:=m.toNat) (code:=.slice3C) (by omega) (by omega)
   simp only [Instr.sliceBounds,Option.map_some,hr1,hr2,hr3,Sem.run_bind,Sem.run_pure,Result.andThen_ok,e1,e2,Option.isSome_some,if_true,e3]
   simp
theorem EH {K:aP} {els:List PV} {b o sz l h:Nat} (hr:Row K b o sz els):Row K b (o+l*sz) sz ((els.take h).drop l):=Row.drop l (Row.take h hr)
theorem sy {t e sz:Nat} {lo hi mx:Option Operand} {f:Operand→Value} {x y:AV} {v:Value} {rest:List AV} (hu:P.underlying t=some (.slice e)) (hsz:bw P e=some sz)
   (hr:ae (num ns) G rest ((lo.toList++hi.toList++mx.toList).map f)) (hx:ah (num ns) G x v)
   (h:iE false sz lo.isSome hi.isSome mx.isSome (x::rest)=some y) :
   ∃u,(Instr.sliceAt t v (lo.map f) (hi.map f) (mx.map f)).run P w=.ok u w∧ah (num ns) G y u:=by
 simp only [iE,Bool.false_eq_true,if_false] at h
 split at h
 · rename_i els hels
   obtain ⟨base,len,cap,rfl,hcap,hlen,hrow⟩:=a7.1 (cE hels hx)
   split at h
   · rename_i l hh m hb
     simp only [Option.ite_none_right_eq_some] at h
     obtain ⟨⟨h0,h1,h2,h3⟩,h⟩:=h
     have hm:∀x,m=some x→x=hh:=by
       intro x hx;subst hx
       simp only [Option.ite_none_right_eq_some] at h
       exact h.1
     rw [hlen] at hb h2
     have hrun:=ke (P:=P) (w:=w) (b:=true) hr hb h0 h1 h2 (by omega:len≤cap) hm
     have eO:(Instr.sliceAt t (.slice base len cap) (lo.map f) (hi.map f) (mx.map f)).run P w =
         .ok (.slice (if (m.map Int.toNat).getD cap=l.toNat then base else base.map (·.add (l.toNat*sz))) (hh.toNat-l.toNat) ((m.map Int.toNat).getD cap-l.toNat)) w:=by
       simp only [Instr.sliceAt,Sem.run_bind,run_underlying hu,Result.andThen_ok,Instr.slice,hrun,cB hsz,Sem.run_pure]
     refine ⟨_,eO,?_⟩
     have hsl:F_ G.K ((els.take hh.toNat).drop l.toNat) (if (m.map Int.toNat).getD cap=l.toNat then base else base.map (·.add (l.toNat*sz))) (hh.toNat-l.toNat):=by
       refine ⟨by simp;omega,?_⟩
       by_cases hnil:(els.take hh.toNat).drop l.toNat=[]
       · exact .inl hnil
       · refine .inr ?_
         have hlt:l.toNat<hh.toNat:=by
           rcases Nat.lt_or_ge l.toNat hh.toNat with h' | h'
           · exact h'
           · exfalso;apply hnil;apply List.drop_of_length_le;simp;omega
         rcases hrow with hn | ⟨b,o,sz',rfl,hrow⟩
         · subst hn;simp at hnil
         · have hne:(m.map Int.toNat).getD cap≠l.toNat:=by
             cases m with
             | none=>simp;omega
             | some x=>have:=hm x rfl;subst this;simp;omega
           rw [if_neg hne]
           have hels':els≠[]:=by intro e;subst e;simp at hnil
           refine ⟨b,o+l.toNat*sz',sz',?_,EH hrow⟩
           rcases h3 with h3 | h3
           · subst h3;simp [Addr.add]
           · have:=hrow.sz h3 hels'
             subst this
             simp [Addr.cm]
     cases m with
     | none=>
       simp at h;subst h
       simp only [ah]
       exact a7.2 ⟨_,_,_,rfl,by simp;omega,hsl⟩
     | some x=>
       have:=hm x rfl
       subst this
       simp at h;subst h
       simp only [ah]
       exact ⟨_,_,rfl,hsl⟩
   · simp at h
 · simp at h
theorem qP {t e sz:Nat} {lo hi mx:Option Operand} {f:Operand→Value} {x y:AV} {v:Value} {rest:List AV} (hu:P.underlying t=some (.slice e)) (hsz:bw P e=some sz) (hmx:mx.isSome=false)
   (hr:ae (num ns) G rest ((lo.toList++hi.toList++mx.toList).map f)) (hx:ah (num ns) G x v)
   (h:kD sz lo.isSome hi.isSome (x::rest)=some y) :
   ∃u,(Instr.sliceAt t v (lo.map f) (hi.map f) (mx.map f)).run P w=.ok u w∧ah (num ns) G y u:=by
 unfold kD at h
 split at h
 · rename_i b z n ag rest' heq
   simp only [List.cons.injEq] at heq
   obtain ⟨rfl,rfl⟩:=heq
   rw [Option.ite_none_right_eq_some] at h
   obtain ⟨rfl,h⟩:=h
   split at h
   · rename_i l hh hb
     simp only [Option.ite_none_right_eq_some,Option.some.injEq] at h
     obtain ⟨⟨h0,h1,h2⟩,rfl⟩:=h
     simp only [ah] at hx
     obtain ⟨blk,cap,hsm,rfl,hroom⟩:=hx
     rw [←hmx] at hb
     have hrun:=ke (P:=P) (w:=w) (b:=true) (cap:=n+cap) hr hb h0 h1 h2 (by omega) (by simp)
     have eO:(Instr.sliceAt t (.slice (some ⟨blk.1,0,none⟩) n (n+cap)) (lo.map f) (hi.map f) (mx.map f)).run P w =
         .ok (.slice (if n+cap=l.toNat then some ⟨blk.1,0,none⟩ else (some ⟨blk.1,0,none⟩:Option Addr).map (·.add (l.toNat*z))) (hh.toNat-l.toNat) (n+cap-l.toNat)) w:=by
       simp only [Instr.sliceAt,Sem.run_bind,run_underlying hu,Result.andThen_ok,Instr.slice,hrun,cB hsz,Sem.run_pure,Option.map_none,Option.getD_none]
     refine ⟨_,eO,?_⟩
     by_cases hl:l=0
     · subst hl
       simp only [if_true,ah]
       refine ⟨blk,n+cap-hh.toNat,hsm,?_,?_⟩
       · have e1:hh.toNat+(n+cap-hh.toNat)=n+cap:=by omega
         rw [e1]
         simp [Addr.add]
       · have e1:hh.toNat+(n+cap-hh.toNat)=n+cap:=by omega
         rw [e1];exact hroom
     · rw [if_neg hl]
       simp only [ah]
       refine ⟨blk,_,_,hsm,rfl,?_⟩
       by_cases hz:hh.toNat-l.toNat=0
       · exact .inl hz
       · right
         rw [if_neg (by omega)]
         simp [Addr.add]
         exact fun e=>e.symm
   · simp at h
 · simp at h
theorem mO {t:Nat} {lo hi mx:Option Operand} {f:Operand→Value} {x y:AV} {v:Value} {rest:List AV} (hu:P.underlying t=some .string) (hmx:mx.isSome=false)
   (hr:ae (num ns) G rest ((lo.toList++hi.toList++mx.toList).map f)) (hx:ah (num ns) G x v)
   (h:iE true 0 lo.isSome hi.isSome false (x::rest)=some y) :
   ∃u,(Instr.sliceAt t v (lo.map f) (hi.map f) (mx.map f)).run P w=.ok u w∧ah (num ns) G y u:=by
 simp only [iE,if_true] at h
 split at h
 · rename_i s
   simp only [ah,gV] at hx
   subst hx
   split at h
   · rename_i l hh hb
     simp only [Option.ite_none_right_eq_some,Option.some.injEq] at h
     obtain ⟨⟨h0,h1,h2⟩,rfl⟩:=h
     rw [←hmx] at hb
     have hrun:=ke (P:=P) (w:=w) (b:=false) hr hb h0 h1 h2 (Nat.le_refl _) (by simp)
     have hmx':mx=none:=by cases mx<;>simp_all
     subst hmx'
     have hsize:(ByteArray.mk s.toArray).size=s.length:=by simp [ByteArray.size]
     refine ⟨.string ((ByteArray.mk s.toArray).extract l.toNat hh.toNat),?_,?_⟩
     · simp only [Instr.sliceAt,Sem.run_bind,run_underlying hu,Result.andThen_ok,Instr.slice,Option.map_none,Option.isSome_none,Bool.false_eq_true,if_false,hsize]
       simp only [Option.map_none] at hrun
       simp [hrun]
     · have:(ByteArray.mk s.toArray).extract l.toNat hh.toNat=⟨((s.take hh.toNat).drop l.toNat).toArray⟩:=by
         apply ByteArray.ext
         simp [ByteArray.data_extract]
         rw [List.drop_take]
       rw [this]
       exact nz
   · simp at h
 · simp at h
end
end Go.Ab
namespace Go.Ab
section
variable {P:Program} {ns:Names} {G:Gh} {w:World}
def sA (ns:Names) (P:Program) (G:Gh) (w:World) (mem:List (Nat×List AV)) (sh:Sh) (aa:al) (s:Sem Value) (x:AV):Prop:=
 ∃v w' G',s.run P w=.ok v w'∧ah (num ns) G' x v∧Inv (num ns) G' w' mem sh aa∧G.le G'∧aZ G w G' w'
theorem sA.stay {mem:List (Nat×List AV)} {sh:Sh} {aa:al} (hi:Inv (num ns) G w mem sh aa) {s:Sem Value} {x:AV} {v:Value} (h:s.run P w=.ok v w) (hr:ah (num ns) G x v) :
   sA ns P G w mem sh aa s x:=⟨v,w,G,h,hr,hi,G.le_refl,aZ.refl G w⟩
theorem bq {ρ:bh} {vals:List AV} {v:Value} (h:ae ρ G vals [v]):∃x,vals=[x]∧ah ρ G x v:=by
 cases vals with
 | nil=>simp [ae] at h
 | cons x r=>
   simp only [ae] at h
   obtain ⟨u,r',e,h1,h2⟩:=h
   cases e
   cases r with
   | nil=>exact ⟨x,rfl,h1⟩
   | cons _ _=>simp [ae] at h2
theorem cb {ρ:bh} {vals:List AV} {u v:Value} (h:ae ρ G vals [u,v]):∃x y,vals=[x,y]∧ah ρ G x u∧ah ρ G y v:=by
 cases vals with
 | nil=>simp [ae] at h
 | cons x r=>
   simp only [ae] at h
   obtain ⟨u',r',e,h1,h2⟩:=h
   cases e
   obtain ⟨y,rfl,h3⟩:=bq h2
   exact ⟨x,y,rfl,h1,h3⟩
theorem jy {ρ:bh} {vals:List AV} {u v t:Value} (h:ae ρ G vals [u,v,t]):∃x y z,vals=[x,y,z]∧ah ρ G x u∧ah ρ G y v∧ah ρ G z t:=by
 cases vals with
 | nil=>simp [ae] at h
 | cons x r=>
   simp only [ae] at h
   obtain ⟨u',r',e,h1,h2⟩:=h
   cases e
   obtain ⟨y,z,rfl,h3,h4⟩:=cb h2
   exact ⟨x,y,z,rfl,h1,h3,h4⟩
theorem Cg {x1 x2 x3 x:AV} (h:a6 .pick [x1,x2,x3]=some x):∃c,x1=.pv (.bool c)∧x=if c then x2 else x3:=by
 cases x1 with
 | pv p=>cases p with
   | bool c=>exact ⟨c,rfl,by simpa [a6] using h.symm⟩
   | _=>simp [a6] at h
 | _=>simp [a6] at h
theorem EI {neg:Bool} {x1 x2 x:AV} (h:a6 (.beq neg) [x1,x2]=some x):∃p q,x1=.pv (.bool p)∧x2=.pv (.bool q)∧x=.pv (.bool (if neg then !(p == q) else (p == q))):=by
 cases x1 with
 | pv p=>cases p with
   | bool c=>cases x2 with
     | pv q=>cases q with
       | bool d=>exact ⟨c,d,rfl,rfl,by simpa [a6] using h.symm⟩
       | _=>simp [a6] at h
     | _=>simp [a6] at h
   | _=>simp [a6] at h
 | _=>simp [a6] at h
theorem Ci {k:IntKind} {x1 x:AV} (h:a6 (.conv k) [x1]=some x):∃k' n,x1=.pv (.int k' n)∧x=.pv (.int k (k.wrap n)):=by
 cases x1 with
 | pv p=>cases p with
   | int k' n=>exact ⟨k',n,rfl,by simpa [a6] using h.symm⟩
   | _=>simp [a6] at h
 | _=>simp [a6] at h
theorem yX {sz:Nat} {x1 x2 x:AV} (h:a6 (.e8 sz) [x1,x2]=some x):∃k i,x2=.pv (.int k i):=by
 cases x2 with
 | pv p=>cases p with
   | int k n=>exact ⟨k,n,rfl⟩
   | _=>simp [a6] at h
 | _=>simp [a6] at h
theorem yY {x1 x2 x:AV} (h:a6 .index [x1,x2]=some x):∃s k i,x1=.pv (.str s)∧x2=.pv (.int k i):=by
 cases x1 with
 | pv q=>cases q with
   | str s=>cases x2 with
     | pv p=>cases p with
       | int k n=>exact ⟨s,k,n,rfl,rfl⟩
       | _=>simp [a6] at h
     | _=>simp [a6] at h
   | _=>simp [a6] at h
 | _=>simp [a6] at h
theorem nC:∀{els:List PV} {s:List UInt8},dW els=some s→els=s.map fun b=>.int .u8 (b.toNat:Int)
 | [],s,h=>by simp [dW] at h;subst h;rfl
 | .int .u8 n::r,s,h=>by
   simp only [dW,Option.ite_none_right_eq_some,Option.map_eq_some_iff] at h
   obtain ⟨⟨h0,h1⟩,q,h2,rfl⟩:=h
   have:((UInt8.ofNat n.toNat).toNat:Int)=n:=by
     simp
     omega
   simp only [List.map_cons,this,←nC h2]
 | .int .i64 _::_,_,h=>by simp [dW] at h
 | .int .i32 _::_,_,h=>by simp [dW] at h
 | .int .i16 _::_,_,h=>by simp [dW] at h
 | .int .i8 _::_,_,h=>by simp [dW] at h
 | .int .u64 _::_,_,h=>by simp [dW] at h
 | .int .u32 _::_,_,h=>by simp [dW] at h
 | .int .u16 _::_,_,h=>by simp [dW] at h
 | .bool _::_,_,h=>by simp [dW] at h
 | .str _::_,_,h=>by simp [dW] at h
 | .agg _::_,_,h=>by simp [dW] at h
 | .aF _::_,_,h=>by simp [dW] at h
theorem b2s_inv {x1 x:AV} (h:a6 .b2s [x1]=some x):∃s:List UInt8,bF x1=some (s.map fun b=>.int .u8 (b.toNat:Int))∧x=.pv (.str s):=by
 simp only [a6,Option.map_eq_some_iff,Option.bind_eq_some_iff] at h
 obtain ⟨s,⟨els,h1,h2⟩,rfl⟩:=h
 exact ⟨s,by rw [h1,nC h2],rfl⟩
theorem b2s_run {s d e:TypeId} {l:List UInt8} {x:AV} {v:Value} (hs:P.underlying s=some (.slice e)) (he:P.underlying e=some (.int .u8)) (hd:P.underlying d=some .string)
   (hi:∀b o u,G.K b o=some u→w.cell? ⟨b,o,none⟩=some u) (hx:bF x=some (l.map fun b=>.int .u8 (b.toNat:Int))) (hr:ah (num ns) G x v) :
   (convert s d v).run P w=.ok (.string ⟨l.toArray⟩) w:=by
 obtain ⟨base,len,cap,rfl,_,hlen,hrow⟩:=a7.1 (cE hx hr)
 simp only [List.length_map] at hlen
 subst hlen
 cases base with
 | none=>
   have h0:l=[]:=by
     rcases hrow with h | ⟨b,o,sz,e,_⟩
     · simpa using h
     · cases e
   subst h0
   show (convert s d (.slice none 0 cap)).run P w=_
   rw [run_convert_bytes_string w s d e none 0 cap hs he hd]
   simp [Conv.bytesToString]
   rfl
 | some a=>
   refine run_convert_bytes_back w s d e a cap l hs he hd fun j hj=>?_
   rcases hrow with h | ⟨b,o,sz,e,hrow⟩
   · simp at h;subst h;simp at hj
   · cases e
     obtain ⟨vs,g1,g2,g3⟩:=hrow.get (i:=j) (el:=.int .u8 (l[j].toNat:Int)) (by simp [hj])
     simp only [R] at g3
     subst g3
     simp at g1
     subst g1
     rw [Addr.cm]
     have:=g2 0 _ rfl
     simp at this
     exact hi _ _ _ this
theorem EJ {i:Nat} {x1 x:AV} (h:a6 (.ext i) [x1]=some x):∃vs,x1=.lr vs∧vs[i]?=some x:=by
 cases x1 with
 | lr vs=>exact ⟨vs,rfl,by simpa [a6] using h⟩
 | _=>simp [a6] at h
theorem yZ {sz:Nat} {ag:Bool} {x1 x:AV} (h:a6 (.e9 sz ag) [x1]=some x):∃cs,x1=.cS cs∧bQ ag sz cs=some x:=by
 cases x1 with
 | cS vs=>exact ⟨vs,rfl,by simpa [a6] using h⟩
 | _=>simp [a6] at h
theorem Cj {x1 x:AV} (h:a6 .uV [x1]=some x):∃s,x1=.pv (.str s)∧x=.pv (.int .i64 (s.length:Int)):=by
 cases x1 with
 | pv q=>cases q with
   | str s=>exact ⟨s,rfl,by simpa [a6] using h.symm⟩
   | _=>simp [a6] at h
 | _=>simp [a6] at h
theorem EK {cs:List CK} {neg:Bool} {x1 x2 x:AV} (h:a6 (.HB cs neg) [x1,x2]=some x):∃ps qs b,gQ [] x1=some (.agg ps)∧gQ [] x2=some (.agg qs)∧cX cs ps qs=some b∧x=.pv (.bool (if neg then !b else b)):=by
 simp only [a6] at h
 split at h
 · rename_i ps qs h1 h2
   simp only [Option.map_eq_some_iff] at h
   obtain ⟨b,h3,rfl⟩:=h
   exact ⟨ps,qs,b,h1,h2,h3,rfl⟩
 · cases h
theorem GA {x1 x2 x:AV} (h:a6 .mn [x1,x2]=some x):∃k p q,x1=.pv (.int k p)∧x2=.pv (.int k q)∧x=.pv (.int k (if q<p then q else p)):=by
 cases x1 with
 | pv q=>cases q with
   | int k s=>cases x2 with
     | pv p=>cases p with
       | int k' n=>
         simp only [a6,Option.ite_none_right_eq_some,Option.some.injEq] at h
         obtain ⟨rfl,rfl⟩:=h
         exact ⟨k,s,n,rfl,rfl,rfl⟩
       | _=>simp [a6] at h
     | _=>simp [a6] at h
   | _=>simp [a6] at h
 | _=>simp [a6] at h
theorem GB {x1 x2 x:AV} (h:a6 .mx [x1,x2]=some x):∃k p q,x1=.pv (.int k p)∧x2=.pv (.int k q)∧x=.pv (.int k (if q > p then q else p)):=by
 cases x1 with
 | pv q=>cases q with
   | int k s=>cases x2 with
     | pv p=>cases p with
       | int k' n=>
         simp only [a6,Option.ite_none_right_eq_some,Option.some.injEq] at h
         obtain ⟨rfl,rfl⟩:=h
         exact ⟨k,s,n,rfl,rfl,rfl⟩
       | _=>simp [a6] at h
     | _=>simp [a6] at h
   | _=>simp [a6] at h
 | _=>simp [a6] at h
theorem sB {A:gm} {o:Oper} {vo:ED} {args:List Operand} (hc:aU P ns A o.dst o.op=some (.v vo,args)) {a:Act} {vals:List AV} {x:AV}
   {mem:List (Nat×List AV)} {sh:Sh} {aa:al} (hr:ae (num ns) G vals (args.map a.eval)) (hi:Inv (num ns) G w mem sh aa) (h:a6 vo vals=some x) :
   ∃v w' G',(execOp a.eval o).run P w=.ok (.value v) w'∧ah (num ns) G' x v∧Inv (num ns) G' w' mem sh aa∧G.le G'∧aZ G w G' w':=by
 obtain ⟨dst,op,type,pos,after,guard⟩:=o
 have lift:∀{s:Sem Value},sA ns P G w mem sh aa s x→(execOp a.eval ⟨dst,op,type,pos,after,guard⟩=(do pure (.value (←s)):Sem Next)) →
     ∃v w' G',(execOp a.eval ⟨dst,op,type,pos,after,guard⟩).run P w=.ok (.value v) w'∧ah (num ns) G' x v∧Inv (num ns) G' w' mem sh aa∧G.le G'∧aZ G w G' w':=by
   rintro s ⟨v,w',G',h1,h2,h3,h4,h5⟩ he
   exact ⟨v,w',G',by rw [he];simp only [Sem.run_bind,h1,Result.andThen_ok,Sem.run_pure],h2,h3,h4,h5⟩
 cases op<;>simp only [aU] at hc
 case move y=>
   simp at hc;obtain ⟨rfl,rfl⟩:=hc
   obtain ⟨x',rfl,h1⟩:=bq (by simpa using hr)
   simp [a6] at h;subst h
   exact ⟨_,w,G,by simp [execOp],h1,hi,G.le_refl,aZ.refl G w⟩
 case assign y=>
   simp at hc;obtain ⟨rfl,rfl⟩:=hc
   obtain ⟨x',rfl,h1⟩:=bq (by simpa using hr)
   simp [a6] at h;subst h
   exact ⟨_,w,G,by simp [execOp],h1,hi,G.le_refl,aZ.refl G w⟩
 case pick c y z=>
   simp at hc;obtain ⟨rfl,rfl⟩:=hc
   obtain ⟨x1,x2,x3,rfl,h1,h2,h3⟩:=jy (by simpa using hr)
   obtain ⟨b,rfl,rfl⟩:=Cg h
   simp only [ah,dS] at h1
   refine ⟨if b then a.eval y else a.eval z,w,G,by simp [execOp,h1,asBool],?_,hi,G.le_refl,aZ.refl G w⟩
   cases b<;>simp [h2,h3]
 case binOp op t y z ty=>
   simp only [Option.map_eq_some_iff] at hc
   obtain ⟨vo',h0,he⟩:=hc
   simp at he;obtain ⟨rfl,rfl⟩:=he
   obtain ⟨x1,x2,rfl,h1,h2⟩:=cb (by simpa using hr)
   unfold yo at h0
   refine lift (s:=do eqGuard op t y z (a.eval y) (a.eval z);binOp op t (a.eval y) (a.eval z)) ?_ rfl
   split at h0
   · simp at h0;subst h0
     simp only [a6] at h
     obtain ⟨v,g1,g2⟩:=l3 (P:=P) (w:=w) (t:=t) h1 h2 h y z
     exact .stay hi g1 g2
   · simp at h0;subst h0
     simp only [a6] at h
     obtain ⟨v,g1,g2⟩:=l3 (P:=P) (w:=w) (t:=t) h1 h2 h y z
     exact .stay hi g1 g2
   · rename_i hu
     have key:∀neg,vo'=.beq neg→((op=.eql∧neg=false)∨(op=.neq∧neg=true))→sA ns P G w mem sh aa (do eqGuard op t y z (a.eval y) (a.eval z);binOp op t (a.eval y) (a.eval z)) x:=by
       intro neg hvo hop
       subst hvo
       obtain ⟨p,q,rfl,rfl,rfl⟩:=EI h
       simp only [ah,dS] at h1 h2
       rw [h1,h2]
       exact .stay hi (sj hu hop p q y z) ir
     split at h0
     · simp at h0;exact key false h0.symm (.inl ⟨‹_›,rfl⟩)
     · split at h0
       · simp at h0;exact key true h0.symm (.inr ⟨‹_›,rfl⟩)
       · simp at h0
   · rename_i fs hu
     simp only [Option.ite_none_right_eq_some] at h0
     obtain ⟨⟨hs1,hs2⟩,h0⟩:=h0
     split at h0
     · rename_i cs hcs
       have key:∀neg,vo'=.HB cs neg→((op=.eql∧neg=false)∨(op=.neq∧neg=true))→sA ns P G w mem sh aa (do eqGuard op t y z (a.eval y) (a.eval z);binOp op t (a.eval y) (a.eval z)) x:=by
         intro neg hvo hop
         subst hvo
         obtain ⟨ps,qs,b,f1,f2,f3,rfl⟩:=EK h
         exact .stay hi (yW hu hs1 hs2 hcs hop (iF f1 h1) (iF f2 h2) f3 y z) ir
       split at h0
       · simp at h0;exact key false h0.symm (.inl ⟨‹_›,rfl⟩)
       · split at h0
         · simp at h0;exact key true h0.symm (.inr ⟨‹_›,rfl⟩)
         · simp at h0
     · simp at h0
   · simp at h0
 case unOp op t y=>
   simp at hc;obtain ⟨rfl,rfl⟩:=hc
   obtain ⟨x',rfl,h1⟩:=bq (by simpa using hr)
   refine lift (s:=Op.unary op (a.eval y)) ?_ rfl
   simp only [a6] at h
   unfold HC at h
   split at h
   · split at h<;>simp at h
     subst h
     simp only [ah,dS] at h1
     rw [h1]
     exact .stay hi (by simp [Op.unary]) ir
   · split at h<;>simp at h
     subst h
     simp only [ah,dJ] at h1
     rw [h1]
     exact .stay hi (by simp [Op.unary,Op.intArith]) cC
   · simp at h
 case convert s d y=>
   split at hc
   · rename_i k1 k2 hs hd
     simp at hc;obtain ⟨rfl,rfl⟩:=hc
     obtain ⟨x',rfl,h1⟩:=bq (by simpa using hr)
     obtain ⟨k',n,rfl,rfl⟩:=Ci h
     simp only [ah,dJ] at h1
     refine lift (s:=convert s d (a.eval y)) ?_ rfl
     rw [h1]
     exact .stay hi (by simp [convert,run_underlying hs,run_underlying hd,Conv.intToInt]) cC
   · rename_i e hs hd
     split at hc
     · rename_i he
       simp at hc;obtain ⟨rfl,rfl⟩:=hc
       obtain ⟨x',rfl,h1⟩:=bq (by simpa using hr)
       obtain ⟨l,hl,rfl⟩:=b2s_inv h
       refine lift (s:=convert s d (a.eval y)) ?_ rfl
       exact .stay hi (b2s_run hs he hd hi.known hl h1) nz
     · simp at hc
   · simp at hc
 case extract y i=>
   simp at hc;obtain ⟨rfl,rfl⟩:=hc
   obtain ⟨x',rfl,h1⟩:=bq (by simpa using hr)
   obtain ⟨vs,rfl,h2⟩:=EJ h
   simp only [ah] at h1
   obtain ⟨us,h3,h4⟩:=h1
   obtain ⟨u,h5,h6⟩:=h4.get h2
   refine lift (s:=Instr.extract (a.eval y) i) ?_ rfl
   rw [h3]
   exact .stay hi (by simp [Instr.extract,h5]) h6
 case field t y f=>
   split at hc
   · rename_i fd hf
     split at hc
     · rename_i sz ag hsz hag
       simp at hc;obtain ⟨rfl,rfl⟩:=hc
       obtain ⟨x',rfl,h1⟩:=bq (by simpa using hr)
       obtain ⟨u,g1,g2⟩:=sn (w:=w) hf hsz hag h h1
       exact lift (s:=Instr.field t (a.eval y) f) (.stay hi g1 g2) rfl
     · simp at hc
   · simp at hc
 case fieldAddr t y f=>
   split at hc
   · rename_i fd hf
     split at hc
     · rename_i sz hsz
       split at hc
       · simp at hc
       · rename_i hs0
         simp at hc;obtain ⟨rfl,rfl⟩:=hc
         obtain ⟨x',rfl,h1⟩:=bq (by simpa using hr)
         obtain ⟨u,g1,g2⟩:=sq (w:=w) hf hsz hs0 h h1
         exact lift (s:=Instr.fieldAt t (a.eval y) f) (.stay hi g1 g2) rfl
     · simp at hc
   · simp at hc
 case indexAddr t y i=>
   split at hc
   · rename_i e he
     simp only [Option.map_eq_some_iff] at hc
     obtain ⟨sz,hsz,hc⟩:=hc
     simp at hc;obtain ⟨rfl,rfl⟩:=hc
     obtain ⟨x1,x2,rfl,h1,h2⟩:=cb (by simpa using hr)
     obtain ⟨k,i',rfl⟩:=yX h
     obtain ⟨u,g1,g2⟩:=sr (w:=w) he hsz h h1
     simp only [ah,dJ] at h2
     refine lift (s:=Instr.indexAt t (a.eval y) (a.eval i)) ?_ rfl
     rw [h2]
     exact .stay hi g1 g2
   · simp at hc
 case index t y i=>
   split at hc
   · rename_i hu
     simp at hc;obtain ⟨rfl,rfl⟩:=hc
     obtain ⟨x1,x2,rfl,h1,h2⟩:=cb (by simpa using hr)
     obtain ⟨s,k,i',rfl,rfl⟩:=yY h
     obtain ⟨u,g1,g2⟩:=ss (ns:=ns) (G:=G) (w:=w) hu h
     simp only [ah,dJ,gV] at h1 h2
     refine lift (s:=Instr.index t (a.eval y) (a.eval i)) ?_ rfl
     rw [h1,h2]
     exact .stay hi g1 g2
   · simp at hc
 case build t ps=>
   split at hc
   · rename_i fs hu
     split at hc
     · rename_i z pl hz hp
       simp at hc;obtain ⟨rfl,rfl⟩:=hc
       have hmap:(ps.map fun (i,x)=>(i,a.eval x))=((ps.toList.map (·.1)).zip ((ps.toList.map (·.2)).map a.eval)).toArray:=by
         apply Array.ext'
         rw [Array.toList_map]
         exact me a.eval ps.toList
       refine lift (s:=Instr.build t (ps.map fun (i,x)=>(i,a.eval x))) ?_ rfl
       rw [hmap]
       obtain ⟨u,g1,g2⟩:=sw (w:=w) hz hp hr (by simp) h
       exact .stay hi g1 g2
     · simp at hc
   · simp at hc
 case buildSlice t n ps=>
   split at hc
   · rename_i e he
     split at hc
     · rename_i sz z hsz hz
       simp only [Option.ite_none_right_eq_some,Option.some.injEq,Prod.mk.injEq] at hc
       obtain ⟨⟨hn,hord,h0,hb⟩,hvo,rfl⟩:=hc
       simp at hvo;subst hvo
       have hmap:(ps.map fun (i,x)=>(i,a.eval x))=((List.range' 0 ((ps.toList.map (·.2)).map a.eval).length).zip ((ps.toList.map (·.2)).map a.eval)).toArray:=by
         apply Array.ext'
         rw [Array.toList_map]
         exact mc a.eval ps.toList 0 hord
       refine lift (s:=Instr.buildSlice t n (ps.map fun (i,x)=>(i,a.eval x))) ?_ rfl
       rw [hmap]
       obtain ⟨u,c,g1,g2⟩:=qO he hsz hz (by simp [hn]) h0 hb hr hi h
       exact ⟨u,_,_,g1,g2,hi.jx c e,Gh.jL hi c,aZ.jx hi c e⟩
     · simp at hc
   · simp at hc
 case load t y=>
   split at hc
   · rename_i sz ag hsz hag
     split at hc
     · rename_i tx
       split at hc
       · simp at hc
       · split at hc
         · simp at hc
         · simp at hc;obtain ⟨rfl,rfl⟩:=hc
           obtain ⟨x',rfl,h1⟩:=bq (by simpa using hr)
           obtain ⟨cs,rfl,h2⟩:=yZ h
           simp only [ah] at h1
           obtain ⟨b,o,vs,e,ha,hrl⟩:=h1
           refine lift (s:=Instr.loadAt t (a.eval (.tmp tx))) ?_ rfl
           rw [e]
           obtain ⟨u,g1,g2⟩:=j7 (ns:=ns) (w:=w) hsz hag h2 hrl (fun j v hj=>hi.known _ _ _ (ha j v hj))
           exact .stay hi (by simp [Instr.loadAt,Instr.sureAddr,g1]) g2
     · simp at hc
   · simp at hc
 case nilCheck y=>
   simp at hc;obtain ⟨rfl,rfl⟩:=hc
   obtain ⟨x',rfl,h1⟩:=bq (by simpa using hr)
   simp only [a6] at h
   split at h
   · simp at h;subst h
     have h1':=h1
     simp only [ah] at h1
     obtain ⟨b,e,hv⟩:=h1
     exact ⟨a.eval y,w,G,by simp [execOp,hv],h1',hi,G.le_refl,aZ.refl G w⟩
   · simp at h;subst h
     have h1':=h1
     simp only [ah] at h1
     obtain ⟨b,e,hv⟩:=h1
     exact ⟨a.eval y,w,G,by simp [execOp,hv],h1',hi,G.le_refl,aZ.refl G w⟩
   · simp at h;subst h
     have h1':=h1
     simp only [ah] at h1
     obtain ⟨b,o,vs,hv,_⟩:=h1
     exact ⟨a.eval y,w,G,by simp [execOp,hv],h1',hi,G.le_refl,aZ.refl G w⟩
   · simp at h;subst h
     have h1':=h1
     simp only [ah] at h1
     obtain ⟨f,vs,_,hv,_⟩:=h1
     exact ⟨a.eval y,w,G,by simp [execOp,hv],h1',hi,G.le_refl,aZ.refl G w⟩
   · simp at h
 case makeFunc fn first cap=>
   split at hc
   · rename_i f
     split at hc
     · rename_i hf
       simp only [Option.map_eq_some_iff] at hc
       obtain ⟨g,hg,hc⟩:=hc
       simp at hc;obtain ⟨rfl,rfl⟩:=hc
       simp [a6] at h;subst h
       refine lift (s:=Instr.makeFunc (.func f) (first.map a.eval) (cap.map a.eval)) ?_ rfl
       have hfirst:first=#[]:=by simpa using hf
       subst hfirst
       refine .stay (v:=.func (.func f) #[] (cap.map a.eval)) hi (by simp [Instr.makeFunc]) ?_
       simp only [ah]
       exact ⟨f,cap.toList.map a.eval,hg,by congr 1;apply Array.ext';simp,hr⟩
     · simp at hc
   · simp at hc
 case slice t y lo hi' mx=>
   split at hc
   · rename_i e hu
     split at hc
     · rename_i hhot
       simp only [Option.map_eq_some_iff] at hc
       obtain ⟨sz,hsz,hc⟩:=hc
       simp only [Prod.mk.injEq,AK.v.injEq] at hc
       obtain ⟨rfl,rfl⟩:=hc
       cases vals with
       | nil=>simp [ae] at hr
       | cons x0 rest=>
         simp only [List.map_cons,ae] at hr
         obtain ⟨v,r,e1,h1,h2⟩:=hr
         simp only [List.cons.injEq] at e1
         obtain ⟨rfl,rfl⟩:=e1
         simp only [a6] at h
         obtain ⟨u,g1,g2⟩:=qP (w:=w) hu hsz hhot.1 h2 h1 h
         exact lift (s:=Instr.sliceAt t (a.eval y) (lo.map a.eval) (hi'.map a.eval) (mx.map a.eval)) (.stay hi g1 g2) rfl
     · simp only [Option.map_eq_some_iff] at hc
       obtain ⟨sz,hsz,hc⟩:=hc
       simp only [Prod.mk.injEq,AK.v.injEq] at hc
       obtain ⟨rfl,rfl⟩:=hc
       cases vals with
       | nil=>simp [ae] at hr
       | cons x0 rest=>
         simp only [List.map_cons,ae] at hr
         obtain ⟨v,r,e1,h1,h2⟩:=hr
         simp only [List.cons.injEq] at e1
         obtain ⟨rfl,rfl⟩:=e1
         simp only [a6] at h
         obtain ⟨u,g1,g2⟩:=sy (w:=w) hu hsz h2 h1 h
         exact lift (s:=Instr.sliceAt t (a.eval y) (lo.map a.eval) (hi'.map a.eval) (mx.map a.eval)) (.stay hi g1 g2) rfl
   · rename_i hu
     split at hc
     · simp at hc
     · rename_i hmx
       simp only [Option.some.injEq,Prod.mk.injEq,AK.v.injEq] at hc
       obtain ⟨rfl,rfl⟩:=hc
       cases vals with
       | nil=>simp [ae] at hr
       | cons x0 rest=>
         simp only [List.map_cons,ae] at hr
         obtain ⟨v,r,e1,h1,h2⟩:=hr
         simp only [List.cons.injEq] at e1
         obtain ⟨rfl,rfl⟩:=e1
         simp only [a6] at h
         obtain ⟨u,g1,g2⟩:=mO (w:=w) hu (by simpa using hmx) h2 h1 h
         exact lift (s:=Instr.sliceAt t (a.eval y) (lo.map a.eval) (hi'.map a.eval) (mx.map a.eval)) (.stay hi g1 g2) rfl
   · simp at hc
 case call c=>
   obtain ⟨callee,cargs,ctypes⟩:=c
   simp only at hc
   split at hc
   · -- len
     split at hc
     · rename_i y e hcargs ht
       simp only [Option.some.injEq,Prod.mk.injEq,AK.v.injEq] at hc
       obtain ⟨rfl,rfl⟩:=hc
       simp only [Option.bind_eq_some_iff] at ht
       obtain ⟨t,ht1,ht2⟩:=ht
       obtain ⟨x',rfl,h1⟩:=bq (by simpa using hr)
       have hca:cargs=#[y]:=by apply Array.ext';simpa using hcargs
       subst hca
       have hrun:∀base n c,(Builtin.len_ ctypes type #[.slice base n c]).run P w=.ok (goInt n) w:=by
         intro base n c
         simp [Builtin.len_,ht1,run_underlying ht2]
       refine lift (s:=Builtin.len_ ctypes type #[a.eval y]) ?_ ?_
       · simp only [a6] at h
         split at h
         · simp at h;subst h
           simp only [ah] at h1
           obtain ⟨b,cap,_,hv,_⟩:=h1
           rw [hv]
           exact .stay hi (hrun _ _ _) cC
         · rename_i x0 _
           simp only [Option.map_eq_some_iff] at h
           obtain ⟨l,hl,rfl⟩:=h
           obtain ⟨b,len,cap,hv,_,hlen,_⟩:=a7.1 (cE hl h1)
           rw [hv]
           refine .stay hi (hrun _ _ _) ?_
           rw [hlen]
           exact cC
       · simp [execOp,resolve,invoke,builtin]
     · rename_i y hcargs ht
       simp only [Option.some.injEq,Prod.mk.injEq,AK.v.injEq] at hc
       obtain ⟨rfl,rfl⟩:=hc
       simp only [Option.bind_eq_some_iff] at ht
       obtain ⟨t,ht1,ht2⟩:=ht
       obtain ⟨x',rfl,h1⟩:=bq (by simpa using hr)
       have hca:cargs=#[y]:=by apply Array.ext';simpa using hcargs
       subst hca
       obtain ⟨s,rfl,rfl⟩:=Cj h
       simp only [ah,gV] at h1
       refine lift (s:=Builtin.len_ ctypes type #[a.eval y]) ?_ ?_
       · rw [h1]
         refine .stay (v:=goInt (ByteArray.mk s.toArray).size) hi (by simp [Builtin.len_,ht1,run_underlying ht2]) ?_
         have:(ByteArray.mk s.toArray).size=s.length:=by simp [ByteArray.size]
         rw [this]
         exact cC
       · simp [execOp,resolve,invoke,builtin]
     · simp at hc
   · split at hc
     · rename_i y z hcargs
       simp only [Option.some.injEq,Prod.mk.injEq,AK.v.injEq] at hc
       obtain ⟨rfl,rfl⟩:=hc
       have hca:cargs=#[y,z]:=by apply Array.ext';simpa using hcargs
       subst hca
       obtain ⟨x1,x2,rfl,h1,h2⟩:=cb (by simpa using hr)
       obtain ⟨k,p,q,rfl,rfl,rfl⟩:=GA h
       simp only [ah,dJ] at h1 h2
       refine lift (s:=Builtin.min_ ctypes type #[a.eval y,a.eval z]) ?_ ?_
       · rw [h1,h2]
         exact .stay hi (by simp [Builtin.min_,Builtin.min2]) cC
       · simp [execOp,resolve,invoke,builtin]
     · simp at hc
   · split at hc
     · rename_i y z hcargs
       simp only [Option.some.injEq,Prod.mk.injEq,AK.v.injEq] at hc
       obtain ⟨rfl,rfl⟩:=hc
       have hca:cargs=#[y,z]:=by apply Array.ext';simpa using hcargs
       subst hca
       obtain ⟨x1,x2,rfl,h1,h2⟩:=cb (by simpa using hr)
       obtain ⟨k,p,q,rfl,rfl,rfl⟩:=GB h
       simp only [ah,dJ] at h1 h2
       refine lift (s:=Builtin.max_ ctypes type #[a.eval y,a.eval z]) ?_ ?_
       · rw [h1,h2]
         exact .stay hi (by simp [Builtin.max_,Builtin.max2]) cC
       · simp [execOp,resolve,invoke,builtin]
     · simp at hc
   · split at hc
     · split at hc
       · split at hc
         · split at hc
           · simp at hc
           · split at hc<;>simp at hc
         · simp at hc
       · simp at hc
     · simp at hc
   · split at hc
     · split at hc
       · split at hc<;>simp at hc
       · simp at hc
     · simp at hc
   · split at hc
     · split at hc<;>simp at hc
     · simp at hc
   · split at hc
     · split at hc
       · rw [Option.ite_none_right_eq_some] at hc
         obtain ⟨_,hc⟩:=hc
         split at hc
         · split at hc
           · simp at hc
           · simp at hc
         · simp at hc
       · split at hc
         · simp at hc
         · split at hc
           · simp at hc
           · split at hc<;>simp at hc
     · simp at hc
   · split at hc<;>simp at hc
   · simp at hc
 case store t y v=>
   split at hc
   · split at hc
     · simp at hc
     · split at hc<;>simp at hc
   · simp at hc
 case alloc t=>
   split at hc
   · split at hc
     · split at hc<;>simp at hc
     · simp at hc
     · simp at hc
   · simp at hc
 case box t y=>
   split at hc
   · split at hc
     · split at hc<;>simp at hc
     · simp at hc
     · split at hc<;>simp at hc
   · simp at hc
 case makeSlice t l c=>
   split at hc
   · split at hc
     · split at hc
       · split at hc
         · split at hc<;>simp at hc
         · simp at hc
         · simp at hc
       · simp at hc
     · simp at hc
   · simp at hc
 case makeMap t r=>split at hc<;>simp at hc
 case lookup t y i ok=>
   split at hc
   · split at hc<;>simp at hc
   · simp at hc
 case mapUpdate t m i y=>
   split at hc<;>simp at hc
 case insert t m i y=>
   split at hc<;>simp at hc
 all_goals simp at hc
end
end Go.Ab
namespace Go.Ab
section
variable {P:Program} {ns:Names} {G:Gh} {w:World}
theorem aL {α:Type}:∀(l:List (Nat×α)) (k:Nat) (v:α),look (bN l k v) k=some v
 | [],k,v=>by simp [bN,look]
 | (k',u)::r,k,v=>by
   simp only [bN]
   split
   · rename_i h;simp [look,h]
   · rename_i h;simp [look,h,aL r k v]
theorem aA {α:Type}:∀(l:List (Nat×α)) (k k':Nat) (v:α),k≠k'→look (bN l k v) k'=look l k'
 | [],k,k',v,h=>by simp [bN,look,h]
 | (k0,u)::r,k,k',v,h=>by
   simp only [bN]
   split
   · rename_i h0;subst h0;simp [look,h]
   · simp only [look];split
     · rfl
     · exact aA r k k' v h
structure fc (G:Gh) (w w':World) (b:Nat):Prop where
 size:w'.heap.size=w.heap.size
 other:∀k,k≠b→w'.heap[k]?=w.heap[k]?
 os:w'.os=w.os
 tape:w'.tape=w.tape
 output:w'.output=w.output
theorem fc.setRow (b:Nat) (c:Array Value):fc G w (w.setRow b c) b:=
 ⟨setRow_size _ _ _,fun k h=>setRow_other _ _ _ _ h,rfl,rfl,rfl⟩
theorem fc.pd {w':World} {b:Nat} (h:fc G w w' b) (hb:G.role b≠.cP):aZ G w G w' where
 size:=by rw [h.size];exact Nat.le_refl _
 os:=h.os
 tape:=h.tape
 output:=h.output
 K:=G.K.le_refl
 sm:=fun _ _ h=>h
 cP:=fun _ _ hr=>⟨hr,h.other _ (fun e=>hb (e ▸ hr))⟩
 fQ:=fun _ τ _ hr=>.inr ⟨τ,hr⟩
 eS:=fun _ _ _ _ _ hk=>hk
theorem fc.known {ρ:bh} {mem:List (Nat×List AV)} {sh:Sh} {aa:al} (hi:Inv ρ G w mem sh aa) {w':World} {b:Nat} (h:fc G w w' b)
   (hb:G.role b≠.cP) (hbt:∀τ,G.role b≠.tok τ):∀b' o v,G.K b' o=some v→w'.cell? ⟨b',o,none⟩=some v:=by
 intro b' o v hk
 have hne:b'≠b:=by
   rintro rfl
   rcases hi.aK _ _ _ hk with h1 | ⟨τ,h1⟩
   · exact hb h1
   · exact hbt τ h1
 have:=hi.known b' o v hk
 unfold World.cell? at this ⊢
 simp only at this ⊢
 rw [h.other b' hne]
 exact this
theorem fc.tok {ρ:bh} {mem:List (Nat×List AV)} {sh:Sh} {aa:al} (hi:Inv ρ G w mem sh aa) {w':World} {b:Nat} (h:fc G w w' b)
   (hbt:∀τ,G.role b≠.tok τ):∀τ n,aa[τ]?=some n→∃t,G.tk τ=some t∧t.len=n∧HG G w' τ t:=by
 intro τ n hn
 obtain ⟨t,e1,e2,e3⟩:=hi.bT τ n hn
 refine ⟨t,e1,e2,e3.cap,e3.zero,fun hlt=>?_⟩
 obtain ⟨b',o,c,ty,f1,f2,f3,f4,f5⟩:=e3.spare hlt
 exact ⟨b',o,c,ty,f1,f2,by rw [h.other b' (fun e=>hbt τ (e ▸ f2))];exact f3,f4,f5⟩
theorem Inv.y_ {ρ:bh} {mem:List (Nat×List AV)} {sh:Sh} {aa:al} (hi:Inv ρ G w mem sh aa) {d b:Nat} {cells cells':List AV} {c':Array Value}
   (hl:look mem d=some cells) (hp:G.pm d=some b) (hr:ae ρ G cells' c'.toList) (hb:cells'.all aJ=true) :
   Inv ρ G (w.setRow b c') (bN mem d cells') sh aa∧aZ G w G (w.setRow b c'):=by
 obtain ⟨b0,e1,e2,e3⟩:=hi.bM d cells hl
 have:b0=b:=by rw [hp] at e1;simpa using e1.symm
 subst this
 obtain ⟨hrole,c,t,hh,_⟩:=e2
 have hne:G.role b0≠.cP:=by rw [hrole];simp
 have hnt:∀τ,G.role b0≠.tok τ:=by intro τ;rw [hrole];simp
 have hA:=fc.setRow (G:=G) (w:=w) b0 c'
 refine ⟨⟨hA.known hi hne hnt,hi.aK,?_,?_,?_,?_,hi.dC,hA.tok hi hnt,hi.dD,hi.fj (hA.pd hne)⟩,hA.pd hne⟩
 · intro k hk;rw [hA.size] at hk;exact hi.fresh k hk
 · intro d' cs hd'
   by_cases hdd:d=d'
   · subst hdd
     rw [aL] at hd'
     simp at hd';subst hd'
     exact ⟨b0,hp,⟨hrole,c',t,setRow_heap _ _ _ _ _ _ hh,hr⟩,hb⟩
   · rw [aA _ _ _ _ hdd] at hd'
     obtain ⟨b',g1,g2,g3⟩:=hi.bM d' cs hd'
     refine ⟨b',g1,⟨g2.role,?_⟩,g3⟩
     obtain ⟨c2,t2,hh2,hr2⟩:=g2.at_
     refine ⟨c2,t2,?_,hr2⟩
     rw [hA.other b']
     · exact hh2
     · rintro rfl
       have:=g2.role
       rw [hrole] at this
       simp at this
       exact hdd this
 · intro d' b' hd'
   by_cases hdd:d=d'
   · subst hdd;rw [aL];rfl
   · rw [aA _ _ _ _ hdd];exact hi.eR d' b' hd'
 · intro s cs hs
   obtain ⟨b',g1,g2,g3⟩:=hi.bS s cs hs
   refine ⟨b',g1,⟨g2.role,?_⟩,g3⟩
   obtain ⟨o2,hh2,hr2⟩:=g2.at_
   refine ⟨o2,?_,hr2⟩
   rw [hA.other b'.1]
   · exact hh2
   · intro he
     have:=g2.role
     rw [he,hrole] at this
     simp at this
theorem Inv.pW {ρ:bh} {mem:List (Nat×List AV)} {sh:Sh} {aa:al} (hi:Inv ρ G w mem sh aa) {s:Nat} {b:Nat×Nat} {cells cells':List AV} {w':World} {o':Obj}
   (hl:sh[s]?=some (some cells)) (hp:G.sm s=some b) (hA:fc G w w' b.1) (ho:w'.heap[b.1]?=some o') (hr:Holds ρ G o' b.2 cells') (hb:cells'.all bO=true) (hf:cells'.all (au (s+1))=true) :
   Inv ρ G w' mem (sh.set s (some cells')) aa∧aZ G w G w':=by
 obtain ⟨b0,e1,e2,e3⟩:=hi.bS s cells hl
 have:b0=b:=by rw [hp] at e1;simpa using e1.symm
 subst this
 have hrole:=e2.role
 have hne:G.role b0.1≠.cP:=by rw [hrole];simp
 have hnt:∀τ,G.role b0.1≠.tok τ:=by intro τ;rw [hrole];simp
 refine ⟨⟨hA.known hi hne hnt,hi.aK,?_,?_,hi.eR,?_,?_,hA.tok hi hnt,hi.dD,hi.fj (hA.pd hne)⟩,hA.pd hne⟩
 · intro k hk;rw [hA.size] at hk;exact hi.fresh k hk
 · intro d' cs hd'
   obtain ⟨b',g1,g2,g3⟩:=hi.bM d' cs hd'
   refine ⟨b',g1,⟨g2.role,?_⟩,g3⟩
   obtain ⟨c2,t2,hh2,hr2⟩:=g2.at_
   refine ⟨c2,t2,?_,hr2⟩
   rw [hA.other b']
   · exact hh2
   · rintro rfl
     have:=g2.role
     rw [hrole] at this
     simp at this
 · intro s' cs hs
   rw [List.getElem?_set] at hs
   split at hs
   · rename_i he;subst he
     split at hs
     · simp at hs;subst hs
       exact ⟨b0,hp,⟨hrole,o',ho,hr⟩,hb,hf⟩
     · simp at hs
   · rename_i hne'
     obtain ⟨b',g1,g2,g3⟩:=hi.bS s' cs hs
     refine ⟨b',g1,⟨g2.role,?_⟩,g3⟩
     obtain ⟨o2,hh2,hr2⟩:=g2.at_
     refine ⟨o2,?_,hr2⟩
     rw [hA.other b'.1]
     · exact hh2
     · intro he
       have:=g2.role
       rw [he,hrole] at this
       simp at this
       exact hne' this
 · intro s' b' h;simpa using hi.dC s' b' h
theorem Inv.iu {ρ:bh} {mem:List (Nat×List AV)} {sh:Sh} {aa:al} (hi:Inv ρ G w mem sh aa) {s:Nat} {b:Nat×Nat} {cells cells':List AV} {c c':Array Value} {t:TypeId} {vs suf:List Value}
   (hl:sh[s]?=some (some cells)) (hp:G.sm s=some b) (hh:w.heap[b.1]?=some (.cells c t (0,0))) (hsz:c'.size=b.2) (hsp:c'.toList=vs++suf) (hr:ae ρ G cells' vs) (hb:cells'.all bO=true) (hf:cells'.all (au (s+1))=true) :
   Inv ρ G (w.setRow b.1 c') mem (sh.set s (some cells')) aa∧aZ G w G (w.setRow b.1 c'):=
 hi.pW hl hp (fc.setRow b.1 c') (setRow_heap _ _ _ _ _ _ hh) (.inl ⟨c',t,vs,suf,rfl,hsz,hsp,hr⟩) hb hf
theorem fc.putObj (b:Nat) (o:Obj):fc G w (w.putObj b o) b:=
 ⟨by simp [World.putObj],fun _ h=>World.putObj_heap_other h,rfl,rfl,rfl⟩
theorem Inv.Ck {ρ:bh} {mem:List (Nat×List AV)} {sh:Sh} {aa:al} (hi:Inv ρ G w mem sh aa) {s:Nat} {b:Nat×Nat} {kvs:List (PV×PV)} {cells:List AV} {es:Array MapEntry} {clock:Nat}
   (hl:sh[s]?=some (some cells)) (hp:G.sm s=some b) (hm:dR G.K kvs es.toList) :
   Inv ρ G (w.putObj b.1 (.map es clock)) mem (sh.set s (some [.cT kvs])) aa∧aZ G w G (w.putObj b.1 (.map es clock)):=by
 obtain ⟨b0,e1,e2,e3⟩:=hi.bS s cells hl
 have:b0=b:=by rw [hp] at e1;simpa using e1.symm
 subst this
 exact hi.pW hl hp (fc.putObj _ _) (World.putObj_heap_same e2.lt) (.inr ⟨es,clock,kvs,rfl,rfl,hm⟩) rfl rfl
def Gh.cw (G:Gh) (d b:Nat):Gh:={ G with role:=fun k=>if k=b then .jh d else G.role k,pm:=fun k=>if k=d then some b else G.pm k }
def Gh.bV (G:Gh) (s b n:Nat):Gh:={ G with role:=fun k=>if k=b then .shr s else G.role k,sm:=fun k=>if k=s then some (b,n) else G.sm k }
theorem Inv.lC {ρ:bh} {mem:List (Nat×List AV)} {sh:Sh} {aa:al} (hi:Inv ρ G w mem sh aa) {d:Nat} {cells:List AV} {c:Array Value} (t:TypeId)
   (hl:look mem d=none) (hr:ae ρ G cells c.toList) (hb:cells.all aJ=true) :
   Inv ρ (G.cw d w.heap.size) (w.alloc (.cells c t)) (bN mem d cells) sh aa∧G.le (G.cw d w.heap.size)∧aZ G w (G.cw d w.heap.size) (w.alloc (.cells c t)):=by
 have hpm:G.pm d=none:=by
   cases h:G.pm d with
   | none=>rfl
   | some b=>have:=hi.eR d b h;rw [hl] at this;simp at this
 have hle:G.le (G.cw d w.heap.size):=⟨G.K.le_refl,fun k b h=>by
   simp only [Gh.cw]
   split
   · rename_i e;subst e;rw [hpm] at h;simp at h
   · exact h,fun _ _ h=>h,fun _ t h=>⟨t,h,⟨Nat.le_refl _,t.eQ⟩,fun _=>rfl⟩⟩
 have hevo:aZ G w (G.cw d w.heap.size) (w.alloc (.cells c t)):={
           size:=by simp,os:=rfl,tape:=rfl,output:=rfl,K:=G.K.le_refl,sm:=fun _ _ h=>h,
           cP:=fun b hb hr=>⟨by simp only [Gh.cw];rw [if_neg (by omega)];exact hr,aR hb⟩
           fQ:=fun b τ hb hr=>.inr ⟨τ,by simp only [Gh.cw];rw [if_neg (by omega)];exact hr⟩
           eS:=fun _ _ _ _ _ hk=>hk }
 refine ⟨⟨?_,?_,?_,?_,?_,?_,hi.dC,?_,hi.dD,hi.fj hevo⟩,hle,hevo⟩
 · intro b o v hk
   have hlt:b<w.heap.size:=hi.gC (o:=o) (v:=v) hk
   rw [World.cell?_alloc_lt _ _ ⟨b,o,none⟩ hlt]
   exact hi.known b o v hk
 · intro b o v hk
   have:=hi.gC (o:=o) (v:=v) hk
   simp only [Gh.cw]
   rw [if_neg (by omega)]
   exact hi.aK b o v hk
 · intro b hb'
   simp at hb'
   simp only [Gh.cw]
   rw [if_neg (by omega)]
   exact hi.fresh b (by omega)
 · intro d' cs hd'
   by_cases hdd:d=d'
   · subst hdd
     rw [aL] at hd'
     simp at hd';subst hd'
     exact ⟨w.heap.size,by simp [Gh.cw],⟨by simp [Gh.cw],c,t,heap_alloc_new,ae.mono hle hr⟩,hb⟩
   · rw [aA _ _ _ _ hdd] at hd'
     obtain ⟨b',g1,g2,g3⟩:=hi.bM d' cs hd'
     have hlt:b'<w.heap.size:=by obtain ⟨_,_,hh,_⟩:=g2.at_;exact bI hh
     exact ⟨b',by simp only [Gh.cw];rw [if_neg (Ne.symm hdd)];exact g1,g2.mono hle (by simp only [Gh.cw];rw [if_neg (by omega)]) (aR hlt),g3⟩
 · intro d' b' hd'
   by_cases hdd:d=d'
   · subst hdd;rw [aL];rfl
   · rw [aA _ _ _ _ hdd]
     simp only [Gh.cw] at hd'
     rw [if_neg (Ne.symm hdd)] at hd'
     exact hi.eR d' b' hd'
 · intro s cs hs
   obtain ⟨b',g1,g2,g3⟩:=hi.bS s cs hs
   have hlt:b'.1<w.heap.size:=g2.lt
   exact ⟨b',g1,g2.mono hle (by simp only [Gh.cw];rw [if_neg (by omega)]) (aR hlt),g3⟩
 · intro τ n hn
   obtain ⟨tk,e1,e2,e3⟩:=hi.bT τ n hn
   refine ⟨tk,e1,e2,e3.cap,e3.zero,fun hlt=>?_⟩
   obtain ⟨b,o,cc,ty,f1,f2,f3,f4,f5⟩:=e3.spare hlt
   have hb:=bI f3
   exact ⟨b,o,cc,ty,f1,by simp only [Gh.cw];rw [if_neg (by omega)];exact f2,(aR hb).trans f3,f4,f5⟩
theorem Inv.qQ {ρ:bh} {mem:List (Nat×List AV)} {sh:Sh} {aa:al} (hi:Inv ρ G w mem sh aa) {cells:List AV} {o':Obj} {N:Nat}
   (hr:Holds ρ G o' N cells) (hb:cells.all bO=true) (hf:cells.all (au (sh.length+1))=true) :
   Inv ρ (G.bV sh.length w.heap.size N) (w.alloc o') mem (sh++[some cells]) aa∧G.le (G.bV sh.length w.heap.size N)∧aZ G w (G.bV sh.length w.heap.size N) (w.alloc o'):=by
 have hsm:G.sm sh.length=none:=by
   cases h:G.sm sh.length with
   | none=>rfl
   | some b=>have:=hi.dC _ b h;omega
 have hle:G.le (G.bV sh.length w.heap.size N):=⟨G.K.le_refl,fun _ _ h=>h,fun k b h=>by
   simp only [Gh.bV]
   split
   · rename_i e;subst e;rw [hsm] at h;simp at h
   · exact h,fun _ t h=>⟨t,h,⟨Nat.le_refl _,t.eQ⟩,fun _=>rfl⟩⟩
 have hevo:aZ G w (G.bV sh.length w.heap.size N) (w.alloc o'):={
           size:=by simp,os:=rfl,tape:=rfl,output:=rfl,K:=G.K.le_refl,sm:=hle.sm,
           cP:=fun b hb hr=>⟨by simp only [Gh.bV];rw [if_neg (by omega)];exact hr,aR hb⟩
           fQ:=fun b τ hb hr=>.inr ⟨τ,by simp only [Gh.bV];rw [if_neg (by omega)];exact hr⟩
           eS:=fun _ _ _ _ _ hk=>hk }
 refine ⟨⟨?_,?_,?_,?_,hi.eR,?_,?_,?_,hi.dD,hi.fj hevo⟩,hle,hevo⟩
 · intro b o v hk
   have hlt:b<w.heap.size:=hi.gC (o:=o) (v:=v) hk
   rw [World.cell?_alloc_lt _ _ ⟨b,o,none⟩ hlt]
   exact hi.known b o v hk
 · intro b o v hk
   have:=hi.gC (o:=o) (v:=v) hk
   simp only [Gh.bV]
   rw [if_neg (by omega)]
   exact hi.aK b o v hk
 · intro b hb'
   simp at hb'
   simp only [Gh.bV]
   rw [if_neg (by omega)]
   exact hi.fresh b (by omega)
 · intro d' cs hd'
   obtain ⟨b',g1,g2,g3⟩:=hi.bM d' cs hd'
   have hlt:b'<w.heap.size:=by obtain ⟨_,_,hh,_⟩:=g2.at_;exact bI hh
   exact ⟨b',g1,g2.mono hle (by simp only [Gh.bV];rw [if_neg (by omega)]) (aR hlt),g3⟩
 · intro s cs hs
   rw [List.getElem?_append] at hs
   split at hs
   · obtain ⟨b',g1,g2,g3⟩:=hi.bS s cs hs
     have hlt:b'.1<w.heap.size:=g2.lt
     exact ⟨b',hle.sm _ _ g1,g2.mono hle (by simp only [Gh.bV];rw [if_neg (by omega)]) (aR hlt),g3⟩
   · rename_i hge
     have hs':s=sh.length:=by
       rcases Nat.lt_or_ge (s-sh.length) 1 with h | h
       · omega
       · rw [List.getElem?_eq_none (by simpa using h)] at hs;simp at hs
     subst hs'
     simp at hs;subst hs
     exact ⟨(w.heap.size,N),by simp [Gh.bV],⟨by simp [Gh.bV],o',heap_alloc_new,hr.mono hle⟩,hb,hf⟩
 · intro s b h
   simp only [Gh.bV] at h
   split at h
   · rename_i e;subst e;simp
   · have:=hi.dC s b h;simp;omega
 · intro τ n hn
   obtain ⟨tk,e1,e2,e3⟩:=hi.bT τ n hn
   refine ⟨tk,e1,e2,e3.cap,e3.zero,fun hlt=>?_⟩
   obtain ⟨b,o,cc,ty,f1,f2,f3,f4,f5⟩:=e3.spare hlt
   have hb:=bI f3
   exact ⟨b,o,cc,ty,f1,by simp only [Gh.bV];rw [if_neg (by omega)];exact f2,(aR hb).trans f3,f4,f5⟩
theorem Inv.kL {ρ:bh} {mem:List (Nat×List AV)} {sh:Sh} {aa:al} (hi:Inv ρ G w mem sh aa) {cells:List AV} {c:Array Value} (t:TypeId)
   (hr:ae ρ G cells c.toList) (hb:cells.all bO=true) (hf:cells.all (au (sh.length+1))=true) :
   Inv ρ (G.bV sh.length w.heap.size c.size) (w.alloc (.cells c t)) mem (sh++[some cells]) aa∧G.le (G.bV sh.length w.heap.size c.size)∧aZ G w (G.bV sh.length w.heap.size c.size) (w.alloc (.cells c t)):=
 hi.qQ (Holds.full hr) hb hf
theorem Inv.allocMap {ρ:bh} {mem:List (Nat×List AV)} {sh:Sh} {aa:al} (hi:Inv ρ G w mem sh aa) :
   Inv ρ (G.bV sh.length w.heap.size 0) (w.alloc (.map #[] 0)) mem (sh++[some [.cT []]]) aa∧G.le (G.bV sh.length w.heap.size 0)∧aZ G w (G.bV sh.length w.heap.size 0) (w.alloc (.map #[] 0)):=
 hi.qQ (.inr ⟨#[],0,[],rfl,rfl,rfl⟩) rfl rfl
end
end Go.Ab
namespace Go.Ab
section
variable {P:Program} {ns:Names} {G:Gh} {w:World}
structure ic (G:Gh) (aa toks':al) (τ n:Nat):Prop where
 at_:toks'[τ]?=some n
 other:∀σ,σ≠τ→toks'[σ]?=aa[σ]?
 aB:∀t,G.tk τ=some t→t.len<n
def Gh.a0 (G:Gh) (τ:Nat) (t:Tk) (role:Nat→js) (K:aP):Gh:=
 { G with K,role,tk:=fun σ=>if σ=τ then some t else G.tk σ }
theorem Gh.lD {τ:Nat} {t:Tk} {role:Nat→js} {K:aP} (hK:G.K.le K) (ho:∀t0,G.tk τ=some t0→(t0.len≤t.len∧t0.on t)∧(t0.len=t.len→t=t0)):G.le (G.a0 τ t role K) where
 K:=hK
 pm:=fun _ _ h=>h
 sm:=fun _ _ h=>h
 tk:=fun σ t0 h=>by
   simp only [Gh.a0]
   by_cases hσ:σ=τ
   · subst hσ
     simp only [if_true]
     obtain ⟨h1,h2⟩:=ho t0 h
     exact ⟨t,rfl,h1,h2⟩
   · rw [if_neg hσ]
     exact ⟨t0,h,⟨Nat.le_refl _,Tk.eQ _⟩,fun _=>rfl⟩
def dE (G:Gh) (b τ:Nat):Nat→js:=fun k=>if k=b then .tok τ else if G.role k=.tok τ then .cP else G.role k
def gE (G:Gh) (b m:Nat) (c:Array Value):aP:=fun k o=>if k=b then (if o<m then c[o]? else none) else G.K k o
theorem Inv.grow {ρ:bh} {mem:List (Nat×List AV)} {sh:Sh} {aa toks':al} (hi:Inv ρ G w mem sh aa) {τ:Nat} {t:Tk} {c:Array Value} (ty:TypeId)
   (hb:t.base=some ⟨w.heap.size,0,none⟩) (hc:t.cap*t.sz≤c.size) (hl:t.len≤t.cap) (h0:0<t.len) (hu:ic G aa toks' τ t.len) (hg:∀t0,G.tk τ=some t0→¬t0.dead∧t0.cap<t.len) :
   Inv ρ (G.a0 τ t (dE G w.heap.size τ) (gE G w.heap.size (t.len*t.sz) c)) (w.alloc (.cells c ty)) mem sh toks' ∧
   G.le (G.a0 τ t (dE G w.heap.size τ) (gE G w.heap.size (t.len*t.sz) c)) ∧
   aZ G w (G.a0 τ t (dE G w.heap.size τ) (gE G w.heap.size (t.len*t.sz) c)) (w.alloc (.cells c ty)):=by
 have hK:G.K.le (gE G w.heap.size (t.len*t.sz) c):=fun b o v hk=>by
   have:=hi.gC hk
   simp only [gE];rw [if_neg (by omega)];exact hk
 have hle:G.le (G.a0 τ t (dE G w.heap.size τ) (gE G w.heap.size (t.len*t.sz) c)):=
   Gh.lD hK fun t0 h=>by have:=hu.aB t0 h;exact ⟨⟨by omega,fun d=>absurd d (hg t0 h).1,.inr (.inl (hg t0 h).2)⟩,by omega⟩
 have hrole:∀b r,b<w.heap.size→G.role b=r→(∀σ,r≠.tok σ)→dE G w.heap.size τ b=r:=by
   intro b r hb hr hn
   simp only [dE]
   rw [if_neg (by omega),if_neg (by rw [hr];exact hn τ),hr]
 have hevo:aZ G w (G.a0 τ t (dE G w.heap.size τ) (gE G w.heap.size (t.len*t.sz) c)) (w.alloc (.cells c ty)):={
           size:=by simp,os:=rfl,tape:=rfl,output:=rfl,K:=hK,sm:=fun _ _ h=>h,
           cP:=fun b hb hr=>⟨hrole b _ hb hr (by simp),aR hb⟩
           fQ:=fun b σ hb hr=>by
             simp only [Gh.a0,dE]
             rw [if_neg (by omega)]
             split
             · exact .inl rfl
             · exact .inr ⟨σ,hr⟩
           eS:=fun b o v hb _ hk=>by
             simp only [Gh.a0,gE] at hk
             rwa [if_neg (by omega)] at hk }
 refine ⟨⟨?_,?_,?_,?_,hi.eR,?_,hi.dC,?_,?_,hi.fj hevo⟩,hle,hevo⟩
 · intro b o v hk
   simp only [Gh.a0,gE] at hk
   split at hk
   · rename_i e;subst e
     split at hk
     · simp [hk]
     · simp at hk
   · have hlt:b<w.heap.size:=hi.gC (o:=o) (v:=v) hk
     rw [World.cell?_alloc_lt _ _ ⟨b,o,none⟩ hlt]
     exact hi.known b o v hk
 · intro b o v hk
   simp only [Gh.a0,gE] at hk
   simp only [Gh.a0,dE]
   split at hk
   · rename_i e;subst e;exact .inr ⟨τ,by simp⟩
   · rename_i e
     rw [if_neg e]
     split
     · exact .inl rfl
     · exact hi.aK b o v hk
 · intro b hb'
   simp at hb'
   simp only [Gh.a0,dE]
   rw [if_neg (by omega)]
   have:=hi.fresh b (by omega)
   rw [this];simp
 · intro d cs hd
   obtain ⟨b',g1,g2,g3⟩:=hi.bM d cs hd
   have hlt:b'<w.heap.size:=by obtain ⟨_,_,hh,_⟩:=g2.at_;exact bI hh
   exact ⟨b',g1,g2.mono hle ((hrole b' _ hlt g2.role (by simp)).trans g2.role.symm) (aR hlt),g3⟩
 · intro s cs hs
   obtain ⟨b',g1,g2,g3⟩:=hi.bS s cs hs
   have hlt:b'.1<w.heap.size:=g2.lt
   exact ⟨b',g1,g2.mono hle ((hrole b'.1 _ hlt g2.role (by simp)).trans g2.role.symm) (aR hlt),g3⟩
 · intro σ n hn
   by_cases hσ:σ=τ
   · subst hσ
     rw [hu.at_] at hn
     simp at hn
     refine ⟨t,by simp [Gh.a0],hn,hl,fun h=>by omega,fun hlt=>⟨w.heap.size,0,c,ty,hb,by simp [Gh.a0,dE],heap_alloc_new,by omega,fun j v hk=>?_⟩⟩
     simp only [Gh.a0,gE,if_true] at hk
     split at hk
     · omega
     · simp at hk
   · rw [hu.other σ hσ] at hn
     obtain ⟨t0,e1,e2,e3⟩:=hi.bT σ n hn
     refine ⟨t0,by simp only [Gh.a0];rw [if_neg hσ];exact e1,e2,e3.cap,e3.zero,fun hlt=>?_⟩
     obtain ⟨b',o,cc,ty',f1,f2,f3,f4,f5⟩:=e3.spare hlt
     have hb':=bI f3
     refine ⟨b',o,cc,ty',f1,?_,(aR hb').trans f3,f4,fun j v hk=>f5 j v ?_⟩
     · simp only [Gh.a0,dE]
       rw [if_neg (by omega),if_neg (by rw [f2];simp;exact hσ)]
       exact f2
     · simp only [Gh.a0,gE] at hk
       rwa [if_neg (by omega)] at hk
 · intro σ t0 h
   simp only [Gh.a0] at h
   split at h
   · rename_i e;subst e;simp at h;subst h;exact hu.at_
   · rename_i e;rw [hu.other σ e];exact hi.dD σ t0 h
theorem Inv.EL {ρ:bh} {mem:List (Nat×List AV)} {sh:Sh} {aa toks':al} (hi:Inv ρ G w mem sh aa) {τ:Nat} {t:Tk}
   (hl:t.cap=t.len) (hown:t.own=false) (hn:G.tk τ=none) (h1:toks'[τ]?=some t.len) (h2:∀σ,σ≠τ→toks'[σ]?=aa[σ]?) :
   Inv ρ (G.a0 τ t G.role G.K) w mem sh toks'∧G.le (G.a0 τ t G.role G.K)∧aZ G w (G.a0 τ t G.role G.K) w:=by
 have hle:G.le (G.a0 τ t G.role G.K):=Gh.lD G.K.le_refl fun t0 h=>by rw [hn] at h;simp at h
 have hevo:aZ G w (G.a0 τ t G.role G.K) w:={
           size:=Nat.le_refl _,os:=rfl,tape:=rfl,output:=rfl,K:=G.K.le_refl,sm:=fun _ _ h=>h,
           cP:=fun b hb hr=>⟨hr,rfl⟩,fQ:=fun b σ hb hr=>.inr ⟨σ,hr⟩,eS:=fun _ _ _ _ _ hk=>hk }
 refine ⟨⟨hi.known,hi.aK,hi.fresh,?_,hi.eR,?_,hi.dC,?_,?_,hi.fj hevo⟩,hle,hevo⟩
 · intro d cs hd
   obtain ⟨b',g1,g2,g3⟩:=hi.bM d cs hd
   exact ⟨b',g1,g2.mono hle rfl rfl,g3⟩
 · intro d cs hd
   obtain ⟨b',g1,g2,g3⟩:=hi.bS d cs hd
   exact ⟨b',g1,g2.mono hle rfl rfl,g3⟩
 · intro σ n hn'
   by_cases hσ:σ=τ
   · subst hσ
     rw [h1] at hn';simp at hn'
     exact ⟨t,by simp [Gh.a0],hn',by omega,fun _=>by omega,fun h=>h.elim (fun h=>by omega) (fun h=>by rw [hown] at h;cases h)⟩
   · rw [h2 σ hσ] at hn'
     obtain ⟨t0,e1,e2,e3⟩:=hi.bT σ n hn'
     exact ⟨t0,by simp only [Gh.a0];rw [if_neg hσ];exact e1,e2,e3.cap,e3.zero,e3.spare⟩
 · intro σ t0 h
   simp only [Gh.a0] at h
   split at h
   · rename_i e;subst e;simp at h;subst h;exact h1
   · rename_i e;rw [h2 σ e];exact hi.dD σ t0 h
def eU (G:Gh) (b o:Nat) (l:List Value):aP:=fun k j=>if k=b∧o≤j∧j<o+l.length then l[j-o]? else G.K k j
theorem Inv.fill {ρ:bh} {mem:List (Nat×List AV)} {sh:Sh} {aa toks':al} (hi:Inv ρ G w mem sh aa) {τ b o n:Nat} {t:Tk} {c c':Array Value} {ty:TypeId} {l:List Value}
   (ht:G.tk τ=some t) (hb:t.base=some ⟨b,o,none⟩) (hrole:G.role b=.tok τ) (hh:w.heap[b]?=some (.cells c ty (0,0))) (hcap:o+t.cap*t.sz≤c.size)
   (hfree:∀j v,G.K b j=some v→j<o+t.len*t.sz) (hl:l.length=n*t.sz) (hn:0<n) (hfit:t.len+n≤t.cap)
   (hc':c'=(c.toList.take (o+t.len*t.sz)++l++c.toList.drop (o+t.len*t.sz+l.length)).toArray) (hu:ic G aa toks' τ (t.len+n)) :
   Inv ρ (G.a0 τ { t with len:=t.len+n,own:=true } G.role (eU G b (o+t.len*t.sz) l)) (w.setRow b c') mem sh toks' ∧
   G.le (G.a0 τ { t with len:=t.len+n,own:=true } G.role (eU G b (o+t.len*t.sz) l)) ∧
   aZ G w (G.a0 τ { t with len:=t.len+n,own:=true } G.role (eU G b (o+t.len*t.sz) l)) (w.setRow b c'):=by
 have hne:G.role b≠.cP:=by rw [hrole];simp
 have hmul:(t.len+n)*t.sz=t.len*t.sz+n*t.sz:=Nat.add_mul _ _ _
 have hmul2:(t.len+n)*t.sz≤t.cap*t.sz:=Nat.mul_le_mul_right _ hfit
 have hsz:c'.size=c.size:=by
   subst hc';simp;omega
 have hK:G.K.le (eU G b (o+t.len*t.sz) l):=fun k j v hk=>by
   simp only [eU]
   rw [if_neg]
   · exact hk
   · rintro ⟨rfl,h1,_⟩
     have:=hfree j v hk
     omega
 have hle:G.le (G.a0 τ { t with len:=t.len+n,own:=true } G.role (eU G b (o+t.len*t.sz) l)):=
   Gh.lD hK fun t0 h=>by rw [ht] at h;simp at h;subst h;exact ⟨⟨by simp,fun d=>(by rw [Tk.dead,hb] at d;simp at d),.inr (.inr ⟨rfl,rfl,.inr rfl⟩)⟩,by simp;omega⟩
 have hA:=fc.setRow (G:=G) (w:=w) b c'
 have hnew:(w.setRow b c').heap[b]?=some (.cells c' ty (0,0)):=setRow_heap _ _ _ _ _ _ hh
 have hevo:aZ G w (G.a0 τ { t with len:=t.len+n,own:=true } G.role (eU G b (o+t.len*t.sz) l)) (w.setRow b c'):={
           size:=by rw [hA.size];exact Nat.le_refl _,os:=rfl,tape:=rfl,output:=rfl,K:=hK,sm:=fun _ _ h=>h,
           cP:=fun k hk hr=>⟨hr,hA.other k (fun e=>hne (e ▸ hr))⟩
           fQ:=fun k σ hk hr=>.inr ⟨σ,hr⟩
           eS:=fun k j v hk hr hkk=>by
             simp only [Gh.a0,eU] at hkk
             rwa [if_neg (by rintro ⟨e,_⟩;subst e;exact hne hr)] at hkk }
 refine ⟨⟨?_,?_,?_,?_,hi.eR,?_,hi.dC,?_,?_,hi.fj hevo⟩,hle,hevo⟩
 · intro k j v hk
   simp only [Gh.a0,eU] at hk
   split at hk
   · rename_i e
     obtain ⟨rfl,e1,e2⟩:=e
     simp only [World.cell?,hnew]
     subst hc'
     simp only [Option.isSome_none,Bool.false_eq_true,if_false,List.getElem?_toArray]
     rw [List.getElem?_append_left (by simp;omega),List.getElem?_append_right (by simp;omega)]
     have:(c.toList.take (o+t.len*t.sz)).length=o+t.len*t.sz:=by simp;omega
     rw [this]
     exact hk
   · rename_i e
     by_cases hkb:k=b
     · subst hkb
       have hj:=hfree j v hk
       have hold:=hi.known k j v hk
       simp only [World.cell?,hh,Option.isSome_none,Bool.false_eq_true,if_false] at hold
       simp only [World.cell?,hnew]
       subst hc'
       simp only [Option.isSome_none,Bool.false_eq_true,if_false,List.getElem?_toArray]
       rw [List.getElem?_append_left (by simp;omega),List.getElem?_append_left (by simp;omega),List.getElem?_take,if_pos hj]
       simpa using hold
     · have hold:=hi.known k j v hk
       unfold World.cell? at hold ⊢
       simp only at hold ⊢
       rw [hA.other k hkb]
       exact hold
 · intro k j v hk
   simp only [Gh.a0,eU] at hk
   split at hk
   · rename_i e
     obtain ⟨rfl,_⟩:=e
     exact .inr ⟨τ,hrole⟩
   · exact hi.aK k j v hk
 · intro k hk;rw [hA.size] at hk;exact hi.fresh k hk
 · intro d cs hd
   obtain ⟨b',g1,g2,g3⟩:=hi.bM d cs hd
   refine ⟨b',g1,g2.mono hle rfl (hA.other b' ?_),g3⟩
   rintro rfl
   have:=g2.role;rw [hrole] at this;simp at this
 · intro d cs hd
   obtain ⟨b',g1,g2,g3⟩:=hi.bS d cs hd
   refine ⟨b',g1,g2.mono hle rfl (hA.other b'.1 ?_),g3⟩
   intro he
   have:=g2.role;rw [he,hrole] at this;simp at this
 · intro σ m hm
   by_cases hσ:σ=τ
   · subst hσ
     rw [hu.at_] at hm
     simp at hm
     refine ⟨{ t with len:=t.len+n,own:=true },by simp [Gh.a0],hm,hfit,fun h=>by simp at h;omega,fun hlt=>⟨b,o,c',ty,hb,hrole,hnew,by rw [hsz];exact hcap,fun j v hk=>?_⟩⟩
     simp only [Gh.a0,eU] at hk
     show j<o+(t.len+n)*t.sz
     split at hk
     · rename_i e;rw [hmul];omega
     · have:=hfree j v hk;rw [hmul];omega
   · rw [hu.other σ hσ] at hm
     obtain ⟨t0,e1,e2,e3⟩:=hi.bT σ m hm
     refine ⟨t0,by simp only [Gh.a0];rw [if_neg hσ];exact e1,e2,e3.cap,e3.zero,fun hlt=>?_⟩
     obtain ⟨b',o',cc,ty',f1,f2,f3,f4,f5⟩:=e3.spare hlt
     have hbb:b'≠b:=by rintro rfl;rw [hrole] at f2;simp at f2;exact hσ f2.symm
     refine ⟨b',o',cc,ty',f1,f2,(hA.other b' hbb).trans f3,f4,fun j v hk=>f5 j v ?_⟩
     simp only [Gh.a0,eU] at hk
     rwa [if_neg (by rintro ⟨e,_⟩;exact hbb e)] at hk
 · intro σ t0 h
   simp only [Gh.a0] at h
   split at h
   · rename_i e;subst e;simp at h;subst h;exact hu.at_
   · rename_i e;rw [hu.other σ e];exact hi.dD σ t0 h
end
end Go.Ab
namespace Go.Ab
section
variable {P:Program} {ns:Names} {G:Gh} {w:World}
theorem pX (n:Nat):∀(r c:Nat),c≤2*n→256≤c→Builtin.growBy n r c≤2*n
 | 0,c,h,_=>h
 | r+1,c,h,h2=>by
   simp only [Builtin.growBy]
   split
   · exact h
   · exact pX n r _ (by omega) (by omega)
theorem nextslicecap_le (n c:Nat) (h:c<n):Builtin.nextslicecap n c≤2*n:=by
 unfold Builtin.nextslicecap
 split
 · omega
 · split
   · omega
   · exact pX n 4 c (by omega) (by omega)
theorem dk {els:List PV} {v:Value} {sz n:Nat} (hk:∀b o u,G.K b o=some u→w.cell? ⟨b,o,none⟩=some u) (hr:Rel G.K (.aF els) v) (hs:aQ sz els=true) (hn:els.length=n) :
   ∃vss:List Value,(Builtin.firstCells sz n v).run P w=.ok vss.toArray w∧vss.length=n*sz ∧
     (∀(K':aP) (b' o':Nat),G.K.le K'→At K' b' o' vss→Row K' b' o' sz els)∧(∀u∈vss,u.oneCell'=true):=by
 obtain ⟨base,len,cap,rfl,_,hlen,hrow'⟩:=a7.1 hr
 by_cases hnil:els=[]
 · subst hnil
   simp at hn;subst hn
   refine ⟨[],?_,by simp,fun _ _ _ _ _=>by simp only [Row],by simp⟩
   cases base with
   | none=>simp [Builtin.firstCells]
   | some a=>simp [Builtin.firstCells,loadCells,loadCellsFrom]
 · obtain ⟨b,o,sz',rfl,hrow⟩:=hrow'.resolve_left hnil
   have:=hrow.sz hs hnil
   subst this
   obtain ⟨vss,g1,g2,g3,g4⟩:=hrow.flat
   refine ⟨vss,?_,by rw [g1,hn],g3,g4⟩
   have hl:=run_loadCells_list (P:=P) w ⟨b,o,none⟩ vss (fun j u hj=>by rw [Addr.cm];exact hk _ _ _ (g2 j u hj))
   rw [g1,hn] at hl
   simpa [Builtin.firstCells] using hl
theorem db {argTypes:Array TypeId} {type t e e1 t1 sz:Nat} {base:Option Addr} {len cap n:Nat} {x:Value} {new:Array Value} {xb:Option Addr} {xc:Nat} (h0:argTypes[0]?=some t) (h1:argTypes[1]?=some t1)
   (hu:P.underlying t=some (.slice e)) (hu1:P.underlying t1=some (.slice e1)) (hsz:bw P e=some sz) (hx:x=.slice xb n xc)
   (hnew:(Builtin.firstCells sz n x).run P w=.ok new w) (hfit:len+n≤cap) :
   (Builtin.append_ argTypes type #[.slice base len cap,x]).run P w =
     match base with
     | some a=>((storeCells (a.add (len*sz)) new.toList).run P w).andThen fun _ w'=>.ok (.slice base (len+n) cap) w'
     | none=>.ok (.slice base (len+n) cap) w:=by
 subst hx
 cases base with
 | none=>simp [Builtin.append_,h0,h1,run_underlying hu,run_underlying hu1,cB hsz,Builtin.lenOf,hfit,hnew]
 | some a=>simp [Builtin.append_,h0,h1,run_underlying hu,run_underlying hu1,cB hsz,Builtin.lenOf,hfit,hnew]
theorem eV {argTypes:Array TypeId} {type t e e1 t1 sz by_:Nat} {base:Option Addr} {len cap n:Nat} {x:Value} {aB new:Array Value} {xb:Option Addr} {xc:Nat} {z:List PV} (h0:argTypes[0]?=some t) (h1:argTypes[1]?=some t1)
   (hu:P.underlying t=some (.slice e)) (hu1:P.underlying t1=some (.slice e1)) (hsz:bw P e=some sz) (hby:cN P e=some by_) (hz:bn P e=some z) (hzl:z.length=sz) (hx:x=.slice xb n xc)
   (hold:∀w',w'=w.drew→(Builtin.firstCells sz len (.slice base len cap)).run P w'=.ok aB w') (hnew:∀w',w'=w.drew→(Builtin.firstCells sz n x).run P w'=.ok new w')
   (hfit:cap<len+n) (hb0:0<by_) (hbytes:(len+n)*by_≤140737488355328) :
   ∃(rest:Array Value) (newCap:Nat),len+n≤newCap∧rest.size=(newCap-(len+n))*sz ∧
     (Builtin.append_ argTypes type #[.slice base len cap,x]).run P w =
       .ok (.slice (some ⟨w.heap.size,0,none⟩) (len+n) newCap) (w.drew.alloc (.cells (aB++new++rest) e)):=by
 subst hx
 obtain ⟨i,hi,hib,hirun⟩:=ju hby w
 have hcap:¬Builtin.nextslicecap (len+n) cap*i.bytes > 2 ^ 48:=by
   have h1:=nextslicecap_le (len+n) cap hfit
   have h2:Builtin.nextslicecap (len+n) cap*i.bytes≤2*(len+n)*i.bytes:=Nat.mul_le_mul_right _ h1
   have h3:2*(len+n)*i.bytes=2*((len+n)*by_):=by rw [hib,Nat.mul_assoc]
   rw [h3] at h2
   have:(2:Nat)^48=281474976710656:=by decide
   omega
 have hnf:(Question.appendCap (len+n) cap e).forced=false:=rfl
 have hir:∀w',(typeInfo e).run P w'=.ok i w':=fun w'=>by simp [typeInfo,hi]
 obtain ⟨zv,hzv,hz2⟩:=eG (P:=P) (w:=w.drew) hz
 have hzs:zv.cells.size=sz:=by have:=eF hz2;simp at this;omega
 refine ⟨Builtin.zeroCells zv.cells ((Question.appendCap (len+n) cap e).cut (w.tape w.drawn (.appendCap (len+n) cap e))-(len+n)),(Question.appendCap (len+n) cap e).cut (w.tape w.drawn (.appendCap (len+n) cap e)),?_,?_,?_⟩
 · simp only [Question.cut];omega
 · simp [Builtin.zeroCells,hzs]
 · have ho:=hold w.drew rfl
   have hn:=hnew w.drew rfl
   have hi0:i.bytes≠0:=by omega
   simp [Builtin.append_,h0,h1,run_underlying hu,run_underlying hu1,cB hsz,Builtin.lenOf,Nat.not_le.2 hfit,hir,hi0,hcap,hnf]
   simp only [ho,hn,hzv,Result.andThen_ok]
   rfl
theorem eI {x:AV} {v:Value} {els:List PV} (h:bF x=some els) (hr:ah (num ns) G x v):∃xb xc,v=.slice xb els.length xc:=by
 obtain ⟨b,l,c,rfl,_,hl,_⟩:=a7.1 (cE h hr)
 exact ⟨b,c,by rw [hl]⟩
theorem nD {c:Call} {A:gm} {dst:Option Nat} {args:List Operand} {sz by_:Nat} (h:aU P ns A dst (.call c)=some (.append sz by_,args)) :
   ∃x y t e t1 e1 z,c.callee=.builtin .append∧c.args=#[x,y]∧args=[x,y]∧c.argTypes[0]?=some t∧c.argTypes[1]?=some t1∧P.underlying t=some (.slice e) ∧
     P.underlying t1=some (.slice e1)∧bw P e=some sz∧cN P e=some by_∧bn P e=some z∧z.length=sz∧0<sz∧0<by_:=by
 obtain ⟨callee,cargs,ctypes⟩:=c
 simp only [aU] at h
 split at h
 · split at h<;>simp at h
 · split at h<;>simp at h
 · split at h<;>simp at h
 · rename_i hcal
   split at h
   · rename_i x y e e1 ha ht ht1
     split at h
     · rename_i sz' by' z hs hb hz
       rw [Option.ite_none_right_eq_some] at h
       obtain ⟨⟨h1,h2,h3⟩,h⟩:=h
       split at h
       · simp at h
       split at h
       · simp at h
       simp only [Option.some.injEq,Prod.mk.injEq,AK.append.injEq] at h
       obtain ⟨⟨rfl,rfl⟩,rfl⟩:=h
       simp only [Option.bind_eq_some_iff] at ht ht1
       obtain ⟨t,ht,htu⟩:=ht
       obtain ⟨t1,ht1,ht1u⟩:=ht1
       exact ⟨x,y,t,e,t1,e1,z,rfl,by apply Array.ext';simpa using ha,rfl,ht,ht1,ca htu,ca ht1u,hs,hb,hz,h1,h2,h3⟩
     · simp at h
   · simp at h
 · split at h
   · split at h
     · split at h<;>simp at h
     · simp at h
   · simp at h
 · split at h
   · split at h<;>simp at h
   · simp at h
 · split at h
   · split at h
     · (repeat' (split at h))<;>simp at h
     · split at h
       · simp at h
       · split at h
         · simp at h
         · split at h<;>simp at h
   · simp at h
 · split at h<;>simp at h
 · simp at h
theorem sC {c:Call} {A:gm} {dst:Option Nat} {args:List Operand} {sz by_:Nat} {ag:Bool} (h:aU P ns A dst (.call c)=some (.dw sz by_ ag,args)) :
   ∃x y t e t1 e1 z,c.callee=.builtin .append∧c.args=#[x,y]∧args=[x,y]∧c.argTypes[0]?=some t∧c.argTypes[1]?=some t1∧P.underlying t=some (.slice e) ∧
     P.underlying t1=some (.slice e1)∧bw P e=some sz∧cN P e=some by_∧bn P e=some z∧z.length=sz∧0<sz∧0<by_:=by
 obtain ⟨callee,cargs,ctypes⟩:=c
 simp only [aU] at h
 split at h
 · split at h<;>simp at h
 · split at h<;>simp at h
 · split at h<;>simp at h
 · rename_i hcal
   split at h
   · rename_i x y e e1 ha ht ht1
     split at h
     · rename_i sz' by' z hs hb hz
       rw [Option.ite_none_right_eq_some] at h
       obtain ⟨⟨h1,h2,h3⟩,h⟩:=h
       split at h
       · simp only [Option.map_eq_some_iff,Prod.mk.injEq,AK.dw.injEq] at h
         obtain ⟨ag',hag,⟨rfl,rfl,rfl⟩,rfl⟩:=h
         simp only [Option.bind_eq_some_iff] at ht ht1
         obtain ⟨t,ht,htu⟩:=ht
         obtain ⟨t1,ht1,ht1u⟩:=ht1
         exact ⟨x,y,t,e,t1,e1,z,rfl,by apply Array.ext';simpa using ha,rfl,ht,ht1,ca htu,ca ht1u,hs,hb,hz,h1,h2,h3⟩
       · split at h<;>simp at h
     · simp at h
   · simp at h
 · split at h
   · split at h
     · split at h<;>simp at h
     · simp at h
   · simp at h
 · split at h
   · split at h<;>simp at h
   · simp at h
 · split at h
   · split at h
     · (repeat' (split at h))<;>simp at h
     · split at h
       · simp at h
       · split at h
         · simp at h
         · split at h<;>simp at h
   · simp at h
 · split at h<;>simp at h
 · simp at h
theorem EM {K:aP} {els:List PV} {base:Option Addr} {len sz:Nat} (h:F_ K els base len) (hs:aQ sz els=true):els=[]∨∃b o,base=some ⟨b,o,none⟩∧Row K b o sz els:=by
 rcases h.2 with h1 | ⟨b,o,sz',e,hr⟩
 · exact .inl h1
 · by_cases hn:els=[]
   · exact .inl hn
   · have:=hr.sz hs hn
     subst this
     exact .inr ⟨b,o,e,hr⟩
theorem pY {mem:List (Nat×List AV)} {sh:Sh} {aa toks':al} (hi:Inv (num ns) G w mem sh aa) {τ:Nat} {l xs:List PV} {sz newCap:Nat} {aB new:List Value} {rest:Array Value} (e:TypeId)
   (ho:aB.length=l.length*sz) (hn:new.length=xs.length*sz) (ho':∀(K':aP) (b' o':Nat),G.K.le K'→At K' b' o' aB→Row K' b' o' sz l)
   (hn':∀(K':aP) (b' o':Nat),G.K.le K'→At K' b' o' new→Row K' b' o' sz xs) (hcap:l.length+xs.length≤newCap) (hr:rest.size=(newCap-(l.length+xs.length))*sz) (h0:0<xs.length)
   (hu:ic G aa toks' τ (l.length+xs.length)) (hg:∀t0,G.tk τ=some t0→¬t0.dead∧t0.cap<l.length+xs.length) :
   ∃G',ah (num ns) G' (.own (l++xs) τ) (.slice (some ⟨w.heap.size,0,none⟩) (l.length+xs.length) newCap) ∧
     Inv (num ns) G' (w.alloc (.cells (aB.toArray++new.toArray++rest) e)) mem sh toks'∧G.le G'∧aZ G w G' (w.alloc (.cells (aB.toArray++new.toArray++rest) e)):=by
 let t:Tk:={ base:=some ⟨w.heap.size,0,none⟩,len:=l.length+xs.length,cap:=newCap,sz:=sz,own:=true }
 have hsz:(aB.toArray++new.toArray++rest).size=newCap*sz:=by
   simp [ho,hn,hr]
   have:newCap=(l.length+xs.length)+(newCap-(l.length+xs.length)):=by omega
   conv=>rhs;rw [this,Nat.add_mul,Nat.add_mul]
 obtain ⟨h1,h2,h3⟩:=hi.grow (t:=t) (c:=aB.toArray++new.toArray++rest) e rfl (by rw [hsz];exact Nat.le_refl _) hcap (by show 0<l.length+xs.length;omega) hu hg
 refine ⟨_,?_,h1,h2,h3⟩
 have hat:At (gE G w.heap.size (t.len*t.sz) (aB.toArray++new.toArray++rest)) w.heap.size 0 (aB++new):=by
   intro j v hj
   have hlt:=(List.getElem?_eq_some_iff.1 hj).1
   simp only [List.length_append,ho,hn] at hlt
   simp only [gE,if_true,Nat.zero_add]
   rw [if_pos (by show j<(l.length+xs.length)*sz;rw [Nat.add_mul];exact hlt)]
   rw [Array.getElem?_append_left (by simp [ho,hn];exact hlt)]
   simpa using hj
 have hrow:Row (gE G w.heap.size (t.len*t.sz) (aB.toArray++new.toArray++rest)) w.heap.size 0 sz (l++xs):=by
   refine Row.append (ho' _ _ _ h2.K fun j v hj=>hat j v ?_) (hn' _ _ _ h2.K fun j v hj=>?_)
   · rw [List.getElem?_append_left (List.getElem?_eq_some_iff.1 hj).1];exact hj
   · have:=hat (l.length*sz+j) v (by rw [List.getElem?_append_right (by omega),ho,Nat.add_sub_cancel_left];exact hj)
     rwa [Nat.zero_add,←Nat.zero_add (l.length*sz+j),←Nat.add_assoc] at this
 simp only [ah]
 refine ⟨t,by simp [Gh.a0],⟨by simp [t],t.kF⟩,a7.2 ⟨_,_,_,rfl,hcap,by simp,.inr ⟨_,_,_,rfl,hrow⟩⟩,fun _=>⟨rfl,.inr ⟨_,_,rfl,hrow⟩⟩⟩
theorem nE {ρ:bh} {mem:List (Nat×List AV)} {sh:Sh} {aa:al} (hi:Inv ρ G w mem sh aa) (n:Nat):ic G aa (aa++[n]) aa.length n:=by
 refine ⟨by simp,fun σ hσ=>?_,fun t h=>?_⟩
 · rcases Nat.lt_or_ge σ aa.length with h | h
   · rw [List.getElem?_append_left h]
   · rw [List.getElem?_eq_none (by simp;omega),List.getElem?_eq_none h]
 · have:=hi.dD _ t h
   rw [List.getElem?_eq_none (Nat.le_refl _)] at this
   simp at this
theorem qR {argTypes:Array TypeId} {type t e e1 t1 sz by_:Nat} {z:List PV} {s x y:AV} {vs vx:Value} {mem:List (Nat×List AV)} {sh:Sh} {aa toks':al}
   (h0:argTypes[0]?=some t) (h1:argTypes[1]?=some t1)
   (hu:P.underlying t=some (.slice e)) (hu1:P.underlying t1=some (.slice e1)) (hsz:bw P e=some sz) (hby:cN P e=some by_) (hz:bn P e=some z) (hzl:z.length=sz) (hb0:0<by_)
   (hs:ah (num ns) G s vs) (hx:ah (num ns) G x vx) (hi:Inv (num ns) G w mem sh aa) (h:aS sz by_ s x aa=some (y,toks')) :
   ∃v w' G',(Builtin.append_ argTypes type #[vs,vx]).run P w=.ok v w'∧ah (num ns) G' y v∧Inv (num ns) G' w' mem sh toks'∧G.le G'∧aZ G w G' w':=by
 unfold aS at h
 split at h
 · simp at h
 · rename_i xs hxs
   simp only [Option.ite_none_right_eq_some] at h
   obtain ⟨hhx,h⟩:=h
   obtain ⟨xb,xc,rfl⟩:=eI hxs hx
   have hrx:=cE hxs hx
   have known':∀w',w'=w.drew→∀b o u,G.K b o=some u→w'.cell? ⟨b,o,none⟩=some u:=fun w' e b o u hk=>by subst e;exact hi.known b o u hk
   obtain ⟨new,n1,n2,n3,n4⟩:=dk (P:=P) hi.known hrx hhx rfl
   have n1':∀w',w'=w.drew→(Builtin.firstCells sz xs.length (.slice xb xs.length xc)).run P w'=.ok new.toArray w':=by
     intro w' e
     obtain ⟨new',m1,_,_⟩:=dk (P:=P) (known' w' e) hrx hhx rfl
     have hsame:(Builtin.firstCells sz xs.length (.slice xb xs.length xc)).run P w'=.ok new'.toArray w':=m1
     have:new'=new:=by
       subst e
       obtain ⟨base,len,cap,e1,_,hlen,hrow'⟩:=a7.1 hrx
       cases e1
       by_cases hnil:xs=[]
       · subst hnil
         have a1:new=[]:=by apply List.eq_nil_of_length_eq_zero;simpa using n2
         have a2:new'=[]:=by
           cases xb with
           | none=>simpa [Builtin.firstCells] using m1.symm
           | some a=>simpa [Builtin.firstCells,loadCells,loadCellsFrom] using m1.symm
         rw [a1,a2]
       · obtain ⟨b,o,sz',e2,hrow⟩:=hrow'.resolve_left hnil
         cases e2
         have:=hrow.sz hhx hnil
         subst this
         obtain ⟨vss,g1,g2,_,_⟩:=hrow.flat
         have l1:=run_loadCells_list (P:=P) w ⟨b,o,none⟩ vss (fun j u hj=>by rw [Addr.cm];exact hi.known _ _ _ (g2 j u hj))
         have l2:=run_loadCells_list (P:=P) w.drew ⟨b,o,none⟩ vss (fun j u hj=>by rw [Addr.cm];exact hi.known _ _ _ (g2 j u hj))
         rw [g1] at l1 l2
         simp only [Builtin.firstCells] at n1 m1
         rw [l1] at n1
         rw [l2] at m1
         simp at n1 m1
         rw [←n1,←m1]
     rw [hsame,this]
   have grows:∀(l:List PV) (base:Option Addr) (cap τ:Nat),Rel G.K (.aF l) (.slice base l.length cap)→aQ sz l=true→cap<l.length+xs.length→(l.length+xs.length)*by_≤140737488355328 →
       ic G aa toks' τ (l.length+xs.length)→(∀t0,G.tk τ=some t0→¬t0.dead∧t0.cap<l.length+xs.length)→y=.own (l++xs) τ →
       ∃v w' G',(Builtin.append_ argTypes type #[.slice base l.length cap,.slice xb xs.length xc]).run P w=.ok v w'∧ah (num ns) G' y v∧Inv (num ns) G' w' mem sh toks'∧G.le G'∧aZ G w G' w':=by
     intro l base cap τ hrl hhl hfit hbytes hup hg hy
     obtain ⟨aB,o1,o2,o3,o4⟩:=dk (P:=P) (w:=w.drew) (known' _ rfl) hrl hhl rfl
     obtain ⟨rest,newCap,p1,p2,p3⟩:=eV (type:=type) (aB:=aB.toArray) (new:=new.toArray) h0 h1 hu hu1 hsz hby hz hzl (base:=base) (len:=l.length) (cap:=cap) (n:=xs.length) (xb:=xb) (xc:=xc) rfl
       (fun w' e=>by subst e;exact o1) n1' hfit hb0 hbytes
     have hpos:0<xs.length:=by
       rcases Nat.eq_zero_or_pos xs.length with hz' | hz'
       · have:=(a7.1 hrl)
         obtain ⟨b',l',c',e',hle,hlen,_⟩:=this
         cases e'
         omega
       · exact hz'
     obtain ⟨G',q1,q2,q3,q4⟩:=pY (ns:=ns) (w:=w.drew) hi.drew e o2 n2 o3 n3 p1 p2 hpos hup hg
     exact ⟨_,_,G',p3,by rw [hy];exact q1,q2,q3,(aZ.drew G w).trans q4⟩
   split at h
   · -- a slice without room to spare
     rename_i l
     split at h
     · rename_i hemp
       have hxs0:xs=[]:=List.isEmpty_iff.1 hemp
       subst hxs0
       simp only [Option.some.injEq,Prod.mk.injEq] at h
       obtain ⟨rfl,rfl⟩:=h
       have hs':=hs
       simp only [ah] at hs
       obtain ⟨base,len,rfl,hsl⟩:=hs
       have hlen:=hsl.1
       subst hlen
       have hnew:new=[]:=by apply List.eq_nil_of_length_eq_zero;simpa using n2
       subst hnew
       have hrun:=db (type:=type) h0 h1 hu hu1 hsz (base:=base) (len:=l.length) (cap:=l.length) (n:=0) (xb:=xb) (xc:=xc) rfl n1 (by omega)
       refine ⟨.slice base l.length l.length,w,G,?_,hs',hi,G.le_refl,aZ.refl G w⟩
       refine Eq.trans hrun ?_
       cases base<;>simp [storeCells]
     simp only [Option.ite_none_right_eq_some,Option.some.injEq,Prod.mk.injEq] at h
     obtain ⟨⟨hhl,hbytes⟩,rfl,rfl⟩:=h
     have hs':=hs
     simp only [ah] at hs
     obtain ⟨base,len,rfl,hsl⟩:=hs
     have hlen:=hsl.1
     subst hlen
     have hlen2:(l++xs).length=l.length+xs.length:=by simp
     have hup:ic G aa (aa++[(l++xs).length]) aa.length (l.length+xs.length):=by
       rw [hlen2];exact nE hi (l.length+xs.length)
     have htk:G.tk aa.length=none:=by
       cases hh:G.tk aa.length with
       | none=>rfl
       | some t0=>have:=hi.dD _ t0 hh;rw [List.getElem?_eq_none (Nat.le_refl _)] at this;simp at this
     by_cases hn0:xs.length=0
     · have hxs0:xs=[]:=by cases xs with | nil=>rfl | cons _ _=>simp at hn0
       subst hxs0
       have hnew:new=[]:=by apply List.eq_nil_of_length_eq_zero;simpa using n2
       subst hnew
       have hrun:=db (type:=type) h0 h1 hu hu1 hsz (base:=base) (len:=l.length) (cap:=l.length) (n:=0) (xb:=xb) (xc:=xc) rfl n1 (by omega)
       let tk:Tk:={ base,len:=l.length,cap:=l.length,sz }
       obtain ⟨g1,g2,g3⟩:=hi.EL (τ:=aa.length) (t:=tk) (toks':=aa++[(l++[]).length]) rfl rfl htk hup.at_ hup.other
       refine ⟨.slice base l.length l.length,w,_,?_,?_,g1,g2,g3⟩
       · refine Eq.trans hrun ?_
         cases base<;>simp [storeCells]
       · simp only [ah]
         refine ⟨tk,by simp [Gh.a0],⟨by simp [tk],tk.kF⟩,?_,fun _=>⟨rfl,?_⟩⟩
         · simp only [List.append_nil]
           exact a7.2 ⟨_,_,_,rfl,Nat.le_refl _,hsl⟩
         · simp only [List.append_nil]
           exact EM hsl hhl
     · exact grows l base l.length aa.length (a7.2 ⟨_,_,_,rfl,Nat.le_refl _,hsl⟩) hhl (by omega) hbytes hup (fun t0 h=>by rw [htk] at h;cases h) rfl
   · -- a slice that has its room to spare to itself
     rename_i l τ
     simp only [Option.ite_none_right_eq_some,Option.some.injEq,Prod.mk.injEq] at h
     obtain ⟨⟨htok,hhl,hbytes⟩,rfl,rfl⟩:=h
     have hs':=hs
     simp only [ah] at hs
     obtain ⟨tk,e1,e2,e3,e4⟩:=hs
     have hlen:l.length=tk.len:=by
       have:=hi.dD τ tk e1
       rw [htok] at this;simpa using this
     obtain ⟨hv,hrow⟩:=e4 hlen
     obtain ⟨tk',f1,f2,f3⟩:=hi.bT τ _ htok
     rw [e1] at f1;cases f1
     have hlen2:(l++xs).length=l.length+xs.length:=by simp
     obtain ⟨base,tlen,cap,tsz,town⟩:=tk
     simp only [Tk.val] at hv hlen f2 f3
     subst hv
     subst hlen
     by_cases hn0:xs.length=0
     · have hxs0:xs=[]:=by cases xs with | nil=>rfl | cons _ _=>simp at hn0
       subst hxs0
       have hnew:new=[]:=by apply List.eq_nil_of_length_eq_zero;simpa using n2
       subst hnew
       have hrun:=db (type:=type) h0 h1 hu hu1 hsz (base:=base) (len:=l.length) (cap:=cap) (n:=0) (xb:=xb) (xc:=xc) rfl n1 (by have:=f3.cap;simpa using this)
       have hset:aa.set τ (l++([]:List PV)).length=aa:=by
         apply List.ext_getElem?
         intro j
         rw [List.getElem?_set]
         split
         · rename_i e;subst e
           have:=(List.getElem?_eq_some_iff.1 htok)
           obtain ⟨hlt,_⟩:=this
           rw [if_pos hlt,htok];simp
         · rfl
       rw [hset]
       refine ⟨.slice base l.length cap,w,G,?_,?_,hi,G.le_refl,aZ.refl G w⟩
       · refine Eq.trans hrun ?_
         cases base<;>simp [storeCells]
       · simpa using hs'
     · have hpos:0<xs.length:=by omega
       have hup:ic G aa (aa.set τ (l++xs).length) τ (l.length+xs.length):=by
         rw [hlen2]
         have hlt:=(List.getElem?_eq_some_iff.1 htok).1
         refine ⟨by rw [List.getElem?_set];simp [hlt],fun σ hσ=>by rw [List.getElem?_set,if_neg (Ne.symm hσ)],fun t0 h=>?_⟩
         rw [e1] at h;cases h;simp;omega
       rcases Nat.lt_or_ge cap (l.length+xs.length) with hfit | hfit
       · refine grows l base cap τ e3 hhl hfit hbytes hup (fun t0 h=>?_) rfl
         rw [e1] at h;cases h
         refine ⟨?_,hfit⟩
         rintro ⟨d1,d2⟩
         rcases hrow with rfl | ⟨b,o,e,_⟩
         · simp at d2
         · rw [d1] at e;cases e
       · have hl0:l≠[]:=by
           rintro rfl
           have:=f3.zero rfl
           simp at this hfit
           omega
         obtain ⟨b,o,hbase,hrow⟩:=hrow.resolve_left hl0
         simp only at hbase;subst hbase
         have:=hrow.sz hhl hl0
         subst this
         obtain ⟨b',o',c,ty,p1,p2,p3,p4,p5⟩:=f3.spare (.inl (by simp;omega))
         simp only [Option.some.injEq,Addr.mk.injEq] at p1
         obtain ⟨rfl,rfl,_⟩:=p1
         simp only at p4 p5
         have hmul:(l.length+xs.length)*sz≤cap*sz:=Nat.mul_le_mul_right _ hfit
         rw [Nat.add_mul] at hmul
         have lE:=run_storeCells_at (P:=P) b (o+l.length*sz) ty new 0 c w p3 (by rw [n2];omega) n4
         have hrun:=db (type:=type) h0 h1 hu hu1 hsz (base:=some ⟨b,o,none⟩) (len:=l.length) (cap:=cap) (n:=xs.length) (xb:=xb) (xc:=xc) rfl n1 hfit
         simp only [Nat.add_zero] at lE
         obtain ⟨g1,g2,g3⟩:=hi.fill (t:=⟨some ⟨b,o,none⟩,l.length,cap,sz,town⟩) (n:=xs.length) e1 rfl p2 p3 p4 p5 n2 hpos hfit rfl hup
         refine ⟨.slice (some ⟨b,o,none⟩) (l.length+xs.length) cap,_,_,?_,?_,g1,g2,g3⟩
         · refine Eq.trans hrun ?_
           simp only [Addr.cm,lE,Result.andThen_ok]
         · have hat:At (eU G b (o+l.length*sz) new) b (o+l.length*sz) new:=by
             intro j v hj
             have hlt:=(List.getElem?_eq_some_iff.1 hj).1
             simp only [eU]
             rw [if_pos ⟨trivial,by omega,by omega⟩,Nat.add_sub_cancel_left]
             exact hj
           have hrow':Row (eU G b (o+l.length*sz) new) b o sz (l++xs):=Row.append (Row.mono g2.K _ _ _ _ hrow) (n3 _ _ _ g2.K hat)
           simp only [ah]
           exact ⟨⟨some ⟨b,o,none⟩,l.length+xs.length,cap,sz,true⟩,by simp [Gh.a0],⟨by simp,Tk.kF _⟩,a7.2 ⟨_,_,_,rfl,hfit,by simp,.inr ⟨_,_,_,rfl,hrow'⟩⟩,fun _=>⟨rfl,.inr ⟨_,_,rfl,hrow'⟩⟩⟩
   · simp at h
end
end Go.Ab
namespace Go.Ab
section
variable {P:Program} {ns:Names} {G:Gh} {w:World}
theorem za {ρ:bh} {x:AV} {v:Value} (h:ah ρ G x v) (hl:aJ x=true):v.oneCell'=true:=by
 cases x with
 | pv p=>
   simp only [ah] at h
   cases p with
   | agg _=>simp [aJ] at hl
   | aF _=>obtain ⟨b,l,c,rfl,_⟩:=a7.1 h;rfl
   | bool _=>rw [dS] at h;subst h;rfl
   | int _ _=>rw [dJ] at h;subst h;rfl
   | str _=>rw [gV] at h;subst h;rfl
 | cz _=>simp only [ah] at h;obtain ⟨_,_,rfl,_⟩:=h;rfl
 | own _ _=>simp only [ah] at h;obtain ⟨_,_,_,h,_⟩:=h;obtain ⟨b,l,c,rfl,_⟩:=a7.1 h;rfl
 | aO _ _=>simp only [ah] at h;obtain ⟨_,_,rfl⟩:=h;rfl
 | aY _ _ _ _=>simp only [ah] at h;obtain ⟨_,_,_,rfl,_⟩:=h;rfl
 | fn _ _=>simp only [ah] at h;obtain ⟨_,_,_,rfl,_⟩:=h;rfl
 | eN=>simp only [ah] at h;rcases h with rfl | rfl<;>rfl
 | d_ _=>simp only [ah] at h;obtain ⟨_,_,rfl⟩:=h;rfl
 | cT _=>simp only [ah] at h
 | _=>simp [aJ] at hl
theorem gF {ρ:bh}:∀{xs:List AV} {vs:List Value},ae ρ G xs vs→xs.all aJ=true→∀u∈vs,u.oneCell'=true
 | [],_,h,_,u,hu=>by simp only [ae] at h;subst h;simp at hu
 | x::xs,_,h,hl,u,hu=>by
   simp only [ae] at h
   obtain ⟨v,r,rfl,e1,e2⟩:=h
   simp only [List.all_cons,Bool.and_eq_true] at hl
   simp only [List.mem_cons] at hu
   rcases hu with rfl | hu
   · exact za e1 hl.1
   · exact gF e2 hl.2 u hu
theorem en {xs:List AV} (h:xs.all bO=true):xs.all aJ=true:=by
 rw [List.all_eq_true] at *
 intro x hx
 have:=h x hx
 cases x<;>simp_all [bO,aJ,bm]
def HH (ns:Names) (P:Program) (G:Gh) (w:World) (mem:List (Nat×List AV)) (sh:Sh) (aa:al) (s:Sem Next) (x:AV):Prop:=
 ∃n v w' G',s.run P w=.ok n w'∧(n=.value v∨(n=.skip∧v=undef))∧ah (num ns) G' x v∧Inv (num ns) G' w' mem sh aa∧G.le G'∧aZ G w G' w'
theorem f_ {t sz b off:Nat} {v:Value} {c:Array Value} {ty:TypeId} (hsz:bw P t=some sz) (hv:v.cells.size=sz) (hh:w.heap[b]?=some (.cells c ty (0,0)))
   (hl:off+sz≤c.size) (h1:∀u∈v.cells.toList,u.oneCell'=true) :
   (storeVar t ⟨b,off,none⟩ v).run P w=.ok () (w.setRow b (c.toList.take off++v.cells.toList++c.toList.drop (off+v.cells.toList.length)).toArray):=by
 have:=run_storeCells_at (P:=P) b off ty v.cells.toList 0 c w hh (by simp [hv];omega) h1
 simp only [Nat.add_zero] at this
 simp only [storeVar,Sem.run_bind,cB hsz,Result.andThen_ok]
 rw [if_neg (by simp [hv])]
 simpa using this
theorem gG {t:TypeId} {v:Value}:(newVar t v).run P w=.ok ⟨w.heap.size,0,none⟩ (w.alloc (.cells v.cells t)):=rfl
theorem ga {ρ:bh}:∀{xs:List AV} {vs:List Value},vs.length=xs.length→(∀(j:Nat) (x:AV) (v:Value),xs[j]?=some x→vs[j]?=some v→ah ρ G x v)→ae ρ G xs vs
 | [],vs,hl,_=>by
   have:vs=[]:=by cases vs<;>simp_all
   subst this;simp [ae]
 | x::xs,[],hl,_=>by simp at hl
 | x::xs,v::vs,hl,h=>by
   simp only [ae]
   exact ⟨v,vs,rfl,h 0 x v rfl rfl,ga (by simpa using hl) fun j y u hy hu=>h (j+1) y u (by simpa using hy) (by simpa using hu)⟩
theorem cQ {α:Type} (l:List α):∀(n j:Nat),j<n*l.length→(List.replicate n l).flatten[j]?=l[j % l.length]?
 | 0,j,h=>by simp at h
 | n+1,j,h=>by
   rw [List.replicate_succ,List.flatten_cons]
   by_cases hj:j<l.length
   · rw [List.getElem?_append_left hj,Nat.mod_eq_of_lt hj]
   · rw [List.getElem?_append_right (by omega),cQ l n (j-l.length) (by rw [Nat.add_mul] at h;omega)]
     congr 1
     exact (Nat.mod_eq_sub_mod (by omega)).symm
theorem pZ {n:Int} (h0:0≤n) (h1:n≤9223372036854775807):IntKind.i64.wrap n=n:=by
 unfold IntKind.wrap
 have e1:(2:Int) ^ IntKind.i64.bits=18446744073709551616:=by decide
 have e2:(2:Int) ^ (IntKind.i64.bits-1)=9223372036854775808:=by decide
 have e3:IntKind.i64.signed=true:=rfl
 simp only [e1,e2,e3]
 have:n % 18446744073709551616=n:=Int.emod_eq_of_lt h0 (by omega)
 simp only [this]
 rw [if_neg]
 simp;omega
theorem iH {ρ:bh}:∀{l:List Value} {z:List PV},bB ck l=some z→ae ρ G (z.map .pv) l∧(z.map AV.pv).all bO=true
 | [],_,h=>by simp [bB] at h;subst h;simp [ae]
 | v::l,z,h=>by
   simp only [bB] at h
   split at h
   · rename_i y ys h1 h2
     simp at h;subst h
     obtain ⟨g1,g2⟩:=iH (ρ:=ρ) h2
     obtain ⟨g3,g4⟩:=fk (K:=G.K) h1
     have g5:bO (.pv y)=true:=by cases y<;>simp_all [bO,aJ,e_]
     simp only [List.map_cons,ae,List.all_cons,g5,g2,Bool.and_true,and_true]
     exact ⟨v,l,rfl,by simp only [ah];exact Rel.Cd g3,g1⟩
   · simp at h
theorem qS (n:Nat) (z:List PV):(z.map AV.pv).all (au n)=true:=by
 rw [List.all_eq_true]
 intro x hx
 simp only [List.mem_map] at hx
 obtain ⟨p,_,rfl⟩:=hx
 simp [au]
theorem zc (n:Nat) (z:List PV):(z.map a6.zeroCell).all (au n)=true:=by
 rw [List.all_eq_true]
 intro x hx
 simp only [List.mem_map] at hx
 obtain ⟨p,_,rfl⟩:=hx
 unfold a6.zeroCell
 split<;>simp [au]
end
mutual
theorem mf {n m:Nat} (h:n≤m):∀{x:AV},au n x=true→au m x=true
 | .un,_=>by simp [au]
 | .pv _,_=>by simp [au]
 | .cz _,_=>by simp [au]
 | .own ..,_=>by simp [au]
 | .eN,_=>by simp [au]
 | .cS _,_=>by simp [au]
 | .aO b _,hx=>by simp [au] at hx ⊢;omega
 | .aY b _ _ _,hx=>by simp [au] at hx ⊢;omega
 | .fn _ cap,hx=>by simp only [au] at hx ⊢;exact iI h hx
 | .agg cs,hx=>by simp only [au] at hx ⊢;exact iI h hx
 | .bg ..,hx=>by simp [au] at hx
 | .lr _,hx=>by simp [au] at hx
 | .d_ b,hx=>by simp [au] at hx ⊢;omega
 | .cT _,_=>by simp [au]
 | .mM ..,hx=>by simp [au] at hx
theorem iI {n m:Nat} (h:n≤m):∀{xs:List AV},au.bK n xs=true→au.bK m xs=true
 | [],_=>by simp [au.bK]
 | x::xs,hx=>by
   simp only [au.bK,Bool.and_eq_true] at hx ⊢
   exact ⟨mf h hx.1,iI h hx.2⟩
end
theorem gf {n m:Nat} (h:n≤m) {xs:List AV} (hx:xs.all (au n)=true):xs.all (au m)=true:=by
 rw [List.all_eq_true] at *
 exact fun x hm=>mf h (hx x hm)
section
variable {P:Program} {ns:Names} {G:Gh} {w:World}
theorem gZ {ρ:bh} {k:IntKind} {n:Int} {v:Value} (h:ah ρ G (.pv (.int k n)) v):v=.int k n:=by
 simp only [ah] at h;exact dJ.1 h
theorem sD {t e sz by_:Nat} {ag:Bool} {z:List PV} {k k':IntKind} {n:Int} {mem:List (Nat×List AV)} {sh:Sh} {aa:al} (hu:P.underlying t=some (.slice e)) (hsz:bw P e=some sz)
   (hby:cN P e=some by_) (hz:bn P e=some z) (hzl:z.length=sz) (hs0:0<sz) (h0:0≤n) (h1:n≤9223372036854775807) (h2:n*by_≤140737488355328) (hi:Inv (num ns) G w mem sh aa) :
   ∃v w' G',(Instr.makeSlice t (.int k n) (.int k' n)).run P w=.ok v w'∧ah (num ns) G' (.aY sh.length sz n.toNat ag) v ∧
     Inv (num ns) G' w' mem (sh++[some ((List.replicate n.toNat (z.map .pv)).flatten)]) aa∧G.le G'∧aZ G w G' w':=by
 obtain ⟨i,hii,hib,hirun⟩:=ju hby w
 obtain ⟨zv,hz1,hz2⟩:=eG (P:=P) (w:=w) hz
 have hzs:zv.cells.size=sz:=by have:=eF hz2;simp at this;omega
 obtain ⟨zr,zl⟩:=iH (G:=G) (ρ:=num ns) hz2
 let z0:Array Value:=if n.toNat*sz=0 then #[] else zv.cells
 let c:Array Value:=(Array.range (n.toNat*sz)).map (z0[· % z0.size]!)
 have hw:IntKind.i64.wrap n=n:=pZ h0 h1
 have hbytes:(i.bytes:Int)*n≤281474976710656:=by rw [hib,Int.mul_comm];omega
 have hlen:((List.replicate n.toNat (z.map AV.pv)).flatten).length=n.toNat*sz:=by simp [hzl]
 have hrel:ae (num ns) G ((List.replicate n.toNat (z.map .pv)).flatten) c.toList:=by
   refine ga (by simp [c,hzl]) fun j x v hx hv=>?_
   have hlt:j<n.toNat*sz:=by have:=(List.getElem?_eq_some_iff.1 hx).1;omega
   rw [cQ _ _ _ (by simpa [hzl] using hlt)] at hx
   have hn0:¬n.toNat*sz=0:=by omega
   have hz0:z0=zv.cells:=if_neg hn0
   obtain ⟨v',g1,g2⟩:=zr.get hx
   have:v=v':=by
     simp only [c,hz0,Array.toList_map,List.getElem?_map,Array.toList_range,Option.map_eq_some_iff] at hv
     obtain ⟨j',hj',hv⟩:=hv
     rw [List.getElem?_range hlt] at hj'
     cases hj'
     simp only [List.length_map,hzl] at g1
     rw [hzs] at hv
     have hm:j % sz<zv.cells.size:=by rw [hzs];exact Nat.mod_lt _ hs0
     rw [getElem!_pos zv.cells (j % sz) hm] at hv
     have g1':zv.cells[j % sz]?=some v':=by simpa using g1
     rw [Array.getElem?_eq_getElem hm] at g1'
     simp at g1'
     rw [←hv,g1']
   subst this
   exact g2
 have hall:((List.replicate n.toNat (z.map AV.pv)).flatten).all bO=true:=by
   rw [List.all_eq_true] at *
   intro x hx
   simp only [List.mem_flatten,List.mem_replicate] at hx
   obtain ⟨l,⟨_,rfl⟩,hx⟩:=hx
   exact zl x hx
 have href:((List.replicate n.toNat (z.map AV.pv)).flatten).all (au (sh.length+1))=true:=by
   have:=qS (sh.length+1) z
   rw [List.all_eq_true] at *
   intro x hx
   simp only [List.mem_flatten,List.mem_replicate] at hx
   obtain ⟨l,⟨_,rfl⟩,hx⟩:=hx
   exact this x hx
 obtain ⟨g1,g2,g3⟩:=hi.kL (cells:=(List.replicate n.toNat (z.map .pv)).flatten) (c:=c) e hrel hall href
 refine ⟨.slice (some ⟨w.heap.size,0,none⟩) n.toNat n.toNat,_,_,?_,?_,g1,g2,g3⟩
 · have hp:(2:Int) ^ 48=281474976710656:=by decide
   have ht:(decide (n<0) || decide ((i.bytes:Int)*n > 2 ^ 48))=false:=by
     rw [hp];simp;omega
   have hir:∀w',(typeInfo e).run P w'=.ok i w':=fun w'=>by simp [typeInfo,hii]
   have hcond:¬((decide (n<0) || decide ((i.bytes:Int)*n > 2 ^ 48)) || decide (n<0) || decide (n > n))=true:=by
     rw [ht];simp;omega
   simp only [Instr.makeSlice,Sem.run_bind,run_underlying hu,Result.andThen_ok,asInt,asIntOf,Sem.run_pure,hir,hw]
   rw [if_neg hcond]
   simp only [Sem.run_bind,run_askRoom,Result.andThen_ok,cB hsz]
   by_cases h00:n.toNat*sz=0
   · rw [if_pos h00]
     simp only [Sem.run_bind,Sem.run_pure,Result.andThen_ok]
     have hz0:z0=#[]:=if_pos h00
     simp only [c,hz0]
     rfl
   · rw [if_neg h00]
     simp only [Sem.run_bind,Sem.run_pure,hz1,Result.andThen_ok]
     have hz0:z0=zv.cells:=if_neg h00
     simp only [c,hz0]
     rfl
 · simp only [ah]
   exact ⟨(w.heap.size,c.size),0,by simp [Gh.bV],rfl,by simp [c]⟩
theorem sE {t e sz by_ d:Nat} {z:List PV} {k k':IntKind} {n:Int} {mem:List (Nat×List AV)} {sh:Sh} {aa:al} (hu:P.underlying t=some (.slice e)) (hsz:bw P e=some sz)
   (hby:cN P e=some by_) (hz:bn P e=some z) (hzl:z.length=sz) (hs0:0<sz) (h0:0≤n) (h1:n≤9223372036854775807) (h2:n*by_≤140737488355328) (hi:Inv (num ns) G w mem sh aa) (hl:look mem d=none) :
   ∃v w' G',(Instr.makeSlice t (.int k n) (.int k' n)).run P w=.ok v w'∧ah (num ns) G' (.gR d n.toNat) v ∧
     Inv (num ns) G' w' (bN mem d ((List.replicate n.toNat (z.map .pv)).flatten)) sh aa∧G.le G'∧aZ G w G' w':=by
 obtain ⟨i,hii,hib,hirun⟩:=ju hby w
 obtain ⟨zv,hz1,hz2⟩:=eG (P:=P) (w:=w) hz
 have hzs:zv.cells.size=sz:=by have:=eF hz2;simp at this;omega
 obtain ⟨zr,zl⟩:=iH (G:=G) (ρ:=num ns) hz2
 let z0:Array Value:=if n.toNat*sz=0 then #[] else zv.cells
 let c:Array Value:=(Array.range (n.toNat*sz)).map (z0[· % z0.size]!)
 have hw:IntKind.i64.wrap n=n:=pZ h0 h1
 have hbytes:(i.bytes:Int)*n≤281474976710656:=by rw [hib,Int.mul_comm];omega
 have hlen:((List.replicate n.toNat (z.map AV.pv)).flatten).length=n.toNat*sz:=by simp [hzl]
 have hrel:ae (num ns) G ((List.replicate n.toNat (z.map .pv)).flatten) c.toList:=by
   refine ga (by simp [c,hzl]) fun j x v hx hv=>?_
   have hlt:j<n.toNat*sz:=by have:=(List.getElem?_eq_some_iff.1 hx).1;omega
   rw [cQ _ _ _ (by simpa [hzl] using hlt)] at hx
   have hn0:¬n.toNat*sz=0:=by omega
   have hz0:z0=zv.cells:=if_neg hn0
   obtain ⟨v',g1,g2⟩:=zr.get hx
   have:v=v':=by
     simp only [c,hz0,Array.toList_map,List.getElem?_map,Array.toList_range,Option.map_eq_some_iff] at hv
     obtain ⟨j',hj',hv⟩:=hv
     rw [List.getElem?_range hlt] at hj'
     cases hj'
     simp only [List.length_map,hzl] at g1
     rw [hzs] at hv
     have hm:j % sz<zv.cells.size:=by rw [hzs];exact Nat.mod_lt _ hs0
     rw [getElem!_pos zv.cells (j % sz) hm] at hv
     have g1':zv.cells[j % sz]?=some v':=by simpa using g1
     rw [Array.getElem?_eq_getElem hm] at g1'
     simp at g1'
     rw [←hv,g1']
   subst this
   exact g2
 have hall:((List.replicate n.toNat (z.map AV.pv)).flatten).all bO=true:=by
   rw [List.all_eq_true] at *
   intro x hx
   simp only [List.mem_flatten,List.mem_replicate] at hx
   obtain ⟨l,⟨_,rfl⟩,hx⟩:=hx
   exact zl x hx
 obtain ⟨g1,g2,g3⟩:=hi.lC (d:=d) (cells:=(List.replicate n.toNat (z.map .pv)).flatten) (c:=c) e hl hrel (en hall)
 refine ⟨.slice (some ⟨w.heap.size,0,none⟩) n.toNat n.toNat,_,_,?_,?_,g1,g2,g3⟩
 · have hp:(2:Int) ^ 48=281474976710656:=by decide
   have ht:(decide (n<0) || decide ((i.bytes:Int)*n > 2 ^ 48))=false:=by
     rw [hp];simp;omega
   have hir:∀w',(typeInfo e).run P w'=.ok i w':=fun w'=>by simp [typeInfo,hii]
   have hcond:¬((decide (n<0) || decide ((i.bytes:Int)*n > 2 ^ 48)) || decide (n<0) || decide (n > n))=true:=by
     rw [ht];simp;omega
   simp only [Instr.makeSlice,Sem.run_bind,run_underlying hu,Result.andThen_ok,asInt,asIntOf,Sem.run_pure,hir,hw]
   rw [if_neg hcond]
   simp only [Sem.run_bind,run_askRoom,Result.andThen_ok,cB hsz]
   by_cases h00:n.toNat*sz=0
   · rw [if_pos h00]
     simp only [Sem.run_bind,Sem.run_pure,Result.andThen_ok]
     have hz0:z0=#[]:=if_pos h00
     simp only [c,hz0]
     rfl
   · rw [if_neg h00]
     simp only [Sem.run_bind,Sem.run_pure,hz1,Result.andThen_ok]
     have hz0:z0=zv.cells:=if_neg h00
     simp only [c,hz0]
     rfl
 · simp only [ah]
   exact ⟨w.heap.size,by simp [Gh.cw],rfl⟩
end
end Go.Ab
namespace Go.Ab
section
variable {P:Program} {ns:Names} {G:Gh} {w:World}
theorem iv {K:aP}:∀{cs:List PV} {vs:List Value},cg K cs vs→∀p∈cs,e_ p=true
 | [],_,_,p,hp=>by simp at hp
 | c::cs,_,h,p,hp=>by
   simp only [cg] at h
   obtain ⟨v,r,rfl,e2,e3⟩:=h
   simp only [List.mem_cons] at hp
   rcases hp with rfl | hp
   · cases p with
     | agg _=>simp [R] at e2
     | _=>rfl
   · exact iv e3 p hp
theorem Row.kM {K:aP}:∀{els:List PV} {b o sz:Nat},Row K b o sz els →
   ∃vss:List Value,vss.length=els.length*sz∧At K b o vss∧cg K (els.flatMap aH) vss∧∀u∈vss,u.oneCell'=true
 | [],b,o,sz,_=>⟨[],by simp,by intro j v h;simp at h,by simp [cg],by simp⟩
 | el::r,b,o,sz,hr=>by
   simp only [Row] at hr
   obtain ⟨⟨vs,h1,h2,h3⟩,h4⟩:=hr
   obtain ⟨vss,g1,g2,g3,g4⟩:=Row.kM h4
   refine ⟨vs++vss,by simp [h1,g1,Nat.add_mul];omega,?_,by rw [List.flatMap_cons];exact cg.append h3.cells g3,?_⟩
   · intro j v hj
     rw [List.getElem?_append] at hj
     split at hj
     · exact h2 j v hj
     · have:=g2 _ v hj
       rw [h1] at this
       rwa [show o+sz+(j-sz)=o+j from by omega] at this
   · intro u hu
     simp only [List.mem_append] at hu
     rcases hu with hu | hu
     · exact cg.one h3.cells u hu
     · exact g4 u hu
theorem lF {els:List PV} {base:Option Addr} {cap:Nat} {sz:Nat} (hr:Rel G.K (.aF els) (.slice base els.length cap)) (hs:aQ sz els=true) :
   ∃vss:List Value,vss.length=els.length*sz∧cg G.K (els.flatMap aH) vss∧(∀u∈vss,u.oneCell'=true) ∧
     ∀w:World,(∀b o u,G.K b o=some u→w.cell? ⟨b,o,none⟩=some u)→(Builtin.firstCells sz els.length (.slice base els.length cap)).run P w=.ok vss.toArray w:=by
 obtain ⟨base',len,cap',e,_,hlen,hrow'⟩:=a7.1 hr
 cases e
 by_cases hnil:els=[]
 · subst hnil
   refine ⟨[],by simp,by simp [cg],by simp,fun w _=>?_⟩
   cases base with
   | none=>simp [Builtin.firstCells]
   | some a=>simp [Builtin.firstCells,loadCells,loadCellsFrom]
 · obtain ⟨b,o,sz',rfl,hrow⟩:=hrow'.resolve_left hnil
   have:=hrow.sz hs hnil
   subst this
   obtain ⟨vss,g1,g2,g3,g4⟩:=hrow.kM
   refine ⟨vss,g1,g3,g4,fun w hk=>?_⟩
   have hl:=run_loadCells_list (P:=P) w ⟨b,o,none⟩ vss (fun j u hj=>by rw [Addr.cm];exact hk _ _ _ (g2 j u hj))
   rw [g1] at hl
   simpa [Builtin.firstCells] using hl
theorem nF {b n cap sz:Nat} {c:Array Value} {t:TypeId} {vs suf:List Value} (hh:w.heap[b]?=some (.cells c t (0,0))) (hsp:c.toList=vs++suf) (hn:n*sz≤vs.length) :
   (Builtin.firstCells sz n (.slice (some ⟨b,0,none⟩) n cap)).run P w=.ok (vs.take (n*sz)).toArray w:=by
 have hl:=run_loadCells_list (P:=P) w ⟨b,0,none⟩ (vs.take (n*sz)) (fun j u hj=>by
   rw [Addr.cm,Nat.zero_add]
   rw [List.getElem?_take] at hj
   split at hj
   · have:c.toList[j]?=some u:=by rw [hsp,List.getElem?_append_left (List.getElem?_eq_some_iff.1 hj).1];exact hj
     simp only [World.cell?,hh]
     simpa using this
   · simp at hj)
 rw [List.length_take,Nat.min_eq_left hn] at hl
 simpa [Builtin.firstCells] using hl
theorem Inv.HI {ρ:bh} {mem:List (Nat×List AV)} {sh:Sh} {aa:al} (hi:Inv ρ G w mem sh aa) (s:Nat):Inv ρ G w mem (sh.set s none) aa:=
 { hi with
   bS:=fun s' cs hs'=>by
     rw [List.getElem?_set] at hs'
     split at hs'
     · split at hs'<;>simp at hs'
     · exact hi.bS s' cs hs'
   dC:=fun s' b h=>by simpa using hi.dC s' b h }
def Gh.fE (G:Gh) (s':Nat) (b:Nat×Nat):Gh:={ G with role:=fun k=>if k=b.1 then .shr s' else G.role k,sm:=fun k=>if k=s' then some b else G.sm k }
theorem Inv.fE {ρ:bh} {mem:List (Nat×List AV)} {sh:Sh} {aa:al} (hi:Inv ρ G w mem sh aa) {s:Nat} {b:Nat×Nat} {cells:List AV} (hs:sh[s]?=some (some cells)) (hb:G.sm s=some b) :
   Inv ρ (G.fE sh.length b) w mem (sh.set s none++[some cells]) aa∧G.le (G.fE sh.length b)∧aZ G w (G.fE sh.length b) w:=by
 obtain ⟨b0,e1,e2,e3,e4⟩:=hi.bS s cells hs
 rw [hb] at e1;cases e1
 have hr:G.role b.1=.shr s:=e2.role
 have hsm:G.sm sh.length=none:=by
   cases h:G.sm sh.length with
   | none=>rfl
   | some b=>have:=hi.dC _ b h;omega
 have hle:G.le (G.fE sh.length b):=⟨G.K.le_refl,fun _ _ h=>h,fun k b h=>by
   simp only [Gh.fE]
   split
   · rename_i e;subst e;rw [hsm] at h;simp at h
   · exact h,fun _ t h=>⟨t,h,⟨Nat.le_refl _,t.eQ⟩,fun _=>rfl⟩⟩
 have hrole:∀k r,G.role k=r→r≠.shr s→(G.fE sh.length b).role k=r:=by
   intro k r hk hn
   simp only [Gh.fE]
   rw [if_neg]
   · exact hk
   · rintro rfl;exact hn (hk.symm.trans hr)
 have hslt:s<sh.length:=(List.getElem?_eq_some_iff.1 hs).1
 have hevo:aZ G w (G.fE sh.length b) w:={
           size:=Nat.le_refl _,os:=rfl,tape:=rfl,output:=rfl,K:=G.K.le_refl,sm:=hle.sm,
           cP:=fun k _ hk=>⟨hrole k _ hk (by simp),rfl⟩
           fQ:=fun k τ _ hk=>.inr ⟨τ,hrole k _ hk (by simp)⟩
           eS:=fun _ _ _ _ _ h=>h }
 refine ⟨⟨hi.known,?_,?_,?_,hi.eR,?_,?_,?_,hi.dD,hi.fj hevo⟩,hle,hevo⟩
 · intro k o v hk
   rcases hi.aK k o v hk with h | ⟨τ,h⟩
   · exact .inl (hrole k _ h (by simp))
   · exact .inr ⟨τ,hrole k _ h (by simp)⟩
 · intro k hk;exact hrole k _ (hi.fresh k hk) (by simp)
 · intro d cs hd
   obtain ⟨b',e1,e2,e3⟩:=hi.bM d cs hd
   exact ⟨b',e1,e2.mono hle ((hrole b' _ e2.role (by simp)).trans e2.role.symm) rfl,e3⟩
 · intro s' cs hs'
   rw [List.getElem?_append] at hs'
   split at hs'
   · rw [List.getElem?_set] at hs'
     split at hs'
     · simp at hs'
     · rename_i hne
       obtain ⟨b',f1,f2,f3⟩:=hi.bS s' cs hs'
       exact ⟨b',hle.sm _ _ f1,f2.mono hle ((hrole b'.1 _ f2.role (by simp;exact fun h=>hne h.symm)).trans f2.role.symm) rfl,f3⟩
   · rename_i hge
     have hs'':s'=sh.length:=by
       rcases Nat.eq_or_lt_of_le (Nat.le_of_not_lt hge) with h | h
       · simpa using h.symm
       · rw [List.getElem?_eq_none (by simp at h ⊢;omega)] at hs';simp at hs'
     subst hs''
     simp at hs';subst hs'
     obtain ⟨_,o,hh,hold⟩:=e2
     exact ⟨b,by simp [Gh.fE],⟨by simp [Gh.fE],o,hh,hold.mono hle⟩,e3,gf (by omega) e4⟩
 · intro s' b' h
   simp only [Gh.fE] at h
   split at h
   · rename_i e;subst e;simp
   · have:=hi.dC s' b' h;simp;omega
 · intro τ n hn
   obtain ⟨tk,e1,e2,e3⟩:=hi.bT τ n hn
   refine ⟨tk,e1,e2,e3.cap,e3.zero,fun hlt=>?_⟩
   obtain ⟨b',o,cc,ty,f1,f2,f3,f4,f5⟩:=e3.spare hlt
   exact ⟨b',o,cc,ty,f1,hrole b' _ f2 (by simp),f3,f4,f5⟩
theorem sF {cs:List PV} (h:∀p∈cs,e_ p=true):(cs.map AV.pv).all bO=true:=by
 rw [List.all_eq_true]
 intro x hx
 obtain ⟨p,hp,rfl⟩:=List.mem_map.1 hx
 have:=h p hp
 cases p<;>simp_all [bO,aJ,e_]
theorem pw {argTypes:Array TypeId} {type t e e1 t1 sz by_:Nat} {ag:Bool} {z:List PV} {s x y:AV} {xs:List PV} {vs vx:Value} {mem:List (Nat×List AV)} {sh sh':Sh} {aa:al}
   (h0:argTypes[0]?=some t) (h1:argTypes[1]?=some t1)
   (hu:P.underlying t=some (.slice e)) (hu1:P.underlying t1=some (.slice e1)) (hsz:bw P e=some sz) (hby:cN P e=some by_) (hz:bn P e=some z) (hzl:z.length=sz) (hb0:0<by_)
   (hs:ah (num ns) G s vs) (hx:ah (num ns) G x vx) (hi:Inv (num ns) G w mem sh aa) (hxs:bF x=some xs) (hhx:aQ sz xs=true) (h:pj sz by_ ag s xs sh aa=some (y,sh')) :
   ∃v w' G',(Builtin.append_ argTypes type #[vs,vx]).run P w=.ok v w'∧ah (num ns) G' y v∧Inv (num ns) G' w' mem sh' aa∧G.le G'∧aZ G w G' w':=by
 obtain ⟨xb,xc,rfl⟩:=eI hxs hx
 have hrx:=cE hxs hx
 have knownD:∀w',w'=w.drew→∀b o u,G.K b o=some u→w'.cell? ⟨b,o,none⟩=some u:=fun w' e b o u hk=>by subst e;exact hi.known b o u hk
 obtain ⟨new,n1,n2,n3,n4⟩:=lF (P:=P) hrx hhx
 have hleaf:((xs.flatMap aH).map AV.pv).all bO=true:=sF (iv n2)
 have hrefs:∀k,((xs.flatMap aH).map AV.pv).all (au k)=true:=by
   intro k
   rw [List.all_eq_true]
   intro x hx
   obtain ⟨p,_,rfl⟩:=List.mem_map.1 hx
   rfl
 have onto:∀base,vs=.slice base 0 0→nm sz by_ ag s xs sh=some (y,sh') →
     ∃v w' G',(Builtin.append_ argTypes type #[vs,.slice xb xs.length xc]).run P w=.ok v w'∧ah (num ns) G' y v∧Inv (num ns) G' w' mem sh' aa∧G.le G'∧aZ G w G' w':=by
   rintro base rfl ha
   unfold nm at ha
   split at ha
   · rename_i hemp
     have hxs0:xs=[]:=List.isEmpty_iff.1 hemp
     subst hxs0
     simp only [Option.some.injEq,Prod.mk.injEq] at ha
     obtain ⟨rfl,rfl⟩:=ha
     have hnew:new=[]:=by apply List.eq_nil_of_length_eq_zero;simpa using n1
     subst hnew
     have hrun:=db (type:=type) h0 h1 hu hu1 hsz (base:=base) (len:=0) (cap:=0) (n:=0) (xb:=xb) (xc:=xc) rfl (n4 w hi.known) (by omega)
     refine ⟨.slice base 0 0,w,G,?_,hs,hi,G.le_refl,aZ.refl G w⟩
     refine Eq.trans hrun ?_
     cases base<;>simp [storeCells]
   · rename_i hemp
     simp only [Option.ite_none_right_eq_some,Option.some.injEq,Prod.mk.injEq] at ha
     obtain ⟨hbytes,rfl,rfl⟩:=ha
     have hpos:0<xs.length:=by
       cases xs with
       | nil=>simp at hemp
       | cons _ _=>simp
     obtain ⟨rest,newCap,p1,p2,p3⟩:=eV (type:=type) (aB:=#[]) (new:=new.toArray) h0 h1 hu hu1 hsz hby hz hzl (base:=base) (len:=0) (cap:=0) (n:=xs.length) (xb:=xb) (xc:=xc) rfl
       (fun w' e=>by cases base<;>simp [Builtin.firstCells,loadCells,loadCellsFrom]) (fun w' e=>n4 w' (knownD w' e)) (by omega) hb0 (by simpa using hbytes)
     have hrel:ae (num ns) G ((xs.flatMap aH).map .pv) new:=fD n2
     obtain ⟨g1,g2,g3⟩:=hi.drew.qQ (o':=.cells (#[]++new.toArray++rest) e) (N:=(#[]++new.toArray++rest).size) (cells:=(xs.flatMap aH).map .pv)
       (.inl ⟨_,e,new,rest.toList,rfl,rfl,by simp,hrel⟩) hleaf (hrefs _)
     refine ⟨_,_,_,p3,?_,g1,g2,(aZ.drew G w).trans g3⟩
     simp only [ah]
     refine ⟨(w.drew.heap.size,(#[]++new.toArray++rest).size),newCap-xs.length,by simp [Gh.bV],?_,?_⟩
     · have:xs.length+(newCap-xs.length)=newCap:=by omega
       show Value.slice (some ⟨w.heap.size,0,none⟩) (0+xs.length) newCap=Value.slice (some ⟨w.heap.size,0,none⟩) xs.length (xs.length+(newCap-xs.length))
       simp [this]
     · have:xs.length+(newCap-xs.length)=newCap:=by omega
       rw [this]
       simp [n1,p2]
       have:newCap=xs.length+(newCap-xs.length):=by omega
       conv=>lhs;rw [this,Nat.add_mul]
       omega
 unfold pj at h
 split at h
 · have hs':=hs
   simp only [ah] at hs
   obtain ⟨base,len,rfl,hsl⟩:=hs
   have hlen:len=0:=by have:=hsl.1;simpa using this.symm
   subst hlen
   exact onto base rfl h
 · rename_i τ
   simp only [Option.ite_none_right_eq_some] at h
   obtain ⟨htok,h⟩:=h
   simp only [ah] at hs
   obtain ⟨tk,e1,e2,e3,e4⟩:=hs
   have hlen:([]:List PV).length=tk.len:=by
     have:=hi.dD τ tk e1
     rw [htok] at this;simpa using this
   obtain ⟨hv,_⟩:=e4 hlen
   obtain ⟨tk',f1,f2,f3⟩:=hi.bT τ _ htok
   rw [e1] at f1;cases f1
   have hcap:=f3.zero (by simpa using hlen.symm)
   refine onto tk.base ?_ h
   rw [hv]
   simp only [Tk.val]
   rw [hcap,←hlen];rfl
 · rename_i b z' n g
   split at h
   · rename_i cells hcs
     simp only [Option.ite_none_right_eq_some] at h
     obtain ⟨⟨rfl,rfl,hmb,hnc,hbytes⟩,h⟩:=h
     have hs':=hs
     simp only [ah] at hs
     obtain ⟨blk,cap,hsm,rfl,hroom⟩:=hs
     obtain ⟨blk',hp',hblk,hlf,hrf⟩:=hi.bS _ _ hcs
     rw [hsm] at hp';cases hp'
     obtain ⟨_,c,ty,us,suf,hh,hcz,hsp,hrel⟩:=hblk.cells hmb
     have hul:us.length=cells.length:=hrel.length
     split at h
     · rename_i hemp
       have hxs0:xs=[]:=List.isEmpty_iff.1 hemp
       subst hxs0
       simp only [Option.some.injEq,Prod.mk.injEq] at h
       obtain ⟨rfl,rfl⟩:=h
       have hnew:new=[]:=by apply List.eq_nil_of_length_eq_zero;simpa using n1
       subst hnew
       have hrun:=db (type:=type) h0 h1 hu hu1 hsz (base:=some ⟨blk.1,0,none⟩) (len:=n) (cap:=n+cap) (n:=0) (xb:=xb) (xc:=xc) rfl (n4 w hi.known) (by omega)
       refine ⟨.slice (some ⟨blk.1,0,none⟩) n (n+cap),w,G,?_,hs',hi,G.le_refl,aZ.refl G w⟩
       refine Eq.trans hrun ?_
       simp [storeCells]
     · rename_i hemp
       simp only [Option.some.injEq,Prod.mk.injEq] at h
       obtain ⟨rfl,rfl⟩:=h
       have hpos:0<xs.length:=by
         cases xs with
         | nil=>simp at hemp
         | cons _ _=>simp
       have hrel1:ae (num ns) G (cells.take (n*z')) (us.take (n*z')):=hrel.take _
       have hlf1:(cells.take (n*z')).all bO=true:=by
         rw [List.all_eq_true] at hlf ⊢
         exact fun x hx=>hlf x (List.mem_of_mem_take hx)
       have hrf1:(cells.take (n*z')).all (au (b+1))=true:=by
         rw [List.all_eq_true] at hrf ⊢
         exact fun x hx=>hrf x (List.mem_of_mem_take hx)
       have hblt:b<sh.length:=(List.getElem?_eq_some_iff.1 hcs).1
       have hlfN:(cells.take (n*z')++(xs.flatMap aH).map AV.pv).all bO=true:=by
         rw [List.all_append,hlf1,hleaf];rfl
       have hrfN:(cells.take (n*z')++(xs.flatMap aH).map AV.pv).all (au (sh.length+1))=true:=by
         rw [List.all_append,gf (by omega) hrf1,hrefs];rfl
       have htl:(us.take (n*z')).length=n*z':=by rw [List.length_take];omega
       rcases Nat.lt_or_ge (n+cap) (n+xs.length) with hfit | hfit
       · -- a new block
         obtain ⟨rest,newCap,p1,p2,p3⟩:=eV (type:=type) (aB:=(us.take (n*z')).toArray) (new:=new.toArray) h0 h1 hu hu1 hsz hby hz hzl (base:=some ⟨blk.1,0,none⟩) (len:=n) (cap:=n+cap) (n:=xs.length) (xb:=xb) (xc:=xc) rfl
           (fun w' e=>by subst e;exact nF (w:=w.drew) hh hsp (by omega)) (fun w' e=>n4 w' (knownD w' e)) hfit hb0 hbytes
         have hrel:ae (num ns) G (cells.take (n*z')++(xs.flatMap aH).map .pv) (us.take (n*z')++new):=hrel1.append (fD n2)
         have hi1:=hi.drew.HI b
         have hlen:(sh.set b none).length=sh.length:=by simp
         obtain ⟨g1,g2,g3⟩:=hi1.qQ (o':=.cells ((us.take (n*z')).toArray++new.toArray++rest) e) (N:=((us.take (n*z')).toArray++new.toArray++rest).size) (cells:=cells.take (n*z')++(xs.flatMap aH).map .pv)
           (.inl ⟨_,e,us.take (n*z')++new,rest.toList,rfl,rfl,by simp,hrel⟩) hlfN (by rw [hlen];exact hrfN)
         rw [hlen] at g1 g2 g3
         refine ⟨_,_,_,p3,?_,g1,g2,(aZ.drew G w).trans g3⟩
         simp only [ah]
         refine ⟨(w.drew.heap.size,((us.take (n*z')).toArray++new.toArray++rest).size),newCap-(n+xs.length),by simp [Gh.bV],?_,?_⟩
         · have:n+xs.length+(newCap-(n+xs.length))=newCap:=by omega
           show Value.slice (some ⟨w.heap.size,0,none⟩) (n+xs.length) newCap=Value.slice (some ⟨w.heap.size,0,none⟩) (n+xs.length) (n+xs.length+(newCap-(n+xs.length)))
           simp [this]
         · have:n+xs.length+(newCap-(n+xs.length))=newCap:=by omega
           rw [this]
           simp only [Array.size_append,List.size_toArray,htl,n1,p2]
           have:newCap=n+xs.length+(newCap-(n+xs.length)):=by omega
           conv=>lhs;rw [this,Nat.add_mul,Nat.add_mul]
           omega
       · -- in its place
         have hmul:(n+xs.length)*z'≤(n+cap)*z':=Nat.mul_le_mul_right _ hfit
         rw [Nat.add_mul] at hmul
         have hcsz:n*z'+xs.length*z'≤c.size:=by omega
         obtain ⟨m1,m2,m3⟩:=hi.fE hcs hsm
         have lE:=run_storeCells_at (P:=P) blk.1 (n*z') ty new 0 c w hh (by rw [n1];omega) n3
         have hrun:=db (type:=type) h0 h1 hu hu1 hsz (base:=some ⟨blk.1,0,none⟩) (len:=n) (cap:=n+cap) (n:=xs.length) (xb:=xb) (xc:=xc) rfl (n4 w hi.known) hfit
         simp only [Nat.add_zero] at lE
         have hget:(sh.set b none++[some cells])[sh.length]?=some (some cells):=by
           rw [List.getElem?_append_right (by simp)];simp
         have hct:c.toList.take (n*z')=us.take (n*z'):=by
           rw [hsp,List.take_append_of_le_length (by omega)]
         obtain ⟨g1,g2⟩:=m1.iu (cells':=cells.take (n*z')++(xs.flatMap aH).map .pv) (c':=(c.toList.take (n*z')++new++c.toList.drop (n*z'+new.length)).toArray) (vs:=us.take (n*z')++new) (suf:=c.toList.drop (n*z'+new.length))
           hget (by simp [Gh.fE]) hh (by
             have:c.toList.length=c.size:=by simp
             simp only [List.size_toArray,List.length_append,List.length_take,List.length_drop,n1,this]
             omega)
           (by simp [hct]) (ae.mono m2 (hrel1.append (fD n2))) hlfN hrfN
         have hset:(sh.set b none++[some cells]).set sh.length (some (cells.take (n*z')++(xs.flatMap aH).map .pv))=sh.set b none++[some (cells.take (n*z')++(xs.flatMap aH).map .pv)]:=by
           rw [List.set_append_right _ _ (by simp)];simp
         rw [hset] at g1
         refine ⟨.slice (some ⟨blk.1,0,none⟩) (n+xs.length) (n+cap),_,_,?_,?_,g1,m2,m3.trans g2⟩
         · refine Eq.trans hrun ?_
           simp only [Addr.cm,Nat.zero_add,lE,Result.andThen_ok]
         · simp only [ah]
           refine ⟨blk,cap-xs.length,by simp [Gh.fE],?_,?_⟩
           · have:n+xs.length+(cap-xs.length)=n+cap:=by omega
             rw [this]
           · have:n+xs.length+(cap-xs.length)=n+cap:=by omega
             rw [this];exact hroom
   · simp at h
 · simp at h
theorem vf {c:Call} {A:gm} {dst:Option Nat} {args:List Operand} {sz:Nat} {z:List PV} (h:aU P ns A dst (.call c)=some (.gp sz z,args)) :
   ∃x t e,c.callee=.builtin .clear∧c.args=#[x]∧args=[x]∧c.argTypes[0]?=some t∧P.underlying t=some (.slice e)∧bw P e=some sz∧bn P e=some z∧z.length=sz∧0<sz:=by
 obtain ⟨callee,cargs,ctypes⟩:=c
 simp only [aU] at h
 split at h
 · split at h<;>simp at h
 · split at h<;>simp at h
 · split at h<;>simp at h
 · split at h
   · split at h
     · rw [Option.ite_none_right_eq_some] at h
       obtain ⟨_,h⟩:=h
       split at h
       · simp at h
       · split at h<;>simp at h
     · simp at h
   · simp at h
 · rename_i hcal
   split at h
   · rename_i x e ha ht
     split at h
     · rename_i sz' z' hs hz
       simp only [Option.ite_none_right_eq_some,Option.some.injEq,Prod.mk.injEq,AK.gp.injEq] at h
       obtain ⟨⟨h1,h2⟩,⟨rfl,rfl⟩,rfl⟩:=h
       simp only [Option.bind_eq_some_iff] at ht
       obtain ⟨t,ht,htu⟩:=ht
       exact ⟨x,t,e,rfl,by apply Array.ext';simpa using ha,rfl,ht,ca htu,hs,hz,h1,h2⟩
     · simp at h
   · simp at h
 · split at h
   · split at h<;>simp at h
   · simp at h
 · split at h
   · split at h
     · (repeat' (split at h))<;>simp at h
     · split at h
       · simp at h
       · split at h
         · simp at h
         · split at h<;>simp at h
   · simp at h
 · split at h<;>simp at h
 · simp at h
theorem zd {l:Array Value} {z:List PV} {n:Nat} (hz:bB ck l.toList=some z) (hs0:0<z.length) :
   ae (num ns) G ((List.replicate n (z.map AV.pv)).flatten) (Builtin.zeroCells l n).toList∧((List.replicate n (z.map AV.pv)).flatten).all bO=true∧∀k,((List.replicate n (z.map AV.pv)).flatten).all (au k)=true:=by
 obtain ⟨zr,zl⟩:=iH (G:=G) (ρ:=num ns) hz
 have hzs:l.size=z.length:=by have:=eF hz;simp at this;omega
 refine ⟨?_,?_,?_⟩
 · refine ga (by simp [Builtin.zeroCells,hzs]) fun j x v hx hv=>?_
   have hlt:j<n*z.length:=by have:=(List.getElem?_eq_some_iff.1 hx).1;simpa using this
   rw [cQ _ _ _ (by simpa using hlt)] at hx
   obtain ⟨v',g1,g2⟩:=zr.get hx
   have:v=v':=by
     simp only [Builtin.zeroCells,Array.toList_map,List.getElem?_map,Array.toList_range,Option.map_eq_some_iff] at hv
     obtain ⟨j',hj',hv⟩:=hv
     rw [List.getElem?_range (by rw [hzs];exact hlt)] at hj'
     cases hj'
     simp only [List.length_map] at g1
     rw [hzs] at hv
     have hm:j % z.length<l.size:=by rw [hzs];exact Nat.mod_lt _ hs0
     rw [getElem!_pos l (j % z.length) hm] at hv
     have g1':l[j % z.length]?=some v':=by simpa using g1
     rw [Array.getElem?_eq_getElem hm] at g1'
     simp at g1'
     rw [←hv,g1']
   subst this
   exact g2
 · rw [List.all_eq_true] at *
   intro x hx
   simp only [List.mem_flatten,List.mem_replicate] at hx
   obtain ⟨l,⟨_,rfl⟩,hx⟩:=hx
   exact zl x hx
 · intro k
   have:=qS k z
   rw [List.all_eq_true] at *
   intro x hx
   simp only [List.mem_flatten,List.mem_replicate] at hx
   obtain ⟨l,⟨_,rfl⟩,hx⟩:=hx
   exact this x hx
theorem qT {argTypes:Array TypeId} {type t e sz:Nat} {z:List PV} {x:AV} {v:Value} {mem:List (Nat×List AV)} {sh sh':Sh} {aa:al}
   (h0:argTypes[0]?=some t) (hu:P.underlying t=some (.slice e)) (hz:bn P e=some z) (hzl:z.length=sz) (hs0:0<sz)
   (hx:ah (num ns) G x v) (hi:Inv (num ns) G w mem sh aa) (h:ni sz z sh (r_ sz x)=some sh') :
   ∃w',(Builtin.clear_ argTypes type #[v]).run P w=.ok (.tuple #[]) w'∧Inv (num ns) G w' mem sh' aa∧aZ G w G w':=by
 cases hsub:r_ sz x with
 | none=>rw [hsub] at h;simp [ni] at h
 | some q=>
   obtain ⟨b,off,n⟩:=q
   rw [hsub] at h
   have hv:∃blk base cap,G.sm b=some blk∧v=.slice base n cap∧(n=0∨base=some ⟨blk.1,off,none⟩):=by
     unfold r_ at hsub
     split at hsub
     · simp only [Option.ite_none_right_eq_some,Option.some.injEq,Prod.mk.injEq] at hsub
       obtain ⟨rfl,rfl,rfl,rfl⟩:=hsub
       simp only [ah] at hx
       obtain ⟨blk,cap,e1,e2,_⟩:=hx
       exact ⟨blk,_,_,e1,e2,.inr rfl⟩
     · simp only [Option.some.injEq,Prod.mk.injEq] at hsub
       obtain ⟨rfl,rfl,rfl⟩:=hsub
       simpa only [ah] using hx
     · simp at hsub
   obtain ⟨blk,base,cap,hsm,rfl,hbase⟩:=hv
   simp only [ni] at h
   split at h
   · rename_i cells hcs
     simp only [Option.ite_none_right_eq_some,Option.some.injEq] at h
     obtain ⟨⟨hmb,hle,_⟩,rfl⟩:=h
     by_cases hn:n=0
     · subst hn
       have e1:aM cells off ((List.replicate 0 (z.map AV.pv)).flatten)=cells:=by simp [aM]
       have e2:sh.set b (some cells)=sh:=by
         apply List.ext_getElem?
         intro j
         rw [List.getElem?_set]
         split
         · rename_i e;subst e
           split
           · exact hcs.symm
           · rename_i hj;rw [List.getElem?_eq_none (by omega)] at hcs;simp at hcs
         · rfl
       rw [e1,e2]
       refine ⟨w,?_,hi,aZ.refl G w⟩
       cases base<;>simp [Builtin.clear_,h0,run_underlying hu]
     · have hb:=hbase.resolve_left hn
       subst hb
       obtain ⟨blk',hp',hblk,hlf,hrf⟩:=hi.bS _ _ hcs
       rw [hsm] at hp';cases hp'
       obtain ⟨_,c,ty,us,suf,hh,hcz,hsp,hrel⟩:=hblk.cells hmb
       have hul:us.length=cells.length:=hrel.length
       obtain ⟨zv,hz1,hz2⟩:=eG (P:=P) (w:=w) hz
       have hz0:0<z.length:=by omega
       obtain ⟨zr,zl,zf⟩:=zd (ns:=ns) (G:=G) (n:=n) hz2 hz0
       have hone:∀u∈(Builtin.zeroCells zv.cells n).toList,u.oneCell'=true:=gF zr (en zl)
       have hzn:(Builtin.zeroCells zv.cells n).toList.length=n*sz:=by rw [zr.length];simp [hzl]
       have hcl:c.toList.length=us.length+suf.length:=by rw [hsp];simp
       have hcl':c.size=us.length+suf.length:=by simpa using hcl
       have lE:=run_storeCells_at (P:=P) blk.1 off ty (Builtin.zeroCells zv.cells n).toList 0 c w hh (by rw [hzn];omega) hone
       simp only [Nat.add_zero] at lE
       have hctt:c.toList.take off=us.take off:=by rw [hsp,List.take_append_of_le_length (by omega)]
       have hcd:c.toList.drop (off+(Builtin.zeroCells zv.cells n).toList.length)=us.drop (off+(Builtin.zeroCells zv.cells n).toList.length)++suf:=by
         rw [hsp,List.drop_append_of_le_length (by rw [hzn];omega)]
       have hleaf:(aM cells off ((List.replicate n (z.map AV.pv)).flatten)).all bO=true:=by
         rw [List.all_eq_true] at *
         intro y hy
         simp only [aM,List.mem_append] at hy
         rcases hy with (hy | hy) | hy
         · exact hlf y (List.mem_of_mem_take hy)
         · exact zl y hy
         · exact hlf y (List.mem_of_mem_drop hy)
       have hrefs:(aM cells off ((List.replicate n (z.map AV.pv)).flatten)).all (au (b+1))=true:=by
         have zf':=zf (b+1)
         rw [List.all_eq_true] at *
         intro y hy
         simp only [aM,List.mem_append] at hy
         rcases hy with (hy | hy) | hy
         · exact hrf y (List.mem_of_mem_take hy)
         · exact zf' y hy
         · exact hrf y (List.mem_of_mem_drop hy)
       have hrel':ae (num ns) G (aM cells off ((List.replicate n (z.map AV.pv)).flatten)) (us.take off++(Builtin.zeroCells zv.cells n).toList++us.drop (off+(Builtin.zeroCells zv.cells n).toList.length)):=cL off hrel zr
       obtain ⟨g1,g2⟩:=hi.iu (cells':=aM cells off ((List.replicate n (z.map AV.pv)).flatten)) (c':=(c.toList.take off++(Builtin.zeroCells zv.cells n).toList++c.toList.drop (off+(Builtin.zeroCells zv.cells n).toList.length)).toArray)
         (vs:=us.take off++(Builtin.zeroCells zv.cells n).toList++us.drop (off+(Builtin.zeroCells zv.cells n).toList.length)) (suf:=suf) hcs hsm hh (by
           simp only [List.size_toArray,List.length_append,List.length_take,List.length_drop,hzn,hcl]
           rw [←hcz,hcl']
           omega)
         (by simp only [hctt,hcd,List.append_assoc]) hrel' hleaf hrefs
       refine ⟨_,?_,g1,g2⟩
       cases n with
       | zero=>exact absurd rfl hn
       | succ n=>
         simp only [Builtin.clear_,h0]
         simp [run_underlying hu,hz1,lE]
   · simp at h
end
end Go.Ab
namespace Go.Ab
section
variable {P:Program} {ns:Names} {G:Gh} {w:World} {A:gm}
theorem jc {els:List PV} {base:Option Addr} {len cap sz k:Nat} (hr:Rel G.K (.aF els) (.slice base len cap)) (hs:aQ sz els=true) (hk:k≤els.length) :
   ∃vss:List Value,vss.length=k*sz∧cg G.K ((els.take k).flatMap aH) vss∧(∀u∈vss,u.oneCell'=true) ∧
     ∀w:World,(∀b o u,G.K b o=some u→w.cell? ⟨b,o,none⟩=some u)→(Builtin.firstCells sz k (.slice base len cap)).run P w=.ok vss.toArray w:=by
 obtain ⟨base',len',cap',e,_,hlen,hrow'⟩:=a7.1 hr
 cases e
 by_cases hnil:els=[]
 · subst hnil
   have:k=0:=by simpa using hk
   subst this
   refine ⟨[],by simp,by simp [cg],by simp,fun w _=>?_⟩
   cases base with
   | none=>simp [Builtin.firstCells]
   | some a=>simp [Builtin.firstCells,loadCells,loadCellsFrom]
 · obtain ⟨b,o,sz',rfl,hrow⟩:=hrow'.resolve_left hnil
   have:=hrow.sz hs hnil
   subst this
   obtain ⟨vss,g1,g2,g3,g4⟩:=(hrow.take k).kM
   rw [List.length_take,Nat.min_eq_left hk] at g1
   refine ⟨vss,g1,g3,g4,fun w hk=>?_⟩
   have hl:=run_loadCells_list (P:=P) w ⟨b,o,none⟩ vss (fun j u hj=>by rw [Addr.cm];exact hk _ _ _ (g2 j u hj))
   rw [g1] at hl
   simpa [Builtin.firstCells] using hl
theorem sG {argTypes:Array TypeId} {type t e sz k:Nat} {xs:List PV} {x y:AV} {v u:Value} {mem:List (Nat×List AV)} {sh sh':Sh} {aa:al}
   (h0:argTypes[0]?=some t) (hu:P.underlying t=some (.slice e)) (hsz:bw P e=some sz)
   (hx:ah (num ns) G x v) (hy:ah (num ns) G y u) (hi:Inv (num ns) G w mem sh aa) (hxs:bF y=some xs) (h:nj sz sh xs x=some (k,sh')) :
   ∃w',(Builtin.copy_ argTypes type #[v,u]).run P w=.ok (.int .i64 k) w'∧Inv (num ns) G w' mem sh' aa∧aZ G w G w':=by
 obtain ⟨xb,xc,rfl⟩:=eI hxs hy
 have hrx:=cE hxs hy
 unfold nj at h
 split at h
 · rename_i b z n _
   split at h
   · rename_i cells hcs
     simp only [Option.ite_none_right_eq_some,Option.some.injEq,Prod.mk.injEq] at h
     obtain ⟨⟨rfl,hhx,hmb,hle⟩,rfl,rfl⟩:=h
     simp only [ah] at hx
     obtain ⟨blk,cap,hsm,rfl,_⟩:=hx
     have hkx:min xs.length n≤xs.length:=Nat.min_le_left _ _
     have hkn:min xs.length n≤n:=Nat.min_le_right _ _
     obtain ⟨new,n1,n2,n3,n4⟩:=jc (P:=P) hrx hhx hkx
     have htk:xs.take (min xs.length n)=xs.take n:=by
       rcases Nat.le_total xs.length n with h | h
       · rw [Nat.min_eq_left h,List.take_of_length_le h,List.take_of_length_le (Nat.le_refl _)]
       · rw [Nat.min_eq_right h]
     rw [htk] at n2
     generalize hk:min xs.length n=k at *
     have hleafN:(((xs.take n).flatMap aH).map AV.pv).all bO=true:=sF (iv n2)
     have hrefsN:∀k,(((xs.take n).flatMap aH).map AV.pv).all (au k)=true:=by
       intro k
       rw [List.all_eq_true]
       intro x hx
       obtain ⟨p,_,rfl⟩:=List.mem_map.1 hx
       rfl
     have hrelN:ae (num ns) G (((xs.take n).flatMap aH).map .pv) new:=fD n2
     obtain ⟨blk',hp',hblk,hlf,hrf⟩:=hi.bS _ _ hcs
     rw [hsm] at hp';cases hp'
     obtain ⟨_,c,ty,us,suf,hh,hcz,hsp,hrel⟩:=hblk.cells hmb
     have hul:us.length=cells.length:=hrel.length
     have hkz:k*z≤n*z:=Nat.mul_le_mul_right z hkn
     have hcl:c.toList.length=us.length+suf.length:=by rw [hsp];simp
     have hcl':c.size=us.length+suf.length:=by simpa using hcl
     have lE:=run_storeCells_at (P:=P) blk.1 0 ty new 0 c w hh (by rw [n1];omega) n3
     simp only [Nat.add_zero] at lE
     have hctt:c.toList.take 0=us.take 0:=by simp
     have hcd:c.toList.drop (0+new.length)=us.drop (0+new.length)++suf:=by
       rw [hsp,List.drop_append_of_le_length (by rw [n1];omega)]
     have hleaf:(aM cells 0 (((xs.take n).flatMap aH).map AV.pv)).all bO=true:=by
       rw [List.all_eq_true] at *
       intro y hy
       simp only [aM,List.mem_append] at hy
       rcases hy with (hy | hy) | hy
       · exact hlf y (List.mem_of_mem_take hy)
       · exact hleafN y hy
       · exact hlf y (List.mem_of_mem_drop hy)
     have hrefs:(aM cells 0 (((xs.take n).flatMap aH).map AV.pv)).all (au (b+1))=true:=by
       have zf':=hrefsN (b+1)
       rw [List.all_eq_true] at *
       intro y hy
       simp only [aM,List.mem_append] at hy
       rcases hy with (hy | hy) | hy
       · exact hrf y (List.mem_of_mem_take hy)
       · exact zf' y hy
       · exact hrf y (List.mem_of_mem_drop hy)
     have hrel':=cL 0 hrel hrelN
     obtain ⟨g1,g2⟩:=hi.iu (cells':=aM cells 0 (((xs.take n).flatMap aH).map AV.pv)) (c':=(c.toList.take 0++new++c.toList.drop (0+new.length)).toArray)
       (vs:=us.take 0++new++us.drop (0+new.length)) (suf:=suf) hcs hsm hh (by
         simp only [List.size_toArray,List.length_append,List.length_take,List.length_drop,n1,hcl]
         rw [←hcz,hcl']
         omega)
       (by simp only [hctt,hcd,List.append_assoc]) hrel' hleaf hrefs
     refine ⟨_,?_,g1,g2⟩
     have hmin:Nat.min xs.length n=k:=hk
     have hl:=n4 w hi.known
     simp [Builtin.copy_,h0,run_underlying hu,Builtin.lenOf,hmin,cB hsz,hl,lE,goInt]
   · simp at h
 · simp at h
theorem ze {c:Call} {dst:Option Nat} {args:List Operand} {sz:Nat} (h:aU P ns A dst (.call c)=some (.ja sz,args)) :
   ∃x y t e t1 e1,c.callee=.builtin .copy∧c.args=#[x,y]∧args=[x,y]∧c.argTypes[0]?=some t∧c.argTypes[1]?=some t1∧P.underlying t=some (.slice e)∧P.underlying t1=some (.slice e1)∧bw P e=some sz:=by
 obtain ⟨callee,cargs,ctypes⟩:=c
 simp only [aU] at h
 repeat' (split at h)
 all_goals try (simp at h;done)
 rename_i x y e e1 ha ht ht1 _ sz' hs
 simp only [Option.some.injEq,Prod.mk.injEq,AK.ja.injEq] at h
 obtain ⟨rfl,rfl⟩:=h
 simp only [Option.bind_eq_some_iff] at ht ht1
 obtain ⟨t,ht,htu⟩:=ht
 obtain ⟨t1,ht1,htu1⟩:=ht1
 exact ⟨x,y,t,e,t1,e1,rfl,by apply Array.ext';simpa using ha,rfl,ht,ht1,ca htu,ca htu1,hs⟩
end
end Go.Ab
namespace Go.Ab
section
variable {P:Program} {ns:Names} {G:Gh} {w:World} {A:gm}
theorem sH:∀{a b:List PV},cR a b=true→a=b
 | [],[],_=>rfl
 | .str a::r,.str b::q,h=>by
   simp only [cR,Bool.and_eq_true,beq_iff_eq] at h
   rw [h.1,sH h.2]
 | [],_::_,h=>by simp [cR] at h
 | .bool _::_,_,h=>by simp [cR] at h
 | .int _ _::_,_,h=>by simp [cR] at h
 | .agg _::_,_,h=>by simp [cR] at h
 | .aF _::_,_,h=>by simp [cR] at h
 | .str _::_,[],h=>by simp [cR] at h
 | .str _::_,.bool _::_,h=>by simp [cR] at h
 | .str _::_,.int _ _::_,h=>by simp [cR] at h
 | .str _::_,.agg _::_,h=>by simp [cR] at h
 | .str _::_,.aF _::_,h=>by simp [cR] at h
theorem nG {K:aP}:∀{xs ys:List PV} {a b:List Value},cR ys xs=true→cg K (xs.flatMap aH) a→cg K (xs.flatMap aH) b→a=b
 | [],_,a,b,_,ha,hb=>by
   simp only [List.flatMap_nil,cg] at ha hb
   rw [ha,hb]
 | .str s::xs,ys,a,b,h,ha,hb=>by
   cases ys with
   | nil=>simp [cR] at h
   | cons y ys=>
     cases y with
     | str s'=>
       simp only [cR,Bool.and_eq_true] at h
       simp only [List.flatMap_cons,aH,List.cons_append,List.nil_append,cg,R] at ha hb
       obtain ⟨v,r,rfl,e1,e2⟩:=ha
       obtain ⟨v',r',rfl,f1,f2⟩:=hb
       have:=nG h.2 e2 f2
       simp at e1 f1
       rw [e1,f1,this]
     | _=>simp [cR] at h
 | .bool _::_,ys,_,_,h,_,_=>by cases ys with | nil=>simp [cR] at h | cons y ys=>cases y<;>simp [cR] at h
 | .int _ _::_,ys,_,_,h,_,_=>by cases ys with | nil=>simp [cR] at h | cons y ys=>cases y<;>simp [cR] at h
 | .agg _::_,ys,_,_,h,_,_=>by cases ys with | nil=>simp [cR] at h | cons y ys=>cases y<;>simp [cR] at h
 | .aF _::_,ys,_,_,h,_,_=>by cases ys with | nil=>simp [cR] at h | cons y ys=>cases y<;>simp [cR] at h
theorem Cl {α:Type} {c new:List α} {a:Nat} (h:∀j,j<new.length→c[a+j]?=new[j]?):c.take a++new++c.drop (a+new.length)=c:=by
 have e:new=(c.drop a).take new.length:=by
   apply List.ext_getElem?
   intro j
   rw [List.getElem?_take]
   split
   · rename_i hj
     rw [List.getElem?_drop,h j hj]
   · rename_i hj
     exact List.getElem?_eq_none (by omega)
 have e2:c.drop (a+new.length)=(c.drop a).drop new.length:=by rw [List.drop_drop]
 rw [e2,List.append_assoc]
 conv=>lhs;arg 2;arg 1;rw [e]
 rw [List.take_append_drop,List.take_append_drop]
theorem pz {argTypes:Array TypeId} {type t e e1 t1 sz by_:Nat} {z:List PV} {s x ev:AV} {xs:List PV} {p:PV} {vs vx ve:Value} {mem:List (Nat×List AV)} {sh:Sh} {aa:al}
   (h0:argTypes[0]?=some t) (h1:argTypes[1]?=some t1)
   (hu:P.underlying t=some (.slice e)) (hu1:P.underlying t1=some (.slice e1)) (hsz:bw P e=some sz) (hby:cN P e=some by_) (hz:bn P e=some z) (hzl:z.length=sz) (hb0:0<by_)
   (hs:ah (num ns) G s vs) (hx:ah (num ns) G x vx) (hev:ah (num ns) G ev ve) (hi:Inv (num ns) G w mem sh aa) (hxs:bF x=some xs) (h:sd sz by_ xs s ev aa=some p) :
   ∃v w' G',(Builtin.append_ argTypes type #[vs,vx]).run P w=.ok v w'∧ah (num ns) G' (.pv p) v∧Inv (num ns) G' w' mem sh aa∧G.le G'∧aZ G w G' w':=by
 unfold sd at h
 split at h
 · rename_i l τ m σ
   simp only [Option.ite_none_right_eq_some,Option.some.injEq] at h
   obtain ⟨⟨rfl,htok,hml,hhl,hhx,rfl,hsame,hne,hbytes⟩,rfl⟩:=h
   have hdrop:=sH hsame
   simp only [ah] at hs hev
   obtain ⟨tk,e1,⟨e2,ewas⟩,e3,_⟩:=hs
   obtain ⟨tk',f1,_,f3,f4⟩:=hev
   rw [e1] at f1;cases f1
   have hlen:m.length=tk.len:=by
     have:=hi.dD τ tk e1
     rw [htok] at this;simpa using this
   obtain ⟨_,frow⟩:=f4 hlen
   have hxpos:0<xs.length:=by cases xs with | nil=>simp at hne | cons _ _=>simp
   have hmne:m≠[]:=by rintro rfl;simp at hml;omega
   obtain ⟨b,o,hbase,hrow⟩:=frow.resolve_left hmne
   have hsz1:tk.sz=1:=by
     cases xs with
     | nil=>simp at hxpos
     | cons x0 xs'=>
       have hd:=hrow.drop l.length
       rw [hdrop] at hd
       simp only [Row] at hd
       obtain ⟨⟨us,g1,_,g3⟩,_⟩:=hd
       have:=g3.length
       simp [aQ] at hhx
       omega
   obtain ⟨base,tlen,cap,tsz,town⟩:=tk
   simp only at hlen hbase hrow hsz1
   subst hsz1 hbase hlen
   rcases ewas with d | ⟨base',len',cap',rfl,hcase⟩
   · exact absurd d.1 (by simp)
   obtain ⟨xb,xc,rfl⟩:=eI hxs hx
   have hrx:=cE hxs hx
   obtain ⟨q1,q2,q3,q4,q5,hlen',q6⟩:=a7.1 e3
   cases q4
   subst hlen'
   obtain ⟨new,n1,n2,n3,n4⟩:=jc (P:=P) hrx hhx (Nat.le_refl _)
   rw [List.take_of_length_le (Nat.le_refl _)] at n2
   simp only [Nat.mul_one] at n1
   have hdr:=hrow.drop l.length
   rw [hdrop] at hdr
   obtain ⟨new',g1,g2,g3,g4⟩:=hdr.kM
   have hnn:=nG hsame g3 n2
   subst hnn
   rcases Nat.lt_or_ge cap' (l.length+xs.length) with hfit | hfit
   · -- it does not fit
     obtain ⟨aB,o1,o2,o3,o4⟩:=dk (P:=P) (w:=w.drew) (fun b o u hk=>hi.known b o u hk) e3 hhl rfl
     obtain ⟨rest,newCap,p1,p2,p3⟩:=eV (type:=type) (aB:=aB.toArray) (new:=new'.toArray) h0 h1 hu hu1 hsz hby hz hzl (base:=base') (len:=l.length) (cap:=cap') (n:=xs.length) (xb:=xb) (xc:=xc) rfl
       (fun w' e=>by subst e;exact o1) (fun w' e=>by subst e;exact n4 _ (fun b o u hk=>hi.known b o u hk)) hfit hb0 (by rw [←hml];exact hbytes)
     refine ⟨_,_,_,p3,?_,hi.drew.jx _ e,Gh.jL hi.drew _,(aZ.drew G w).trans (aZ.jx hi.drew _ e)⟩
     have hle:=(Gh.jL hi.drew (aB.toArray++new'.toArray++rest)).K
     have hat:At (G.kI w.drew.heap.size (aB.toArray++new'.toArray++rest)).K w.heap.size 0 (aB++new'):=by
       intro j v hj
       have hlt:=(List.getElem?_eq_some_iff.1 hj).1
       have:w.drew.heap.size=w.heap.size:=rfl
       simp only [Gh.kI,this,if_true,Nat.zero_add]
       rw [Array.getElem?_append_left (by simpa using hlt)]
       simpa using hj
     have hrow':Row (G.kI w.drew.heap.size (aB.toArray++new'.toArray++rest)).K w.heap.size 0 1 (l++xs):=by
       refine Row.append (o3 _ _ _ hle fun j v hj=>hat j v ?_) ?_
       · rw [List.getElem?_append_left (List.getElem?_eq_some_iff.1 hj).1];exact hj
       · obtain ⟨vss,r1,r2,r3,r4⟩:=hdr.flat
         have hvv:vss=new':=by
           apply List.ext_getElem?
           intro j
           rcases Nat.lt_or_ge j vss.length with hj | hj
           · have a1:=r2 j _ (List.getElem?_eq_getElem hj)
             have hj':j<new'.length:=by omega
             have a2:=g2 j _ (List.getElem?_eq_getElem hj')
             rw [a1] at a2
             rw [List.getElem?_eq_getElem hj,List.getElem?_eq_getElem hj']
             exact a2
           · rw [List.getElem?_eq_none hj,List.getElem?_eq_none (by omega)]
         subst hvv
         refine r3 _ _ _ hle fun j v hj=>?_
         have:=hat (aB.length+j) v (by rw [List.getElem?_append_right (by omega),Nat.add_sub_cancel_left];exact hj)
         rw [o2] at this
         rwa [Nat.zero_add,←Nat.zero_add (l.length*1+j),←Nat.add_assoc] at this
     simp only [ah]
     exact a7.2 ⟨_,_,_,rfl,p1,by simp,.inr ⟨_,_,_,rfl,hrow'⟩⟩
   · -- it lies there
     rcases hcase with hc | ⟨rfl,rfl,ho⟩
     · simp only at hc;omega
     simp only at ho
     have hown:town=true:=ho.resolve_left (by omega)
     obtain ⟨tk'',k1,k2,k3⟩:=hi.bT τ _ htok
     rw [e1] at k1;cases k1
     obtain ⟨b',o',c,ty,p1,p2,p3,p4,p5⟩:=k3.spare (.inr hown)
     simp only [Option.some.injEq,Addr.mk.injEq] at p1
     obtain ⟨rfl,rfl,_⟩:=p1
     simp only [Nat.mul_one] at p4
     simp only [Nat.mul_one] at g1 g2
     have lE:=run_storeCells_at (P:=P) b (o+l.length) ty new' 0 c w p3 (by omega) g4
     simp only [Nat.add_zero] at lE
     have hself:(c.toList.take (o+l.length)++new'++c.toList.drop (o+l.length+new'.length)).toArray=c:=by
       rw [Cl]
       · intro j hj
         have a2:=hi.known _ _ _ (g2 j _ (List.getElem?_eq_getElem hj))
         simp only [World.cell?,p3,Option.isSome_none,Bool.false_eq_true,if_false] at a2
         rw [List.getElem?_eq_getElem hj]
         simpa using a2
     rw [hself,setRow_self w b c ty (0,0) p3] at lE
     have hrun:=db (type:=type) h0 h1 hu hu1 hsz (base:=some ⟨b,o,none⟩) (len:=l.length) (cap:=cap') (n:=xs.length) (xb:=xb) (xc:=xc) rfl (n4 w hi.known) hfit
     refine ⟨.slice (some ⟨b,o,none⟩) (l.length+xs.length) cap',w,G,?_,?_,hi,G.le_refl,aZ.refl G w⟩
     · refine Eq.trans hrun ?_
       simp only [Addr.cm,Nat.mul_one,lE,Result.andThen_ok]
     · simp only [ah]
       refine a7.2 ⟨_,_,_,rfl,hfit,by simp,.inr ⟨_,_,1,rfl,Row.append ?_ hdr⟩⟩
       by_cases hl0:l=[]
       · subst hl0;simp only [Row]
       · obtain ⟨b2,o2,sz2,r1,r2⟩:=q6.resolve_left hl0
         cases r1
         have:=r2.sz hhl hl0
         subst this
         exact r2
 · simp at h
theorem sI {c:Call} {dst:Option Nat} {args:List Operand} {sz by_:Nat} (h:aU P ns A dst (.call c)=some (.ek sz by_,args)) :
   ∃x y u t e t1 e1 z,c.callee=.builtin .append∧c.args=#[x,y]∧args=[x,y,u]∧c.argTypes[0]?=some t∧c.argTypes[1]?=some t1∧P.underlying t=some (.slice e) ∧
     P.underlying t1=some (.slice e1)∧bw P e=some sz∧cN P e=some by_∧bn P e=some z∧z.length=sz∧0<sz∧0<by_:=by
 obtain ⟨callee,cargs,ctypes⟩:=c
 simp only [aU] at h
 repeat' (split at h)
 all_goals try (simp at h;done)
 rename_i x y e e1 ha ht ht1 _ _ _ sz' by' z hs hb hz hcond hhot _ u hdup
 simp only [Option.some.injEq,Prod.mk.injEq,AK.ek.injEq] at h
 obtain ⟨⟨rfl,rfl⟩,rfl⟩:=h
 obtain ⟨h1,h2,h3⟩:=hcond
 simp only [Option.bind_eq_some_iff] at ht ht1
 obtain ⟨t,ht,htu⟩:=ht
 obtain ⟨t1,ht1,ht1u⟩:=ht1
 exact ⟨x,y,.tmp u,t,e,t1,e1,z,rfl,by apply Array.ext';simpa using ha,rfl,ht,ht1,ca htu,ca ht1u,hs,hb,hz,h1,h2,h3⟩
end
end Go.Ab
