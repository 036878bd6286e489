import GoSem.Core.Value
import GoSem.Core.Ast
import GoSem.Core.View
/-
  The abstract machine: pure data, abstract values, slim code, and an evaluator with fuel. Nothing here mentions a program.
-/
set_option linter.unusedVariables false
set_option linter.unusedSimpArgs false
set_option linter.unnecessarySimpa false
set_option maxRecDepth 100000
set_option maxHeartbeats 8000000
namespace Go.Ab
inductive PV where
 | bool (b:Bool)
 | int (k:IntKind) (n:Int)
 | str (s:List UInt8)
 | agg (cs:List PV)
 | aJ (els:List PV)
 deriving Inhabited
inductive AV where
 | un
 | pv (p:PV)
 | bN (els:List PV)
 | own (els:List PV) (tok:Nat)
 | agg (cs:List AV)
 | oP (vs:List AV)
 | aG (d off:Nat)
 | bu (b off:Nat)
 | fR (cs:List PV)
 | bI (b sz len:Nat) (ag:Bool)
 | fn (g:Nat) (cap:List AV)
 | jI
 | jJ (s:Nat)
 | fo (kvs:List (PV×PV))
 | pN (b off n:Nat)
 | jK (d n:Nat)
 deriving Inhabited
abbrev Sh:=List (Option (List AV))
abbrev aN:=List Nat
inductive eU where
 | t (n:Nat)
 | c (v:AV)
 deriving Inhabited
inductive CK where
 | int | str | bool
 deriving Inhabited,DecidableEq
inductive sH where
 | mv | pick
 | bin (op:BinOp)
 | beq (neg:Bool)
 | un (op:UnOp)
 | conv (k:IntKind)
 | ext (i:Nat)
 | field (off sz:Nat) (ag:Bool)
 | aR (off:Nat)
 | aB (sz:Nat)
 | index
 | build (zero:List PV) (places:List (Nat×Nat))
 | aU (sz:Nat)
 | bF (sz:Nat) (ag:Bool)
 | slice (str:Bool) (sz:Nat) (lo hi mx:Bool)
 | len | ji | bm
 | mn | mx
 | FM (g:Nat)
 | Nc (cs:List CK) (neg:Bool)
 | qt (sz:Nat) (lo hi:Bool)
 | b2s
 deriving Inhabited
inductive AK where
 | v (o:sH)
 | aS (key off sz:Nat) (ag:Bool)
 | cR (key off sz:Nat)
 | alloc (key:Nat) (zero:List PV)
 | box (key sz:Nat)
 | bf (sz:Nat) (ag:Bool)
 | cb (sz:Nat)
 | ux (sz:Nat)
 | me (sz:Nat)
 | IN (sz:Nat)
 | iT (zero:List PV)
 | ik (sz bytes:Nat) (ag:Bool) (zero:List PV)
 | iU (key sz bytes:Nat) (zero:List PV)
 | append (sz bytes:Nat)
 | db (sz bytes:Nat) (ag:Bool)
 | m5 (sz bytes:Nat)
 | BT
 | qu (c:CK) (ok:Bool) (zero:PV)
 | IP (c:CK)
 | clone (sz bytes:Nat)
 | gF (sz bytes:Nat) (ag:Bool)
 | iA (sz:Nat) (zero:List PV)
 | jk (sz:Nat)
 | aq (g:Nat)
 | dK (g:Nat)
 | aI (g:Nat) (own:List Nat)
 | kT (g:Nat)
 | fU
 | dw
 deriving Inhabited
structure dq where
 dst:Option Nat
 guard:Option (Nat×Bool)
 args:List eU
 op:AK
 deriving Inhabited
inductive au where
 | skip
 | bn (ops:List dq) (live:List Nat)
 | seq (a b:au)
 | cond (c:eU) (a b:au)
 | block (id:Nat) (b:au)
 | loop (live:List Nat) (b:au)
 | exit (id:Nat)
 | ret
 | back (f:eU) (gb pi px sz:Nat) (ag:Bool) (live:List Nat) (x y:au)
 | dO (ts:List Nat)
 | Lu (ds:List (Nat×Nat))
 | kR (ps:List (Nat×Nat×Bool))
 | kU (ts:List Nat)
 | Lv (ts:List Nat)
 deriving Inhabited
inductive qv where
 | t (n:Nat)
 | c (key sz:Nat) (ag:Bool)
 deriving Inhabited
structure Prim where
 f:(Nat→List PV→Option (List PV))→List PV→Option (List PV)
 fin:∀o x r,f o x=some r→∃l:List (Nat×List PV×List PV),(∀c∈l,o c.1 c.2.1=some c.2.2)∧∀o',(∀c∈l,o' c.1 c.2.1=some c.2.2)→f o' x=some r
def Prim.pure (f:List PV→Option (List PV)):Prim:=⟨fun _=>f,fun _ _ _ h=>⟨[],by simp,fun _ _=>h⟩⟩
theorem Prim.mono (p:Prim) {a b:Nat→List PV→Option (List PV)} (h:∀g x r,a g x=some r→b g x=some r) {x:List PV} {r:List PV} (e:p.f a x=some r):p.f b x=some r:=by
 obtain ⟨l,h1,h2⟩:=p.fin a x r e
 exact h2 b fun c hc=>h _ _ _ (h1 c hc)
structure aD where
 nparams:Nat
 ntmps:Nat
 results:List qv
 body:au
 pO:Option Prim:=none
 ks:Bool:=false
 deriving Inhabited
def look {α:Type}:List (Nat×α)→Nat→Option α
 | [],_=>none
 | (k,v)::r,t=>if k=t then some v else look r t
def dL {α:Type}:List (Nat×α)→Nat→α→List (Nat×α)
 | [],t,u=>[(t,u)]
 | (k,v)::r,t,u=>if k=t then (k,u)::r else (k,v)::dL r t u
structure St where
 env:List (Nat×AV)
 mem:List (Nat×List AV)
 sh:Sh
 ah:aN
 deriving Inhabited
def br:PV→List PV
 | .agg cs=>cs
 | p=>[p]
def bB:AV→List AV
 | .agg cs=>cs
 | .pv (.agg cs)=>cs.map .pv
 | v=>[v]
def cB:AV→Bool
 | .pv _ | .bN _ | .bu .. | .bI .. | .jI | .jJ _ | .fo _=>true
 | .fn _ cap=>jL cap
 | .agg cs=>jL cs
 | _=>false
where jL:List AV→Bool
 | []=>true
 | v::r=>cB v && jL r
def bp:AV→Bool
 | .pv (.agg _)=>false
 | .pv _ | .bN _ | .bu .. | .bI .. | .jI | .jJ _ | .fo _=>true
 | .fn g cap=>cB (.fn g cap)
 | .own ..=>true
 | _=>false
def dP (v:AV):Bool:=bp v
def cy:AV→Bool
 | .own .. | .aG .. | .jK ..=>false
 | .agg cs=>gr cs
 | .oP cs=>gr cs
 | .fn _ cap=>gr cap
 | _=>true
where gr:List AV→Bool
 | []=>true
 | v::r=>cy v && gr r
def jl:AV→Bool
 | .own ..=>true
 | v=>cy v
def fD:List AV→Bool
 | []=>true
 | v::r=>jl v && fD r
def kV:AV→Option PV
 | .pv p=>some p
 | .bN l=>some (.aJ l)
 | .own l _=>some (.aJ l)
 | _=>none
def eD:PV→Bool
 | .agg _=>false
 | _=>true
def chunk (sz:Nat):Nat→List PV→List (List PV)
 | 0,_=>[]
 | n+1,l=>l.take sz::chunk sz n (l.drop sz)
def fE:List AV→Option (List PV)
 | []=>some []
 | v::r=>match kV v,fE r with
   | some p,some ps=>some (p::ps)
   | _,_=>none
def fF (sz:Nat) (ag:Bool) (n:Nat) (cells:List PV):Option (List PV):=
 if ag then some ((chunk sz n cells).map .agg)
 else if sz=1 then some cells else none
def dC:List AV→Bool
 | .fo _::_=>true
 | _=>false
def d8 (sh:Sh):AV→Option PV
 | .bI b sz n ag=>match sh[b]? with
   | some (some cells)=>if cells.length=n*sz then ((fE cells).bind (fF sz ag n)).map .aJ
     else if dC cells=false∧n*sz≤cells.length then ((fE (cells.take (n*sz))).bind (fF sz ag n)).map .aJ else none
   | _=>none
 | v=>kV v
def dQ (sh:Sh):List AV→Option (List PV)
 | []=>some []
 | v::r=>if bp v=true then
     match d8 sh v,dQ sh r with
     | some p,some ps=>some (p::ps)
     | _,_=>none
   else none
def dO (sh:Sh):AV→Option PV
 | .agg cs=>(dQ sh cs).map .agg
 | v=>d8 sh v
def dz (sh:Sh):List AV→Option (List PV)
 | []=>some []
 | v::r=>match dO sh v,dz sh r with
   | some p,some ps=>some (p::ps)
   | _,_=>none
def eZ:AV→List Nat
 | .bI b _ _ _=>[b]
 | .agg cs=>cs.flatMap fun | .bI b _ _ _=>[b] | _=>[]
 | _=>[]
def kill (sh:Sh) (l:List Nat):Sh:=l.foldl (fun s b=>s.set b none) sh
def dZ (sh:Sh) (vs:List AV):Sh:=kill sh (vs.flatMap eZ)
def aV (n:Nat):AV→Bool
 | .un | .pv _ | .bN _ | .own .. | .jI | .fR _ | .fo _=>true
 | .bu b _ | .bI b _ _ _ | .jJ b=>decide (b<n)
 | .fn _ cap=>cU n cap
 | .agg cs=>cU n cs
 | _=>false
where cU (n:Nat):List AV→Bool
 | []=>true
 | v::r=>aV n v && cU n r
def tc:CK→PV→PV→Option Bool
 | .int,.int k a,.int k' b=>if k=k' then some (a == b) else none
 | .str,.str a,.str b=>some (a == b)
 | .bool,.bool a,.bool b=>some (a == b)
 | _,_,_=>none
def d9:List CK→List PV→List PV→Option Bool
 | [],[],[]=>some true
 | c::cs,p::ps,q::qs=>match tc c p q with
   | some true=>d9 cs ps qs
   | some false=>if ps.length=cs.length∧qs.length=cs.length then some false else none
   | none=>none
 | _,_,_=>none
def y8 (c:CK):List (PV×PV)→PV→Option (Option PV)
 | [],_=>some none
 | (k',v)::r,k=>match tc c k k' with
   | some true=>some (some v)
   | some false=>y8 c r k
   | none=>none
def FN (c:CK):List (PV×PV)→PV→PV→Option (List (PV×PV))
 | [],k,p=>some [(k,p)]
 | (k',v)::r,k,p=>match tc c k k' with
   | some true=>some ((k,p)::r)
   | some false=>(FN c r k p).map ((k',v)::·)
   | none=>none
def BU (ok:Bool) (zero:PV) (r:Option PV):AV:=if ok then .oP [.pv (r.getD zero),.pv (.bool r.isSome)] else .pv (r.getD zero)
def dR (op:BinOp):AV→AV→Option AV
 | .pv (.int k a),.pv (.int k' b)=>
   if k=k'∨op=.shl∨op=.shr then
     match op with
     | .add=>some (.pv (.int k (k.wrap (a+b))))
     | .sub=>some (.pv (.int k (k.wrap (a-b))))
     | .mul=>some (.pv (.int k (k.wrap (a*b))))
     | .quo=>if b=0 then none else some (.pv (.int k (k.wrap (a.tdiv b))))
     | .rem=>if b=0 then none else some (.pv (.int k (a.tmod b)))
     | .eql=>some (.pv (.bool (a == b)))
     | .neq=>some (.pv (.bool (a != b)))
     | .lss=>some (.pv (.bool (decide (a<b))))
     | .leq=>some (.pv (.bool (decide (a≤b))))
     | .gtr=>some (.pv (.bool (decide (a > b))))
     | .geq=>some (.pv (.bool (decide (a≥b))))
     | .and=>some (.pv (.int k (k.wrap (BitVec.ofInt k.bits a &&& BitVec.ofInt k.bits b).toNat)))
     | .shl=>if b<0 then none else some (.pv (.int k (k.wrap (a*2 ^ (min b.toNat k.bits)))))
     | .shr=>if b<0 then none else some (.pv (.int k (a.fdiv (2 ^ (min b.toNat k.bits)))))
     | _=>none
   else none
 | .pv (.str a),.pv (.str b)=>
   match op with
   | .add=>if a.length+b.length≤9223372036854775807 then some (.pv (.str (a++b))) else none
   | .eql=>some (.pv (.bool (a == b)))
   | .neq=>some (.pv (.bool (!(a == b))))
   | .lss=>some (.pv (.bool (iH a b)))
   | .gtr=>some (.pv (.bool (!(iH a b || a == b))))
   | .leq=>some (.pv (.bool (iH a b || a == b)))
   | .geq=>some (.pv (.bool (!iH a b)))
   | _=>none
 | _,_=>none
where iH:List UInt8→List UInt8→Bool
 | _,[]=>false
 | [],_::_=>true
 | a::x,b::y=>a<b || (a == b && iH x y)
def Nd (op:UnOp):AV→Option AV
 | .pv (.bool b)=>match op with | .not=>some (.pv (.bool !b)) | _=>none
 | .pv (.int k n)=>match op with | .neg=>some (.pv (.int k (k.wrap (0-n)))) | _=>none
 | _=>none
def cS:AV→Option (List PV)
 | .pv (.aJ l)=>some l
 | .bN l=>some l
 | .own l _=>some l
 | _=>none
def bC (sz:Nat):List PV→Bool
 | []=>true
 | p::_=>(br p).length == sz
def bo (cells:List AV) (off:Nat) (vs:List AV):List AV:=cells.take off++vs++cells.drop (off+vs.length)
def kC (cells:List AV):List (Nat×Nat)→List AV→Option (List AV)
 | [],[]=>some cells
 | (off,sz)::ps,v::vs=>
   if (bB v).length=sz∧off+sz≤cells.length∧(bB v).all bp=true then kC (bo cells off (bB v)) ps vs else none
 | _,_=>none
def cz (ag:Bool) (sz:Nat) (cs:List AV) (off:Nat):Option AV:=
 if off+sz≤cs.length then
   if ag then some (.agg ((cs.drop off).take sz))
   else if sz=1 then cs[off]? else none
 else none
def de (ag:Bool) (sz:Nat) (cs:List PV):Option AV:=
 if sz≤cs.length then
   if ag then some (.pv (.agg (cs.take sz)))
   else if sz=1 then (cs[0]?).map .pv else none
 else none
def eH (lo hi mx:Bool) (n:Nat) (rest:List AV):Option (Int×Int×Option Int):=
 match lo,hi,mx,rest with
 | false,false,false,[]=>some (0,n,none)
 | true,false,false,[.pv (.int _ l)]=>some (l,n,none)
 | false,true,false,[.pv (.int _ h)]=>some (0,h,none)
 | true,true,false,[.pv (.int _ l),.pv (.int _ h)]=>some (l,h,none)
 | false,true,true,[.pv (.int _ h),.pv (.int _ m)]=>some (0,h,some m)
 | true,true,true,[.pv (.int _ l),.pv (.int _ h),.pv (.int _ m)]=>some (l,h,some m)
 | _,_,_,_=>none
def dc (str:Bool) (sz:Nat) (lo hi mx:Bool):List AV→Option AV
 | x::rest=>if str then
     match x with
     | .pv (.str s)=>match eH lo hi mx s.length rest with
       | some (l,h,none)=>if 0≤l∧l≤h∧h≤s.length then some (.pv (.str ((s.take h.toNat).drop l.toNat))) else none
       | _=>none
     | _=>none
   else match cS x with
     | some els=>match eH lo hi mx els.length rest with
       | some (l,h,m)=>if 0≤l∧l≤h∧h≤els.length∧(l=0∨bC sz els=true) then
           match m with
           | some m=>if m=h then some (.bN ((els.take h.toNat).drop l.toNat)) else none
           | none=>some (.pv (.aJ ((els.take h.toNat).drop l.toNat)))
         else none
       | none=>none
     | none=>none
 | []=>none
def m7 (sz:Nat) (lo hi:Bool):List AV→Option AV
 | .bI b z n ag::rest=>if z=sz then
     match eH lo hi false n rest with
     | some (l,h,none)=>if 0≤l∧l≤h∧h≤n then some (if l=0 then .bI b z h.toNat ag else .pN b (l.toNat*sz) (h.toNat-l.toNat)) else none
     | _=>none
   else none
 | _=>none
def v7 (sz:Nat):AV→Option (Nat×Nat×Nat)
 | .bI b z n _=>if z=sz then some (b,0,n) else none
 | .pN b off n=>some (b,off,n)
 | _=>none
def qw (sz:Nat) (zero:List PV) (sh:Sh):Option (Nat×Nat×Nat)→Option Sh
 | some (b,off,n)=>match sh[b]? with
   | some (some cells)=>if dC cells=false∧off+n*sz≤cells.length∧zero.length=sz then some (sh.set b (some (bo cells off (List.replicate n (zero.map .pv)).flatten))) else none
   | _=>none
 | none=>none
def qx (sz:Nat) (sh:Sh) (xs:List PV):AV→Option (Nat×Sh)
 | .bI b z n _=>match sh[b]? with
   | some (some cells)=>if z=sz∧bC sz xs=true∧dC cells=false∧n*sz≤cells.length then
       some (min xs.length n,sh.set b (some (bo cells 0 (((xs.take n).flatMap br).map .pv)))) else none
   | _=>none
 | _=>none
def fG:List PV→Option (List UInt8)
 | []=>some []
 | .int .u8 n::r=>if 0≤n∧n<256 then (fG r).map (UInt8.ofNat n.toNat::·) else none
 | _=>none
def cd:sH→List AV→Option AV
 | .mv,[x]=>some x
 | .pick,[.pv (.bool c),a,b]=>some (if c then a else b)
 | .bin op,[a,b]=>dR op a b
 | .beq neg,[.pv (.bool a),.pv (.bool b)]=>some (.pv (.bool (if neg then !(a == b) else (a == b))))
 | .un op,[a]=>Nd op a
 | .conv k,[.pv (.int _ n)]=>some (.pv (.int k (k.wrap n)))
 | .ext i,[.oP vs]=>vs[i]?
 | .field off sz ag,[x]=>match x with
   | .agg cs=>cz ag sz cs off
   | .pv (.agg cs)=>de ag sz (cs.drop off)
   | _=>none
 | .aR off,[x]=>match x with
   | .aG d o=>some (.aG d (o+off))
   | .bu b o=>some (.bu b (o+off))
   | .fR cs=>some (.fR (cs.drop off))
   | _=>none
 | .aB sz,[x,.pv (.int _ i)]=>
   if i<0 then none else
   match x with
   | .bI b sz' n _=>if sz=sz'∧i.toNat<n then some (.bu b (i.toNat*sz)) else none
   | x=>match cS x with
     | some els=>match els[i.toNat]? with
       | some el=>if (br el).length=sz then some (.fR (br el)) else none
       | none=>none
     | none=>none
 | .index,[.pv (.str s),.pv (.int _ i)]=>if i<0 then none else (s[i.toNat]?).map fun b=>.pv (.int .u8 b.toNat)
 | .build zero places,vs=>(kC (zero.map zeroCell) places vs).map .agg
 | .aU sz,vs=>(dz [] vs).bind fun els=>if els.all (fun e=>(br e).length == sz) then some (.bN els) else none
 | .bF sz ag,[.fR cs]=>de ag sz cs
 | .slice str sz lo hi mx,vs=>dc str sz lo hi mx vs
 | .qt sz lo hi,vs=>m7 sz lo hi vs
 | .ji,[.pv (.str s)]=>some (.pv (.int .i64 s.length))
 | .len,[x]=>match x with
   | .bI _ _ n _=>some (.pv (.int .i64 n))
   | x=>(cS x).map fun l=>.pv (.int .i64 l.length)
 | .bm,[x]=>match x with
   | .aG .. | .bu .. | .fR _ | .fn ..=>some x
   | _=>none
 | .mn,[.pv (.int k x),.pv (.int k' y)]=>if k=k' then some (.pv (.int k (if y<x then y else x))) else none
 | .mx,[.pv (.int k x),.pv (.int k' y)]=>if k=k' then some (.pv (.int k (if y > x then y else x))) else none
 | .FM g,cap=>some (.fn g cap)
 | .b2s,[x]=>((cS x).bind fG).map fun s=>.pv (.str s)
 | .Nc cs neg,[x,y]=>match dO [] x,dO [] y with
   | some (.agg ps),some (.agg qs)=>(d9 cs ps qs).map fun b=>.pv (.bool (if neg then !b else b))
   | _,_=>none
 | _,_=>none
where zeroCell:PV→AV
 | .aJ []=>.bN []
 | p=>.pv p
structure Out where
 val:AV
 cells:Option (List AV)
 sh:Sh
 ah:aN
structure ek where
 p:Nat→List PV→Option (List PV)
 i:Nat→List AV→Sh→aN→Option (List AV×Sh×aN)
def qy:List PV→AV
 | [r]=>.pv r
 | rs=>.oP (rs.map .pv)
def qz:List AV→AV
 | [r]=>r
 | rs=>.oP rs
def kD (v:AV):AV:=match dO [] v with | some p=>.pv p | none=>v
def AK.key:AK→Option Nat
 | .aS k _ _ _ | .cR k _ _ | .alloc k _ | .box k _ | .iU k _ _ _=>some k
 | _=>none
def cC (sz bytes:Nat) (s x:AV) (ah:aN):Option (AV×aN):=
 match cS x with
 | none=>none
 | some xs=>if bC sz xs=true then
   match s with
   | .bN l=>if xs.isEmpty=true then some (.bN l,ah) else if bC sz l=true∧(l.length+xs.length)*bytes≤140737488355328 then
       some (.own (l++xs) ah.length,ah++[(l++xs).length]) else none
   | .own l τ=>if ah[τ]?=some l.length∧bC sz l=true∧(l.length+xs.length)*bytes≤140737488355328 then
       some (.own (l++xs) τ,ah.set τ (l++xs).length) else none
   | _=>none
   else none
def v_:List PV→List PV→Bool
 | [],[]=>true
 | .str a::r,.str b::q=>(a == b) && v_ r q
 | _,_=>false
def Nf (sz bytes:Nat) (xs:List PV) (s e:AV) (ah:aN):Option PV:=
 match s,e with
 | .own l τ,.own m σ=>if τ=σ∧ah[τ]?=some m.length∧m.length=l.length+xs.length∧bC 1 l=true∧bC 1 xs=true∧sz=1 ∧
     v_ (m.drop l.length) xs=true∧xs.isEmpty=false∧m.length*bytes≤140737488355328 then some (.aJ (l++xs)) else none
 | _,_=>none
def pP (sz bytes:Nat) (ag:Bool) (s:AV) (xs:List PV) (sh:Sh):Option (AV×Sh):=
 if xs.isEmpty=true then some (s,sh) else if xs.length*bytes≤140737488355328 then some (.bI sh.length sz xs.length ag,sh++[some ((xs.flatMap br).map .pv)]) else none
def pQ (sz bytes:Nat) (ag:Bool) (s:AV) (xs:List PV) (sh:Sh) (ah:aN):Option (AV×Sh):=
 match s with
 | .bN []=>pP sz bytes ag s xs sh
 | .own [] τ=>if ah[τ]?=some 0 then pP sz bytes ag s xs sh else none
 | .bI b z n g=>match sh[b]? with
   | some (some cells)=>if z=sz∧g=ag∧dC cells=false∧n*sz≤cells.length∧(n+xs.length)*bytes≤140737488355328 then
       if xs.isEmpty=true then some (.bI b sz n ag,sh) else some (.bI sh.length sz (n+xs.length) ag,sh.set b none++[some (cells.take (n*sz)++(xs.flatMap br).map .pv)])
     else none
   | _=>none
 | _=>none
def fH (o:Option Bool) (sz bytes:Nat) (x:AV) (sh:Sh) (ah:aN):Option (AV×Sh×aN):=match o with
 | none=>(cC sz bytes (.bN []) x ah).map fun (v,ts)=>(v,sh,ts)
 | some ag=>match cS x with
   | some xs=>if bC sz xs=true then (pP sz bytes ag (.bN []) xs sh).map fun (v,sh')=>(v,sh',ah) else none
   | none=>none
def gG (bh ts:aN):AV→AV×aN×aN
 | .own l τ=>if bh[τ]?=some l.length then (.own l ts.length,bh.set τ (l.length+1),ts++[l.length]) else (.pv (.aJ l),bh,ts)
 | v=>(v,bh,ts)
def d6 (bh ts:aN):List AV→List AV×aN×aN
 | []=>([],bh,ts)
 | v::r=>((gG bh ts v).1::(d6 (gG bh ts v).2.1 (gG bh ts v).2.2 r).1,(d6 (gG bh ts v).2.1 (gG bh ts v).2.2 r).2)
def cf (bh ts:aN):AV→AV×aN×aN
 | .own l τ=>if bh[τ]?=some l.length then (.own l ts.length,bh.set τ (l.length+1),ts++[l.length]) else (.pv (.aJ l),bh,ts)
 | .bN l=>(.own l ts.length,bh,ts++[l.length])
 | .agg cs=>if cy.gr cs=true then (.agg cs,bh,ts) else (.agg (d6 bh ts cs).1,(d6 bh ts cs).2.1,(d6 bh ts cs).2.2)
 | v=>(v,bh,ts)
def bQ (bh ts:aN):List AV→List AV×aN×aN
 | []=>([],bh,ts)
 | v::r=>((cf bh ts v).1::(bQ (cf bh ts v).2.1 (cf bh ts v).2.2 r).1,(bQ (cf bh ts v).2.1 (cf bh ts v).2.2 r).2)
def cm (bh ts:aN):Sh→Sh×aN×aN
 | []=>([],bh,ts)
 | none::r=>(none::(cm bh ts r).1,(cm bh ts r).2)
 | some cs::r=>(some (bQ bh ts cs).1::(cm (bQ bh ts cs).2.1 (bQ bh ts cs).2.2 r).1,(cm (bQ bh ts cs).2.1 (bQ bh ts cs).2.2 r).2)
def dj (ah:aN) (xs:List AV) (sh:Sh):List AV×Sh×aN×aN:=
 ((bQ ah [] xs).1,(cm (bQ ah [] xs).2.1 (bQ ah [] xs).2.2 sh).1,(cm (bQ ah [] xs).2.1 (bQ ah [] xs).2.2 sh).2.1,(cm (bQ ah [] xs).2.1 (bQ ah [] xs).2.2 sh).2.2)
def kE:AV→Bool
 | .own ..=>true
 | v=>cB v
def e8:List AV→Bool
 | []=>true
 | v::r=>kE v && e8 r
def cr:AV→Bool
 | .own ..=>true
 | .agg cs=>e8 cs
 | v=>cB v
def kW (n:Nat):AV→AV
 | .own l τ=>.own l (τ+n)
 | v=>v
def dB (n:Nat):AV→AV
 | .own l τ=>.own l (τ+n)
 | .agg cs=>if cy.gr cs=true then .agg cs else .agg (cs.map (kW n))
 | v=>v
def gW (n:Nat) (sh:Sh):Sh:=sh.map fun o=>o.map fun cs=>cs.map (dB n)
def e_ (own:List Nat):Nat→List AV→List AV
 | _,[]=>[]
 | i,v::r=>(if own.contains i then v else kD v)::e_ own (i+1) r
def en (orc:ek) (g:Nat) (own:List Nat) (vals:List AV) (sh:Sh) (ah:aN):Option (AV×Sh×aN):=
 if (e_ own 0 vals).all cr=true then
   (orc.i g (dj ah (e_ own 0 vals) sh).1 (dj ah (e_ own 0 vals) sh).2.1 (dj ah (e_ own 0 vals) sh).2.2.2).map fun (rs,sh',ts)=>
     (qz (rs.map (dB ah.length)),gW ah.length sh',(dj ah (e_ own 0 vals) sh).2.2.1++ts)
 else none
def cV (v:AV):List AV:=match v with
 | .bN l=>[.bN l]
 | .own l τ=>[.own l τ]
 | v=>match dO [] v with | some p=>bB (.pv p) | none=>bB v
mutual
def sI:PV→PV→Bool
 | .bool a,.bool b=>a == b
 | .int k a,.int l b=>decide (k=l) && (a == b)
 | .str a,.str b=>a == b
 | .agg a,.agg b=>qA a b
 | .aJ a,.aJ b=>qA a b
 | _,_=>false
def qA:List PV→List PV→Bool
 | [],[]=>true
 | a::r,b::q=>sI a b && qA r q
 | _,_=>false
end
def Pc:AV→AV→Bool
 | .pv a,.pv b=>sI a b
 | _,_=>false
def CQ:List AV→List AV→Bool
 | [],[]=>true
 | a::r,b::q=>Pc a b && CQ r q
 | _,_=>false
def qB:Sh→Sh→Bool
 | [],[]=>true
 | none::r,none::q=>qB r q
 | some a::r,some b::q=>CQ a b && qB r q
 | _,_=>false
def Pv (sh:Sh):AV×Sh×aN→Option Out
 | (v,sh',ts)=>if qB sh' sh=true then some ⟨v,none,sh,ts⟩ else none
def exec (orc:ek) (op:AK) (vals:List AV) (cells:Option (List AV)) (sh:Sh) (ah:aN):Option Out:=
 match op,vals with
 | .v o,vals=>(cd o vals).map fun x=>⟨x,none,sh,ah⟩
 | .aS key off sz ag,[.aG d o]=>if d=key∧o=off then
     match cells with
     | some cs=>(cz ag sz cs off).map fun x=>⟨x,none,sh,ah⟩
     | none=>none
   else none
 | .cR key off sz,[.aG d o,v]=>if d=key∧o=off∧(bB v).length=sz∧(bB v).all bp=true then
     match cells with
     | some cs=>if off+sz≤cs.length then some ⟨.un,some (bo cs off (bB v)),sh,ah⟩ else none
     | none=>none
   else none
 | .alloc key zero,[]=>match cells with
   | none=>some ⟨.aG key 0,some (zero.map cd.zeroCell),sh,ah⟩
   | some _=>none
 | .box key sz,[v]=>match cells with
   | none=>if (bB v).length=sz∧(bB v).all bp=true then some ⟨.aG key 0,some (bB v),sh,ah⟩ else none
   | some _=>none
 | .bf sz ag,[p]=>match p with
   | .fR cs=>(de ag sz cs).map fun x=>⟨x,none,sh,ah⟩
   | .bu b off=>match sh[b]? with
     | some (some cs)=>if dC cs=true then none else (cz ag sz cs off).map fun x=>⟨x,none,sh,ah⟩
     | _=>none
   | _=>none
 | .cb sz,[.bu b off,v]=>match sh[b]? with
   | some (some cs)=>
     let vs:=cV v
     if dC cs=false∧vs.length=sz∧off+sz≤cs.length∧vs.all dP=true∧vs.all (aV (b+1))=true then
       some ⟨.un,none,sh.set b (some (bo cs off vs)),ah⟩ else none
   | _=>none
 | .me sz,[v]=>
   let vs:=cV v
   if vs.length=sz∧vs.all dP=true∧vs.all (aV sh.length)=true then
     some ⟨.bu sh.length 0,none,sh++[some vs],ah⟩ else none
 | .iT zero,[]=>some ⟨.bu sh.length 0,none,sh++[some (zero.map cd.zeroCell)],ah⟩
 | .ik sz bytes ag zero,[.pv (.int _ n),.pv (.int _ n')]=>
   if n=n'∧0≤n∧n≤9223372036854775807∧n*bytes≤140737488355328∧zero.length=sz then
     some ⟨.bI sh.length sz n.toNat ag,none,sh++[some ((List.replicate n.toNat (zero.map .pv)).flatten)],ah⟩ else none
 | .iU key sz bytes zero,[.pv (.int _ n),.pv (.int _ n')]=>match cells with
   | none=>if n=n'∧0≤n∧n≤9223372036854775807∧n*bytes≤140737488355328∧zero.length=sz then
       some ⟨.jK key n.toNat,some ((List.replicate n.toNat (zero.map .pv)).flatten),sh,ah⟩ else none
   | some _=>none
 | .append sz bytes,[s,x]=>(cC sz bytes s x ah).map fun (v,ts)=>⟨v,none,sh,ts⟩
 | .db sz bytes ag,[s,x]=>match cS x with
   | some xs=>if bC sz xs=true then (pQ sz bytes ag s xs sh ah).map fun (v,sh')=>⟨v,none,sh',ah⟩ else none
   | none=>none
 | .clone sz bytes,[x]=>(cC sz bytes (.bN []) x ah).map fun (v,ts)=>⟨v,none,sh,ts⟩
 | .gF sz bytes ag,[x]=>(fH (some ag) sz bytes x sh ah).map fun (v,sh',ts)=>⟨v,none,sh',ts⟩
 | .iA sz zero,[x]=>(qw sz zero sh (v7 sz x)).map fun sh'=>⟨.oP [],none,sh',ah⟩
 | .jk sz,[x,y]=>match cS y with
   | some xs=>(qx sz sh xs x).map fun (k,sh')=>⟨.pv (.int .i64 (k:Int)),none,sh',ah⟩
   | none=>none
 | .aq g,vals=>match dz [] vals with
   | some dt=>(orc.p g dt).map fun rs=>⟨qy rs,none,sh,ah⟩
   | none=>none
 | .dK g,vals=>match dz sh vals with
   | some dt=>(orc.p g dt).map fun rs=>⟨qy rs,none,dZ sh vals,ah⟩
   | none=>none
 | .aI g own,vals=>(en orc g own vals sh ah).map fun (v,sh',ts)=>⟨v,none,sh',ts⟩
 | .kT g,vals=>match dz [] vals with
   | some dt=>match orc.i g (dt.map .pv) [] [] with
     | some (rs,[],ts)=>some ⟨qz (rs.map (dB ah.length)),none,sh,ah++ts⟩
     | _=>none
   | none=>none
 | .dw,f::vals=>match f with
   | .fn g cap=>(en orc g [] (vals++cap) sh ah).bind (Pv sh)
   | _=>none
 | .fU,f::vals=>match f with
   | .fn g cap=>(en orc g [] (vals++cap) sh ah).map fun (v,sh',ts)=>⟨v,none,sh',ts⟩
   | _=>none
 | _,_=>none
def gT (env:List (Nat×AV)):eU→Option AV
 | .t n=>look env n
 | .c v=>some v
def ef (env:List (Nat×AV)):List eU→Option (List AV)
 | []=>some []
 | x::r=>match gT env x,ef env r with
   | some v,some vs=>some (v::vs)
   | _,_=>none
def fp (env:List (Nat×AV)):Option (Nat×Bool)→Option Bool
 | none=>some true
 | some (t,b)=>match look env t with
   | some (.pv (.bool c))=>some (c == b)
   | some .un=>some false
   | _=>none
def fJ (env:List (Nat×AV)):Option Nat→AV→List (Nat×AV)
 | some d,v=>dL env d v
 | none,_=>env
def eV (mem:List (Nat×List AV)):Option Nat→Option (List AV)→List (Nat×List AV)
 | some k,some cs=>dL mem k cs
 | _,_=>mem
def d_ (orc:ek) (o:dq) (st:St):Option St:=
 match fp st.env o.guard with
 | none=>none
 | some false=>some { st with env:=fJ st.env o.dst .un }
 | some true=>
   match ef st.env o.args with
   | none=>none
   | some vals=>
     match exec orc o.op vals (o.op.key.bind (look st.mem)) st.sh st.ah with
     | none=>none
     | some out=>some { env:=fJ st.env o.dst out.val,mem:=eV st.mem o.op.key out.cells,sh:=out.sh,ah:=out.ah }
def bM (orc:ek):List dq→St→Option St
 | [],st=>some st
 | o::r,st=>match d_ orc o st with
   | none=>none
   | some st'=>bM orc r st'
def ei (live:List Nat):AV→Bool
 | .aG d _=>live.contains d
 | .jK d _=>live.contains d
 | .own ..=>true
 | .agg cs=>fD cs
 | v=>cy v
def ca (live:List Nat) (env:List (Nat×AV)):List Nat→List (Nat×AV)
 | []=>[]
 | t::r=>match look env t with
   | some v=>if ei live v=true then (t,v)::ca live env r else ca live env r
   | none=>ca live env r
def cg (mem:List (Nat×List AV)):List Nat→List (Nat×List AV)
 | []=>[]
 | t::r=>match look mem t with
   | some v=>(t,v)::cg mem r
   | none=>cg mem r
def restrict (live:List Nat) (st:St):St:=
 { st with env:=ca live st.env live,mem:=cg st.mem live }
def dD (bh ts:aN):List (Nat×AV)→List (Nat×AV)×aN×aN
 | []=>([],bh,ts)
 | (t,v)::r=>((t,(cf bh ts v).1)::(dD (cf bh ts v).2.1 (cf bh ts v).2.2 r).1,(dD (cf bh ts v).2.1 (cf bh ts v).2.2 r).2)
def fc (bh ts:aN):List (Nat×List AV)→List (Nat×List AV)×aN×aN
 | []=>([],bh,ts)
 | (t,v)::r=>((t,(bQ bh ts v).1)::(fc (bQ bh ts v).2.1 (bQ bh ts v).2.2 r).1,(fc (bQ bh ts v).2.1 (bQ bh ts v).2.2 r).2)
def norm (st:St):St:=
 { env:=(dD st.ah [] st.env).1,
   mem:=(fc (dD st.ah [] st.env).2.1 (dD st.ah [] st.env).2.2 st.mem).1,
   sh:=(cm (fc (dD st.ah [] st.env).2.1 (dD st.ah [] st.env).2.2 st.mem).2.1 (fc (dD st.ah [] st.env).2.1 (dD st.ah [] st.env).2.2 st.mem).2.2 st.sh).1,
   ah:=(cm (fc (dD st.ah [] st.env).2.1 (dD st.ah [] st.env).2.2 st.mem).2.1 (fc (dD st.ah [] st.env).2.1 (dD st.ah [] st.env).2.2 st.mem).2.2 st.sh).2.2 }
inductive bG where
 | normal | ret | exit (id:Nat)
 deriving Inhabited,DecidableEq
def fe (f:St→Option (bG×St)) (pre:St→St):Nat→St→Option (bG×St)
 | 0,_=>none
 | n+1,st=>match f (pre st) with
   | some (.normal,st')=>fe f pre n st'
   | r=>r
def Lx (sz:Nat) (ag:Bool) (el:PV):Option AV:=if (br el).length=sz then de ag sz (br el) else none
def oQ (f:St→Option (bG×St)) (live:List Nat) (pi px sz:Nat) (ag:Bool) (env:List (Nat×AV)):List (PV×Nat)→St→Option (bG×St)
 | [],st=>some (.normal,{ st with env:=env })
 | (el,i)::r,st=>match Lx sz ag el with
   | none=>none
   | some v=>match f (norm (restrict live { st with env:=dL (dL env pi (.pv (.int .i64 i))) px v })) with
     | some (.normal,st')=>oQ f live pi px sz ag env r st'
     | some (e,st')=>some (e,{ st' with env:=env })
     | none=>none
def andThen (f g:St→Option (bG×St)) (st:St):Option (bG×St):=match f st with
 | some (.normal,st')=>g st'
 | _=>none
def IQ (live:List Nat) (env:List (Nat×AV)):List (Nat×AV):=(ca live env live).filter fun p=>cy p.2
def kX (f:St→Option (bG×St)) (v:Option AV) (gb pi px sz:Nat) (ag:Bool) (live:List Nat) (st:St):Option (bG×St):=
 match v with
 | some (.fn g [.bu s 0])=>if g=gb then
     match st.sh[s]? with
     | some (some [.pv (.aJ l)])=>if l.length<4611686018427387904 then oQ f live pi px sz ag (IQ live st.env) l.zipIdx.reverse { st with sh:=kill st.sh [s] } else none
     | _=>none
   else none
 | _=>none
def y9:AV→St→St
 | .aG d 0,st=>match look st.mem d with
   | some cs=>match dQ st.sh cs with
     | some ps=>{ st with mem:=dL st.mem d (ps.map .pv),sh:=dZ st.sh [.agg cs] }
     | none=>st
   | none=>st
 | _,st=>st
def mw:List Nat→St→St
 | [],st=>st
 | t::r,st=>match look st.env t with
   | some v=>match dO st.sh v with
     | some p=>mw r { st with env:=dL st.env t (.pv p),sh:=dZ st.sh [v] }
     | none=>mw r (y9 v st)
   | none=>mw r st
def apart:Option AV→Option AV→Bool
 | some (.bu b _),some (.bu b' _)=>b != b'
 | _,_=>false
def iB (env:List (Nat×AV)):List (Nat×Nat)→Bool
 | []=>true
 | (a,b)::r=>apart (look env a) (look env b) && iB env r
def Ly (d s sz n:Nat) (ag:Bool):AV→Option AV
 | .aG d' o=>some (if d'=d then .bu s o else .aG d' o)
 | .jK d' m=>if d'=d then (if m*sz≤n then some (.bI s sz m ag) else none) else some (.jK d' m)
 | v=>if ei [] v=true then some v else none
def CR (d s sz n:Nat) (ag:Bool) (env:List (Nat×AV)):List Nat→List (Nat×AV)
 | []=>[]
 | t::r=>match (look env t).bind (Ly d s sz n ag) with
   | some v=>(t,v)::CR d s sz n ag env r
   | none=>CR d s sz n ag env r
def sJ {α:Type} (d:Nat):List (Nat×α)→List (Nat×α)
 | []=>[]
 | (k,v)::r=>if k=d then sJ d r else (k,v)::sJ d r
def Lz (d sz:Nat) (ag:Bool) (st:St):St:=match look st.mem d with
 | some cells=>if cells.all dP=true∧cells.all (aV (st.sh.length+1))=true then
     { st with env:=CR d st.sh.length sz cells.length ag st.env (st.env.map (·.1)),mem:=sJ d st.mem,sh:=st.sh++[some cells] } else st
 | none=>st
def FO:List (Nat×Nat×Bool)→St→St
 | [],st=>st
 | (d,sz,ag)::r,st=>FO r (Lz d sz ag st)
def y_ (b b':Nat):List Nat→List (Nat×AV)→List (Nat×AV)
 | [],env=>env
 | t::r,env=>match look env t with
   | some (.bI s z n ag)=>if s=b then y_ b b' r (dL env t (.bI b' z n ag)) else y_ b b' r env
   | _=>y_ b b' r env
def FP:List Nat→St→St
 | [],st=>st
 | t::r,st=>match look st.env t with
   | some (.bI b _ _ _)=>match st.sh[b]? with
     | some (some cells)=>if dC cells=false then { st with env:=y_ b st.sh.length (t::r) st.env,sh:=st.sh.set b none++[some cells] } else st
     | _=>st
   | _=>st
def m8:List Nat→St→St
 | [],st=>st
 | t::r,st=>match look st.env t with
   | some (.bI b _ _ _)=>match st.sh[b]? with
     | some (some cells)=>if dC cells=false∧(eZ (.agg cells)).contains b=false then
         match dQ st.sh cells with
         | some ps=>m8 r { st with sh:=(dZ st.sh [.agg cells]).set b (some (ps.map .pv)) }
         | none=>m8 r st
       else m8 r st
     | _=>m8 r st
   | _=>m8 r st
def dd (orc:ek) (k:Nat):au→St→Option (bG×St)
 | .skip,st=>some (.normal,st)
 | .bn ops live,st=>match bM orc ops st with
   | some st'=>some (.normal,restrict live st')
   | none=>none
 | .seq a b,st=>match dd orc k a st with
   | some (.normal,st')=>dd orc k b st'
   | r=>r
 | .cond c a b,st=>match gT st.env c with
   | some (.pv (.bool t))=>if t then dd orc k a st else dd orc k b st
   | _=>none
 | .block id b,st=>match dd orc k b st with
   | some (.exit id',st')=>if id'=id then some (.normal,st') else some (.exit id',st')
   | r=>r
 | .loop live b,st=>fe (dd orc k b) (fun s=>norm (restrict live s)) k st
 | .exit id,st=>some (.exit id,st)
 | .ret,st=>some (.ret,st)
 | .back c gb pi px sz ag live x y,st=>kX (andThen (dd orc k x) (dd orc k y)) (gT st.env c) gb pi px sz ag live st
 | .dO ts,st=>some (.normal,mw ts st)
 | .Lu ds,st=>if iB st.env ds=true then some (.normal,st) else none
 | .kR ps,st=>some (.normal,FO ps st)
 | .kU ts,st=>some (.normal,FP ts st)
 | .Lv ts,st=>some (.normal,m8 ts st)
def cE:Nat→List AV→List (Nat×AV)
 | _,[]=>[]
 | i,v::r=>(i,v)::cE (i+1) r
def oR (st:St):qv→Option AV
 | .t n=>look st.env n
 | .c key sz ag=>match look st.env key with
   | some (.aG d 0)=>match look st.mem key with
     | some cs=>if d=key then cz ag sz cs 0 else none
     | none=>none
   | some (.bu s 0)=>match st.sh[s]? with
     | some (some cs)=>if dC cs=true then none else cz ag sz cs 0
     | _=>none
   | _=>none
def eo (st:St):List qv→Option (List AV)
 | []=>some []
 | r::rs=>match oR st r,eo st rs with
   | some v,some vs=>some (v::vs)
   | _,_=>none
def qC (sh:Sh) (v:AV):AV:=match dO sh v with | some p=>.pv p | none=>v
def sK (sh:Sh) (v:AV):AV:=match v with
 | .bN l=>.bN l
 | v=>if bp v=true then qC sh v else v
def za (sh:Sh) (v:AV):AV:=match v with
 | .bN l=>.bN l
 | .own l τ=>.own l τ
 | .agg cs=>.agg (cs.map (sK sh))
 | v=>qC sh v
def cN (bq ks:Bool) (sh:Sh) (vs:List AV):List AV:=if bq then (if ks then vs else vs.map (za sh)) else vs.map (qC sh)
def eQ (bq ks:Bool) (sh:Sh) (vs:List AV):Sh:=if bq && ks then sh else dZ sh vs
def cG (orc:ek) (k:Nat) (bq:Bool) (af:aD) (args:List AV) (sh:Sh) (ts:aN):Option (List AV×Sh×aN):=
 match dd orc k af.body { env:=cE 0 args,mem:=[],sh,ah:=ts } with
 | some (e,st)=>
   if e=.ret∨e=.normal then
     match eo st af.results with
     | some vs=>
       let rs:=cN bq af.ks st.sh vs
       let sh':=if rs.all (aV sh.length)=true then (eQ bq af.ks st.sh vs).take sh.length else eQ bq af.ks st.sh vs
       if rs.all cr=true then some ((dj st.ah rs sh').1,(dj st.ah rs sh').2.1,(dj st.ah rs sh').2.2.2) else none
     | none=>none
   else none
 | none=>none
def fK:List AV→Option (List PV)
 | []=>some []
 | .pv p::r=>(fK r).map (p::·)
 | _=>none
def run (AP:Nat→Option aD) (k:Nat):Nat→ek
 | 0=>{ p:=fun _ _=>none,i:=fun _ _ _ _=>none }
 | n+1=>
   { p:=fun g dt=>match AP g with
       | some af=>match af.pO with
         | some f=>f.f (run AP k n).p dt
         | none=>if dt.length=af.nparams∧dt.length≤af.ntmps then
             match cG (run AP k n) k false af (dt.map .pv) [] [] with
             | some (rs,_)=>fK rs
             | none=>none
           else none
       | none=>none
     i:=fun g args sh ts=>match AP g with
       | some af=>if args.length≤af.ntmps then cG (run AP k n) k true af args sh ts else none
       | none=>none }
end Go.Ab
