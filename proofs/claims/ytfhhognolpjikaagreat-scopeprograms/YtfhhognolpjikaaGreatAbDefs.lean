import GoSem.Core.Value
import GoSem.Core.Ast
import GoSem.Core.View
/-
  The abstract machine: pure data, abstract values, slim code, and an evaluator with fuel. Nothing here mentions a program.
-/
set_option linter.unusedVariables false
set_option linter.unusedSimpArgs false
set_option maxRecDepth 100000
set_option maxHeartbeats 8000000
namespace Go.Ab
inductive PV where
 | bool (b:Bool)
 | int (k:IntKind) (n:Int)
 | str (s:List UInt8)
 | agg (cs:List PV)
 | aD (els:List PV)
 deriving Inhabited
inductive AV where
 | un
 | pv (p:PV)
 | bD (els:List PV)
 | own (els:List PV) (tok:Nat)
 | agg (cs:List AV)
 | lL (vs:List AV)
 | az (d off:Nat)
 | a_ (b off:Nat)
 | dz (cs:List PV)
 | bu (b sz len:Nat) (ag:Bool)
 | fn (g:Nat) (cap:List AV)
 | dw
 | cv (s:Nat)
 | du (kvs:List (PV×PV))
 | lZ (b off n:Nat)
 deriving Inhabited
abbrev Sh:=List (Option (List AV))
abbrev aM:=List Nat
inductive eL where
 | t (n:Nat)
 | c (v:AV)
 deriving Inhabited
inductive CK where
 | int | str | bool
 deriving Inhabited,DecidableEq
inductive FY where
 | mv | pick
 | bin (op:BinOp)
 | beq (neg:Bool)
 | un (op:UnOp)
 | conv (k:IntKind)
 | ext (i:Nat)
 | field (off sz:Nat) (ag:Bool)
 | bh (off:Nat)
 | aC (sz:Nat)
 | index
 | build (zero:List PV) (places:List (Nat×Nat))
 | aT (sz:Nat)
 | aK (sz:Nat) (ag:Bool)
 | slice (str:Bool) (sz:Nat) (lo hi mx:Bool)
 | len | jB | a9
 | mn | mx
 | CF (g:Nat)
 | MJ (cs:List CK) (neg:Bool)
 | qe (sz:Nat) (lo hi:Bool)
 deriving Inhabited
inductive AK where
 | v (o:FY)
 | bl (key off sz:Nat) (ag:Bool)
 | dc (key off sz:Nat)
 | alloc (key:Nat) (zero:List PV)
 | box (key sz:Nat)
 | a6 (sz:Nat) (ag:Bool)
 | cz (sz:Nat)
 | l4 (sz:Nat)
 | ia (zero:List PV)
 | jm (sz bytes:Nat) (ag:Bool) (zero:List PV)
 | append (sz bytes:Nat)
 | cZ (sz bytes:Nat) (ag:Bool)
 | ko
 | iB (c:CK) (ok:Bool) (zero:PV)
 | mM (c:CK)
 | clone (sz bytes:Nat)
 | ib (sz:Nat) (zero:List PV)
 | aA (g:Nat)
 | dG (g:Nat)
 | aL (g:Nat) (own:List Nat)
 | jn (g:Nat)
 | ff
 deriving Inhabited
structure d4 where
 dst:Option Nat
 guard:Option (Nat×Bool)
 args:List eL
 op:AK
 deriving Inhabited
inductive aw where
 | skip
 | ae (ops:List d4) (live:List Nat)
 | seq (a b:aw)
 | cond (c:eL) (a b:aw)
 | block (id:Nat) (b:aw)
 | loop (live:List Nat) (b:aw)
 | exit (id:Nat)
 | ret
 | back (f:eL) (gb pi px sz:Nat) (ag:Bool) (live:List Nat) (x y:aw)
 | c_ (ts:List Nat)
 deriving Inhabited
inductive qf where
 | t (n:Nat)
 | c (key sz:Nat) (ag:Bool)
 deriving Inhabited
structure aJ where
 nparams:Nat
 ntmps:Nat
 results:List qf
 body:aw
 qg:Option (List PV→Option (List PV)):=none
 ks:Bool:=false
 deriving Inhabited
def look {α:Type}:List (Nat×α)→Nat→Option α
 | [],_=>none
 | (k,v)::r,t=>if k=t then some v else look r t
def dL {α:Type}:List (Nat×α)→Nat→α→List (Nat×α)
 | [],t,u=>[(t,u)]
 | (k,v)::r,t,u=>if k=t then (k,u)::r else (k,v)::dL r t u
structure St where
 env:List (Nat×AV)
 mem:List (Nat×List AV)
 sh:Sh
 ah:aM
 deriving Inhabited
def bz:PV→List PV
 | .agg cs=>cs
 | p=>[p]
def br:AV→List AV
 | .agg cs=>cs
 | .pv (.agg cs)=>cs.map .pv
 | v=>[v]
def bQ:AV→Bool
 | .pv _ | .bD _ | .a_ .. | .bu .. | .dw | .cv _ | .du _=>true
 | .fn _ cap=>gG cap
 | .agg cs=>gG cs
 | _=>false
where gG:List AV→Bool
 | []=>true
 | v::r=>bQ v && gG r
def bm:AV→Bool
 | .pv (.agg _)=>false
 | .pv _ | .bD _ | .a_ .. | .bu .. | .dw | .cv _ | .du _=>true
 | .fn g cap=>bQ (.fn g cap)
 | .own ..=>true
 | _=>false
def d_ (v:AV):Bool:=bm v
def bK:AV→Bool
 | .own .. | .az ..=>false
 | .agg cs=>dX cs
 | .lL cs=>dX cs
 | .fn _ cap=>dX cap
 | _=>true
where dX:List AV→Bool
 | []=>true
 | v::r=>bK v && dX r
def gH:AV→Bool
 | .own ..=>true
 | v=>bK v
def fJ:List AV→Bool
 | []=>true
 | v::r=>gH v && fJ r
def jC:AV→Option PV
 | .pv p=>some p
 | .bD l=>some (.aD l)
 | .own l _=>some (.aD l)
 | _=>none
def ik:PV→Bool
 | .agg _=>false
 | _=>true
def chunk (sz:Nat):Nat→List PV→List (List PV)
 | 0,_=>[]
 | n+1,l=>l.take sz::chunk sz n (l.drop sz)
def fh:List AV→Option (List PV)
 | []=>some []
 | v::r=>match jC v,fh r with
   | some p,some ps=>some (p::ps)
   | _,_=>none
def fm (sz:Nat) (ag:Bool) (n:Nat) (cells:List PV):Option (List PV):=
 if ag then some ((chunk sz n cells).map .agg)
 else if sz=1 then some cells else none
def cR:List AV→Bool
 | .du _::_=>true
 | _=>false
def di (sh:Sh):AV→Option PV
 | .bu b sz n ag=>match sh[b]? with
   | some (some cells)=>if cells.length=n*sz then ((fh cells).bind (fm sz ag n)).map .aD
     else if cR cells=false∧n*sz≤cells.length then ((fh (cells.take (n*sz))).bind (fm sz ag n)).map .aD else none
   | _=>none
 | v=>jC v
def en (sh:Sh):List AV→Option (List PV)
 | []=>some []
 | v::r=>if bm v=true then
     match di sh v,en sh r with
     | some p,some ps=>some (p::ps)
     | _,_=>none
   else none
def c_ (sh:Sh):AV→Option PV
 | .agg cs=>(en sh cs).map .agg
 | v=>di sh v
def dd (sh:Sh):List AV→Option (List PV)
 | []=>some []
 | v::r=>match c_ sh v,dd sh r with
   | some p,some ps=>some (p::ps)
   | _,_=>none
def fo:AV→List Nat
 | .bu b _ _ _=>[b]
 | .agg cs=>cs.flatMap fun | .bu b _ _ _=>[b] | _=>[]
 | _=>[]
def kill (sh:Sh) (l:List Nat):Sh:=l.foldl (fun s b=>s.set b none) sh
def ep (sh:Sh) (vs:List AV):Sh:=kill sh (vs.flatMap fo)
def aS (n:Nat):AV→Bool
 | .un | .pv _ | .bD _ | .own .. | .dw | .dz _ | .du _=>true
 | .a_ b _ | .bu b _ _ _ | .cv b=>decide (b<n)
 | .fn _ cap=>cO n cap
 | .agg cs=>cO n cs
 | _=>false
where cO (n:Nat):List AV→Bool
 | []=>true
 | v::r=>aS n v && cO n r
def gV:CK→PV→PV→Option Bool
 | .int,.int k a,.int k' b=>if k=k' then some (a == b) else none
 | .str,.str a,.str b=>some (a == b)
 | .bool,.bool a,.bool b=>some (a == b)
 | _,_,_=>none
def cA:List CK→List PV→List PV→Option Bool
 | [],[],[]=>some true
 | c::cs,p::ps,q::qs=>match gV c p q with
   | some true=>cA cs ps qs
   | some false=>if ps.length=cs.length∧qs.length=cs.length then some false else none
   | none=>none
 | _,_,_=>none
def ic (c:CK):List (PV×PV)→PV→Option (Option PV)
 | [],_=>some none
 | (k',v)::r,k=>match gV c k k' with
   | some true=>some (some v)
   | some false=>ic c r k
   | none=>none
def iV (c:CK):List (PV×PV)→PV→PV→Option (List (PV×PV))
 | [],k,p=>some [(k,p)]
 | (k',v)::r,k,p=>match gV c k k' with
   | some true=>some ((k,p)::r)
   | some false=>(iV c r k p).map ((k',v)::·)
   | none=>none
def il (ok:Bool) (zero:PV) (r:Option PV):AV:=if ok then .lL [.pv (r.getD zero),.pv (.bool r.isSome)] else .pv (r.getD zero)
def dv (op:BinOp):AV→AV→Option AV
 | .pv (.int k a),.pv (.int k' b)=>
   if k=k'∨op=.shl∨op=.shr then
     match op with
     | .add=>some (.pv (.int k (k.wrap (a+b))))
     | .sub=>some (.pv (.int k (k.wrap (a-b))))
     | .mul=>some (.pv (.int k (k.wrap (a*b))))
     | .quo=>if b=0 then none else some (.pv (.int k (k.wrap (a.tdiv b))))
     | .rem=>if b=0 then none else some (.pv (.int k (a.tmod b)))
     | .eql=>some (.pv (.bool (a == b)))
     | .neq=>some (.pv (.bool (a != b)))
     | .lss=>some (.pv (.bool (decide (a<b))))
     | .leq=>some (.pv (.bool (decide (a≤b))))
     | .gtr=>some (.pv (.bool (decide (a > b))))
     | .geq=>some (.pv (.bool (decide (a≥b))))
     | .and=>some (.pv (.int k (k.wrap (BitVec.ofInt k.bits a &&& BitVec.ofInt k.bits b).toNat)))
     | .shl=>if b<0 then none else some (.pv (.int k (k.wrap (a*2 ^ (min b.toNat k.bits)))))
     | .shr=>if b<0 then none else some (.pv (.int k (a.fdiv (2 ^ (min b.toNat k.bits)))))
     | _=>none
   else none
 | .pv (.str a),.pv (.str b)=>
   match op with
   | .add=>if a.length+b.length≤9223372036854775807 then some (.pv (.str (a++b))) else none
   | .eql=>some (.pv (.bool (a == b)))
   | .neq=>some (.pv (.bool (!(a == b))))
   | .lss=>some (.pv (.bool (gf a b)))
   | .gtr=>some (.pv (.bool (!(gf a b || a == b))))
   | .leq=>some (.pv (.bool (gf a b || a == b)))
   | .geq=>some (.pv (.bool (!gf a b)))
   | _=>none
 | _,_=>none
where gf:List UInt8→List UInt8→Bool
 | _,[]=>false
 | [],_::_=>true
 | a::x,b::y=>a<b || (a == b && gf x y)
def Of (op:UnOp):AV→Option AV
 | .pv (.bool b)=>match op with | .not=>some (.pv (.bool !b)) | _=>none
 | .pv (.int k n)=>match op with | .neg=>some (.pv (.int k (k.wrap (0-n)))) | _=>none
 | _=>none
def dY:AV→Option (List PV)
 | .pv (.aD l)=>some l
 | .bD l=>some l
 | .own l _=>some l
 | _=>none
def bI (sz:Nat):List PV→Bool
 | []=>true
 | p::_=>(bz p).length == sz
def bA (cells:List AV) (off:Nat) (vs:List AV):List AV:=cells.take off++vs++cells.drop (off+vs.length)
def ke (cells:List AV):List (Nat×Nat)→List AV→Option (List AV)
 | [],[]=>some cells
 | (off,sz)::ps,v::vs=>
   if (br v).length=sz∧off+sz≤cells.length∧(br v).all bm=true then ke (bA cells off (br v)) ps vs else none
 | _,_=>none
def cf (ag:Bool) (sz:Nat) (cs:List AV) (off:Nat):Option AV:=
 if off+sz≤cs.length then
   if ag then some (.agg ((cs.drop off).take sz))
   else if sz=1 then cs[off]? else none
 else none
def cS (ag:Bool) (sz:Nat) (cs:List PV):Option AV:=
 if sz≤cs.length then
   if ag then some (.pv (.agg (cs.take sz)))
   else if sz=1 then (cs[0]?).map .pv else none
 else none
def ee (lo hi mx:Bool) (n:Nat) (rest:List AV):Option (Int×Int×Option Int):=
 match lo,hi,mx,rest with
 | false,false,false,[]=>some (0,n,none)
 | true,false,false,[.pv (.int _ l)]=>some (l,n,none)
 | false,true,false,[.pv (.int _ h)]=>some (0,h,none)
 | true,true,false,[.pv (.int _ l),.pv (.int _ h)]=>some (l,h,none)
 | false,true,true,[.pv (.int _ h),.pv (.int _ m)]=>some (0,h,some m)
 | true,true,true,[.pv (.int _ l),.pv (.int _ h),.pv (.int _ m)]=>some (l,h,some m)
 | _,_,_,_=>none
def cP (str:Bool) (sz:Nat) (lo hi mx:Bool):List AV→Option AV
 | x::rest=>if str then
     match x with
     | .pv (.str s)=>match ee lo hi mx s.length rest with
       | some (l,h,none)=>if 0≤l∧l≤h∧h≤s.length then some (.pv (.str ((s.take h.toNat).drop l.toNat))) else none
       | _=>none
     | _=>none
   else match dY x with
     | some els=>match ee lo hi mx els.length rest with
       | some (l,h,m)=>if 0≤l∧l≤h∧h≤els.length∧(l=0∨bI sz els=true) then
           match m with
           | some m=>if m=h then some (.bD ((els.take h.toNat).drop l.toNat)) else none
           | none=>some (.pv (.aD ((els.take h.toNat).drop l.toNat)))
         else none
       | none=>none
     | none=>none
 | []=>none
def mN (sz:Nat) (lo hi:Bool):List AV→Option AV
 | .bu b z n ag::rest=>if z=sz then
     match ee lo hi false n rest with
     | some (l,h,none)=>if 0≤l∧l≤h∧h≤n then some (if l=0 then .bu b z h.toNat ag else .lZ b (l.toNat*sz) (h.toNat-l.toNat)) else none
     | _=>none
   else none
 | _=>none
def vq (sz:Nat):AV→Option (Nat×Nat×Nat)
 | .bu b z n _=>if z=sz then some (b,0,n) else none
 | .lZ b off n=>some (b,off,n)
 | _=>none
def qh (sz:Nat) (zero:List PV) (sh:Sh):Option (Nat×Nat×Nat)→Option Sh
 | some (b,off,n)=>match sh[b]? with
   | some (some cells)=>if cR cells=false∧off+n*sz≤cells.length∧zero.length=sz then some (sh.set b (some (bA cells off (List.replicate n (zero.map .pv)).flatten))) else none
   | _=>none
 | none=>none
def bP:FY→List AV→Option AV
 | .mv,[x]=>some x
 | .pick,[.pv (.bool c),a,b]=>some (if c then a else b)
 | .bin op,[a,b]=>dv op a b
 | .beq neg,[.pv (.bool a),.pv (.bool b)]=>some (.pv (.bool (if neg then !(a == b) else (a == b))))
 | .un op,[a]=>Of op a
 | .conv k,[.pv (.int _ n)]=>some (.pv (.int k (k.wrap n)))
 | .ext i,[.lL vs]=>vs[i]?
 | .field off sz ag,[x]=>match x with
   | .agg cs=>cf ag sz cs off
   | .pv (.agg cs)=>cS ag sz (cs.drop off)
   | _=>none
 | .bh off,[x]=>match x with
   | .az d o=>some (.az d (o+off))
   | .a_ b o=>some (.a_ b (o+off))
   | .dz cs=>some (.dz (cs.drop off))
   | _=>none
 | .aC sz,[x,.pv (.int _ i)]=>
   if i<0 then none else
   match x with
   | .bu b sz' n _=>if sz=sz'∧i.toNat<n then some (.a_ b (i.toNat*sz)) else none
   | x=>match dY x with
     | some els=>match els[i.toNat]? with
       | some el=>if (bz el).length=sz then some (.dz (bz el)) else none
       | none=>none
     | none=>none
 | .index,[.pv (.str s),.pv (.int _ i)]=>if i<0 then none else (s[i.toNat]?).map fun b=>.pv (.int .u8 b.toNat)
 | .build zero places,vs=>(ke (zero.map zeroCell) places vs).map .agg
 | .aT sz,vs=>(dd [] vs).bind fun els=>if els.all (fun e=>(bz e).length == sz) then some (.bD els) else none
 | .aK sz ag,[.dz cs]=>cS ag sz cs
 | .slice str sz lo hi mx,vs=>cP str sz lo hi mx vs
 | .qe sz lo hi,vs=>mN sz lo hi vs
 | .jB,[.pv (.str s)]=>some (.pv (.int .i64 s.length))
 | .len,[x]=>match x with
   | .bu _ _ n _=>some (.pv (.int .i64 n))
   | x=>(dY x).map fun l=>.pv (.int .i64 l.length)
 | .a9,[x]=>match x with
   | .az .. | .a_ .. | .dz _ | .fn ..=>some x
   | _=>none
 | .mn,[.pv (.int k x),.pv (.int k' y)]=>if k=k' then some (.pv (.int k (if y<x then y else x))) else none
 | .mx,[.pv (.int k x),.pv (.int k' y)]=>if k=k' then some (.pv (.int k (if y > x then y else x))) else none
 | .CF g,cap=>some (.fn g cap)
 | .MJ cs neg,[x,y]=>match c_ [] x,c_ [] y with
   | some (.agg ps),some (.agg qs)=>(cA cs ps qs).map fun b=>.pv (.bool (if neg then !b else b))
   | _,_=>none
 | _,_=>none
where zeroCell:PV→AV
 | .aD []=>.bD []
 | p=>.pv p
structure Out where
 val:AV
 cells:Option (List AV)
 sh:Sh
 ah:aM
structure eM where
 p:Nat→List PV→Option (List PV)
 i:Nat→List AV→Sh→aM→Option (List AV×Sh×aM)
def pJ:List PV→AV
 | [r]=>.pv r
 | rs=>.lL (rs.map .pv)
def mO:List AV→AV
 | [r]=>r
 | rs=>.lL rs
def iW (v:AV):AV:=match c_ [] v with | some p=>.pv p | none=>v
def AK.key:AK→Option Nat
 | .bl k _ _ _ | .dc k _ _ | .alloc k _ | .box k _=>some k
 | _=>none
def cq (sz bytes:Nat) (s x:AV) (ah:aM):Option (AV×aM):=
 match dY x with
 | none=>none
 | some xs=>if bI sz xs=true then
   match s with
   | .bD l=>if xs.isEmpty=true then some (.bD l,ah) else if bI sz l=true∧(l.length+xs.length)*bytes≤140737488355328 then
       some (.own (l++xs) ah.length,ah++[(l++xs).length]) else none
   | .own l τ=>if ah[τ]?=some l.length∧bI sz l=true∧(l.length+xs.length)*bytes≤140737488355328 then
       some (.own (l++xs) τ,ah.set τ (l++xs).length) else none
   | _=>none
   else none
def yz (sz bytes:Nat) (ag:Bool) (s:AV) (xs:List PV) (sh:Sh):Option (AV×Sh):=
 if xs.isEmpty=true then some (s,sh) else if xs.length*bytes≤140737488355328 then some (.bu sh.length sz xs.length ag,sh++[some ((xs.flatMap bz).map .pv)]) else none
def qi (sz bytes:Nat) (ag:Bool) (s:AV) (xs:List PV) (sh:Sh) (ah:aM):Option (AV×Sh):=
 match s with
 | .bD []=>yz sz bytes ag s xs sh
 | .own [] τ=>if ah[τ]?=some 0 then yz sz bytes ag s xs sh else none
 | .bu b z n g=>match sh[b]? with
   | some (some cells)=>if z=sz∧g=ag∧cR cells=false∧n*sz≤cells.length∧(n+xs.length)*bytes≤140737488355328 then
       if xs.isEmpty=true then some (.bu b sz n ag,sh) else some (.bu sh.length sz (n+xs.length) ag,sh.set b none++[some (cells.take (n*sz)++(xs.flatMap bz).map .pv)])
     else none
   | _=>none
 | _=>none
def dJ (aW ts:aM):AV→AV×aM×aM
 | .own l τ=>if aW[τ]?=some l.length then (.own l ts.length,aW.set τ (l.length+1),ts++[l.length]) else (.pv (.aD l),aW,ts)
 | v=>(v,aW,ts)
def cT (aW ts:aM):List AV→List AV×aM×aM
 | []=>([],aW,ts)
 | v::r=>((dJ aW ts v).1::(cT (dJ aW ts v).2.1 (dJ aW ts v).2.2 r).1,(cT (dJ aW ts v).2.1 (dJ aW ts v).2.2 r).2)
def bS (aW ts:aM):AV→AV×aM×aM
 | .own l τ=>if aW[τ]?=some l.length then (.own l ts.length,aW.set τ (l.length+1),ts++[l.length]) else (.pv (.aD l),aW,ts)
 | .bD l=>(.own l ts.length,aW,ts++[l.length])
 | .agg cs=>if bK.dX cs=true then (.agg cs,aW,ts) else (.agg (cT aW ts cs).1,(cT aW ts cs).2.1,(cT aW ts cs).2.2)
 | v=>(v,aW,ts)
def bL (aW ts:aM):List AV→List AV×aM×aM
 | []=>([],aW,ts)
 | v::r=>((bS aW ts v).1::(bL (bS aW ts v).2.1 (bS aW ts v).2.2 r).1,(bL (bS aW ts v).2.1 (bS aW ts v).2.2 r).2)
def b_ (aW ts:aM):Sh→Sh×aM×aM
 | []=>([],aW,ts)
 | none::r=>(none::(b_ aW ts r).1,(b_ aW ts r).2)
 | some cs::r=>(some (bL aW ts cs).1::(b_ (bL aW ts cs).2.1 (bL aW ts cs).2.2 r).1,(b_ (bL aW ts cs).2.1 (bL aW ts cs).2.2 r).2)
def dh (ah:aM) (xs:List AV) (sh:Sh):List AV×Sh×aM×aM:=
 ((bL ah [] xs).1,(b_ (bL ah [] xs).2.1 (bL ah [] xs).2.2 sh).1,(b_ (bL ah [] xs).2.1 (bL ah [] xs).2.2 sh).2.1,(b_ (bL ah [] xs).2.1 (bL ah [] xs).2.2 sh).2.2)
def gI:AV→Bool
 | .own ..=>true
 | v=>bQ v
def eO:List AV→Bool
 | []=>true
 | v::r=>gI v && eO r
def ca:AV→Bool
 | .own ..=>true
 | .agg cs=>eO cs
 | v=>bQ v
def eP (n:Nat):AV→AV
 | .own l τ=>.own l (τ+n)
 | v=>v
def cI (n:Nat):AV→AV
 | .own l τ=>.own l (τ+n)
 | .agg cs=>if bK.dX cs=true then .agg cs else .agg (cs.map (eP n))
 | v=>v
def fK (n:Nat) (sh:Sh):Sh:=sh.map fun o=>o.map fun cs=>cs.map (cI n)
def eH (own:List Nat):Nat→List AV→List AV
 | _,[]=>[]
 | i,v::r=>(if own.contains i then v else iW v)::eH own (i+1) r
def eA (orc:eM) (g:Nat) (own:List Nat) (vals:List AV) (sh:Sh) (ah:aM):Option (AV×Sh×aM):=
 if (eH own 0 vals).all ca=true then
   (orc.i g (dh ah (eH own 0 vals) sh).1 (dh ah (eH own 0 vals) sh).2.1 (dh ah (eH own 0 vals) sh).2.2.2).map fun (rs,sh',ts)=>
     (mO (rs.map (cI ah.length)),fK ah.length sh',(dh ah (eH own 0 vals) sh).2.2.1++ts)
 else none
def cp (v:AV):List AV:=match v with
 | .bD l=>[.bD l]
 | .own l τ=>[.own l τ]
 | v=>match c_ [] v with | some p=>br (.pv p) | none=>br v
def exec (orc:eM) (op:AK) (vals:List AV) (cells:Option (List AV)) (sh:Sh) (ah:aM):Option Out:=
 match op,vals with
 | .v o,vals=>(bP o vals).map fun x=>⟨x,none,sh,ah⟩
 | .bl key off sz ag,[.az d o]=>if d=key∧o=off then
     match cells with
     | some cs=>(cf ag sz cs off).map fun x=>⟨x,none,sh,ah⟩
     | none=>none
   else none
 | .dc key off sz,[.az d o,v]=>if d=key∧o=off∧(br v).length=sz∧(br v).all bm=true then
     match cells with
     | some cs=>if off+sz≤cs.length then some ⟨.un,some (bA cs off (br v)),sh,ah⟩ else none
     | none=>none
   else none
 | .alloc key zero,[]=>match cells with
   | none=>some ⟨.az key 0,some (zero.map bP.zeroCell),sh,ah⟩
   | some _=>none
 | .box key sz,[v]=>match cells with
   | none=>if (br v).length=sz∧(br v).all bm=true then some ⟨.az key 0,some (br v),sh,ah⟩ else none
   | some _=>none
 | .a6 sz ag,[p]=>match p with
   | .dz cs=>(cS ag sz cs).map fun x=>⟨x,none,sh,ah⟩
   | .a_ b off=>match sh[b]? with
     | some (some cs)=>if cR cs=true then none else (cf ag sz cs off).map fun x=>⟨x,none,sh,ah⟩
     | _=>none
   | _=>none
 | .cz sz,[.a_ b off,v]=>match sh[b]? with
   | some (some cs)=>
     let vs:=cp v
     if cR cs=false∧vs.length=sz∧off+sz≤cs.length∧vs.all d_=true∧vs.all (aS (b+1))=true then
       some ⟨.un,none,sh.set b (some (bA cs off vs)),ah⟩ else none
   | _=>none
 | .l4 sz,[v]=>
   let vs:=cp v
   if vs.length=sz∧vs.all d_=true∧vs.all (aS sh.length)=true then
     some ⟨.a_ sh.length 0,none,sh++[some vs],ah⟩ else none
 | .ia zero,[]=>some ⟨.a_ sh.length 0,none,sh++[some (zero.map bP.zeroCell)],ah⟩
 | .jm sz bytes ag zero,[.pv (.int _ n),.pv (.int _ n')]=>
   if n=n'∧0≤n∧n≤9223372036854775807∧n*bytes≤140737488355328∧zero.length=sz then
     some ⟨.bu sh.length sz n.toNat ag,none,sh++[some ((List.replicate n.toNat (zero.map .pv)).flatten)],ah⟩ else none
 | .append sz bytes,[s,x]=>(cq sz bytes s x ah).map fun (v,ts)=>⟨v,none,sh,ts⟩
 | .cZ sz bytes ag,[s,x]=>match dY x with
   | some xs=>if bI sz xs=true then (qi sz bytes ag s xs sh ah).map fun (v,sh')=>⟨v,none,sh',ah⟩ else none
   | none=>none
 | .clone sz bytes,[x]=>(cq sz bytes (.bD []) x ah).map fun (v,ts)=>⟨v,none,sh,ts⟩
 | .ib sz zero,[x]=>(qh sz zero sh (vq sz x)).map fun sh'=>⟨.lL [],none,sh',ah⟩
 | .ko,[]=>some ⟨.cv sh.length,none,sh++[some [.du []]],ah⟩
 | .iB c ok zero,[m,k]=>match m,k with
   | .cv s,.pv k=>match sh[s]? with
     | some (some [.du kvs])=>(ic c kvs k).map fun r=>⟨il ok zero r,none,sh,ah⟩
     | _=>none
   | _,_=>none
 | .mM c,[m,k,v]=>match m,k with
   | .cv s,.pv k=>match sh[s]?,c_ [] v with
     | some (some [.du kvs]),some p=>(iV c kvs k p).map fun kvs'=>⟨.un,none,sh.set s (some [.du kvs']),ah⟩
     | _,_=>none
   | _,_=>none
 | .aA g,vals=>match dd [] vals with
   | some dE=>(orc.p g dE).map fun rs=>⟨pJ rs,none,sh,ah⟩
   | none=>none
 | .dG g,vals=>match dd sh vals with
   | some dE=>(orc.p g dE).map fun rs=>⟨pJ rs,none,ep sh vals,ah⟩
   | none=>none
 | .aL g own,vals=>(eA orc g own vals sh ah).map fun (v,sh',ts)=>⟨v,none,sh',ts⟩
 | .jn g,vals=>match dd [] vals with
   | some dE=>match orc.i g (dE.map .pv) [] [] with
     | some (rs,[],ts)=>some ⟨mO (rs.map (cI ah.length)),none,sh,ah++ts⟩
     | _=>none
   | none=>none
 | .ff,f::vals=>match f with
   | .fn g cap=>(eA orc g [] (vals++cap) sh ah).map fun (v,sh',ts)=>⟨v,none,sh',ts⟩
   | _=>none
 | _,_=>none
def gJ (env:List (Nat×AV)):eL→Option AV
 | .t n=>look env n
 | .c v=>some v
def d5 (env:List (Nat×AV)):List eL→Option (List AV)
 | []=>some []
 | x::r=>match gJ env x,d5 env r with
   | some v,some vs=>some (v::vs)
   | _,_=>none
def eY (env:List (Nat×AV)):Option (Nat×Bool)→Option Bool
 | none=>some true
 | some (t,b)=>match look env t with
   | some (.pv (.bool c))=>some (c == b)
   | some .un=>some false
   | _=>none
def gg (env:List (Nat×AV)):Option Nat→AV→List (Nat×AV)
 | some d,v=>dL env d v
 | none,_=>env
def fp (mem:List (Nat×List AV)):Option Nat→Option (List AV)→List (Nat×List AV)
 | some k,some cs=>dL mem k cs
 | _,_=>mem
def eB (orc:eM) (o:d4) (st:St):Option St:=
 match eY st.env o.guard with
 | none=>none
 | some false=>some { st with env:=gg st.env o.dst .un }
 | some true=>
   match d5 st.env o.args with
   | none=>none
   | some vals=>
     match exec orc o.op vals (o.op.key.bind (look st.mem)) st.sh st.ah with
     | none=>none
     | some out=>some { env:=gg st.env o.dst out.val,mem:=fp st.mem o.op.key out.cells,sh:=out.sh,ah:=out.ah }
def bW (orc:eM):List d4→St→Option St
 | [],st=>some st
 | o::r,st=>match eB orc o st with
   | none=>none
   | some st'=>bW orc r st'
def eo (live:List Nat):AV→Bool
 | .az d _=>live.contains d
 | .own ..=>true
 | .agg cs=>fJ cs
 | v=>bK v
def bX (live:List Nat) (env:List (Nat×AV)):List Nat→List (Nat×AV)
 | []=>[]
 | t::r=>match look env t with
   | some v=>if eo live v=true then (t,v)::bX live env r else bX live env r
   | none=>bX live env r
def bY (mem:List (Nat×List AV)):List Nat→List (Nat×List AV)
 | []=>[]
 | t::r=>match look mem t with
   | some v=>(t,v)::bY mem r
   | none=>bY mem r
def restrict (live:List Nat) (st:St):St:=
 { st with env:=bX live st.env live,mem:=bY st.mem live }
def dB (aW ts:aM):List (Nat×AV)→List (Nat×AV)×aM×aM
 | []=>([],aW,ts)
 | (t,v)::r=>((t,(bS aW ts v).1)::(dB (bS aW ts v).2.1 (bS aW ts v).2.2 r).1,(dB (bS aW ts v).2.1 (bS aW ts v).2.2 r).2)
def eQ (aW ts:aM):List (Nat×List AV)→List (Nat×List AV)×aM×aM
 | []=>([],aW,ts)
 | (t,v)::r=>((t,(bL aW ts v).1)::(eQ (bL aW ts v).2.1 (bL aW ts v).2.2 r).1,(eQ (bL aW ts v).2.1 (bL aW ts v).2.2 r).2)
def norm (st:St):St:=
 { env:=(dB st.ah [] st.env).1,
   mem:=(eQ (dB st.ah [] st.env).2.1 (dB st.ah [] st.env).2.2 st.mem).1,
   sh:=(b_ (eQ (dB st.ah [] st.env).2.1 (dB st.ah [] st.env).2.2 st.mem).2.1 (eQ (dB st.ah [] st.env).2.1 (dB st.ah [] st.env).2.2 st.mem).2.2 st.sh).1,
   ah:=(b_ (eQ (dB st.ah [] st.env).2.1 (dB st.ah [] st.env).2.2 st.mem).2.1 (eQ (dB st.ah [] st.env).2.1 (dB st.ah [] st.env).2.2 st.mem).2.2 st.sh).2.2 }
inductive bf where
 | normal | ret | exit (id:Nat)
 deriving Inhabited,DecidableEq
def eR (f:St→Option (bf×St)) (pre:St→St):Nat→St→Option (bf×St)
 | 0,_=>none
 | n+1,st=>match f (pre st) with
   | some (.normal,st')=>eR f pre n st'
   | r=>r
def rX (sz:Nat) (ag:Bool) (el:PV):Option AV:=if (bz el).length=sz then cS ag sz (bz el) else none
def iC (f:St→Option (bf×St)) (live:List Nat) (pi px sz:Nat) (ag:Bool) (env:List (Nat×AV)):List (PV×Nat)→St→Option (bf×St)
 | [],st=>some (.normal,{ st with env:=env })
 | (el,i)::r,st=>match rX sz ag el with
   | none=>none
   | some v=>match f (norm (restrict live { st with env:=dL (dL env pi (.pv (.int .i64 i))) px v })) with
     | some (.normal,st')=>iC f live pi px sz ag env r st'
     | some (e,st')=>some (e,{ st' with env:=env })
     | none=>none
def andThen (f g:St→Option (bf×St)) (st:St):Option (bf×St):=match f st with
 | some (.normal,st')=>g st'
 | _=>none
def lb (live:List Nat) (env:List (Nat×AV)):List (Nat×AV):=(bX live env live).filter fun p=>bK p.2
def iD (f:St→Option (bf×St)) (v:Option AV) (gb pi px sz:Nat) (ag:Bool) (live:List Nat) (st:St):Option (bf×St):=
 match v with
 | some (.fn g [.a_ s 0])=>if g=gb then
     match st.sh[s]? with
     | some (some [.pv (.aD l)])=>if l.length<4611686018427387904 then iC f live pi px sz ag (lb live st.env) l.zipIdx.reverse { st with sh:=kill st.sh [s] } else none
     | _=>none
   else none
 | _=>none
def yA:AV→St→St
 | .az d 0,st=>match look st.mem d with
   | some cs=>match en st.sh cs with
     | some ps=>{ st with mem:=dL st.mem d (ps.map .pv),sh:=ep st.sh [.agg cs] }
     | none=>st
   | none=>st
 | _,st=>st
def kp:List Nat→St→St
 | [],st=>st
 | t::r,st=>match look st.env t with
   | some v=>match c_ st.sh v with
     | some p=>kp r { st with env:=dL st.env t (.pv p),sh:=ep st.sh [v] }
     | none=>kp r (yA v st)
   | none=>kp r st
def dF (orc:eM) (k:Nat):aw→St→Option (bf×St)
 | .skip,st=>some (.normal,st)
 | .ae ops live,st=>match bW orc ops st with
   | some st'=>some (.normal,restrict live st')
   | none=>none
 | .seq a b,st=>match dF orc k a st with
   | some (.normal,st')=>dF orc k b st'
   | r=>r
 | .cond c a b,st=>match gJ st.env c with
   | some (.pv (.bool t))=>if t then dF orc k a st else dF orc k b st
   | _=>none
 | .block id b,st=>match dF orc k b st with
   | some (.exit id',st')=>if id'=id then some (.normal,st') else some (.exit id',st')
   | r=>r
 | .loop live b,st=>eR (dF orc k b) (fun s=>norm (restrict live s)) k st
 | .exit id,st=>some (.exit id,st)
 | .ret,st=>some (.ret,st)
 | .back c gb pi px sz ag live x y,st=>iD (andThen (dF orc k x) (dF orc k y)) (gJ st.env c) gb pi px sz ag live st
 | .c_ ts,st=>some (.normal,kp ts st)
def cD:Nat→List AV→List (Nat×AV)
 | _,[]=>[]
 | i,v::r=>(i,v)::cD (i+1) r
def oK (st:St):qf→Option AV
 | .t n=>look st.env n
 | .c key sz ag=>match look st.env key with
   | some (.az d 0)=>match look st.mem key with
     | some cs=>if d=key then cf ag sz cs 0 else none
     | none=>none
   | some (.a_ s 0)=>match st.sh[s]? with
     | some (some cs)=>if cR cs=true then none else cf ag sz cs 0
     | _=>none
   | _=>none
def eg (st:St):List qf→Option (List AV)
 | []=>some []
 | r::rs=>match oK st r,eg st rs with
   | some v,some vs=>some (v::vs)
   | _,_=>none
def qj (sh:Sh) (v:AV):AV:=match c_ sh v with | some p=>.pv p | none=>v
def l5 (sh:Sh) (v:AV):AV:=match v with
 | .bD l=>.bD l
 | v=>if bm v=true then qj sh v else v
def nP (sh:Sh) (v:AV):AV:=match v with
 | .bD l=>.bD l
 | .own l τ=>.own l τ
 | .agg cs=>.agg (cs.map (l5 sh))
 | v=>qj sh v
def cL (bg ks:Bool) (sh:Sh) (vs:List AV):List AV:=if bg then (if ks then vs else vs.map (nP sh)) else vs.map (qj sh)
def eJ (bg ks:Bool) (sh:Sh) (vs:List AV):Sh:=if bg && ks then sh else ep sh vs
def cE (orc:eM) (k:Nat) (bg:Bool) (af:aJ) (args:List AV) (sh:Sh) (ts:aM):Option (List AV×Sh×aM):=
 match dF orc k af.body { env:=cD 0 args,mem:=[],sh,ah:=ts } with
 | some (e,st)=>
   if e=.ret∨e=.normal then
     match eg st af.results with
     | some vs=>
       let rs:=cL bg af.ks st.sh vs
       let sh':=if rs.all (aS sh.length)=true then (eJ bg af.ks st.sh vs).take sh.length else eJ bg af.ks st.sh vs
       if rs.all ca=true then some ((dh st.ah rs sh').1,(dh st.ah rs sh').2.1,(dh st.ah rs sh').2.2.2) else none
     | none=>none
   else none
 | none=>none
def fq:List AV→Option (List PV)
 | []=>some []
 | .pv p::r=>(fq r).map (p::·)
 | _=>none
def run (AP:Nat→Option aJ) (k:Nat):Nat→eM
 | 0=>{ p:=fun _ _=>none,i:=fun _ _ _ _=>none }
 | n+1=>
   { p:=fun g dE=>match AP g with
       | some af=>match af.qg with
         | some f=>f dE
         | none=>if dE.length=af.nparams∧dE.length≤af.ntmps then
             match cE (run AP k n) k false af (dE.map .pv) [] [] with
             | some (rs,_)=>fq rs
             | none=>none
           else none
       | none=>none
     i:=fun g args sh ts=>match AP g with
       | some af=>if args.length≤af.ntmps then cE (run AP k n) k true af args sh ts else none
       | none=>none }
end Go.Ab
