import GoSem.Core.Value
import GoSem.Core.Ast
import GoSem.Core.View
/-
  The abstract machine: pure data, abstract values, slim code, and an evaluator with fuel. Nothing here mentions a program.
-/
set_option linter.unusedVariables false
set_option linter.unusedSimpArgs false
set_option maxRecDepth 100000
set_option maxHeartbeats 8000000
namespace Go.Ab
inductive PV where
 | bool (b:Bool)
 | int (k:IntKind) (n:Int)
 | str (s:List UInt8)
 | agg (cs:List PV)
 | aD (els:List PV)
 deriving Inhabited
inductive AV where
 | un
 | pv (p:PV)
 | bB (els:List PV)
 | own (els:List PV) (tok:Nat)
 | agg (cs:List AV)
 | lI (vs:List AV)
 | az (d off:Nat)
 | aX (b off:Nat)
 | dm (cs:List PV)
 | bq (b sz len:Nat) (ag:Bool)
 | fn (g:Nat) (cap:List AV)
 | dk
 | cp (s:Nat)
 | dj (kvs:List (PV×PV))
 | lH (b off n:Nat)
 deriving Inhabited
abbrev Sh:=List (Option (List AV))
abbrev aL:=List Nat
inductive eH where
 | t (n:Nat)
 | c (v:AV)
 deriving Inhabited
inductive CK where
 | int | str | bool
 deriving Inhabited,DecidableEq
inductive Gc where
 | mv | pick
 | bin (op:BinOp)
 | beq (neg:Bool)
 | un (op:UnOp)
 | conv (k:IntKind)
 | ext (i:Nat)
 | field (off sz:Nat) (ag:Bool)
 | bh (off:Nat)
 | aE (sz:Nat)
 | index
 | build (zero:List PV) (places:List (Nat×Nat))
 | aT (sz:Nat)
 | aN (sz:Nat) (ag:Bool)
 | slice (str:Bool) (sz:Nat) (lo hi mx:Bool)
 | len | jx | aY
 | mn | mx
 | CG (g:Nat)
 | Oy (cs:List CK) (neg:Bool)
 | p6 (sz:Nat) (lo hi:Bool)
 deriving Inhabited
inductive AK where
 | v (o:Gc)
 | bj (key off sz:Nat) (ag:Bool)
 | cT (key off sz:Nat)
 | alloc (key:Nat) (zero:List PV)
 | box (key sz:Nat)
 | aZ (sz:Nat) (ag:Bool)
 | cU (sz:Nat)
 | lS (sz:Nat)
 | hH (zero:List PV)
 | jg (sz bytes:Nat) (ag:Bool) (zero:List PV)
 | append (sz bytes:Nat)
 | c_ (sz bytes:Nat) (ag:Bool)
 | ki
 | ix (c:CK) (ok:Bool) (zero:PV)
 | mC (c:CK)
 | clone (sz bytes:Nat)
 | fR (sz:Nat) (zero:List PV)
 | aB (g:Nat)
 | dW (g:Nat)
 | aI (g:Nat) (own:List Nat)
 | jh (g:Nat)
 | eK
 deriving Inhabited
structure dV where
 dst:Option Nat
 guard:Option (Nat×Bool)
 args:List eH
 op:AK
 deriving Inhabited
inductive aw where
 | skip
 | ae (ops:List dV) (live:List Nat)
 | seq (a b:aw)
 | cond (c:eH) (a b:aw)
 | block (id:Nat) (b:aw)
 | loop (live:List Nat) (b:aw)
 | exit (id:Nat)
 | ret
 | back (f:eH) (gb pi px sz:Nat) (ag:Bool) (live:List Nat) (x y:aw)
 | de (ts:List Nat)
 deriving Inhabited
inductive p7 where
 | t (n:Nat)
 | c (key sz:Nat) (ag:Bool)
 deriving Inhabited
structure aH where
 nparams:Nat
 ntmps:Nat
 results:List p7
 body:aw
 p8:Option (List PV→Option (List PV)):=none
 ks:Bool:=false
 deriving Inhabited
def look {α:Type}:List (Nat×α)→Nat→Option α
 | [],_=>none
 | (k,v)::r,t=>if k=t then some v else look r t
def dC {α:Type}:List (Nat×α)→Nat→α→List (Nat×α)
 | [],t,u=>[(t,u)]
 | (k,v)::r,t,u=>if k=t then (k,u)::r else (k,v)::dC r t u
structure St where
 env:List (Nat×AV)
 mem:List (Nat×List AV)
 sh:Sh
 ah:aL
 deriving Inhabited
def bw:PV→List PV
 | .agg cs=>cs
 | p=>[p]
def bn:AV→List AV
 | .agg cs=>cs
 | .pv (.agg cs)=>cs.map .pv
 | v=>[v]
def bO:AV→Bool
 | .pv _ | .bB _ | .aX .. | .bq .. | .dk | .cp _ | .dj _=>true
 | .fn _ cap=>gD cap
 | .agg cs=>gD cs
 | _=>false
where gD:List AV→Bool
 | []=>true
 | v::r=>bO v && gD r
def bf:AV→Bool
 | .pv (.agg _)=>false
 | .pv _ | .bB _ | .aX .. | .bq .. | .dk | .cp _ | .dj _=>true
 | .fn g cap=>bO (.fn g cap)
 | .own ..=>true
 | _=>false
def d4 (v:AV):Bool:=bf v
def bE:AV→Bool
 | .own .. | .az ..=>false
 | .agg cs=>dQ cs
 | .lI cs=>dQ cs
 | .fn _ cap=>dQ cap
 | _=>true
where dQ:List AV→Bool
 | []=>true
 | v::r=>bE v && dQ r
def gE:AV→Bool
 | .own ..=>true
 | v=>bE v
def fF:List AV→Bool
 | []=>true
 | v::r=>gE v && fF r
def ji:AV→Option PV
 | .pv p=>some p
 | .bB l=>some (.aD l)
 | .own l _=>some (.aD l)
 | _=>none
def ib:PV→Bool
 | .agg _=>false
 | _=>true
def chunk (sz:Nat):Nat→List PV→List (List PV)
 | 0,_=>[]
 | n+1,l=>l.take sz::chunk sz n (l.drop sz)
def eL:List AV→Option (List PV)
 | []=>some []
 | v::r=>match ji v,eL r with
   | some p,some ps=>some (p::ps)
   | _,_=>none
def eA (sz:Nat) (ag:Bool) (n:Nat) (cells:List PV):Option (List PV):=
 if ag then some ((chunk sz n cells).map .agg)
 else if sz=1 then some cells else none
def cQ:List AV→Bool
 | .dj _::_=>true
 | _=>false
def da (sh:Sh):AV→Option PV
 | .bq b sz n ag=>match sh[b]? with
   | some (some cells)=>if cells.length=n*sz then ((eL cells).bind (eA sz ag n)).map .aD
     else if cQ cells=false∧n*sz≤cells.length then ((eL (cells.take (n*sz))).bind (eA sz ag n)).map .aD else none
   | _=>none
 | v=>ji v
def d8 (sh:Sh):List AV→Option (List PV)
 | []=>some []
 | v::r=>if bf v=true then
     match da sh v,d8 sh r with
     | some p,some ps=>some (p::ps)
     | _,_=>none
   else none
def de (sh:Sh):AV→Option PV
 | .agg cs=>(d8 sh cs).map .agg
 | v=>da sh v
def cV (sh:Sh):List AV→Option (List PV)
 | []=>some []
 | v::r=>match de sh v,cV sh r with
   | some p,some ps=>some (p::ps)
   | _,_=>none
def ff:AV→List Nat
 | .bq b _ _ _=>[b]
 | .agg cs=>cs.flatMap fun | .bq b _ _ _=>[b] | _=>[]
 | _=>[]
def kill (sh:Sh) (l:List Nat):Sh:=l.foldl (fun s b=>s.set b none) sh
def d_ (sh:Sh) (vs:List AV):Sh:=kill sh (vs.flatMap ff)
def aR (n:Nat):AV→Bool
 | .un | .pv _ | .bB _ | .own .. | .dk | .dm _ | .dj _=>true
 | .aX b _ | .bq b _ _ _ | .cp b=>decide (b<n)
 | .fn _ cap=>cH n cap
 | .agg cs=>cH n cs
 | _=>false
where cH (n:Nat):List AV→Bool
 | []=>true
 | v::r=>aR n v && cH n r
def mD:CK→PV→PV→Option Bool
 | .int,.int k a,.int k' b=>if k=k' then some (a == b) else none
 | .str,.str a,.str b=>some (a == b)
 | .bool,.bool a,.bool b=>some (a == b)
 | _,_,_=>none
def dR:List CK→List PV→List PV→Option Bool
 | [],[],[]=>some true
 | c::cs,p::ps,q::qs=>match mD c p q with
   | some true=>dR cs ps qs
   | some false=>if ps.length=cs.length∧qs.length=cs.length then some false else none
   | none=>none
 | _,_,_=>none
def hU (c:CK):List (PV×PV)→PV→Option (Option PV)
 | [],_=>some none
 | (k',v)::r,k=>match mD c k k' with
   | some true=>some (some v)
   | some false=>hU c r k
   | none=>none
def iQ (c:CK):List (PV×PV)→PV→PV→Option (List (PV×PV))
 | [],k,p=>some [(k,p)]
 | (k',v)::r,k,p=>match mD c k k' with
   | some true=>some ((k,p)::r)
   | some false=>(iQ c r k p).map ((k',v)::·)
   | none=>none
def ie (ok:Bool) (zero:PV) (r:Option PV):AV:=if ok then .lI [.pv (r.getD zero),.pv (.bool r.isSome)] else .pv (r.getD zero)
def df (op:BinOp):AV→AV→Option AV
 | .pv (.int k a),.pv (.int k' b)=>
   if k=k'∨op=.shl∨op=.shr then
     match op with
     | .add=>some (.pv (.int k (k.wrap (a+b))))
     | .sub=>some (.pv (.int k (k.wrap (a-b))))
     | .mul=>some (.pv (.int k (k.wrap (a*b))))
     | .quo=>if b=0 then none else some (.pv (.int k (k.wrap (a.tdiv b))))
     | .rem=>if b=0 then none else some (.pv (.int k (a.tmod b)))
     | .eql=>some (.pv (.bool (a == b)))
     | .neq=>some (.pv (.bool (a != b)))
     | .lss=>some (.pv (.bool (decide (a<b))))
     | .leq=>some (.pv (.bool (decide (a≤b))))
     | .gtr=>some (.pv (.bool (decide (a > b))))
     | .geq=>some (.pv (.bool (decide (a≥b))))
     | .and=>some (.pv (.int k (k.wrap (BitVec.ofInt k.bits a &&& BitVec.ofInt k.bits b).toNat)))
     | .shl=>if b<0 then none else some (.pv (.int k (k.wrap (a*2 ^ (min b.toNat k.bits)))))
     | .shr=>if b<0 then none else some (.pv (.int k (a.fdiv (2 ^ (min b.toNat k.bits)))))
     | _=>none
   else none
 | .pv (.str a),.pv (.str b)=>
   match op with
   | .add=>if a.length+b.length≤9223372036854775807 then some (.pv (.str (a++b))) else none
   | .eql=>some (.pv (.bool (a == b)))
   | .neq=>some (.pv (.bool (!(a == b))))
   | .lss=>some (.pv (.bool (fU a b)))
   | .gtr=>some (.pv (.bool (!(fU a b || a == b))))
   | .leq=>some (.pv (.bool (fU a b || a == b)))
   | .geq=>some (.pv (.bool (!fU a b)))
   | _=>none
 | _,_=>none
where fU:List UInt8→List UInt8→Bool
 | _,[]=>false
 | [],_::_=>true
 | a::x,b::y=>a<b || (a == b && fU x y)
def Oz (op:UnOp):AV→Option AV
 | .pv (.bool b)=>match op with | .not=>some (.pv (.bool !b)) | _=>none
 | .pv (.int k n)=>match op with | .neg=>some (.pv (.int k (k.wrap (0-n)))) | _=>none
 | _=>none
def dS:AV→Option (List PV)
 | .pv (.aD l)=>some l
 | .bB l=>some l
 | .own l _=>some l
 | _=>none
def bH (sz:Nat):List PV→Bool
 | []=>true
 | p::_=>(bw p).length == sz
def bu (cells:List AV) (off:Nat) (vs:List AV):List AV:=cells.take off++vs++cells.drop (off+vs.length)
def j8 (cells:List AV):List (Nat×Nat)→List AV→Option (List AV)
 | [],[]=>some cells
 | (off,sz)::ps,v::vs=>
   if (bn v).length=sz∧off+sz≤cells.length∧(bn v).all bf=true then j8 (bu cells off (bn v)) ps vs else none
 | _,_=>none
def b_ (ag:Bool) (sz:Nat) (cs:List AV) (off:Nat):Option AV:=
 if off+sz≤cs.length then
   if ag then some (.agg ((cs.drop off).take sz))
   else if sz=1 then cs[off]? else none
 else none
def cK (ag:Bool) (sz:Nat) (cs:List PV):Option AV:=
 if sz≤cs.length then
   if ag then some (.pv (.agg (cs.take sz)))
   else if sz=1 then (cs[0]?).map .pv else none
 else none
def dG (lo hi mx:Bool) (n:Nat) (rest:List AV):Option (Int×Int×Option Int):=
 match lo,hi,mx,rest with
 | false,false,false,[]=>some (0,n,none)
 | true,false,false,[.pv (.int _ l)]=>some (l,n,none)
 | false,true,false,[.pv (.int _ h)]=>some (0,h,none)
 | true,true,false,[.pv (.int _ l),.pv (.int _ h)]=>some (l,h,none)
 | false,true,true,[.pv (.int _ h),.pv (.int _ m)]=>some (0,h,some m)
 | true,true,true,[.pv (.int _ l),.pv (.int _ h),.pv (.int _ m)]=>some (l,h,some m)
 | _,_,_,_=>none
def cI (str:Bool) (sz:Nat) (lo hi mx:Bool):List AV→Option AV
 | x::rest=>if str then
     match x with
     | .pv (.str s)=>match dG lo hi mx s.length rest with
       | some (l,h,none)=>if 0≤l∧l≤h∧h≤s.length then some (.pv (.str ((s.take h.toNat).drop l.toNat))) else none
       | _=>none
     | _=>none
   else match dS x with
     | some els=>match dG lo hi mx els.length rest with
       | some (l,h,m)=>if 0≤l∧l≤h∧h≤els.length∧(l=0∨bH sz els=true) then
           match m with
           | some m=>if m=h then some (.bB ((els.take h.toNat).drop l.toNat)) else none
           | none=>some (.pv (.aD ((els.take h.toNat).drop l.toNat)))
         else none
       | none=>none
     | none=>none
 | []=>none
def jj (sz:Nat) (lo hi:Bool):List AV→Option AV
 | .bq b z n ag::rest=>if z=sz then
     match dG lo hi false n rest with
     | some (l,h,none)=>if 0≤l∧l≤h∧h≤n then some (if l=0 then .bq b z h.toNat ag else .lH b (l.toNat*sz) (h.toNat-l.toNat)) else none
     | _=>none
   else none
 | _=>none
def p9 (sz:Nat):AV→Option (Nat×Nat×Nat)
 | .bq b z n _=>if z=sz then some (b,0,n) else none
 | .lH b off n=>some (b,off,n)
 | _=>none
def lT (sz:Nat) (zero:List PV) (sh:Sh):Option (Nat×Nat×Nat)→Option Sh
 | some (b,off,n)=>match sh[b]? with
   | some (some cells)=>if cQ cells=false∧off+n*sz≤cells.length∧zero.length=sz then some (sh.set b (some (bu cells off (List.replicate n (zero.map .pv)).flatten))) else none
   | _=>none
 | none=>none
def bM:Gc→List AV→Option AV
 | .mv,[x]=>some x
 | .pick,[.pv (.bool c),a,b]=>some (if c then a else b)
 | .bin op,[a,b]=>df op a b
 | .beq neg,[.pv (.bool a),.pv (.bool b)]=>some (.pv (.bool (if neg then !(a == b) else (a == b))))
 | .un op,[a]=>Oz op a
 | .conv k,[.pv (.int _ n)]=>some (.pv (.int k (k.wrap n)))
 | .ext i,[.lI vs]=>vs[i]?
 | .field off sz ag,[x]=>match x with
   | .agg cs=>b_ ag sz cs off
   | .pv (.agg cs)=>cK ag sz (cs.drop off)
   | _=>none
 | .bh off,[x]=>match x with
   | .az d o=>some (.az d (o+off))
   | .aX b o=>some (.aX b (o+off))
   | .dm cs=>some (.dm (cs.drop off))
   | _=>none
 | .aE sz,[x,.pv (.int _ i)]=>
   if i<0 then none else
   match x with
   | .bq b sz' n _=>if sz=sz'∧i.toNat<n then some (.aX b (i.toNat*sz)) else none
   | x=>match dS x with
     | some els=>match els[i.toNat]? with
       | some el=>if (bw el).length=sz then some (.dm (bw el)) else none
       | none=>none
     | none=>none
 | .index,[.pv (.str s),.pv (.int _ i)]=>if i<0 then none else (s[i.toNat]?).map fun b=>.pv (.int .u8 b.toNat)
 | .build zero places,vs=>(j8 (zero.map zeroCell) places vs).map .agg
 | .aT sz,vs=>(cV [] vs).bind fun els=>if els.all (fun e=>(bw e).length == sz) then some (.bB els) else none
 | .aN sz ag,[.dm cs]=>cK ag sz cs
 | .slice str sz lo hi mx,vs=>cI str sz lo hi mx vs
 | .p6 sz lo hi,vs=>jj sz lo hi vs
 | .jx,[.pv (.str s)]=>some (.pv (.int .i64 s.length))
 | .len,[x]=>match x with
   | .bq _ _ n _=>some (.pv (.int .i64 n))
   | x=>(dS x).map fun l=>.pv (.int .i64 l.length)
 | .aY,[x]=>match x with
   | .az .. | .aX .. | .dm _ | .fn ..=>some x
   | _=>none
 | .mn,[.pv (.int k x),.pv (.int k' y)]=>if k=k' then some (.pv (.int k (if y<x then y else x))) else none
 | .mx,[.pv (.int k x),.pv (.int k' y)]=>if k=k' then some (.pv (.int k (if y > x then y else x))) else none
 | .CG g,cap=>some (.fn g cap)
 | .Oy cs neg,[x,y]=>match de [] x,de [] y with
   | some (.agg ps),some (.agg qs)=>(dR cs ps qs).map fun b=>.pv (.bool (if neg then !b else b))
   | _,_=>none
 | _,_=>none
where zeroCell:PV→AV
 | .aD []=>.bB []
 | p=>.pv p
structure Out where
 val:AV
 cells:Option (List AV)
 sh:Sh
 ah:aL
structure eI where
 p:Nat→List PV→Option (List PV)
 i:Nat→List AV→Sh→aL→Option (List AV×Sh×aL)
def pw:List PV→AV
 | [r]=>.pv r
 | rs=>.lI (rs.map .pv)
def mE:List AV→AV
 | [r]=>r
 | rs=>.lI rs
def iR (v:AV):AV:=match de [] v with | some p=>.pv p | none=>v
def AK.key:AK→Option Nat
 | .bj k _ _ _ | .cT k _ _ | .alloc k _ | .box k _=>some k
 | _=>none
def cg (sz bytes:Nat) (s x:AV) (ah:aL):Option (AV×aL):=
 match dS x with
 | none=>none
 | some xs=>if bH sz xs=true then
   match s with
   | .bB l=>if xs.isEmpty=true then some (.bB l,ah) else if bH sz l=true∧(l.length+xs.length)*bytes≤140737488355328 then
       some (.own (l++xs) ah.length,ah++[(l++xs).length]) else none
   | .own l τ=>if ah[τ]?=some l.length∧bH sz l=true∧(l.length+xs.length)*bytes≤140737488355328 then
       some (.own (l++xs) τ,ah.set τ (l++xs).length) else none
   | _=>none
   else none
def yu (sz bytes:Nat) (ag:Bool) (s:AV) (xs:List PV) (sh:Sh):Option (AV×Sh):=
 if xs.isEmpty=true then some (s,sh) else if xs.length*bytes≤140737488355328 then some (.bq sh.length sz xs.length ag,sh++[some ((xs.flatMap bw).map .pv)]) else none
def p_ (sz bytes:Nat) (ag:Bool) (s:AV) (xs:List PV) (sh:Sh) (ah:aL):Option (AV×Sh):=
 match s with
 | .bB []=>yu sz bytes ag s xs sh
 | .own [] τ=>if ah[τ]?=some 0 then yu sz bytes ag s xs sh else none
 | .bq b z n g=>match sh[b]? with
   | some (some cells)=>if z=sz∧g=ag∧cQ cells=false∧n*sz≤cells.length∧(n+xs.length)*bytes≤140737488355328 then
       if xs.isEmpty=true then some (.bq b sz n ag,sh) else some (.bq sh.length sz (n+xs.length) ag,sh.set b none++[some (cells.take (n*sz)++(xs.flatMap bw).map .pv)])
     else none
   | _=>none
 | _=>none
def dz (aQ ts:aL):AV→AV×aL×aL
 | .own l τ=>if aQ[τ]?=some l.length then (.own l ts.length,aQ.set τ (l.length+1),ts++[l.length]) else (.pv (.aD l),aQ,ts)
 | v=>(v,aQ,ts)
def cL (aQ ts:aL):List AV→List AV×aL×aL
 | []=>([],aQ,ts)
 | v::r=>((dz aQ ts v).1::(cL (dz aQ ts v).2.1 (dz aQ ts v).2.2 r).1,(cL (dz aQ ts v).2.1 (dz aQ ts v).2.2 r).2)
def bP (aQ ts:aL):AV→AV×aL×aL
 | .own l τ=>if aQ[τ]?=some l.length then (.own l ts.length,aQ.set τ (l.length+1),ts++[l.length]) else (.pv (.aD l),aQ,ts)
 | .bB l=>(.own l ts.length,aQ,ts++[l.length])
 | .agg cs=>if bE.dQ cs=true then (.agg cs,aQ,ts) else (.agg (cL aQ ts cs).1,(cL aQ ts cs).2.1,(cL aQ ts cs).2.2)
 | v=>(v,aQ,ts)
def bz (aQ ts:aL):List AV→List AV×aL×aL
 | []=>([],aQ,ts)
 | v::r=>((bP aQ ts v).1::(bz (bP aQ ts v).2.1 (bP aQ ts v).2.2 r).1,(bz (bP aQ ts v).2.1 (bP aQ ts v).2.2 r).2)
def bC (aQ ts:aL):Sh→Sh×aL×aL
 | []=>([],aQ,ts)
 | none::r=>(none::(bC aQ ts r).1,(bC aQ ts r).2)
 | some cs::r=>(some (bz aQ ts cs).1::(bC (bz aQ ts cs).2.1 (bz aQ ts cs).2.2 r).1,(bC (bz aQ ts cs).2.1 (bz aQ ts cs).2.2 r).2)
def cZ (ah:aL) (xs:List AV) (sh:Sh):List AV×Sh×aL×aL:=
 ((bz ah [] xs).1,(bC (bz ah [] xs).2.1 (bz ah [] xs).2.2 sh).1,(bC (bz ah [] xs).2.1 (bz ah [] xs).2.2 sh).2.1,(bC (bz ah [] xs).2.1 (bz ah [] xs).2.2 sh).2.2)
def gF:AV→Bool
 | .own ..=>true
 | v=>bO v
def eM:List AV→Bool
 | []=>true
 | v::r=>gF v && eM r
def bX:AV→Bool
 | .own ..=>true
 | .agg cs=>eM cs
 | v=>bO v
def eN (n:Nat):AV→AV
 | .own l τ=>.own l (τ+n)
 | v=>v
def cz (n:Nat):AV→AV
 | .own l τ=>.own l (τ+n)
 | .agg cs=>if bE.dQ cs=true then .agg cs else .agg (cs.map (eN n))
 | v=>v
def eB (n:Nat) (sh:Sh):Sh:=sh.map fun o=>o.map fun cs=>cs.map (cz n)
def eC (own:List Nat):Nat→List AV→List AV
 | _,[]=>[]
 | i,v::r=>(if own.contains i then v else iR v)::eC own (i+1) r
def en (orc:eI) (g:Nat) (own:List Nat) (vals:List AV) (sh:Sh) (ah:aL):Option (AV×Sh×aL):=
 if (eC own 0 vals).all bX=true then
   (orc.i g (cZ ah (eC own 0 vals) sh).1 (cZ ah (eC own 0 vals) sh).2.1 (cZ ah (eC own 0 vals) sh).2.2.2).map fun (rs,sh',ts)=>
     (mE (rs.map (cz ah.length)),eB ah.length sh',(cZ ah (eC own 0 vals) sh).2.2.1++ts)
 else none
def cf (v:AV):List AV:=match v with
 | .bB l=>[.bB l]
 | .own l τ=>[.own l τ]
 | v=>match de [] v with | some p=>bn (.pv p) | none=>bn v
def exec (orc:eI) (op:AK) (vals:List AV) (cells:Option (List AV)) (sh:Sh) (ah:aL):Option Out:=
 match op,vals with
 | .v o,vals=>(bM o vals).map fun x=>⟨x,none,sh,ah⟩
 | .bj key off sz ag,[.az d o]=>if d=key∧o=off then
     match cells with
     | some cs=>(b_ ag sz cs off).map fun x=>⟨x,none,sh,ah⟩
     | none=>none
   else none
 | .cT key off sz,[.az d o,v]=>if d=key∧o=off∧(bn v).length=sz∧(bn v).all bf=true then
     match cells with
     | some cs=>if off+sz≤cs.length then some ⟨.un,some (bu cs off (bn v)),sh,ah⟩ else none
     | none=>none
   else none
 | .alloc key zero,[]=>match cells with
   | none=>some ⟨.az key 0,some (zero.map bM.zeroCell),sh,ah⟩
   | some _=>none
 | .box key sz,[v]=>match cells with
   | none=>if (bn v).length=sz∧(bn v).all bf=true then some ⟨.az key 0,some (bn v),sh,ah⟩ else none
   | some _=>none
 | .aZ sz ag,[p]=>match p with
   | .dm cs=>(cK ag sz cs).map fun x=>⟨x,none,sh,ah⟩
   | .aX b off=>match sh[b]? with
     | some (some cs)=>if cQ cs=true then none else (b_ ag sz cs off).map fun x=>⟨x,none,sh,ah⟩
     | _=>none
   | _=>none
 | .cU sz,[.aX b off,v]=>match sh[b]? with
   | some (some cs)=>
     let vs:=cf v
     if cQ cs=false∧vs.length=sz∧off+sz≤cs.length∧vs.all d4=true∧vs.all (aR (b+1))=true then
       some ⟨.un,none,sh.set b (some (bu cs off vs)),ah⟩ else none
   | _=>none
 | .lS sz,[v]=>
   let vs:=cf v
   if vs.length=sz∧vs.all d4=true∧vs.all (aR sh.length)=true then
     some ⟨.aX sh.length 0,none,sh++[some vs],ah⟩ else none
 | .hH zero,[]=>some ⟨.aX sh.length 0,none,sh++[some (zero.map bM.zeroCell)],ah⟩
 | .jg sz bytes ag zero,[.pv (.int _ n),.pv (.int _ n')]=>
   if n=n'∧0≤n∧n≤9223372036854775807∧n*bytes≤140737488355328∧zero.length=sz then
     some ⟨.bq sh.length sz n.toNat ag,none,sh++[some ((List.replicate n.toNat (zero.map .pv)).flatten)],ah⟩ else none
 | .append sz bytes,[s,x]=>(cg sz bytes s x ah).map fun (v,ts)=>⟨v,none,sh,ts⟩
 | .c_ sz bytes ag,[s,x]=>match dS x with
   | some xs=>if bH sz xs=true then (p_ sz bytes ag s xs sh ah).map fun (v,sh')=>⟨v,none,sh',ah⟩ else none
   | none=>none
 | .clone sz bytes,[x]=>(cg sz bytes (.bB []) x ah).map fun (v,ts)=>⟨v,none,sh,ts⟩
 | .fR sz zero,[x]=>(lT sz zero sh (p9 sz x)).map fun sh'=>⟨.lI [],none,sh',ah⟩
 | .ki,[]=>some ⟨.cp sh.length,none,sh++[some [.dj []]],ah⟩
 | .ix c ok zero,[m,k]=>match m,k with
   | .cp s,.pv k=>match sh[s]? with
     | some (some [.dj kvs])=>(hU c kvs k).map fun r=>⟨ie ok zero r,none,sh,ah⟩
     | _=>none
   | _,_=>none
 | .mC c,[m,k,v]=>match m,k with
   | .cp s,.pv k=>match sh[s]?,de [] v with
     | some (some [.dj kvs]),some p=>(iQ c kvs k p).map fun kvs'=>⟨.un,none,sh.set s (some [.dj kvs']),ah⟩
     | _,_=>none
   | _,_=>none
 | .aB g,vals=>match cV [] vals with
   | some dt=>(orc.p g dt).map fun rs=>⟨pw rs,none,sh,ah⟩
   | none=>none
 | .dW g,vals=>match cV sh vals with
   | some dt=>(orc.p g dt).map fun rs=>⟨pw rs,none,d_ sh vals,ah⟩
   | none=>none
 | .aI g own,vals=>(en orc g own vals sh ah).map fun (v,sh',ts)=>⟨v,none,sh',ts⟩
 | .jh g,vals=>match cV [] vals with
   | some dt=>match orc.i g (dt.map .pv) [] [] with
     | some (rs,[],ts)=>some ⟨mE (rs.map (cz ah.length)),none,sh,ah++ts⟩
     | _=>none
   | none=>none
 | .eK,f::vals=>match f with
   | .fn g cap=>(en orc g [] (vals++cap) sh ah).map fun (v,sh',ts)=>⟨v,none,sh',ts⟩
   | _=>none
 | _,_=>none
def gG (env:List (Nat×AV)):eH→Option AV
 | .t n=>look env n
 | .c v=>some v
def dX (env:List (Nat×AV)):List eH→Option (List AV)
 | []=>some []
 | x::r=>match gG env x,dX env r with
   | some v,some vs=>some (v::vs)
   | _,_=>none
def eX (env:List (Nat×AV)):Option (Nat×Bool)→Option Bool
 | none=>some true
 | some (t,b)=>match look env t with
   | some (.pv (.bool c))=>some (c == b)
   | some .un=>some false
   | _=>none
def fW (env:List (Nat×AV)):Option Nat→AV→List (Nat×AV)
 | some d,v=>dC env d v
 | none,_=>env
def fh (mem:List (Nat×List AV)):Option Nat→Option (List AV)→List (Nat×List AV)
 | some k,some cs=>dC mem k cs
 | _,_=>mem
def eo (orc:eI) (o:dV) (st:St):Option St:=
 match eX st.env o.guard with
 | none=>none
 | some false=>some { st with env:=fW st.env o.dst .un }
 | some true=>
   match dX st.env o.args with
   | none=>none
   | some vals=>
     match exec orc o.op vals (o.op.key.bind (look st.mem)) st.sh st.ah with
     | none=>none
     | some out=>some { env:=fW st.env o.dst out.val,mem:=fh st.mem o.op.key out.cells,sh:=out.sh,ah:=out.ah }
def bU (orc:eI):List dV→St→Option St
 | [],st=>some st
 | o::r,st=>match eo orc o st with
   | none=>none
   | some st'=>bU orc r st'
def d9 (live:List Nat):AV→Bool
 | .az d _=>live.contains d
 | .own ..=>true
 | .agg cs=>fF cs
 | v=>bE v
def bV (live:List Nat) (env:List (Nat×AV)):List Nat→List (Nat×AV)
 | []=>[]
 | t::r=>match look env t with
   | some v=>if d9 live v=true then (t,v)::bV live env r else bV live env r
   | none=>bV live env r
def bW (mem:List (Nat×List AV)):List Nat→List (Nat×List AV)
 | []=>[]
 | t::r=>match look mem t with
   | some v=>(t,v)::bW mem r
   | none=>bW mem r
def restrict (live:List Nat) (st:St):St:=
 { st with env:=bV live st.env live,mem:=bW st.mem live }
def dp (aQ ts:aL):List (Nat×AV)→List (Nat×AV)×aL×aL
 | []=>([],aQ,ts)
 | (t,v)::r=>((t,(bP aQ ts v).1)::(dp (bP aQ ts v).2.1 (bP aQ ts v).2.2 r).1,(dp (bP aQ ts v).2.1 (bP aQ ts v).2.2 r).2)
def eO (aQ ts:aL):List (Nat×List AV)→List (Nat×List AV)×aL×aL
 | []=>([],aQ,ts)
 | (t,v)::r=>((t,(bz aQ ts v).1)::(eO (bz aQ ts v).2.1 (bz aQ ts v).2.2 r).1,(eO (bz aQ ts v).2.1 (bz aQ ts v).2.2 r).2)
def norm (st:St):St:=
 { env:=(dp st.ah [] st.env).1,
   mem:=(eO (dp st.ah [] st.env).2.1 (dp st.ah [] st.env).2.2 st.mem).1,
   sh:=(bC (eO (dp st.ah [] st.env).2.1 (dp st.ah [] st.env).2.2 st.mem).2.1 (eO (dp st.ah [] st.env).2.1 (dp st.ah [] st.env).2.2 st.mem).2.2 st.sh).1,
   ah:=(bC (eO (dp st.ah [] st.env).2.1 (dp st.ah [] st.env).2.2 st.mem).2.1 (eO (dp st.ah [] st.env).2.1 (dp st.ah [] st.env).2.2 st.mem).2.2 st.sh).2.2 }
inductive a6 where
 | normal | ret | exit (id:Nat)
 deriving Inhabited,DecidableEq
def eP (f:St→Option (a6×St)) (pre:St→St):Nat→St→Option (a6×St)
 | 0,_=>none
 | n+1,st=>match f (pre st) with
   | some (.normal,st')=>eP f pre n st'
   | r=>r
def rQ (sz:Nat) (ag:Bool) (el:PV):Option AV:=if (bw el).length=sz then cK ag sz (bw el) else none
def iy (f:St→Option (a6×St)) (live:List Nat) (pi px sz:Nat) (ag:Bool) (env:List (Nat×AV)):List (PV×Nat)→St→Option (a6×St)
 | [],st=>some (.normal,{ st with env:=env })
 | (el,i)::r,st=>match rQ sz ag el with
   | none=>none
   | some v=>match f (norm (restrict live { st with env:=dC (dC env pi (.pv (.int .i64 i))) px v })) with
     | some (.normal,st')=>iy f live pi px sz ag env r st'
     | some (e,st')=>some (e,{ st' with env:=env })
     | none=>none
def andThen (f g:St→Option (a6×St)) (st:St):Option (a6×St):=match f st with
 | some (.normal,st')=>g st'
 | _=>none
def kW (live:List Nat) (env:List (Nat×AV)):List (Nat×AV):=(bV live env live).filter fun p=>bE p.2
def iz (f:St→Option (a6×St)) (v:Option AV) (gb pi px sz:Nat) (ag:Bool) (live:List Nat) (st:St):Option (a6×St):=
 match v with
 | some (.fn g [.aX s 0])=>if g=gb then
     match st.sh[s]? with
     | some (some [.pv (.aD l)])=>if l.length<4611686018427387904 then iy f live pi px sz ag (kW live st.env) l.zipIdx.reverse { st with sh:=kill st.sh [s] } else none
     | _=>none
   else none
 | _=>none
def yv:AV→St→St
 | .az d 0,st=>match look st.mem d with
   | some cs=>match d8 st.sh cs with
     | some ps=>{ st with mem:=dC st.mem d (ps.map .pv),sh:=d_ st.sh [.agg cs] }
     | none=>st
   | none=>st
 | _,st=>st
def kj:List Nat→St→St
 | [],st=>st
 | t::r,st=>match look st.env t with
   | some v=>match de st.sh v with
     | some p=>kj r { st with env:=dC st.env t (.pv p),sh:=d_ st.sh [v] }
     | none=>kj r (yv v st)
   | none=>kj r st
def du (orc:eI) (k:Nat):aw→St→Option (a6×St)
 | .skip,st=>some (.normal,st)
 | .ae ops live,st=>match bU orc ops st with
   | some st'=>some (.normal,restrict live st')
   | none=>none
 | .seq a b,st=>match du orc k a st with
   | some (.normal,st')=>du orc k b st'
   | r=>r
 | .cond c a b,st=>match gG st.env c with
   | some (.pv (.bool t))=>if t then du orc k a st else du orc k b st
   | _=>none
 | .block id b,st=>match du orc k b st with
   | some (.exit id',st')=>if id'=id then some (.normal,st') else some (.exit id',st')
   | r=>r
 | .loop live b,st=>eP (du orc k b) (fun s=>norm (restrict live s)) k st
 | .exit id,st=>some (.exit id,st)
 | .ret,st=>some (.ret,st)
 | .back c gb pi px sz ag live x y,st=>iz (andThen (du orc k x) (du orc k y)) (gG st.env c) gb pi px sz ag live st
 | .de ts,st=>some (.normal,kj ts st)
def cr:Nat→List AV→List (Nat×AV)
 | _,[]=>[]
 | i,v::r=>(i,v)::cr (i+1) r
def oC (st:St):p7→Option AV
 | .t n=>look st.env n
 | .c key sz ag=>match look st.env key with
   | some (.az d 0)=>match look st.mem key with
     | some cs=>if d=key then b_ ag sz cs 0 else none
     | none=>none
   | some (.aX s 0)=>match st.sh[s]? with
     | some (some cs)=>if cQ cs=true then none else b_ ag sz cs 0
     | _=>none
   | _=>none
def d5 (st:St):List p7→Option (List AV)
 | []=>some []
 | r::rs=>match oC st r,d5 st rs with
   | some v,some vs=>some (v::vs)
   | _,_=>none
def qa (sh:Sh) (v:AV):AV:=match de sh v with | some p=>.pv p | none=>v
def lU (sh:Sh) (v:AV):AV:=match v with
 | .bB l=>.bB l
 | v=>if bf v=true then qa sh v else v
def nE (sh:Sh) (v:AV):AV:=match v with
 | .bB l=>.bB l
 | .own l τ=>.own l τ
 | .agg cs=>.agg (cs.map (lU sh))
 | v=>qa sh v
def cD (a9 ks:Bool) (sh:Sh) (vs:List AV):List AV:=if a9 then (if ks then vs else vs.map (nE sh)) else vs.map (qa sh)
def eF (a9 ks:Bool) (sh:Sh) (vs:List AV):Sh:=if a9 && ks then sh else d_ sh vs
def ct (orc:eI) (k:Nat) (a9:Bool) (af:aH) (args:List AV) (sh:Sh) (ts:aL):Option (List AV×Sh×aL):=
 match du orc k af.body { env:=cr 0 args,mem:=[],sh,ah:=ts } with
 | some (e,st)=>
   if e=.ret∨e=.normal then
     match d5 st af.results with
     | some vs=>
       let rs:=cD a9 af.ks st.sh vs
       let sh':=if rs.all (aR sh.length)=true then (eF a9 af.ks st.sh vs).take sh.length else eF a9 af.ks st.sh vs
       if rs.all bX=true then some ((cZ st.ah rs sh').1,(cZ st.ah rs sh').2.1,(cZ st.ah rs sh').2.2.2) else none
     | none=>none
   else none
 | none=>none
def fm:List AV→Option (List PV)
 | []=>some []
 | .pv p::r=>(fm r).map (p::·)
 | _=>none
def run (AP:Nat→Option aH) (k:Nat):Nat→eI
 | 0=>{ p:=fun _ _=>none,i:=fun _ _ _ _=>none }
 | n+1=>
   { p:=fun g dt=>match AP g with
       | some af=>match af.p8 with
         | some f=>f dt
         | none=>if dt.length=af.nparams∧dt.length≤af.ntmps then
             match ct (run AP k n) k false af (dt.map .pv) [] [] with
             | some (rs,_)=>fm rs
             | none=>none
           else none
       | none=>none
     i:=fun g args sh ts=>match AP g with
       | some af=>if args.length≤af.ntmps then ct (run AP k n) k true af args sh ts else none
       | none=>none }
end Go.Ab
