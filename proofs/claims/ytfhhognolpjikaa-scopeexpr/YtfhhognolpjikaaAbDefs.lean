import GoSem.Core.Value
import GoSem.Core.Ast
import GoSem.Core.View
/-
  The abstract machine: pure data, abstract values, slim code, and an evaluator with fuel. Nothing here mentions a program.
-/
set_option linter.unusedVariables false
set_option linter.unusedSimpArgs false
set_option maxRecDepth 100000
set_option maxHeartbeats 8000000
namespace Go.Ab
inductive PV where
 | bool (b:Bool)
 | int (k:IntKind) (n:Int)
 | str (s:List UInt8)
 | agg (cs:List PV)
 | aI (els:List PV)
 deriving Inhabited
inductive AV where
 | un
 | pv (p:PV)
 | bR (els:List PV)
 | own (els:List PV) (tok:Nat)
 | agg (cs:List AV)
 | jH (vs:List AV)
 | aT (d off:Nat)
 | ba (b off:Nat)
 | cQ (cs:List PV)
 | bd (b sz len:Nat) (ag:Bool)
 | fn (g:Nat) (cap:List AV)
 | cM
 | ck (s:Nat)
 | da (kvs:List (PV×PV))
 | jS (b off n:Nat)
 deriving Inhabited
abbrev Sh:=List (Option (List AV))
abbrev au:=List Nat
inductive d3 where
 | t (n:Nat)
 | c (v:AV)
 deriving Inhabited
inductive CK where
 | int | str | bool
 deriving Inhabited,DecidableEq
inductive AH where
 | mv | pick
 | bin (op:BinOp)
 | beq (neg:Bool)
 | un (op:UnOp)
 | conv (k:IntKind)
 | ext (i:Nat)
 | field (off sz:Nat) (ag:Bool)
 | b_ (off:Nat)
 | aH (sz:Nat)
 | index
 | build (zero:List PV) (places:List (Nat×Nat))
 | a6 (sz:Nat)
 | aS (sz:Nat) (ag:Bool)
 | slice (str:Bool) (sz:Nat) (lo hi mx:Bool)
 | len | il | aQ
 | mn | mx
 | AL (g:Nat)
 | ES (cs:List CK) (neg:Bool)
 | kW (sz:Nat) (lo hi:Bool)
 deriving Inhabited
inductive AK where
 | v (o:AH)
 | de (key off sz:Nat) (ag:Bool)
 | d4 (key off sz:Nat)
 | alloc (key:Nat) (zero:List PV)
 | box (key sz:Nat)
 | aR (sz:Nat) (ag:Bool)
 | cz (sz:Nat)
 | kX (sz:Nat)
 | gl (zero:List PV)
 | jI (sz bytes:Nat) (ag:Bool) (zero:List PV)
 | append (sz bytes:Nat)
 | cI (sz bytes:Nat) (ag:Bool)
 | eg (sz bytes:Nat)
 | kj
 | hH (c:CK) (ok:Bool) (zero:PV)
 | mG (c:CK)
 | clone (sz bytes:Nat)
 | fR (sz:Nat) (zero:List PV)
 | iP (sz:Nat)
 | aB (g:Nat)
 | eI (g:Nat)
 | aA (g:Nat) (own:List Nat)
 | hP (g:Nat)
 | eB
 deriving Inhabited
structure dt where
 dst:Option Nat
 guard:Option (Nat×Bool)
 args:List d3
 op:AK
 deriving Inhabited
inductive aw where
 | skip
 | ah (ops:List dt) (live:List Nat)
 | seq (a b:aw)
 | cond (c:d3) (a b:aw)
 | block (id:Nat) (b:aw)
 | loop (live:List Nat) (b:aw)
 | exit (id:Nat)
 | ret
 | back (f:d3) (gb pi px sz:Nat) (ag:Bool) (live:List Nat) (x y:aw)
 | eM (ts:List Nat)
 deriving Inhabited
inductive mH where
 | t (n:Nat)
 | c (key sz:Nat) (ag:Bool)
 deriving Inhabited
structure aC where
 nparams:Nat
 ntmps:Nat
 results:List mH
 body:aw
 mI:Option (List PV→Option (List PV)):=none
 ks:Bool:=false
 deriving Inhabited
def look {α:Type}:List (Nat×α)→Nat→Option α
 | [],_=>none
 | (k,v)::r,t=>if k=t then some v else look r t
def db {α:Type}:List (Nat×α)→Nat→α→List (Nat×α)
 | [],t,u=>[(t,u)]
 | (k,v)::r,t,u=>if k=t then (k,u)::r else (k,v)::db r t u
structure St where
 env:List (Nat×AV)
 mem:List (Nat×List AV)
 sh:Sh
 aa:au
 deriving Inhabited
def aU:PV→List PV
 | .agg cs=>cs
 | p=>[p]
def aX:AV→List AV
 | .agg cs=>cs
 | .pv (.agg cs)=>cs.map .pv
 | v=>[v]
def br:AV→Bool
 | .pv _ | .bR _ | .ba .. | .bd .. | .cM | .ck _ | .da _=>true
 | .fn _ cap=>fb cap
 | .agg cs=>fb cs
 | _=>false
where fb:List AV→Bool
 | []=>true
 | v::r=>br v && fb r
def aP:AV→Bool
 | .pv (.agg _)=>false
 | .pv _ | .bR _ | .ba .. | .bd .. | .cM | .ck _ | .da _=>true
 | .fn g cap=>br (.fn g cap)
 | .own ..=>true
 | _=>false
def dq (v:AV):Bool:=aP v
def bg:AV→Bool
 | .own .. | .aT ..=>false
 | .agg cs=>dr cs
 | .jH cs=>dr cs
 | .fn _ cap=>dr cap
 | _=>true
where dr:List AV→Bool
 | []=>true
 | v::r=>bg v && dr r
def fc:AV→Bool
 | .own ..=>true
 | v=>bg v
def eJ:List AV→Bool
 | []=>true
 | v::r=>fc v && eJ r
def jF:AV→Option PV
 | .pv p=>some p
 | .bR l=>some (.aI l)
 | .own l _=>some (.aI l)
 | _=>none
def fX:PV→Bool
 | .agg _=>false
 | _=>true
def chunk (sz:Nat):Nat→List PV→List (List PV)
 | 0,_=>[]
 | n+1,l=>l.take sz::chunk sz n (l.drop sz)
def eS:List AV→Option (List PV)
 | []=>some []
 | v::r=>match jF v,eS r with
   | some p,some ps=>some (p::ps)
   | _,_=>none
def eK (sz:Nat) (ag:Bool) (n:Nat) (cells:List PV):Option (List PV):=
 if ag then some ((chunk sz n cells).map .agg)
 else if sz=1 then some cells else none
def cA:List AV→Bool
 | .da _::_=>true
 | _=>false
def cu (sh:Sh):AV→Option PV
 | .bd b sz n ag=>match sh[b]? with
   | some (some cells)=>if cells.length=n*sz then ((eS cells).bind (eK sz ag n)).map .aI
     else if cA cells=false∧n*sz≤cells.length then ((eS (cells.take (n*sz))).bind (eK sz ag n)).map .aI else none
   | _=>none
 | v=>jF v
def dH (sh:Sh):List AV→Option (List PV)
 | []=>some []
 | v::r=>if aP v=true then
     match cu sh v,dH sh r with
     | some p,some ps=>some (p::ps)
     | _,_=>none
   else none
def eM (sh:Sh):AV→Option PV
 | .agg cs=>(dH sh cs).map .agg
 | v=>cu sh v
def cp (sh:Sh):List AV→Option (List PV)
 | []=>some []
 | v::r=>match eM sh v,cp sh r with
   | some p,some ps=>some (p::ps)
   | _,_=>none
def er:AV→List Nat
 | .bd b _ _ _=>[b]
 | .agg cs=>cs.flatMap fun | .bd b _ _ _=>[b] | _=>[]
 | _=>[]
def kill (sh:Sh) (l:List Nat):Sh:=l.foldl (fun s b=>s.set b none) sh
def dL (sh:Sh) (vs:List AV):Sh:=kill sh (vs.flatMap er)
def az (n:Nat):AV→Bool
 | .un | .pv _ | .bR _ | .own .. | .cM | .cQ _ | .da _=>true
 | .ba b _ | .bd b _ _ _ | .ck b=>decide (b<n)
 | .fn _ cap=>bZ n cap
 | .agg cs=>bZ n cs
 | _=>false
where bZ (n:Nat):List AV→Bool
 | []=>true
 | v::r=>az n v && bZ n r
def lD:CK→PV→PV→Option Bool
 | .int,.int k a,.int k' b=>if k=k' then some (a == b) else none
 | .str,.str a,.str b=>some (a == b)
 | .bool,.bool a,.bool b=>some (a == b)
 | _,_,_=>none
def cJ:List CK→List PV→List PV→Option Bool
 | [],[],[]=>some true
 | c::cs,p::ps,q::qs=>match lD c p q with
   | some true=>cJ cs ps qs
   | some false=>if ps.length=cs.length∧qs.length=cs.length then some false else none
   | none=>none
 | _,_,_=>none
def gX (c:CK):List (PV×PV)→PV→Option (Option PV)
 | [],_=>some none
 | (k',v)::r,k=>match lD c k k' with
   | some true=>some (some v)
   | some false=>gX c r k
   | none=>none
def iU (c:CK):List (PV×PV)→PV→PV→Option (List (PV×PV))
 | [],k,p=>some [(k,p)]
 | (k',v)::r,k,p=>match lD c k k' with
   | some true=>some ((k,p)::r)
   | some false=>(iU c r k p).map ((k',v)::·)
   | none=>none
def fY (ok:Bool) (zero:PV) (r:Option PV):AV:=if ok then .jH [.pv (r.getD zero),.pv (.bool r.isSome)] else .pv (r.getD zero)
def cK (op:BinOp):AV→AV→Option AV
 | .pv (.int k a),.pv (.int k' b)=>
   if k=k'∨op=.shl∨op=.shr then
     match op with
     | .add=>some (.pv (.int k (k.wrap (a+b))))
     | .sub=>some (.pv (.int k (k.wrap (a-b))))
     | .mul=>some (.pv (.int k (k.wrap (a*b))))
     | .quo=>if b=0 then none else some (.pv (.int k (k.wrap (a.tdiv b))))
     | .rem=>if b=0 then none else some (.pv (.int k (a.tmod b)))
     | .eql=>some (.pv (.bool (a == b)))
     | .neq=>some (.pv (.bool (a != b)))
     | .lss=>some (.pv (.bool (decide (a<b))))
     | .leq=>some (.pv (.bool (decide (a≤b))))
     | .gtr=>some (.pv (.bool (decide (a > b))))
     | .geq=>some (.pv (.bool (decide (a≥b))))
     | .and=>some (.pv (.int k (k.wrap (BitVec.ofInt k.bits a &&& BitVec.ofInt k.bits b).toNat)))
     | .shl=>if b<0 then none else some (.pv (.int k (k.wrap (a*2 ^ (min b.toNat k.bits)))))
     | .shr=>if b<0 then none else some (.pv (.int k (a.fdiv (2 ^ (min b.toNat k.bits)))))
     | _=>none
   else none
 | .pv (.str a),.pv (.str b)=>
   match op with
   | .add=>if a.length+b.length≤9223372036854775807 then some (.pv (.str (a++b))) else none
   | .eql=>some (.pv (.bool (a == b)))
   | .neq=>some (.pv (.bool (!(a == b))))
   | .lss=>some (.pv (.bool (eT a b)))
   | .gtr=>some (.pv (.bool (!(eT a b || a == b))))
   | .leq=>some (.pv (.bool (eT a b || a == b)))
   | .geq=>some (.pv (.bool (!eT a b)))
   | _=>none
 | _,_=>none
where eT:List UInt8→List UInt8→Bool
 | _,[]=>false
 | [],_::_=>true
 | a::x,b::y=>a<b || (a == b && eT x y)
def GG (op:UnOp):AV→Option AV
 | .pv (.bool b)=>match op with | .not=>some (.pv (.bool !b)) | _=>none
 | .pv (.int k n)=>match op with | .neg=>some (.pv (.int k (k.wrap (0-n)))) | _=>none
 | _=>none
def cC:AV→Option (List PV)
 | .pv (.aI l)=>some l
 | .bR l=>some l
 | .own l _=>some l
 | _=>none
def bu (sz:Nat):List PV→Bool
 | []=>true
 | p::_=>(aU p).length == sz
def aN (cells:List AV) (off:Nat) (vs:List AV):List AV:=cells.take off++vs++cells.drop (off+vs.length)
def iQ (cells:List AV):List (Nat×Nat)→List AV→Option (List AV)
 | [],[]=>some cells
 | (off,sz)::ps,v::vs=>
   if (aX v).length=sz∧off+sz≤cells.length∧(aX v).all aP=true then iQ (aN cells off (aX v)) ps vs else none
 | _,_=>none
def bN (ag:Bool) (sz:Nat) (cs:List AV) (off:Nat):Option AV:=
 if off+sz≤cs.length then
   if ag then some (.agg ((cs.drop off).take sz))
   else if sz=1 then cs[off]? else none
 else none
def ca (ag:Bool) (sz:Nat) (cs:List PV):Option AV:=
 if sz≤cs.length then
   if ag then some (.pv (.agg (cs.take sz)))
   else if sz=1 then (cs[0]?).map .pv else none
 else none
def fE (lo hi mx:Bool) (n:Nat) (rest:List AV):Option (Int×Int×Option Int):=
 match lo,hi,mx,rest with
 | false,false,false,[]=>some (0,n,none)
 | true,false,false,[.pv (.int _ l)]=>some (l,n,none)
 | false,true,false,[.pv (.int _ h)]=>some (0,h,none)
 | true,true,false,[.pv (.int _ l),.pv (.int _ h)]=>some (l,h,none)
 | false,true,true,[.pv (.int _ h),.pv (.int _ m)]=>some (0,h,some m)
 | true,true,true,[.pv (.int _ l),.pv (.int _ h),.pv (.int _ m)]=>some (l,h,some m)
 | _,_,_,_=>none
def eG (str:Bool) (sz:Nat) (lo hi mx:Bool):List AV→Option AV
 | x::rest=>if str then
     match x with
     | .pv (.str s)=>match fE lo hi mx s.length rest with
       | some (l,h,none)=>if 0≤l∧l≤h∧h≤s.length then some (.pv (.str ((s.take h.toNat).drop l.toNat))) else none
       | _=>none
     | _=>none
   else match cC x with
     | some els=>match fE lo hi mx els.length rest with
       | some (l,h,m)=>if 0≤l∧l≤h∧h≤els.length∧(l=0∨bu sz els=true) then
           match m with
           | some m=>if m=h then some (.bR ((els.take h.toNat).drop l.toNat)) else none
           | none=>some (.pv (.aI ((els.take h.toNat).drop l.toNat)))
         else none
       | none=>none
     | none=>none
 | []=>none
def hU (sz:Nat) (lo hi:Bool):List AV→Option AV
 | .bd b z n ag::rest=>if z=sz then
     match fE lo hi false n rest with
     | some (l,h,none)=>if 0≤l∧l≤h∧h≤n then some (if l=0 then .bd b z h.toNat ag else .jS b (l.toNat*sz) (h.toNat-l.toNat)) else none
     | _=>none
   else none
 | _=>none
def qq (sz:Nat):AV→Option (Nat×Nat×Nat)
 | .bd b z n _=>if z=sz then some (b,0,n) else none
 | .jS b off n=>some (b,off,n)
 | _=>none
def mJ (sz:Nat) (zero:List PV) (sh:Sh):Option (Nat×Nat×Nat)→Option Sh
 | some (b,off,n)=>match sh[b]? with
   | some (some cells)=>if cA cells=false∧off+n*sz≤cells.length∧zero.length=sz then some (sh.set b (some (aN cells off (List.replicate n (zero.map .pv)).flatten))) else none
   | _=>none
 | none=>none
def mK (sz:Nat) (sh:Sh) (xs:List PV):AV→Option (Nat×Sh)
 | .bd b z n _=>match sh[b]? with
   | some (some cells)=>if z=sz∧bu sz xs=true∧cA cells=false∧n*sz≤cells.length then
       some (min xs.length n,sh.set b (some (aN cells 0 (((xs.take n).flatMap aU).map .pv)))) else none
   | _=>none
 | _=>none
def bq:AH→List AV→Option AV
 | .mv,[x]=>some x
 | .pick,[.pv (.bool c),a,b]=>some (if c then a else b)
 | .bin op,[a,b]=>cK op a b
 | .beq neg,[.pv (.bool a),.pv (.bool b)]=>some (.pv (.bool (if neg then !(a == b) else (a == b))))
 | .un op,[a]=>GG op a
 | .conv k,[.pv (.int _ n)]=>some (.pv (.int k (k.wrap n)))
 | .ext i,[.jH vs]=>vs[i]?
 | .field off sz ag,[x]=>match x with
   | .agg cs=>bN ag sz cs off
   | .pv (.agg cs)=>ca ag sz (cs.drop off)
   | _=>none
 | .b_ off,[x]=>match x with
   | .aT d o=>some (.aT d (o+off))
   | .ba b o=>some (.ba b (o+off))
   | .cQ cs=>some (.cQ (cs.drop off))
   | _=>none
 | .aH sz,[x,.pv (.int _ i)]=>
   if i<0 then none else
   match x with
   | .bd b sz' n _=>if sz=sz'∧i.toNat<n then some (.ba b (i.toNat*sz)) else none
   | x=>match cC x with
     | some els=>match els[i.toNat]? with
       | some el=>if (aU el).length=sz then some (.cQ (aU el)) else none
       | none=>none
     | none=>none
 | .index,[.pv (.str s),.pv (.int _ i)]=>if i<0 then none else (s[i.toNat]?).map fun b=>.pv (.int .u8 b.toNat)
 | .build zero places,vs=>(iQ (zero.map zeroCell) places vs).map .agg
 | .a6 sz,vs=>(cp [] vs).bind fun els=>if els.all (fun e=>(aU e).length == sz) then some (.bR els) else none
 | .aS sz ag,[.cQ cs]=>ca ag sz cs
 | .slice str sz lo hi mx,vs=>eG str sz lo hi mx vs
 | .kW sz lo hi,vs=>hU sz lo hi vs
 | .il,[.pv (.str s)]=>some (.pv (.int .i64 s.length))
 | .len,[x]=>match x with
   | .bd _ _ n _=>some (.pv (.int .i64 n))
   | x=>(cC x).map fun l=>.pv (.int .i64 l.length)
 | .aQ,[x]=>match x with
   | .aT .. | .ba .. | .cQ _ | .fn ..=>some x
   | _=>none
 | .mn,[.pv (.int k x),.pv (.int k' y)]=>if k=k' then some (.pv (.int k (if y<x then y else x))) else none
 | .mx,[.pv (.int k x),.pv (.int k' y)]=>if k=k' then some (.pv (.int k (if y > x then y else x))) else none
 | .AL g,cap=>some (.fn g cap)
 | .ES cs neg,[x,y]=>match eM [] x,eM [] y with
   | some (.agg ps),some (.agg qs)=>(cJ cs ps qs).map fun b=>.pv (.bool (if neg then !b else b))
   | _,_=>none
 | _,_=>none
where zeroCell:PV→AV
 | .aI []=>.bR []
 | p=>.pv p
structure Out where
 val:AV
 cells:Option (List AV)
 sh:Sh
 aa:au
structure d0 where
 p:Nat→List PV→Option (List PV)
 i:Nat→List AV→Sh→au→Option (List AV×Sh×au)
def mo:List PV→AV
 | [r]=>.pv r
 | rs=>.jH (rs.map .pv)
def kl:List AV→AV
 | [r]=>r
 | rs=>.jH rs
def gK (v:AV):AV:=match eM [] v with | some p=>.pv p | none=>v
def AK.key:AK→Option Nat
 | .de k _ _ _ | .d4 k _ _ | .alloc k _ | .box k _=>some k
 | _=>none
def bL (sz bytes:Nat) (s x:AV) (aa:au):Option (AV×au):=
 match cC x with
 | none=>none
 | some xs=>if bu sz xs=true then
   match s with
   | .bR l=>if xs.isEmpty=true then some (.bR l,aa) else if bu sz l=true∧(l.length+xs.length)*bytes≤140737488355328 then
       some (.own (l++xs) aa.length,aa++[(l++xs).length]) else none
   | .own l τ=>if aa[τ]?=some l.length∧bu sz l=true∧(l.length+xs.length)*bytes≤140737488355328 then
       some (.own (l++xs) τ,aa.set τ (l++xs).length) else none
   | _=>none
   else none
def dk:List PV→List PV→Bool
 | [],[]=>true
 | .str a::r,.str b::q=>(a == b) && dk r q
 | _,_=>false
def qt (sz bytes:Nat) (xs:List PV) (s e:AV) (aa:au):Option PV:=
 match s,e with
 | .own l τ,.own m σ=>if τ=σ∧aa[τ]?=some m.length∧m.length=l.length+xs.length∧bu 1 l=true∧bu 1 xs=true∧sz=1 ∧
     dk (m.drop l.length) xs=true∧xs.isEmpty=false∧m.length*bytes≤140737488355328 then some (.aI (l++xs)) else none
 | _,_=>none
def tn (sz bytes:Nat) (ag:Bool) (s:AV) (xs:List PV) (sh:Sh):Option (AV×Sh):=
 if xs.isEmpty=true then some (s,sh) else if xs.length*bytes≤140737488355328 then some (.bd sh.length sz xs.length ag,sh++[some ((xs.flatMap aU).map .pv)]) else none
def mL (sz bytes:Nat) (ag:Bool) (s:AV) (xs:List PV) (sh:Sh) (aa:au):Option (AV×Sh):=
 match s with
 | .bR []=>tn sz bytes ag s xs sh
 | .own [] τ=>if aa[τ]?=some 0 then tn sz bytes ag s xs sh else none
 | .bd b z n g=>match sh[b]? with
   | some (some cells)=>if z=sz∧g=ag∧cA cells=false∧n*sz≤cells.length∧(n+xs.length)*bytes≤140737488355328 then
       if xs.isEmpty=true then some (.bd b sz n ag,sh) else some (.bd sh.length sz (n+xs.length) ag,sh.set b none++[some (cells.take (n*sz)++(xs.flatMap aU).map .pv)])
     else none
   | _=>none
 | _=>none
def c_ (aE ts:au):AV→AV×au×au
 | .own l τ=>if aE[τ]?=some l.length then (.own l ts.length,aE.set τ (l.length+1),ts++[l.length]) else (.pv (.aI l),aE,ts)
 | v=>(v,aE,ts)
def cb (aE ts:au):List AV→List AV×au×au
 | []=>([],aE,ts)
 | v::r=>((c_ aE ts v).1::(cb (c_ aE ts v).2.1 (c_ aE ts v).2.2 r).1,(cb (c_ aE ts v).2.1 (c_ aE ts v).2.2 r).2)
def bt (aE ts:au):AV→AV×au×au
 | .own l τ=>if aE[τ]?=some l.length then (.own l ts.length,aE.set τ (l.length+1),ts++[l.length]) else (.pv (.aI l),aE,ts)
 | .bR l=>(.own l ts.length,aE,ts++[l.length])
 | .agg cs=>if bg.dr cs=true then (.agg cs,aE,ts) else (.agg (cb aE ts cs).1,(cb aE ts cs).2.1,(cb aE ts cs).2.2)
 | v=>(v,aE,ts)
def bh (aE ts:au):List AV→List AV×au×au
 | []=>([],aE,ts)
 | v::r=>((bt aE ts v).1::(bh (bt aE ts v).2.1 (bt aE ts v).2.2 r).1,(bh (bt aE ts v).2.1 (bt aE ts v).2.2 r).2)
def bE (aE ts:au):Sh→Sh×au×au
 | []=>([],aE,ts)
 | none::r=>(none::(bE aE ts r).1,(bE aE ts r).2)
 | some cs::r=>(some (bh aE ts cs).1::(bE (bh aE ts cs).2.1 (bh aE ts cs).2.2 r).1,(bE (bh aE ts cs).2.1 (bh aE ts cs).2.2 r).2)
def cr (aa:au) (xs:List AV) (sh:Sh):List AV×Sh×au×au:=
 ((bh aa [] xs).1,(bE (bh aa [] xs).2.1 (bh aa [] xs).2.2 sh).1,(bE (bh aa [] xs).2.1 (bh aa [] xs).2.2 sh).2.1,(bE (bh aa [] xs).2.1 (bh aa [] xs).2.2 sh).2.2)
def fe:AV→Bool
 | .own ..=>true
 | v=>br v
def d5:List AV→Bool
 | []=>true
 | v::r=>fe v && d5 r
def bD:AV→Bool
 | .own ..=>true
 | .agg cs=>d5 cs
 | v=>br v
def d6 (n:Nat):AV→AV
 | .own l τ=>.own l (τ+n)
 | v=>v
def bS (n:Nat):AV→AV
 | .own l τ=>.own l (τ+n)
 | .agg cs=>if bg.dr cs=true then .agg cs else .agg (cs.map (d6 n))
 | v=>v
def eu (n:Nat) (sh:Sh):Sh:=sh.map fun o=>o.map fun cs=>cs.map (bS n)
def dV (own:List Nat):Nat→List AV→List AV
 | _,[]=>[]
 | i,v::r=>(if own.contains i then v else gK v)::dV own (i+1) r
def dP (orc:d0) (g:Nat) (own:List Nat) (vals:List AV) (sh:Sh) (aa:au):Option (AV×Sh×au):=
 if (dV own 0 vals).all bD=true then
   (orc.i g (cr aa (dV own 0 vals) sh).1 (cr aa (dV own 0 vals) sh).2.1 (cr aa (dV own 0 vals) sh).2.2.2).map fun (rs,sh',ts)=>
     (kl (rs.map (bS aa.length)),eu aa.length sh',(cr aa (dV own 0 vals) sh).2.2.1++ts)
 else none
def bK (v:AV):List AV:=match v with
 | .bR l=>[.bR l]
 | .own l τ=>[.own l τ]
 | v=>match eM [] v with | some p=>aX (.pv p) | none=>aX v
def exec (orc:d0) (op:AK) (vals:List AV) (cells:Option (List AV)) (sh:Sh) (aa:au):Option Out:=
 match op,vals with
 | .v o,vals=>(bq o vals).map fun x=>⟨x,none,sh,aa⟩
 | .de key off sz ag,[.aT d o]=>if d=key∧o=off then
     match cells with
     | some cs=>(bN ag sz cs off).map fun x=>⟨x,none,sh,aa⟩
     | none=>none
   else none
 | .d4 key off sz,[.aT d o,v]=>if d=key∧o=off∧(aX v).length=sz∧(aX v).all aP=true then
     match cells with
     | some cs=>if off+sz≤cs.length then some ⟨.un,some (aN cs off (aX v)),sh,aa⟩ else none
     | none=>none
   else none
 | .alloc key zero,[]=>match cells with
   | none=>some ⟨.aT key 0,some (zero.map bq.zeroCell),sh,aa⟩
   | some _=>none
 | .box key sz,[v]=>match cells with
   | none=>if (aX v).length=sz∧(aX v).all aP=true then some ⟨.aT key 0,some (aX v),sh,aa⟩ else none
   | some _=>none
 | .aR sz ag,[p]=>match p with
   | .cQ cs=>(ca ag sz cs).map fun x=>⟨x,none,sh,aa⟩
   | .ba b off=>match sh[b]? with
     | some (some cs)=>if cA cs=true then none else (bN ag sz cs off).map fun x=>⟨x,none,sh,aa⟩
     | _=>none
   | _=>none
 | .cz sz,[.ba b off,v]=>match sh[b]? with
   | some (some cs)=>
     let vs:=bK v
     if cA cs=false∧vs.length=sz∧off+sz≤cs.length∧vs.all dq=true∧vs.all (az (b+1))=true then
       some ⟨.un,none,sh.set b (some (aN cs off vs)),aa⟩ else none
   | _=>none
 | .kX sz,[v]=>
   let vs:=bK v
   if vs.length=sz∧vs.all dq=true∧vs.all (az sh.length)=true then
     some ⟨.ba sh.length 0,none,sh++[some vs],aa⟩ else none
 | .gl zero,[]=>some ⟨.ba sh.length 0,none,sh++[some (zero.map bq.zeroCell)],aa⟩
 | .jI sz bytes ag zero,[.pv (.int _ n),.pv (.int _ n')]=>
   if n=n'∧0≤n∧n≤9223372036854775807∧n*bytes≤140737488355328∧zero.length=sz then
     some ⟨.bd sh.length sz n.toNat ag,none,sh++[some ((List.replicate n.toNat (zero.map .pv)).flatten)],aa⟩ else none
 | .append sz bytes,[s,x]=>(bL sz bytes s x aa).map fun (v,ts)=>⟨v,none,sh,ts⟩
 | .cI sz bytes ag,[s,x]=>match cC x with
   | some xs=>if bu sz xs=true then (mL sz bytes ag s xs sh aa).map fun (v,sh')=>⟨v,none,sh',aa⟩ else none
   | none=>none
 | .eg sz bytes,[s,x,e]=>match cC x with
   | some xs=>(qt sz bytes xs s e aa).map fun p=>⟨.pv p,none,sh,aa⟩
   | none=>none
 | .clone sz bytes,[x]=>(bL sz bytes (.bR []) x aa).map fun (v,ts)=>⟨v,none,sh,ts⟩
 | .fR sz zero,[x]=>(mJ sz zero sh (qq sz x)).map fun sh'=>⟨.jH [],none,sh',aa⟩
 | .iP sz,[x,y]=>match cC y with
   | some xs=>(mK sz sh xs x).map fun (k,sh')=>⟨.pv (.int .i64 (k:Int)),none,sh',aa⟩
   | none=>none
 | .kj,[]=>some ⟨.ck sh.length,none,sh++[some [.da []]],aa⟩
 | .hH c ok zero,[m,k]=>match m,k with
   | .ck s,.pv k=>match sh[s]? with
     | some (some [.da kvs])=>(gX c kvs k).map fun r=>⟨fY ok zero r,none,sh,aa⟩
     | _=>none
   | _,_=>none
 | .mG c,[m,k,v]=>match m,k with
   | .ck s,.pv k=>match sh[s]?,eM [] v with
     | some (some [.da kvs]),some p=>(iU c kvs k p).map fun kvs'=>⟨.un,none,sh.set s (some [.da kvs']),aa⟩
     | _,_=>none
   | _,_=>none
 | .aB g,vals=>match cp [] vals with
   | some cU=>(orc.p g cU).map fun rs=>⟨mo rs,none,sh,aa⟩
   | none=>none
 | .eI g,vals=>match cp sh vals with
   | some cU=>(orc.p g cU).map fun rs=>⟨mo rs,none,dL sh vals,aa⟩
   | none=>none
 | .aA g own,vals=>(dP orc g own vals sh aa).map fun (v,sh',ts)=>⟨v,none,sh',ts⟩
 | .hP g,vals=>match cp [] vals with
   | some cU=>match orc.i g (cU.map .pv) [] [] with
     | some (rs,[],ts)=>some ⟨kl (rs.map (bS aa.length)),none,sh,aa++ts⟩
     | _=>none
   | none=>none
 | .eB,f::vals=>match f with
   | .fn g cap=>(dP orc g [] (vals++cap) sh aa).map fun (v,sh',ts)=>⟨v,none,sh',ts⟩
   | _=>none
 | _,_=>none
def ff (env:List (Nat×AV)):d3→Option AV
 | .t n=>look env n
 | .c v=>some v
def dv (env:List (Nat×AV)):List d3→Option (List AV)
 | []=>some []
 | x::r=>match ff env x,dv env r with
   | some v,some vs=>some (v::vs)
   | _,_=>none
def eh (env:List (Nat×AV)):Option (Nat×Bool)→Option Bool
 | none=>some true
 | some (t,b)=>match look env t with
   | some (.pv (.bool c))=>some (c == b)
   | some .un=>some false
   | _=>none
def eU (env:List (Nat×AV)):Option Nat→AV→List (Nat×AV)
 | some d,v=>db env d v
 | none,_=>env
def ew (mem:List (Nat×List AV)):Option Nat→Option (List AV)→List (Nat×List AV)
 | some k,some cs=>db mem k cs
 | _,_=>mem
def dQ (orc:d0) (o:dt) (st:St):Option St:=
 match eh st.env o.guard with
 | none=>none
 | some false=>some { st with env:=eU st.env o.dst .un }
 | some true=>
   match dv st.env o.args with
   | none=>none
   | some vals=>
     match exec orc o.op vals (o.op.key.bind (look st.mem)) st.sh st.aa with
     | none=>none
     | some out=>some { env:=eU st.env o.dst out.val,mem:=ew st.mem o.op.key out.cells,sh:=out.sh,aa:=out.aa }
def bA (orc:d0):List dt→St→Option St
 | [],st=>some st
 | o::r,st=>match dQ orc o st with
   | none=>none
   | some st'=>bA orc r st'
def dI (live:List Nat):AV→Bool
 | .aT d _=>live.contains d
 | .own ..=>true
 | .agg cs=>eJ cs
 | v=>bg v
def bB (live:List Nat) (env:List (Nat×AV)):List Nat→List (Nat×AV)
 | []=>[]
 | t::r=>match look env t with
   | some v=>if dI live v=true then (t,v)::bB live env r else bB live env r
   | none=>bB live env r
def bC (mem:List (Nat×List AV)):List Nat→List (Nat×List AV)
 | []=>[]
 | t::r=>match look mem t with
   | some v=>(t,v)::bC mem r
   | none=>bC mem r
def restrict (live:List Nat) (st:St):St:=
 { st with env:=bB live st.env live,mem:=bC st.mem live }
def cR (aE ts:au):List (Nat×AV)→List (Nat×AV)×au×au
 | []=>([],aE,ts)
 | (t,v)::r=>((t,(bt aE ts v).1)::(cR (bt aE ts v).2.1 (bt aE ts v).2.2 r).1,(cR (bt aE ts v).2.1 (bt aE ts v).2.2 r).2)
def d7 (aE ts:au):List (Nat×List AV)→List (Nat×List AV)×au×au
 | []=>([],aE,ts)
 | (t,v)::r=>((t,(bh aE ts v).1)::(d7 (bh aE ts v).2.1 (bh aE ts v).2.2 r).1,(d7 (bh aE ts v).2.1 (bh aE ts v).2.2 r).2)
def norm (st:St):St:=
 { env:=(cR st.aa [] st.env).1,
   mem:=(d7 (cR st.aa [] st.env).2.1 (cR st.aa [] st.env).2.2 st.mem).1,
   sh:=(bE (d7 (cR st.aa [] st.env).2.1 (cR st.aa [] st.env).2.2 st.mem).2.1 (d7 (cR st.aa [] st.env).2.1 (cR st.aa [] st.env).2.2 st.mem).2.2 st.sh).1,
   aa:=(bE (d7 (cR st.aa [] st.env).2.1 (cR st.aa [] st.env).2.2 st.mem).2.1 (d7 (cR st.aa [] st.env).2.1 (cR st.aa [] st.env).2.2 st.mem).2.2 st.sh).2.2 }
inductive aO where
 | normal | ret | exit (id:Nat)
 deriving Inhabited,DecidableEq
def d8 (f:St→Option (aO×St)) (pre:St→St):Nat→St→Option (aO×St)
 | 0,_=>none
 | n+1,st=>match f (pre st) with
   | some (.normal,st')=>d8 f pre n st'
   | r=>r
def nU (sz:Nat) (ag:Bool) (el:PV):Option AV:=if (aU el).length=sz then ca ag sz (aU el) else none
def gm (f:St→Option (aO×St)) (live:List Nat) (pi px sz:Nat) (ag:Bool) (env:List (Nat×AV)):List (PV×Nat)→St→Option (aO×St)
 | [],st=>some (.normal,{ st with env:=env })
 | (el,i)::r,st=>match nU sz ag el with
   | none=>none
   | some v=>match f (norm (restrict live { st with env:=db (db env pi (.pv (.int .i64 i))) px v })) with
     | some (.normal,st')=>gm f live pi px sz ag env r st'
     | some (e,st')=>some (e,{ st' with env:=env })
     | none=>none
def andThen (f g:St→Option (aO×St)) (st:St):Option (aO×St):=match f st with
 | some (.normal,st')=>g st'
 | _=>none
def jl (live:List Nat) (env:List (Nat×AV)):List (Nat×AV):=(bB live env live).filter fun p=>bg p.2
def gn (f:St→Option (aO×St)) (v:Option AV) (gb pi px sz:Nat) (ag:Bool) (live:List Nat) (st:St):Option (aO×St):=
 match v with
 | some (.fn g [.ba s 0])=>if g=gb then
     match st.sh[s]? with
     | some (some [.pv (.aI l)])=>if l.length<4611686018427387904 then gm f live pi px sz ag (jl live st.env) l.zipIdx.reverse { st with sh:=kill st.sh [s] } else none
     | _=>none
   else none
 | _=>none
def tq:AV→St→St
 | .aT d 0,st=>match look st.mem d with
   | some cs=>match dH st.sh cs with
     | some ps=>{ st with mem:=db st.mem d (ps.map .pv),sh:=dL st.sh [.agg cs] }
     | none=>st
   | none=>st
 | _,st=>st
def jG:List Nat→St→St
 | [],st=>st
 | t::r,st=>match look st.env t with
   | some v=>match eM st.sh v with
     | some p=>jG r { st with env:=db st.env t (.pv p),sh:=dL st.sh [v] }
     | none=>jG r (tq v st)
   | none=>jG r st
def cV (orc:d0) (k:Nat):aw→St→Option (aO×St)
 | .skip,st=>some (.normal,st)
 | .ah ops live,st=>match bA orc ops st with
   | some st'=>some (.normal,restrict live st')
   | none=>none
 | .seq a b,st=>match cV orc k a st with
   | some (.normal,st')=>cV orc k b st'
   | r=>r
 | .cond c a b,st=>match ff st.env c with
   | some (.pv (.bool t))=>if t then cV orc k a st else cV orc k b st
   | _=>none
 | .block id b,st=>match cV orc k b st with
   | some (.exit id',st')=>if id'=id then some (.normal,st') else some (.exit id',st')
   | r=>r
 | .loop live b,st=>d8 (cV orc k b) (fun s=>norm (restrict live s)) k st
 | .exit id,st=>some (.exit id,st)
 | .ret,st=>some (.ret,st)
 | .back c gb pi px sz ag live x y,st=>gn (andThen (cV orc k x) (cV orc k y)) (ff st.env c) gb pi px sz ag live st
 | .eM ts,st=>some (.normal,jG ts st)
def bP:Nat→List AV→List (Nat×AV)
 | _,[]=>[]
 | i,v::r=>(i,v)::bP (i+1) r
def lE (st:St):mH→Option AV
 | .t n=>look st.env n
 | .c key sz ag=>match look st.env key with
   | some (.aT d 0)=>match look st.mem key with
     | some cs=>if d=key then bN ag sz cs 0 else none
     | none=>none
   | some (.ba s 0)=>match st.sh[s]? with
     | some (some cs)=>if cA cs=true then none else bN ag sz cs 0
     | _=>none
   | _=>none
def dB (st:St):List mH→Option (List AV)
 | []=>some []
 | r::rs=>match lE st r,dB st rs with
   | some v,some vs=>some (v::vs)
   | _,_=>none
def mM (sh:Sh) (v:AV):AV:=match eM sh v with | some p=>.pv p | none=>v
def jT (sh:Sh) (v:AV):AV:=match v with
 | .bR l=>.bR l
 | v=>if aP v=true then mM sh v else v
def kY (sh:Sh) (v:AV):AV:=match v with
 | .bR l=>.bR l
 | .own l τ=>.own l τ
 | .agg cs=>.agg (cs.map (jT sh))
 | v=>mM sh v
def bU (aM ks:Bool) (sh:Sh) (vs:List AV):List AV:=if aM then (if ks then vs else vs.map (kY sh)) else vs.map (mM sh)
def dX (aM ks:Bool) (sh:Sh) (vs:List AV):Sh:=if aM && ks then sh else dL sh vs
def bQ (orc:d0) (k:Nat) (aM:Bool) (af:aC) (args:List AV) (sh:Sh) (ts:au):Option (List AV×Sh×au):=
 match cV orc k af.body { env:=bP 0 args,mem:=[],sh,aa:=ts } with
 | some (e,st)=>
   if e=.ret∨e=.normal then
     match dB st af.results with
     | some vs=>
       let rs:=bU aM af.ks st.sh vs
       let sh':=if rs.all (az sh.length)=true then (dX aM af.ks st.sh vs).take sh.length else dX aM af.ks st.sh vs
       if rs.all bD=true then some ((cr st.aa rs sh').1,(cr st.aa rs sh').2.1,(cr st.aa rs sh').2.2.2) else none
     | none=>none
   else none
 | none=>none
def ez:List AV→Option (List PV)
 | []=>some []
 | .pv p::r=>(ez r).map (p::·)
 | _=>none
def run (AP:Nat→Option aC) (k:Nat):Nat→d0
 | 0=>{ p:=fun _ _=>none,i:=fun _ _ _ _=>none }
 | n+1=>
   { p:=fun g cU=>match AP g with
       | some af=>match af.mI with
         | some f=>f cU
         | none=>if cU.length=af.nparams∧cU.length≤af.ntmps then
             match bQ (run AP k n) k false af (cU.map .pv) [] [] with
             | some (rs,_)=>ez rs
             | none=>none
           else none
       | none=>none
     i:=fun g args sh ts=>match AP g with
       | some af=>if args.length≤af.ntmps then bQ (run AP k n) k true af args sh ts else none
       | none=>none }
end Go.Ab
