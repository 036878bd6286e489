import GoSem.Core.Value
import GoSem.Core.Ast
import GoSem.Core.View
/-
  The abstract machine: pure data, abstract values, slim code, and an evaluator with fuel. Nothing here mentions a program.
-/
set_option linter.unusedVariables false
set_option linter.unusedSimpArgs false
set_option maxRecDepth 100000
set_option maxHeartbeats 8000000
namespace Go.Ab
inductive PV where
 | bool (b:Bool)
 | int (k:IntKind) (n:Int)
 | str (s:List UInt8)
 | agg (cs:List PV)
 | a8 (els:List PV)
 deriving Inhabited
inductive AV where
 | un
 | pv (p:PV)
 | cg (els:List PV)
 | own (els:List PV) (tok:Nat)
 | agg (cs:List AV)
 | jg (vs:List AV)
 | bt (d off:Nat)
 | aT (b off:Nat)
 | cC (cs:List PV)
 | bh (b sz len:Nat) (ag:Bool)
 | fn (g:Nat) (cap:List AV)
 | cz
 | bY (s:Nat)
 | cN (kvs:List (PV×PV))
 | jn (b off n:Nat)
 deriving Inhabited
abbrev Sh:=List (Option (List AV))
abbrev au:=List Nat
inductive dD where
 | t (n:Nat)
 | c (v:AV)
 deriving Inhabited
inductive CK where
 | int | str | bool
 deriving Inhabited,DecidableEq
inductive zM where
 | mv | pick
 | bin (op:BinOp)
 | beq (neg:Bool)
 | un (op:UnOp)
 | conv (k:IntKind)
 | ext (i:Nat)
 | field (off sz:Nat) (ag:Bool)
 | bE (off:Nat)
 | aO (sz:Nat)
 | index
 | build (zero:List PV) (places:List (Nat×Nat))
 | bf (sz:Nat)
 | aR (sz:Nat) (ag:Bool)
 | slice (str:Bool) (sz:Nat) (lo hi mx:Bool)
 | len | gP | aI
 | mn | mx
 | Ch (g:Nat)
 | EZ (cs:List CK) (neg:Bool)
 | sw (sz:Nat) (lo hi:Bool)
 | b2s
 deriving Inhabited
inductive AK where
 | v (o:zM)
 | cD (key off sz:Nat) (ag:Bool)
 | ee (key off sz:Nat)
 | alloc (key:Nat) (zero:List PV)
 | box (key sz:Nat)
 | aJ (sz:Nat) (ag:Bool)
 | dE (sz:Nat)
 | kr (sz:Nat)
 | gz (zero:List PV)
 | iw (sz bytes:Nat) (ag:Bool) (zero:List PV)
 | append (sz bytes:Nat)
 | di (sz bytes:Nat) (ag:Bool)
 | d9 (sz bytes:Nat)
 | jN
 | gF (c:CK) (ok:Bool) (zero:PV)
 | lX (c:CK)
 | clone (sz bytes:Nat)
 | ft (sz:Nat) (zero:List PV)
 | ij (sz:Nat)
 | aA (g:Nat)
 | eK (g:Nat)
 | az (g:Nat) (own:List Nat)
 | gG (g:Nat)
 | gf
 | b_
 deriving Inhabited
structure dd where
 dst:Option Nat
 guard:Option (Nat×Bool)
 args:List dD
 op:AK
 deriving Inhabited
inductive aE where
 | skip
 | aq (ops:List dd) (live:List Nat)
 | seq (a b:aE)
 | cond (c:dD) (a b:aE)
 | block (id:Nat) (b:aE)
 | loop (live:List Nat) (b:aE)
 | exit (id:Nat)
 | ret
 | back (f:dD) (gb pi px sz:Nat) (ag:Bool) (live:List Nat) (x y:aE)
 | eF (ts:List Nat)
 deriving Inhabited
inductive lY where
 | t (n:Nat)
 | c (key sz:Nat) (ag:Bool)
 deriving Inhabited
structure aB where
 nparams:Nat
 ntmps:Nat
 results:List lY
 body:aE
 lL:Option (List PV→Option (List PV)):=none
 ks:Bool:=false
 deriving Inhabited
def look {α:Type}:List (Nat×α)→Nat→Option α
 | [],_=>none
 | (k,v)::r,t=>if k=t then some v else look r t
def cO {α:Type}:List (Nat×α)→Nat→α→List (Nat×α)
 | [],t,u=>[(t,u)]
 | (k,v)::r,t,u=>if k=t then (k,u)::r else (k,v)::cO r t u
structure St where
 env:List (Nat×AV)
 mem:List (Nat×List AV)
 sh:Sh
 aa:au
 deriving Inhabited
def aK:PV→List PV
 | .agg cs=>cs
 | p=>[p]
def aL:AV→List AV
 | .agg cs=>cs
 | .pv (.agg cs)=>cs.map .pv
 | v=>[v]
def ba:AV→Bool
 | .pv _ | .cg _ | .aT .. | .bh .. | .cz | .bY _ | .cN _=>true
 | .fn _ cap=>eG cap
 | .agg cs=>eG cs
 | _=>false
where eG:List AV→Bool
 | []=>true
 | v::r=>ba v && eG r
def aG:AV→Bool
 | .pv (.agg _)=>false
 | .pv _ | .cg _ | .aT .. | .bh .. | .cz | .bY _ | .cN _=>true
 | .fn g cap=>ba (.fn g cap)
 | .own ..=>true
 | _=>false
def cZ (v:AV):Bool:=aG v
def a7:AV→Bool
 | .own .. | .bt ..=>false
 | .agg cs=>dn cs
 | .jg cs=>dn cs
 | .fn _ cap=>dn cap
 | _=>true
where dn:List AV→Bool
 | []=>true
 | v::r=>a7 v && dn r
def eH:AV→Bool
 | .own ..=>true
 | v=>a7 v
def ef:List AV→Bool
 | []=>true
 | v::r=>eH v && ef r
def jd:AV→Option PV
 | .pv p=>some p
 | .cg l=>some (.a8 l)
 | .own l _=>some (.a8 l)
 | _=>none
def e8:PV→Bool
 | .agg _=>false
 | _=>true
def chunk (sz:Nat):Nat→List PV→List (List PV)
 | 0,_=>[]
 | n+1,l=>l.take sz::chunk sz n (l.drop sz)
def ix:List AV→Option (List PV)
 | []=>some []
 | v::r=>match jd v,ix r with
   | some p,some ps=>some (p::ps)
   | _,_=>none
def gA (sz:Nat) (ag:Bool) (n:Nat) (cells:List PV):Option (List PV):=
 if ag then some ((chunk sz n cells).map .agg)
 else if sz=1 then some cells else none
def cV:List AV→Bool
 | .cN _::_=>true
 | _=>false
def cq (sh:Sh):AV→Option PV
 | .bh b sz n ag=>match sh[b]? with
   | some (some cells)=>if cells.length=n*sz then ((ix cells).bind (gA sz ag n)).map .a8
     else if cV cells=false∧n*sz≤cells.length then ((ix (cells.take (n*sz))).bind (gA sz ag n)).map .a8 else none
   | _=>none
 | v=>jd v
def dF (sh:Sh):List AV→Option (List PV)
 | []=>some []
 | v::r=>if aG v=true then
     match cq sh v,dF sh r with
     | some p,some ps=>some (p::ps)
     | _,_=>none
   else none
def eF (sh:Sh):AV→Option PV
 | .agg cs=>(dF sh cs).map .agg
 | v=>cq sh v
def ca (sh:Sh):List AV→Option (List PV)
 | []=>some []
 | v::r=>match eF sh v,ca sh r with
   | some p,some ps=>some (p::ps)
   | _,_=>none
def dX:AV→List Nat
 | .bh b _ _ _=>[b]
 | .agg cs=>cs.flatMap fun | .bh b _ _ _=>[b] | _=>[]
 | _=>[]
def kill (sh:Sh) (l:List Nat):Sh:=l.foldl (fun s b=>s.set b none) sh
def dj (sh:Sh) (vs:List AV):Sh:=kill sh (vs.flatMap dX)
def aw (n:Nat):AV→Bool
 | .un | .pv _ | .cg _ | .own .. | .cz | .cC _ | .cN _=>true
 | .aT b _ | .bh b _ _ _ | .bY b=>decide (b<n)
 | .fn _ cap=>bR n cap
 | .agg cs=>bR n cs
 | _=>false
where bR (n:Nat):List AV→Bool
 | []=>true
 | v::r=>aw n v && bR n r
def lZ:CK→PV→PV→Option Bool
 | .int,.int k a,.int k' b=>if k=k' then some (a == b) else none
 | .str,.str a,.str b=>some (a == b)
 | .bool,.bool a,.bool b=>some (a == b)
 | _,_,_=>none
def c_:List CK→List PV→List PV→Option Bool
 | [],[],[]=>some true
 | c::cs,p::ps,q::qs=>match lZ c p q with
   | some true=>c_ cs ps qs
   | some false=>if ps.length=cs.length∧qs.length=cs.length then some false else none
   | none=>none
 | _,_,_=>none
def gB (c:CK):List (PV×PV)→PV→Option (Option PV)
 | [],_=>some none
 | (k',v)::r,k=>match lZ c k k' with
   | some true=>some (some v)
   | some false=>gB c r k
   | none=>none
def iy (c:CK):List (PV×PV)→PV→PV→Option (List (PV×PV))
 | [],k,p=>some [(k,p)]
 | (k',v)::r,k,p=>match lZ c k k' with
   | some true=>some ((k,p)::r)
   | some false=>(iy c r k p).map ((k',v)::·)
   | none=>none
def e_ (ok:Bool) (zero:PV) (r:Option PV):AV:=if ok then .jg [.pv (r.getD zero),.pv (.bool r.isSome)] else .pv (r.getD zero)
def ct (op:BinOp):AV→AV→Option AV
 | .pv (.int k a),.pv (.int k' b)=>
   if k=k'∨op=.shl∨op=.shr then
     match op with
     | .add=>some (.pv (.int k (k.wrap (a+b))))
     | .sub=>some (.pv (.int k (k.wrap (a-b))))
     | .mul=>some (.pv (.int k (k.wrap (a*b))))
     | .quo=>if b=0 then none else some (.pv (.int k (k.wrap (a.tdiv b))))
     | .rem=>if b=0 then none else some (.pv (.int k (a.tmod b)))
     | .eql=>some (.pv (.bool (a == b)))
     | .neq=>some (.pv (.bool (a != b)))
     | .lss=>some (.pv (.bool (decide (a<b))))
     | .leq=>some (.pv (.bool (decide (a≤b))))
     | .gtr=>some (.pv (.bool (decide (a > b))))
     | .geq=>some (.pv (.bool (decide (a≥b))))
     | .and=>some (.pv (.int k (k.wrap (BitVec.ofInt k.bits a &&& BitVec.ofInt k.bits b).toNat)))
     | .shl=>if b<0 then none else some (.pv (.int k (k.wrap (a*2 ^ (min b.toNat k.bits)))))
     | .shr=>if b<0 then none else some (.pv (.int k (a.fdiv (2 ^ (min b.toNat k.bits)))))
     | _=>none
   else none
 | .pv (.str a),.pv (.str b)=>
   match op with
   | .add=>if a.length+b.length≤9223372036854775807 then some (.pv (.str (a++b))) else none
   | .eql=>some (.pv (.bool (a == b)))
   | .neq=>some (.pv (.bool (!(a == b))))
   | .lss=>some (.pv (.bool (eo a b)))
   | .gtr=>some (.pv (.bool (!(eo a b || a == b))))
   | .leq=>some (.pv (.bool (eo a b || a == b)))
   | .geq=>some (.pv (.bool (!eo a b)))
   | _=>none
 | _,_=>none
where eo:List UInt8→List UInt8→Bool
 | _,[]=>false
 | [],_::_=>true
 | a::x,b::y=>a<b || (a == b && eo x y)
def E_ (op:UnOp):AV→Option AV
 | .pv (.bool b)=>match op with | .not=>some (.pv (.bool !b)) | _=>none
 | .pv (.int k n)=>match op with | .neg=>some (.pv (.int k (k.wrap (0-n)))) | _=>none
 | _=>none
def ck:AV→Option (List PV)
 | .pv (.a8 l)=>some l
 | .cg l=>some l
 | .own l _=>some l
 | _=>none
def bj (sz:Nat):List PV→Bool
 | []=>true
 | p::_=>(aK p).length == sz
def aN (cells:List AV) (off:Nat) (vs:List AV):List AV:=cells.take off++vs++cells.drop (off+vs.length)
def ik (cells:List AV):List (Nat×Nat)→List AV→Option (List AV)
 | [],[]=>some cells
 | (off,sz)::ps,v::vs=>
   if (aL v).length=sz∧off+sz≤cells.length∧(aL v).all aG=true then ik (aN cells off (aL v)) ps vs else none
 | _,_=>none
def bD (ag:Bool) (sz:Nat) (cs:List AV) (off:Nat):Option AV:=
 if off+sz≤cs.length then
   if ag then some (.agg ((cs.drop off).take sz))
   else if sz=1 then cs[off]? else none
 else none
def bS (ag:Bool) (sz:Nat) (cs:List PV):Option AV:=
 if sz≤cs.length then
   if ag then some (.pv (.agg (cs.take sz)))
   else if sz=1 then (cs[0]?).map .pv else none
 else none
def gH (lo hi mx:Bool) (n:Nat) (rest:List AV):Option (Int×Int×Option Int):=
 match lo,hi,mx,rest with
 | false,false,false,[]=>some (0,n,none)
 | true,false,false,[.pv (.int _ l)]=>some (l,n,none)
 | false,true,false,[.pv (.int _ h)]=>some (0,h,none)
 | true,true,false,[.pv (.int _ l),.pv (.int _ h)]=>some (l,h,none)
 | false,true,true,[.pv (.int _ h),.pv (.int _ m)]=>some (0,h,some m)
 | true,true,true,[.pv (.int _ l),.pv (.int _ h),.pv (.int _ m)]=>some (l,h,some m)
 | _,_,_,_=>none
def gg (str:Bool) (sz:Nat) (lo hi mx:Bool):List AV→Option AV
 | x::rest=>if str then
     match x with
     | .pv (.str s)=>match gH lo hi mx s.length rest with
       | some (l,h,none)=>if 0≤l∧l≤h∧h≤s.length then some (.pv (.str ((s.take h.toNat).drop l.toNat))) else none
       | _=>none
     | _=>none
   else match ck x with
     | some els=>match gH lo hi mx els.length rest with
       | some (l,h,m)=>if 0≤l∧l≤h∧h≤els.length∧(l=0∨bj sz els=true) then
           match m with
           | some m=>if m=h then some (.cg ((els.take h.toNat).drop l.toNat)) else none
           | none=>some (.pv (.a8 ((els.take h.toNat).drop l.toNat)))
         else none
       | none=>none
     | none=>none
 | []=>none
def jO (sz:Nat) (lo hi:Bool):List AV→Option AV
 | .bh b z n ag::rest=>if z=sz then
     match gH lo hi false n rest with
     | some (l,h,none)=>if 0≤l∧l≤h∧h≤n then some (if l=0 then .bh b z h.toNat ag else .jn b (l.toNat*sz) (h.toNat-l.toNat)) else none
     | _=>none
   else none
 | _=>none
def pO (sz:Nat):AV→Option (Nat×Nat×Nat)
 | .bh b z n _=>if z=sz then some (b,0,n) else none
 | .jn b off n=>some (b,off,n)
 | _=>none
def l0 (sz:Nat) (zero:List PV) (sh:Sh):Option (Nat×Nat×Nat)→Option Sh
 | some (b,off,n)=>match sh[b]? with
   | some (some cells)=>if cV cells=false∧off+n*sz≤cells.length∧zero.length=sz then some (sh.set b (some (aN cells off (List.replicate n (zero.map .pv)).flatten))) else none
   | _=>none
 | none=>none
def l3 (sz:Nat) (sh:Sh) (xs:List PV):AV→Option (Nat×Sh)
 | .bh b z n _=>match sh[b]? with
   | some (some cells)=>if z=sz∧bj sz xs=true∧cV cells=false∧n*sz≤cells.length then
       some (min xs.length n,sh.set b (some (aN cells 0 (((xs.take n).flatMap aK).map .pv)))) else none
   | _=>none
 | _=>none
def dY:List PV→Option (List UInt8)
 | []=>some []
 | .int .u8 n::r=>if 0≤n∧n<256 then (dY r).map (UInt8.ofNat n.toNat::·) else none
 | _=>none
def a_:zM→List AV→Option AV
 | .mv,[x]=>some x
 | .pick,[.pv (.bool c),a,b]=>some (if c then a else b)
 | .bin op,[a,b]=>ct op a b
 | .beq neg,[.pv (.bool a),.pv (.bool b)]=>some (.pv (.bool (if neg then !(a == b) else (a == b))))
 | .un op,[a]=>E_ op a
 | .conv k,[.pv (.int _ n)]=>some (.pv (.int k (k.wrap n)))
 | .ext i,[.jg vs]=>vs[i]?
 | .field off sz ag,[x]=>match x with
   | .agg cs=>bD ag sz cs off
   | .pv (.agg cs)=>bS ag sz (cs.drop off)
   | _=>none
 | .bE off,[x]=>match x with
   | .bt d o=>some (.bt d (o+off))
   | .aT b o=>some (.aT b (o+off))
   | .cC cs=>some (.cC (cs.drop off))
   | _=>none
 | .aO sz,[x,.pv (.int _ i)]=>
   if i<0 then none else
   match x with
   | .bh b sz' n _=>if sz=sz'∧i.toNat<n then some (.aT b (i.toNat*sz)) else none
   | x=>match ck x with
     | some els=>match els[i.toNat]? with
       | some el=>if (aK el).length=sz then some (.cC (aK el)) else none
       | none=>none
     | none=>none
 | .index,[.pv (.str s),.pv (.int _ i)]=>if i<0 then none else (s[i.toNat]?).map fun b=>.pv (.int .u8 b.toNat)
 | .build zero places,vs=>(ik (zero.map zeroCell) places vs).map .agg
 | .bf sz,vs=>(ca [] vs).bind fun els=>if els.all (fun e=>(aK e).length == sz) then some (.cg els) else none
 | .aR sz ag,[.cC cs]=>bS ag sz cs
 | .slice str sz lo hi mx,vs=>gg str sz lo hi mx vs
 | .sw sz lo hi,vs=>jO sz lo hi vs
 | .gP,[.pv (.str s)]=>some (.pv (.int .i64 s.length))
 | .len,[x]=>match x with
   | .bh _ _ n _=>some (.pv (.int .i64 n))
   | x=>(ck x).map fun l=>.pv (.int .i64 l.length)
 | .aI,[x]=>match x with
   | .bt .. | .aT .. | .cC _ | .fn ..=>some x
   | _=>none
 | .mn,[.pv (.int k x),.pv (.int k' y)]=>if k=k' then some (.pv (.int k (if y<x then y else x))) else none
 | .mx,[.pv (.int k x),.pv (.int k' y)]=>if k=k' then some (.pv (.int k (if y > x then y else x))) else none
 | .Ch g,cap=>some (.fn g cap)
 | .b2s,[x]=>((ck x).bind dY).map fun s=>.pv (.str s)
 | .EZ cs neg,[x,y]=>match eF [] x,eF [] y with
   | some (.agg ps),some (.agg qs)=>(c_ cs ps qs).map fun b=>.pv (.bool (if neg then !b else b))
   | _,_=>none
 | _,_=>none
where zeroCell:PV→AV
 | .a8 []=>.cg []
 | p=>.pv p
structure Out where
 val:AV
 cells:Option (List AV)
 sh:Sh
 aa:au
structure dC where
 p:Nat→List PV→Option (List PV)
 i:Nat→List AV→Sh→au→Option (List AV×Sh×au)
def lM:List PV→AV
 | [r]=>.pv r
 | rs=>.jg (rs.map .pv)
def jP:List AV→AV
 | [r]=>r
 | rs=>.jg rs
def il (v:AV):AV:=match eF [] v with | some p=>.pv p | none=>v
def AK.key:AK→Option Nat
 | .cD k _ _ _ | .ee k _ _ | .alloc k _ | .box k _=>some k
 | _=>none
def bB (sz bytes:Nat) (s x:AV) (aa:au):Option (AV×au):=
 match ck x with
 | none=>none
 | some xs=>if bj sz xs=true then
   match s with
   | .cg l=>if xs.isEmpty=true then some (.cg l,aa) else if bj sz l=true∧(l.length+xs.length)*bytes≤140737488355328 then
       some (.own (l++xs) aa.length,aa++[(l++xs).length]) else none
   | .own l τ=>if aa[τ]?=some l.length∧bj sz l=true∧(l.length+xs.length)*bytes≤140737488355328 then
       some (.own (l++xs) τ,aa.set τ (l++xs).length) else none
   | _=>none
   else none
def cU:List PV→List PV→Bool
 | [],[]=>true
 | .str a::r,.str b::q=>(a == b) && cU r q
 | _,_=>false
def pP (sz bytes:Nat) (xs:List PV) (s e:AV) (aa:au):Option PV:=
 match s,e with
 | .own l τ,.own m σ=>if τ=σ∧aa[τ]?=some m.length∧m.length=l.length+xs.length∧bj 1 l=true∧bj 1 xs=true∧sz=1 ∧
     cU (m.drop l.length) xs=true∧xs.isEmpty=false∧m.length*bytes≤140737488355328 then some (.a8 (l++xs)) else none
 | _,_=>none
def sx (sz bytes:Nat) (ag:Bool) (s:AV) (xs:List PV) (sh:Sh):Option (AV×Sh):=
 if xs.isEmpty=true then some (s,sh) else if xs.length*bytes≤140737488355328 then some (.bh sh.length sz xs.length ag,sh++[some ((xs.flatMap aK).map .pv)]) else none
def oo (sz bytes:Nat) (ag:Bool) (s:AV) (xs:List PV) (sh:Sh) (aa:au):Option (AV×Sh):=
 match s with
 | .cg []=>sx sz bytes ag s xs sh
 | .own [] τ=>if aa[τ]?=some 0 then sx sz bytes ag s xs sh else none
 | .bh b z n g=>match sh[b]? with
   | some (some cells)=>if z=sz∧g=ag∧cV cells=false∧n*sz≤cells.length∧(n+xs.length)*bytes≤140737488355328 then
       if xs.isEmpty=true then some (.bh b sz n ag,sh) else some (.bh sh.length sz (n+xs.length) ag,sh.set b none++[some (cells.take (n*sz)++(xs.flatMap aK).map .pv)])
     else none
   | _=>none
 | _=>none
def cM (aC ts:au):AV→AV×au×au
 | .own l τ=>if aC[τ]?=some l.length then (.own l ts.length,aC.set τ (l.length+1),ts++[l.length]) else (.pv (.a8 l),aC,ts)
 | v=>(v,aC,ts)
def bT (aC ts:au):List AV→List AV×au×au
 | []=>([],aC,ts)
 | v::r=>((cM aC ts v).1::(bT (cM aC ts v).2.1 (cM aC ts v).2.2 r).1,(bT (cM aC ts v).2.1 (cM aC ts v).2.2 r).2)
def bd (aC ts:au):AV→AV×au×au
 | .own l τ=>if aC[τ]?=some l.length then (.own l ts.length,aC.set τ (l.length+1),ts++[l.length]) else (.pv (.a8 l),aC,ts)
 | .cg l=>(.own l ts.length,aC,ts++[l.length])
 | .agg cs=>if a7.dn cs=true then (.agg cs,aC,ts) else (.agg (bT aC ts cs).1,(bT aC ts cs).2.1,(bT aC ts cs).2.2)
 | v=>(v,aC,ts)
def aV (aC ts:au):List AV→List AV×au×au
 | []=>([],aC,ts)
 | v::r=>((bd aC ts v).1::(aV (bd aC ts v).2.1 (bd aC ts v).2.2 r).1,(aV (bd aC ts v).2.1 (bd aC ts v).2.2 r).2)
def bQ (aC ts:au):Sh→Sh×au×au
 | []=>([],aC,ts)
 | none::r=>(none::(bQ aC ts r).1,(bQ aC ts r).2)
 | some cs::r=>(some (aV aC ts cs).1::(bQ (aV aC ts cs).2.1 (aV aC ts cs).2.2 r).1,(bQ (aV aC ts cs).2.1 (aV aC ts cs).2.2 r).2)
def cm (aa:au) (xs:List AV) (sh:Sh):List AV×Sh×au×au:=
 ((aV aa [] xs).1,(bQ (aV aa [] xs).2.1 (aV aa [] xs).2.2 sh).1,(bQ (aV aa [] xs).2.1 (aV aa [] xs).2.2 sh).2.1,(bQ (aV aa [] xs).2.1 (aV aa [] xs).2.2 sh).2.2)
def eI:AV→Bool
 | .own ..=>true
 | v=>ba v
def dG:List AV→Bool
 | []=>true
 | v::r=>eI v && dG r
def bp:AV→Bool
 | .own ..=>true
 | .agg cs=>dG cs
 | v=>ba v
def dH (n:Nat):AV→AV
 | .own l τ=>.own l (τ+n)
 | v=>v
def bM (n:Nat):AV→AV
 | .own l τ=>.own l (τ+n)
 | .agg cs=>if a7.dn cs=true then .agg cs else .agg (cs.map (dH n))
 | v=>v
def fu (n:Nat) (sh:Sh):Sh:=sh.map fun o=>o.map fun cs=>cs.map (bM n)
def dv (own:List Nat):Nat→List AV→List AV
 | _,[]=>[]
 | i,v::r=>(if own.contains i then v else il v)::dv own (i+1) r
def da (orc:dC) (g:Nat) (own:List Nat) (vals:List AV) (sh:Sh) (aa:au):Option (AV×Sh×au):=
 if (dv own 0 vals).all bp=true then
   (orc.i g (cm aa (dv own 0 vals) sh).1 (cm aa (dv own 0 vals) sh).2.1 (cm aa (dv own 0 vals) sh).2.2.2).map fun (rs,sh',ts)=>
     (jP (rs.map (bM aa.length)),fu aa.length sh',(cm aa (dv own 0 vals) sh).2.2.1++ts)
 else none
def bA (v:AV):List AV:=match v with
 | .cg l=>[.cg l]
 | .own l τ=>[.own l τ]
 | v=>match eF [] v with | some p=>aL (.pv p) | none=>aL v
mutual
def je:PV→PV→Bool
 | .bool a,.bool b=>a == b
 | .int k a,.int l b=>decide (k=l) && (a == b)
 | .str a,.str b=>a == b
 | .agg a,.agg b=>jQ a b
 | .a8 a,.a8 b=>jQ a b
 | _,_=>false
def jQ:List PV→List PV→Bool
 | [],[]=>true
 | a::r,b::q=>je a b && jQ r q
 | _,_=>false
end
def EP:AV→AV→Bool
 | .pv a,.pv b=>je a b
 | _,_=>false
def nc:List AV→List AV→Bool
 | [],[]=>true
 | a::r,b::q=>EP a b && nc r q
 | _,_=>false
def iv:Sh→Sh→Bool
 | [],[]=>true
 | none::r,none::q=>iv r q
 | some a::r,some b::q=>nc a b && iv r q
 | _,_=>false
def F0 (sh:Sh):AV×Sh×au→Option Out
 | (v,sh',ts)=>if iv sh' sh=true then some ⟨v,none,sh,ts⟩ else none
def exec (orc:dC) (op:AK) (vals:List AV) (cells:Option (List AV)) (sh:Sh) (aa:au):Option Out:=
 match op,vals with
 | .v o,vals=>(a_ o vals).map fun x=>⟨x,none,sh,aa⟩
 | .cD key off sz ag,[.bt d o]=>if d=key∧o=off then
     match cells with
     | some cs=>(bD ag sz cs off).map fun x=>⟨x,none,sh,aa⟩
     | none=>none
   else none
 | .ee key off sz,[.bt d o,v]=>if d=key∧o=off∧(aL v).length=sz∧(aL v).all aG=true then
     match cells with
     | some cs=>if off+sz≤cs.length then some ⟨.un,some (aN cs off (aL v)),sh,aa⟩ else none
     | none=>none
   else none
 | .alloc key zero,[]=>match cells with
   | none=>some ⟨.bt key 0,some (zero.map a_.zeroCell),sh,aa⟩
   | some _=>none
 | .box key sz,[v]=>match cells with
   | none=>if (aL v).length=sz∧(aL v).all aG=true then some ⟨.bt key 0,some (aL v),sh,aa⟩ else none
   | some _=>none
 | .aJ sz ag,[p]=>match p with
   | .cC cs=>(bS ag sz cs).map fun x=>⟨x,none,sh,aa⟩
   | .aT b off=>match sh[b]? with
     | some (some cs)=>if cV cs=true then none else (bD ag sz cs off).map fun x=>⟨x,none,sh,aa⟩
     | _=>none
   | _=>none
 | .dE sz,[.aT b off,v]=>match sh[b]? with
   | some (some cs)=>
     let vs:=bA v
     if cV cs=false∧vs.length=sz∧off+sz≤cs.length∧vs.all cZ=true∧vs.all (aw (b+1))=true then
       some ⟨.un,none,sh.set b (some (aN cs off vs)),aa⟩ else none
   | _=>none
 | .kr sz,[v]=>
   let vs:=bA v
   if vs.length=sz∧vs.all cZ=true∧vs.all (aw sh.length)=true then
     some ⟨.aT sh.length 0,none,sh++[some vs],aa⟩ else none
 | .gz zero,[]=>some ⟨.aT sh.length 0,none,sh++[some (zero.map a_.zeroCell)],aa⟩
 | .iw sz bytes ag zero,[.pv (.int _ n),.pv (.int _ n')]=>
   if n=n'∧0≤n∧n≤9223372036854775807∧n*bytes≤140737488355328∧zero.length=sz then
     some ⟨.bh sh.length sz n.toNat ag,none,sh++[some ((List.replicate n.toNat (zero.map .pv)).flatten)],aa⟩ else none
 | .append sz bytes,[s,x]=>(bB sz bytes s x aa).map fun (v,ts)=>⟨v,none,sh,ts⟩
 | .di sz bytes ag,[s,x]=>match ck x with
   | some xs=>if bj sz xs=true then (oo sz bytes ag s xs sh aa).map fun (v,sh')=>⟨v,none,sh',aa⟩ else none
   | none=>none
 | .d9 sz bytes,[s,x,e]=>match ck x with
   | some xs=>(pP sz bytes xs s e aa).map fun p=>⟨.pv p,none,sh,aa⟩
   | none=>none
 | .clone sz bytes,[x]=>(bB sz bytes (.cg []) x aa).map fun (v,ts)=>⟨v,none,sh,ts⟩
 | .ft sz zero,[x]=>(l0 sz zero sh (pO sz x)).map fun sh'=>⟨.jg [],none,sh',aa⟩
 | .ij sz,[x,y]=>match ck y with
   | some xs=>(l3 sz sh xs x).map fun (k,sh')=>⟨.pv (.int .i64 (k:Int)),none,sh',aa⟩
   | none=>none
 | .jN,[]=>some ⟨.bY sh.length,none,sh++[some [.cN []]],aa⟩
 | .gF c ok zero,[m,k]=>match m,k with
   | .bY s,.pv k=>match sh[s]? with
     | some (some [.cN kvs])=>(gB c kvs k).map fun r=>⟨e_ ok zero r,none,sh,aa⟩
     | _=>none
   | _,_=>none
 | .lX c,[m,k,v]=>match m,k with
   | .bY s,.pv k=>match sh[s]?,eF [] v with
     | some (some [.cN kvs]),some p=>(iy c kvs k p).map fun kvs'=>⟨.un,none,sh.set s (some [.cN kvs']),aa⟩
     | _,_=>none
   | _,_=>none
 | .aA g,vals=>match ca [] vals with
   | some cd=>(orc.p g cd).map fun rs=>⟨lM rs,none,sh,aa⟩
   | none=>none
 | .eK g,vals=>match ca sh vals with
   | some cd=>(orc.p g cd).map fun rs=>⟨lM rs,none,dj sh vals,aa⟩
   | none=>none
 | .az g own,vals=>(da orc g own vals sh aa).map fun (v,sh',ts)=>⟨v,none,sh',ts⟩
 | .gG g,vals=>match ca [] vals with
   | some cd=>match orc.i g (cd.map .pv) [] [] with
     | some (rs,[],ts)=>some ⟨jP (rs.map (bM aa.length)),none,sh,aa++ts⟩
     | _=>none
   | none=>none
 | .b_,f::vals=>match f with
   | .fn g cap=>(da orc g [] (vals++cap) sh aa).bind (F0 sh)
   | _=>none
 | .gf,f::vals=>match f with
   | .fn g cap=>(da orc g [] (vals++cap) sh aa).map fun (v,sh',ts)=>⟨v,none,sh',ts⟩
   | _=>none
 | _,_=>none
def eJ (env:List (Nat×AV)):dD→Option AV
 | .t n=>look env n
 | .c v=>some v
def dc (env:List (Nat×AV)):List dD→Option (List AV)
 | []=>some []
 | x::r=>match eJ env x,dc env r with
   | some v,some vs=>some (v::vs)
   | _,_=>none
def dQ (env:List (Nat×AV)):Option (Nat×Bool)→Option Bool
 | none=>some true
 | some (t,b)=>match look env t with
   | some (.pv (.bool c))=>some (c == b)
   | some .un=>some false
   | _=>none
def ep (env:List (Nat×AV)):Option Nat→AV→List (Nat×AV)
 | some d,v=>cO env d v
 | none,_=>env
def dZ (mem:List (Nat×List AV)):Option Nat→Option (List AV)→List (Nat×List AV)
 | some k,some cs=>cO mem k cs
 | _,_=>mem
def dp (orc:dC) (o:dd) (st:St):Option St:=
 match dQ st.env o.guard with
 | none=>none
 | some false=>some { st with env:=ep st.env o.dst .un }
 | some true=>
   match dc st.env o.args with
   | none=>none
   | some vals=>
     match exec orc o.op vals (o.op.key.bind (look st.mem)) st.sh st.aa with
     | none=>none
     | some out=>some { env:=ep st.env o.dst out.val,mem:=dZ st.mem o.op.key out.cells,sh:=out.sh,aa:=out.aa }
def bl (orc:dC):List dd→St→Option St
 | [],st=>some st
 | o::r,st=>match dp orc o st with
   | none=>none
   | some st'=>bl orc r st'
def df (live:List Nat):AV→Bool
 | .bt d _=>live.contains d
 | .own ..=>true
 | .agg cs=>ef cs
 | v=>a7 v
def bm (live:List Nat) (env:List (Nat×AV)):List Nat→List (Nat×AV)
 | []=>[]
 | t::r=>match look env t with
   | some v=>if df live v=true then (t,v)::bm live env r else bm live env r
   | none=>bm live env r
def bn (mem:List (Nat×List AV)):List Nat→List (Nat×List AV)
 | []=>[]
 | t::r=>match look mem t with
   | some v=>(t,v)::bn mem r
   | none=>bn mem r
def restrict (live:List Nat) (st:St):St:=
 { st with env:=bm live st.env live,mem:=bn st.mem live }
def cE (aC ts:au):List (Nat×AV)→List (Nat×AV)×au×au
 | []=>([],aC,ts)
 | (t,v)::r=>((t,(bd aC ts v).1)::(cE (bd aC ts v).2.1 (bd aC ts v).2.2 r).1,(cE (bd aC ts v).2.1 (bd aC ts v).2.2 r).2)
def dI (aC ts:au):List (Nat×List AV)→List (Nat×List AV)×au×au
 | []=>([],aC,ts)
 | (t,v)::r=>((t,(aV aC ts v).1)::(dI (aV aC ts v).2.1 (aV aC ts v).2.2 r).1,(dI (aV aC ts v).2.1 (aV aC ts v).2.2 r).2)
def norm (st:St):St:=
 { env:=(cE st.aa [] st.env).1,
   mem:=(dI (cE st.aa [] st.env).2.1 (cE st.aa [] st.env).2.2 st.mem).1,
   sh:=(bQ (dI (cE st.aa [] st.env).2.1 (cE st.aa [] st.env).2.2 st.mem).2.1 (dI (cE st.aa [] st.env).2.1 (cE st.aa [] st.env).2.2 st.mem).2.2 st.sh).1,
   aa:=(bQ (dI (cE st.aa [] st.env).2.1 (cE st.aa [] st.env).2.2 st.mem).2.1 (dI (cE st.aa [] st.env).2.1 (cE st.aa [] st.env).2.2 st.mem).2.2 st.sh).2.2 }
inductive aH where
 | normal | ret | exit (id:Nat)
 deriving Inhabited,DecidableEq
def dJ (f:St→Option (aH×St)) (pre:St→St):Nat→St→Option (aH×St)
 | 0,_=>none
 | n+1,st=>match f (pre st) with
   | some (.normal,st')=>dJ f pre n st'
   | r=>r
def nd (sz:Nat) (ag:Bool) (el:PV):Option AV:=if (aK el).length=sz then bS ag sz (aK el) else none
def fw (f:St→Option (aH×St)) (live:List Nat) (pi px sz:Nat) (ag:Bool) (env:List (Nat×AV)):List (PV×Nat)→St→Option (aH×St)
 | [],st=>some (.normal,{ st with env:=env })
 | (el,i)::r,st=>match nd sz ag el with
   | none=>none
   | some v=>match f (norm (restrict live { st with env:=cO (cO env pi (.pv (.int .i64 i))) px v })) with
     | some (.normal,st')=>fw f live pi px sz ag env r st'
     | some (e,st')=>some (e,{ st' with env:=env })
     | none=>none
def andThen (f g:St→Option (aH×St)) (st:St):Option (aH×St):=match f st with
 | some (.normal,st')=>g st'
 | _=>none
def iS (live:List Nat) (env:List (Nat×AV)):List (Nat×AV):=(bm live env live).filter fun p=>a7 p.2
def fC (f:St→Option (aH×St)) (v:Option AV) (gb pi px sz:Nat) (ag:Bool) (live:List Nat) (st:St):Option (aH×St):=
 match v with
 | some (.fn g [.aT s 0])=>if g=gb then
     match st.sh[s]? with
     | some (some [.pv (.a8 l)])=>if l.length<4611686018427387904 then fw f live pi px sz ag (iS live st.env) l.zipIdx.reverse { st with sh:=kill st.sh [s] } else none
     | _=>none
   else none
 | _=>none
def sy:AV→St→St
 | .bt d 0,st=>match look st.mem d with
   | some cs=>match dF st.sh cs with
     | some ps=>{ st with mem:=cO st.mem d (ps.map .pv),sh:=dj st.sh [.agg cs] }
     | none=>st
   | none=>st
 | _,st=>st
def jf:List Nat→St→St
 | [],st=>st
 | t::r,st=>match look st.env t with
   | some v=>match eF st.sh v with
     | some p=>jf r { st with env:=cO st.env t (.pv p),sh:=dj st.sh [v] }
     | none=>jf r (sy v st)
   | none=>jf r st
def cI (orc:dC) (k:Nat):aE→St→Option (aH×St)
 | .skip,st=>some (.normal,st)
 | .aq ops live,st=>match bl orc ops st with
   | some st'=>some (.normal,restrict live st')
   | none=>none
 | .seq a b,st=>match cI orc k a st with
   | some (.normal,st')=>cI orc k b st'
   | r=>r
 | .cond c a b,st=>match eJ st.env c with
   | some (.pv (.bool t))=>if t then cI orc k a st else cI orc k b st
   | _=>none
 | .block id b,st=>match cI orc k b st with
   | some (.exit id',st')=>if id'=id then some (.normal,st') else some (.exit id',st')
   | r=>r
 | .loop live b,st=>dJ (cI orc k b) (fun s=>norm (restrict live s)) k st
 | .exit id,st=>some (.exit id,st)
 | .ret,st=>some (.ret,st)
 | .back c gb pi px sz ag live x y,st=>fC (andThen (cI orc k x) (cI orc k y)) (eJ st.env c) gb pi px sz ag live st
 | .eF ts,st=>some (.normal,jf ts st)
def bF:Nat→List AV→List (Nat×AV)
 | _,[]=>[]
 | i,v::r=>(i,v)::bF (i+1) r
def kN (st:St):lY→Option AV
 | .t n=>look st.env n
 | .c key sz ag=>match look st.env key with
   | some (.bt d 0)=>match look st.mem key with
     | some cs=>if d=key then bD ag sz cs 0 else none
     | none=>none
   | some (.aT s 0)=>match st.sh[s]? with
     | some (some cs)=>if cV cs=true then none else bD ag sz cs 0
     | _=>none
   | _=>none
def de (st:St):List lY→Option (List AV)
 | []=>some []
 | r::rs=>match kN st r,de st rs with
   | some v,some vs=>some (v::vs)
   | _,_=>none
def l4 (sh:Sh) (v:AV):AV:=match eF sh v with | some p=>.pv p | none=>v
def jo (sh:Sh) (v:AV):AV:=match v with
 | .cg l=>.cg l
 | v=>if aG v=true then l4 sh v else v
def ku (sh:Sh) (v:AV):AV:=match v with
 | .cg l=>.cg l
 | .own l τ=>.own l τ
 | .agg cs=>.agg (cs.map (jo sh))
 | v=>l4 sh v
def bN (aF ks:Bool) (sh:Sh) (vs:List AV):List AV:=if aF then (if ks then vs else vs.map (ku sh)) else vs.map (l4 sh)
def dz (aF ks:Bool) (sh:Sh) (vs:List AV):Sh:=if aF && ks then sh else dj sh vs
def bG (orc:dC) (k:Nat) (aF:Bool) (af:aB) (args:List AV) (sh:Sh) (ts:au):Option (List AV×Sh×au):=
 match cI orc k af.body { env:=bF 0 args,mem:=[],sh,aa:=ts } with
 | some (e,st)=>
   if e=.ret∨e=.normal then
     match de st af.results with
     | some vs=>
       let rs:=bN aF af.ks st.sh vs
       let sh':=if rs.all (aw sh.length)=true then (dz aF af.ks st.sh vs).take sh.length else dz aF af.ks st.sh vs
       if rs.all bp=true then some ((cm st.aa rs sh').1,(cm st.aa rs sh').2.1,(cm st.aa rs sh').2.2.2) else none
     | none=>none
   else none
 | none=>none
def d0:List AV→Option (List PV)
 | []=>some []
 | .pv p::r=>(d0 r).map (p::·)
 | _=>none
def run (AP:Nat→Option aB) (k:Nat):Nat→dC
 | 0=>{ p:=fun _ _=>none,i:=fun _ _ _ _=>none }
 | n+1=>
   { p:=fun g cd=>match AP g with
       | some af=>match af.lL with
         | some f=>f cd
         | none=>if cd.length=af.nparams∧cd.length≤af.ntmps then
             match bG (run AP k n) k false af (cd.map .pv) [] [] with
             | some (rs,_)=>d0 rs
             | none=>none
           else none
       | none=>none
     i:=fun g args sh ts=>match AP g with
       | some af=>if args.length≤af.ntmps then bG (run AP k n) k true af args sh ts else none
       | none=>none }
end Go.Ab
