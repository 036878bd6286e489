import GoSem.Core.Value
import GoSem.Core.Ast
import GoSem.Core.View
/-
  The abstract machine: pure data, abstract values, slim code, and an evaluator with fuel. Nothing here mentions a program.
-/
set_option linter.unusedVariables false
set_option linter.unusedSimpArgs false
set_option linter.unnecessarySimpa false
set_option maxRecDepth 100000
set_option maxHeartbeats 8000000
namespace Go.Ab
inductive PV where
 | bool (b:Bool)
 | int (k:IntKind) (n:Int)
 | str (s:List UInt8)
 | agg (cs:List PV)
 | aI (els:List PV)
 deriving Inhabited
inductive AV where
 | un
 | pv (p:PV)
 | bM (els:List PV)
 | own (els:List PV) (tok:Nat)
 | agg (cs:List AV)
 | pg (vs:List AV)
 | aG (d off:Nat)
 | br (b off:Nat)
 | gf (cs:List PV)
 | bE (b sz len:Nat) (ag:Bool)
 | fn (g:Nat) (cap:List AV)
 | jN
 | jO (s:Nat)
 | fF (kvs:List (PV×PV))
 | oA (b off n:Nat)
 | jP (d n:Nat)
 deriving Inhabited
abbrev Sh:=List (Option (List AV))
abbrev aN:=List Nat
inductive e8 where
 | t (n:Nat)
 | c (v:AV)
 deriving Inhabited
inductive CK where
 | int | str | bool
 deriving Inhabited,DecidableEq
inductive s9 where
 | mv | pick
 | bin (op:BinOp)
 | beq (neg:Bool)
 | un (op:UnOp)
 | conv (k:IntKind)
 | ext (i:Nat)
 | field (off sz:Nat) (ag:Bool)
 | aS (off:Nat)
 | aA (sz:Nat)
 | index
 | build (zero:List PV) (places:List (Nat×Nat))
 | aT (sz:Nat)
 | bG (sz:Nat) (ag:Bool)
 | slice (str:Bool) (sz:Nat) (lo hi mx:Bool)
 | len | jn | bo
 | mn | mx
 | Dp (g:Nat)
 | Ob (cs:List CK) (neg:Bool)
 | qL (sz:Nat) (lo hi:Bool)
 | b2s
 deriving Inhabited
inductive AK where
 | v (o:s9)
 | aU (key off sz:Nat) (ag:Bool)
 | cV (key off sz:Nat)
 | alloc (key:Nat) (zero:List PV)
 | box (key sz:Nat)
 | bg (sz:Nat) (ag:Bool)
 | cd (sz:Nat)
 | uT (sz:Nat)
 | mz (sz:Nat)
 | JE (sz:Nat)
 | iX (zero:List PV)
 | ir (sz bytes:Nat) (ag:Bool) (zero:List PV)
 | iY (key sz bytes:Nat) (zero:List PV)
 | append (sz bytes:Nat)
 | dd (sz bytes:Nat) (ag:Bool)
 | np (sz bytes:Nat)
 | Cq
 | qM (c:CK) (ok:Bool) (zero:PV)
 | JF (c:CK)
 | clone (sz bytes:Nat)
 | gJ (sz bytes:Nat) (ag:Bool)
 | gK (sz:Nat) (zero:List PV)
 | jq (sz:Nat)
 | aq (g:Nat)
 | dN (g:Nat)
 | aJ (g:Nat) (own:List Nat)
 | lg (g:Nat)
 | eV
 | dE
 deriving Inhabited
structure dv where
 dst:Option Nat
 guard:Option (Nat×Bool)
 args:List e8
 op:AK
 deriving Inhabited
inductive au where
 | skip
 | bl (ops:List dv) (live:List Nat)
 | seq (a b:au)
 | cond (c:e8) (a b:au)
 | block (id:Nat) (b:au)
 | loop (live:List Nat) (b:au)
 | exit (id:Nat)
 | ret
 | back (f:e8) (gb pi px sz:Nat) (ag:Bool) (live:List Nat) (x y:au)
 | dR (ts:List Nat)
 | Mn (ds:List (Nat×Nat))
 | lb (ps:List (Nat×Nat×Bool))
 | lh (ts:List Nat)
 | Mo (ts:List Nat)
 deriving Inhabited
inductive qN where
 | t (n:Nat)
 | c (key sz:Nat) (ag:Bool)
 deriving Inhabited
structure Prim where
 f:(Nat→List PV→Option (List PV))→List PV→Option (List PV)
 fin:∀o x r,f o x=some r→∃l:List (Nat×List PV×List PV),(∀c∈l,o c.1 c.2.1=some c.2.2)∧∀o',(∀c∈l,o' c.1 c.2.1=some c.2.2)→f o' x=some r
def Prim.pure (f:List PV→Option (List PV)):Prim:=⟨fun _=>f,fun _ _ _ h=>⟨[],by simp,fun _ _=>h⟩⟩
theorem Prim.mono (p:Prim) {a b:Nat→List PV→Option (List PV)} (h:∀g x r,a g x=some r→b g x=some r) {x:List PV} {r:List PV} (e:p.f a x=some r):p.f b x=some r:=by
 obtain ⟨l,h1,h2⟩:=p.fin a x r e;exact h2 b fun c hc=>h _ _ _ (h1 c hc)
structure aD where
 nparams:Nat
 ntmps:Nat
 results:List qN
 body:au
 qb:Option Prim:=none
 ks:Bool:=false
 deriving Inhabited
def look {α:Type}:List (Nat×α)→Nat→Option α
 | [],_=>none
 | (k,v)::r,t=>if k=t then some v else look r t
def dO {α:Type}:List (Nat×α)→Nat→α→List (Nat×α)
 | [],t,u=>[(t,u)]
 | (k,v)::r,t,u=>if k=t then (k,u)::r else (k,v)::dO r t u
structure St where
 env:List (Nat×AV)
 mem:List (Nat×List AV)
 sh:Sh
 ah:aN
 deriving Inhabited
def bw:PV→List PV
 | .agg cs=>cs
 | p=>[p]
def bF:AV→List AV
 | .agg cs=>cs
 | .pv (.agg cs)=>cs.map .pv
 | v=>[v]
def cC:AV→Bool
 | .pv _ | .bM _ | .br .. | .bE .. | .jN | .jO _ | .fF _=>true
 | .fn _ cap=>jQ cap
 | .agg cs=>jQ cs
 | _=>false
where jQ:List AV→Bool
 | []=>true
 | v::r=>cC v && jQ r
def bp:AV→Bool
 | .pv (.agg _)=>false
 | .pv _ | .bM _ | .br .. | .bE .. | .jN | .jO _ | .fF _=>true
 | .fn g cap=>cC (.fn g cap)
 | .own ..=>true
 | _=>false
def dS (v:AV):Bool:=bp v
def cz:AV→Bool
 | .own .. | .aG .. | .jP ..=>false
 | .agg cs=>gB cs
 | .pg cs=>gB cs
 | .fn _ cap=>gB cap
 | _=>true
where gB:List AV→Bool
 | []=>true
 | v::r=>cz v && gB r
def jr:AV→Bool
 | .own ..=>true
 | v=>cz v
def fR:List AV→Bool
 | []=>true
 | v::r=>jr v && fR r
def kS:AV→Option PV
 | .pv p=>some p
 | .bM l=>some (.aI l)
 | .own l _=>some (.aI l)
 | _=>none
def eI:PV→Bool
 | .agg _=>false
 | _=>true
def chunk (sz:Nat):Nat→List PV→List (List PV)
 | 0,_=>[]
 | n+1,l=>l.take sz::chunk sz n (l.drop sz)
def ff:List AV→Option (List PV)
 | []=>some []
 | v::r=>match kS v,ff r with
   | some p,some ps=>some (p::ps)
   | _,_=>none
def fh (sz:Nat) (ag:Bool) (n:Nat) (cells:List PV):Option (List PV):=
 if ag then some ((chunk sz n cells).map .agg)
 else if sz=1 then some cells else none
def dr:List AV→Bool
 | .fF _::_=>true
 | _=>false
def ee (sh:Sh):AV→Option PV
 | .bE b sz n ag=>match sh[b]? with
   | some (some cells)=>if cells.length=n*sz then ((ff cells).bind (fh sz ag n)).map .aI
     else if dr cells=false∧n*sz≤cells.length then ((ff (cells.take (n*sz))).bind (fh sz ag n)).map .aI else none
   | _=>none
 | v=>kS v
def dT (sh:Sh):List AV→Option (List PV)
 | []=>some []
 | v::r=>if bp v=true then
     match ee sh v,dT sh r with
     | some p,some ps=>some (p::ps)
     | _,_=>none
   else none
def dR (sh:Sh):AV→Option PV
 | .agg cs=>(dT sh cs).map .agg
 | v=>ee sh v
def dF (sh:Sh):List AV→Option (List PV)
 | []=>some []
 | v::r=>match dR sh v,dF sh r with
   | some p,some ps=>some (p::ps)
   | _,_=>none
def fm:AV→List Nat
 | .bE b _ _ _=>[b]
 | .agg cs=>cs.flatMap fun | .bE b _ _ _=>[b] | _=>[]
 | _=>[]
def kill (sh:Sh) (l:List Nat):Sh:=l.foldl (fun s b=>s.set b none) sh
def d5 (sh:Sh) (vs:List AV):Sh:=kill sh (vs.flatMap fm)
def aW (n:Nat):AV→Bool
 | .un | .pv _ | .bM _ | .own .. | .jN | .gf _ | .fF _=>true
 | .br b _ | .bE b _ _ _ | .jO b=>decide (b<n)
 | .fn _ cap=>cX n cap
 | .agg cs=>cX n cs
 | _=>false
where cX (n:Nat):List AV→Bool
 | []=>true
 | v::r=>aW n v && cX n r
def tP:CK→PV→PV→Option Bool
 | .int,.int k a,.int k' b=>if k=k' then some (a == b) else none
 | .str,.str a,.str b=>some (a == b)
 | .bool,.bool a,.bool b=>some (a == b)
 | _,_,_=>none
def ef:List CK→List PV→List PV→Option Bool
 | [],[],[]=>some true
 | c::cs,p::ps,q::qs=>match tP c p q with
   | some true=>ef cs ps qs
   | some false=>if ps.length=cs.length∧qs.length=cs.length then some false else none
   | none=>none
 | _,_,_=>none
def zI (c:CK):List (PV×PV)→PV→Option (Option PV)
 | [],_=>some none
 | (k',v)::r,k=>match tP c k k' with
   | some true=>some (some v)
   | some false=>zI c r k
   | none=>none
def Gu (c:CK):List (PV×PV)→PV→PV→Option (List (PV×PV))
 | [],k,p=>some [(k,p)]
 | (k',v)::r,k,p=>match tP c k k' with
   | some true=>some ((k,p)::r)
   | some false=>(Gu c r k p).map ((k',v)::·)
   | none=>none
def Cr (ok:Bool) (zero:PV) (r:Option PV):AV:=if ok then .pg [.pv (r.getD zero),.pv (.bool r.isSome)] else .pv (r.getD zero)
def dU (op:BinOp):AV→AV→Option AV
 | .pv (.int k a),.pv (.int k' b)=>
   if k=k'∨op=.shl∨op=.shr then
     match op with
     | .add=>some (.pv (.int k (k.wrap (a+b))))
     | .sub=>some (.pv (.int k (k.wrap (a-b))))
     | .mul=>some (.pv (.int k (k.wrap (a*b))))
     | .quo=>if b=0 then none else some (.pv (.int k (k.wrap (a.tdiv b))))
     | .rem=>if b=0 then none else some (.pv (.int k (a.tmod b)))
     | .eql=>some (.pv (.bool (a == b)))
     | .neq=>some (.pv (.bool (a != b)))
     | .lss=>some (.pv (.bool (decide (a<b))))
     | .leq=>some (.pv (.bool (decide (a≤b))))
     | .gtr=>some (.pv (.bool (decide (a > b))))
     | .geq=>some (.pv (.bool (decide (a≥b))))
     | .and=>some (.pv (.int k (k.wrap (BitVec.ofInt k.bits a &&& BitVec.ofInt k.bits b).toNat)))
     | .shl=>if b<0 then none else some (.pv (.int k (k.wrap (a*2 ^ (min b.toNat k.bits)))))
     | .shr=>if b<0 then none else some (.pv (.int k (a.fdiv (2 ^ (min b.toNat k.bits)))))
     | _=>none
   else none
 | .pv (.str a),.pv (.str b)=>
   match op with
   | .add=>if a.length+b.length≤9223372036854775807 then some (.pv (.str (a++b))) else none
   | .eql=>some (.pv (.bool (a == b)))
   | .neq=>some (.pv (.bool (!(a == b))))
   | .lss=>some (.pv (.bool (iL a b)))
   | .gtr=>some (.pv (.bool (!(iL a b || a == b))))
   | .leq=>some (.pv (.bool (iL a b || a == b)))
   | .geq=>some (.pv (.bool (!iL a b)))
   | _=>none
 | _,_=>none
where iL:List UInt8→List UInt8→Bool
 | _,[]=>false
 | [],_::_=>true
 | a::x,b::y=>a<b || (a == b && iL x y)
def Oc (op:UnOp):AV→Option AV
 | .pv (.bool b)=>match op with | .not=>some (.pv (.bool !b)) | _=>none
 | .pv (.int k n)=>match op with | .neg=>some (.pv (.int k (k.wrap (0-n)))) | _=>none
 | _=>none
def cR:AV→Option (List PV)
 | .pv (.aI l)=>some l
 | .bM l=>some l
 | .own l _=>some l
 | _=>none
def bC (sz:Nat):List PV→Bool
 | []=>true
 | p::_=>(bw p).length == sz
def bn (cells:List AV) (off:Nat) (vs:List AV):List AV:=cells.take off++vs++cells.drop (off+vs.length)
def kK (cells:List AV):List (Nat×Nat)→List AV→Option (List AV)
 | [],[]=>some cells
 | (off,sz)::ps,v::vs=>
   if (bF v).length=sz∧off+sz≤cells.length∧(bF v).all bp=true then kK (bn cells off (bF v)) ps vs else none
 | _,_=>none
def cA (ag:Bool) (sz:Nat) (cs:List AV) (off:Nat):Option AV:=
 if off+sz≤cs.length then
   if ag then some (.agg ((cs.drop off).take sz))
   else if sz=1 then cs[off]? else none
 else none
def df (ag:Bool) (sz:Nat) (cs:List PV):Option AV:=
 if sz≤cs.length then
   if ag then some (.pv (.agg (cs.take sz)))
   else if sz=1 then (cs[0]?).map .pv else none
 else none
def dZ (lo hi mx:Bool) (n:Nat) (rest:List AV):Option (Int×Int×Option Int):=
 match lo,hi,mx,rest with
 | false,false,false,[]=>some (0,n,none)
 | true,false,false,[.pv (.int _ l)]=>some (l,n,none)
 | false,true,false,[.pv (.int _ h)]=>some (0,h,none)
 | true,true,false,[.pv (.int _ l),.pv (.int _ h)]=>some (l,h,none)
 | false,true,true,[.pv (.int _ h),.pv (.int _ m)]=>some (0,h,some m)
 | true,true,true,[.pv (.int _ l),.pv (.int _ h),.pv (.int _ m)]=>some (l,h,some m)
 | _,_,_,_=>none
def cO (str:Bool) (sz:Nat) (lo hi mx:Bool):List AV→Option AV
 | x::rest=>if str then
     match x with
     | .pv (.str s)=>match dZ lo hi mx s.length rest with
       | some (l,h,none)=>if 0≤l∧l≤h∧h≤s.length then some (.pv (.str ((s.take h.toNat).drop l.toNat))) else none
       | _=>none
     | _=>none
   else match cR x with
     | some els=>match dZ lo hi mx els.length rest with
       | some (l,h,m)=>if 0≤l∧l≤h∧h≤els.length∧(l=0∨bC sz els=true) then
           match m with
           | some m=>if m=h then some (.bM ((els.take h.toNat).drop l.toNat)) else none
           | none=>some (.pv (.aI ((els.take h.toNat).drop l.toNat)))
         else none
       | none=>none
     | none=>none
 | []=>none
def jR (sz:Nat) (lo hi:Bool):List AV→Option AV
 | .bE b z n ag::rest=>if z=sz then
     match dZ lo hi false n rest with
     | some (l,h,none)=>if 0≤l∧l≤h∧h≤n then some (if l=0 then .bE b z h.toNat ag else .oA b (l.toNat*sz) (h.toNat-l.toNat)) else none
     | _=>none
   else none
 | _=>none
def qO (sz:Nat):AV→Option (Nat×Nat×Nat)
 | .bE b z n _=>if z=sz then some (b,0,n) else none
 | .oA b off n=>some (b,off,n)
 | _=>none
def mM (sz:Nat) (zero:List PV) (sh:Sh):Option (Nat×Nat×Nat)→Option Sh
 | some (b,off,n)=>match sh[b]? with
   | some (some cells)=>if dr cells=false∧off+n*sz≤cells.length∧zero.length=sz then some (sh.set b (some (bn cells off (List.replicate n (zero.map .pv)).flatten))) else none
   | _=>none
 | none=>none
def qP (sz:Nat) (sh:Sh) (xs:List PV):AV→Option (Nat×Sh)
 | .bE b z n _=>match sh[b]? with
   | some (some cells)=>if z=sz∧bC sz xs=true∧dr cells=false∧n*sz≤cells.length then
       some (min xs.length n,sh.set b (some (bn cells 0 (((xs.take n).flatMap bw).map .pv)))) else none
   | _=>none
 | _=>none
def fU:List PV→Option (List UInt8)
 | []=>some []
 | .int .u8 n::r=>if 0≤n∧n<256 then (fU r).map (UInt8.ofNat n.toNat::·) else none
 | _=>none
def cf:s9→List AV→Option AV
 | .mv,[x]=>some x
 | .pick,[.pv (.bool c),a,b]=>some (if c then a else b)
 | .bin op,[a,b]=>dU op a b
 | .beq neg,[.pv (.bool a),.pv (.bool b)]=>some (.pv (.bool (if neg then !(a == b) else (a == b))))
 | .un op,[a]=>Oc op a
 | .conv k,[.pv (.int _ n)]=>some (.pv (.int k (k.wrap n)))
 | .ext i,[.pg vs]=>vs[i]?
 | .field off sz ag,[x]=>match x with
   | .agg cs=>cA ag sz cs off
   | .pv (.agg cs)=>df ag sz (cs.drop off)
   | _=>none
 | .aS off,[x]=>match x with
   | .aG d o=>some (.aG d (o+off))
   | .br b o=>some (.br b (o+off))
   | .gf cs=>some (.gf (cs.drop off))
   | _=>none
 | .aA sz,[x,.pv (.int _ i)]=>
   if i<0 then none else
   match x with
   | .bE b sz' n _=>if sz=sz'∧i.toNat<n then some (.br b (i.toNat*sz)) else none
   | x=>match cR x with
     | some els=>match els[i.toNat]? with
       | some el=>if (bw el).length=sz then some (.gf (bw el)) else none
       | none=>none
     | none=>none
 | .index,[.pv (.str s),.pv (.int _ i)]=>if i<0 then none else (s[i.toNat]?).map fun b=>.pv (.int .u8 b.toNat)
 | .build zero places,vs=>(kK (zero.map zeroCell) places vs).map .agg
 | .aT sz,vs=>(dF [] vs).bind fun els=>if els.all (fun e=>(bw e).length == sz) then some (.bM els) else none
 | .bG sz ag,[.gf cs]=>df ag sz cs
 | .slice str sz lo hi mx,vs=>cO str sz lo hi mx vs
 | .qL sz lo hi,vs=>jR sz lo hi vs
 | .jn,[.pv (.str s)]=>some (.pv (.int .i64 s.length))
 | .len,[x]=>match x with
   | .bE _ _ n _=>some (.pv (.int .i64 n))
   | x=>(cR x).map fun l=>.pv (.int .i64 l.length)
 | .bo,[x]=>match x with
   | .aG .. | .br .. | .gf _ | .fn ..=>some x
   | _=>none
 | .mn,[.pv (.int k x),.pv (.int k' y)]=>if k=k' then some (.pv (.int k (if y<x then y else x))) else none
 | .mx,[.pv (.int k x),.pv (.int k' y)]=>if k=k' then some (.pv (.int k (if y > x then y else x))) else none
 | .Dp g,cap=>some (.fn g cap)
 | .b2s,[x]=>((cR x).bind fU).map fun s=>.pv (.str s)
 | .Ob cs neg,[x,y]=>match dR [] x,dR [] y with
   | some (.agg ps),some (.agg qs)=>(ef cs ps qs).map fun b=>.pv (.bool (if neg then !b else b))
   | _,_=>none
 | _,_=>none
where zeroCell:PV→AV
 | .aI []=>.bM []
 | p=>.pv p
structure Out where
 val:AV
 cells:Option (List AV)
 sh:Sh
 ah:aN
structure ep where
 p:Nat→List PV→Option (List PV)
 i:Nat→List AV→Sh→aN→Option (List AV×Sh×aN)
def qQ:List PV→AV
 | [r]=>.pv r
 | rs=>.pg (rs.map .pv)
def qR:List AV→AV
 | [r]=>r
 | rs=>.pg rs
def kL (v:AV):AV:=match dR [] v with | some p=>.pv p | none=>v
def AK.key:AK→Option Nat
 | .aU k _ _ _ | .cV k _ _ | .alloc k _ | .box k _ | .iY k _ _ _=>some k
 | _=>none
def cD (sz bytes:Nat) (s x:AV) (ah:aN):Option (AV×aN):=
 match cR x with
 | none=>none
 | some xs=>if bC sz xs=true then
   match s with
   | .bM l=>if xs.isEmpty=true then some (.bM l,ah) else if bC sz l=true∧(l.length+xs.length)*bytes≤140737488355328 then
       some (.own (l++xs) ah.length,ah++[(l++xs).length]) else none
   | .own l τ=>if ah[τ]?=some l.length∧bC sz l=true∧(l.length+xs.length)*bytes≤140737488355328 then
       some (.own (l++xs) τ,ah.set τ (l++xs).length) else none
   | _=>none
   else none
def wM:List PV→List PV→Bool
 | [],[]=>true
 | .str a::r,.str b::q=>(a == b) && wM r q
 | _,_=>false
def Od (sz bytes:Nat) (xs:List PV) (s e:AV) (ah:aN):Option PV:=
 match s,e with
 | .own l τ,.own m σ=>if τ=σ∧ah[τ]?=some m.length∧m.length=l.length+xs.length∧bC 1 l=true∧bC 1 xs=true∧sz=1 ∧
     wM (m.drop l.length) xs=true∧xs.isEmpty=false∧m.length*bytes≤140737488355328 then some (.aI (l++xs)) else none
 | _,_=>none
def qc (sz bytes:Nat) (ag:Bool) (s:AV) (xs:List PV) (sh:Sh):Option (AV×Sh):=
 if xs.isEmpty=true then some (s,sh) else if xs.length*bytes≤140737488355328 then some (.bE sh.length sz xs.length ag,sh++[some ((xs.flatMap bw).map .pv)]) else none
def qd (sz bytes:Nat) (ag:Bool) (s:AV) (xs:List PV) (sh:Sh) (ah:aN):Option (AV×Sh):=
 match s with
 | .bM []=>qc sz bytes ag s xs sh
 | .own [] τ=>if ah[τ]?=some 0 then qc sz bytes ag s xs sh else none
 | .bE b z n g=>match sh[b]? with
   | some (some cells)=>if z=sz∧g=ag∧dr cells=false∧n*sz≤cells.length∧(n+xs.length)*bytes≤140737488355328 then
       if xs.isEmpty=true then some (.bE b sz n ag,sh) else some (.bE sh.length sz (n+xs.length) ag,sh.set b none++[some (cells.take (n*sz)++(xs.flatMap bw).map .pv)])
     else none
   | _=>none
 | _=>none
def fW (o:Option Bool) (sz bytes:Nat) (x:AV) (sh:Sh) (ah:aN):Option (AV×Sh×aN):=match o with
 | none=>(cD sz bytes (.bM []) x ah).map fun (v,ts)=>(v,sh,ts)
 | some ag=>match cR x with
   | some xs=>if bC sz xs=true then (qc sz bytes ag (.bM []) xs sh).map fun (v,sh')=>(v,sh',ah) else none
   | none=>none
def gL (aY ts:aN):AV→AV×aN×aN
 | .own l τ=>if aY[τ]?=some l.length then (.own l ts.length,aY.set τ (l.length+1),ts++[l.length]) else (.pv (.aI l),aY,ts)
 | v=>(v,aY,ts)
def d9 (aY ts:aN):List AV→List AV×aN×aN
 | []=>([],aY,ts)
 | v::r=>((gL aY ts v).1::(d9 (gL aY ts v).2.1 (gL aY ts v).2.2 r).1,(d9 (gL aY ts v).2.1 (gL aY ts v).2.2 r).2)
def cg (aY ts:aN):AV→AV×aN×aN
 | .own l τ=>if aY[τ]?=some l.length then (.own l ts.length,aY.set τ (l.length+1),ts++[l.length]) else (.pv (.aI l),aY,ts)
 | .bM l=>(.own l ts.length,aY,ts++[l.length])
 | .agg cs=>if cz.gB cs=true then (.agg cs,aY,ts) else (.agg (d9 aY ts cs).1,(d9 aY ts cs).2.1,(d9 aY ts cs).2.2)
 | v=>(v,aY,ts)
def bP (aY ts:aN):List AV→List AV×aN×aN
 | []=>([],aY,ts)
 | v::r=>((cg aY ts v).1::(bP (cg aY ts v).2.1 (cg aY ts v).2.2 r).1,(bP (cg aY ts v).2.1 (cg aY ts v).2.2 r).2)
def bV (aY ts:aN):Sh→Sh×aN×aN
 | []=>([],aY,ts)
 | none::r=>(none::(bV aY ts r).1,(bV aY ts r).2)
 | some cs::r=>(some (bP aY ts cs).1::(bV (bP aY ts cs).2.1 (bP aY ts cs).2.2 r).1,(bV (bP aY ts cs).2.1 (bP aY ts cs).2.2 r).2)
def dm (ah:aN) (xs:List AV) (sh:Sh):List AV×Sh×aN×aN:=
 ((bP ah [] xs).1,(bV (bP ah [] xs).2.1 (bP ah [] xs).2.2 sh).1,(bV (bP ah [] xs).2.1 (bP ah [] xs).2.2 sh).2.1,(bV (bP ah [] xs).2.1 (bP ah [] xs).2.2 sh).2.2)
def kM:AV→Bool
 | .own ..=>true
 | v=>cC v
def fo:List AV→Bool
 | []=>true
 | v::r=>kM v && fo r
def ct:AV→Bool
 | .own ..=>true
 | .agg cs=>fo cs
 | v=>cC v
def lj (n:Nat):AV→AV
 | .own l τ=>.own l (τ+n)
 | v=>v
def dG (n:Nat):AV→AV
 | .own l τ=>.own l (τ+n)
 | .agg cs=>if cz.gB cs=true then .agg cs else .agg (cs.map (lj n))
 | v=>v
def fp (n:Nat) (sh:Sh):Sh:=sh.map fun o=>o.map fun cs=>cs.map (dG n)
def eS (own:List Nat):Nat→List AV→List AV
 | _,[]=>[]
 | i,v::r=>(if own.contains i then v else kL v)::eS own (i+1) r
def er (orc:ep) (g:Nat) (own:List Nat) (vals:List AV) (sh:Sh) (ah:aN):Option (AV×Sh×aN):=
 if (eS own 0 vals).all ct=true then
   (orc.i g (dm ah (eS own 0 vals) sh).1 (dm ah (eS own 0 vals) sh).2.1 (dm ah (eS own 0 vals) sh).2.2.2).map fun (rs,sh',ts)=>
     (qR (rs.map (dG ah.length)),fp ah.length sh',(dm ah (eS own 0 vals) sh).2.2.1++ts)
 else none
def cY (v:AV):List AV:=match v with
 | .bM l=>[.bM l]
 | .own l τ=>[.own l τ]
 | v=>match dR [] v with | some p=>bF (.pv p) | none=>bF v
mutual
def s_:PV→PV→Bool
 | .bool a,.bool b=>a == b
 | .int k a,.int l b=>decide (k=l) && (a == b)
 | .str a,.str b=>a == b
 | .agg a,.agg b=>qS a b
 | .aI a,.aI b=>qS a b
 | _,_=>false
def qS:List PV→List PV→Bool
 | [],[]=>true
 | a::r,b::q=>s_ a b && qS r q
 | _,_=>false
end
def Qi:AV→AV→Bool
 | .pv a,.pv b=>s_ a b
 | _,_=>false
def Dq:List AV→List AV→Bool
 | [],[]=>true
 | a::r,b::q=>Qi a b && Dq r q
 | _,_=>false
def qT:Sh→Sh→Bool
 | [],[]=>true
 | none::r,none::q=>qT r q
 | some a::r,some b::q=>Dq a b && qT r q
 | _,_=>false
def QC (sh:Sh):AV×Sh×aN→Option Out
 | (v,sh',ts)=>if qT sh' sh=true then some ⟨v,none,sh,ts⟩ else none
def exec (orc:ep) (op:AK) (vals:List AV) (cells:Option (List AV)) (sh:Sh) (ah:aN):Option Out:=
 match op,vals with
 | .v o,vals=>(cf o vals).map fun x=>⟨x,none,sh,ah⟩
 | .aU key off sz ag,[.aG d o]=>if d=key∧o=off then
     match cells with
     | some cs=>(cA ag sz cs off).map fun x=>⟨x,none,sh,ah⟩
     | none=>none
   else none
 | .cV key off sz,[.aG d o,v]=>if d=key∧o=off∧(bF v).length=sz∧(bF v).all bp=true then
     match cells with
     | some cs=>if off+sz≤cs.length then some ⟨.un,some (bn cs off (bF v)),sh,ah⟩ else none
     | none=>none
   else none
 | .alloc key zero,[]=>match cells with
   | none=>some ⟨.aG key 0,some (zero.map cf.zeroCell),sh,ah⟩
   | some _=>none
 | .box key sz,[v]=>match cells with
   | none=>if (bF v).length=sz∧(bF v).all bp=true then some ⟨.aG key 0,some (bF v),sh,ah⟩ else none
   | some _=>none
 | .bg sz ag,[p]=>match p with
   | .gf cs=>(df ag sz cs).map fun x=>⟨x,none,sh,ah⟩
   | .br b off=>match sh[b]? with
     | some (some cs)=>if dr cs=true then none else (cA ag sz cs off).map fun x=>⟨x,none,sh,ah⟩
     | _=>none
   | _=>none
 | .cd sz,[.br b off,v]=>match sh[b]? with
   | some (some cs)=>
     let vs:=cY v
     if dr cs=false∧vs.length=sz∧off+sz≤cs.length∧vs.all dS=true∧vs.all (aW (b+1))=true then
       some ⟨.un,none,sh.set b (some (bn cs off vs)),ah⟩ else none
   | _=>none
 | .mz sz,[v]=>
   let vs:=cY v
   if vs.length=sz∧vs.all dS=true∧vs.all (aW sh.length)=true then
     some ⟨.br sh.length 0,none,sh++[some vs],ah⟩ else none
 | .iX zero,[]=>some ⟨.br sh.length 0,none,sh++[some (zero.map cf.zeroCell)],ah⟩
 | .ir sz bytes ag zero,[.pv (.int _ n),.pv (.int _ n')]=>
   if n=n'∧0≤n∧n≤9223372036854775807∧n*bytes≤140737488355328∧zero.length=sz then
     some ⟨.bE sh.length sz n.toNat ag,none,sh++[some ((List.replicate n.toNat (zero.map .pv)).flatten)],ah⟩ else none
 | .iY key sz bytes zero,[.pv (.int _ n),.pv (.int _ n')]=>match cells with
   | none=>if n=n'∧0≤n∧n≤9223372036854775807∧n*bytes≤140737488355328∧zero.length=sz then
       some ⟨.jP key n.toNat,some ((List.replicate n.toNat (zero.map .pv)).flatten),sh,ah⟩ else none
   | some _=>none
 | .append sz bytes,[s,x]=>(cD sz bytes s x ah).map fun (v,ts)=>⟨v,none,sh,ts⟩
 | .dd sz bytes ag,[s,x]=>match cR x with
   | some xs=>if bC sz xs=true then (qd sz bytes ag s xs sh ah).map fun (v,sh')=>⟨v,none,sh',ah⟩ else none
   | none=>none
 | .clone sz bytes,[x]=>(cD sz bytes (.bM []) x ah).map fun (v,ts)=>⟨v,none,sh,ts⟩
 | .gJ sz bytes ag,[x]=>(fW (some ag) sz bytes x sh ah).map fun (v,sh',ts)=>⟨v,none,sh',ts⟩
 | .gK sz zero,[x]=>(mM sz zero sh (qO sz x)).map fun sh'=>⟨.pg [],none,sh',ah⟩
 | .jq sz,[x,y]=>match cR y with
   | some xs=>(qP sz sh xs x).map fun (k,sh')=>⟨.pv (.int .i64 (k:Int)),none,sh',ah⟩
   | none=>none
 | .aq g,vals=>match dF [] vals with
   | some dC=>(orc.p g dC).map fun rs=>⟨qQ rs,none,sh,ah⟩
   | none=>none
 | .dN g,vals=>match dF sh vals with
   | some dC=>(orc.p g dC).map fun rs=>⟨qQ rs,none,d5 sh vals,ah⟩
   | none=>none
 | .aJ g own,vals=>(er orc g own vals sh ah).map fun (v,sh',ts)=>⟨v,none,sh',ts⟩
 | .lg g,vals=>match dF [] vals with
   | some dC=>match orc.i g (dC.map .pv) [] [] with
     | some (rs,[],ts)=>some ⟨qR (rs.map (dG ah.length)),none,sh,ah++ts⟩
     | _=>none
   | none=>none
 | .dE,f::vals=>match f with
   | .fn g cap=>(er orc g [] (vals++cap) sh ah).bind (QC sh)
   | _=>none
 | .eV,f::vals=>match f with
   | .fn g cap=>(er orc g [] (vals++cap) sh ah).map fun (v,sh',ts)=>⟨v,none,sh',ts⟩
   | _=>none
 | _,_=>none
def gY (env:List (Nat×AV)):e8→Option AV
 | .t n=>look env n
 | .c v=>some v
def ei (env:List (Nat×AV)):List e8→Option (List AV)
 | []=>some []
 | x::r=>match gY env x,ei env r with
   | some v,some vs=>some (v::vs)
   | _,_=>none
def fG (env:List (Nat×AV)):Option (Nat×Bool)→Option Bool
 | none=>some true
 | some (t,b)=>match look env t with
   | some (.pv (.bool c))=>some (c == b)
   | some .un=>some false
   | _=>none
def fY (env:List (Nat×AV)):Option Nat→AV→List (Nat×AV)
 | some d,v=>dO env d v
 | none,_=>env
def e_ (mem:List (Nat×List AV)):Option Nat→Option (List AV)→List (Nat×List AV)
 | some k,some cs=>dO mem k cs
 | _,_=>mem
def eg (orc:ep) (o:dv) (st:St):Option St:=
 match fG st.env o.guard with
 | none=>none
 | some false=>some { st with env:=fY st.env o.dst .un }
 | some true=>
   match ei st.env o.args with
   | none=>none
   | some vals=>
     match exec orc o.op vals (o.op.key.bind (look st.mem)) st.sh st.ah with
     | none=>none
     | some out=>some { env:=fY st.env o.dst out.val,mem:=e_ st.mem o.op.key out.cells,sh:=out.sh,ah:=out.ah }
def bQ (orc:ep):List dv→St→Option St
 | [],st=>some st
 | o::r,st=>match eg orc o st with
   | none=>none
   | some st'=>bQ orc r st'
def en (live:List Nat):AV→Bool
 | .aG d _=>live.contains d
 | .jP d _=>live.contains d
 | .own ..=>true
 | .agg cs=>fR cs
 | v=>cz v
def cb (live:List Nat) (env:List (Nat×AV)):List Nat→List (Nat×AV)
 | []=>[]
 | t::r=>match look env t with
   | some v=>if en live v=true then (t,v)::cb live env r else cb live env r
   | none=>cb live env r
def ck (mem:List (Nat×List AV)):List Nat→List (Nat×List AV)
 | []=>[]
 | t::r=>match look mem t with
   | some v=>(t,v)::ck mem r
   | none=>ck mem r
def restrict (live:List Nat) (st:St):St:=
 { st with env:=cb live st.env live,mem:=ck st.mem live }
def dH (aY ts:aN):List (Nat×AV)→List (Nat×AV)×aN×aN
 | []=>([],aY,ts)
 | (t,v)::r=>((t,(cg aY ts v).1)::(dH (cg aY ts v).2.1 (cg aY ts v).2.2 r).1,(dH (cg aY ts v).2.1 (cg aY ts v).2.2 r).2)
def fq (aY ts:aN):List (Nat×List AV)→List (Nat×List AV)×aN×aN
 | []=>([],aY,ts)
 | (t,v)::r=>((t,(bP aY ts v).1)::(fq (bP aY ts v).2.1 (bP aY ts v).2.2 r).1,(fq (bP aY ts v).2.1 (bP aY ts v).2.2 r).2)
def norm (st:St):St:=
 { env:=(dH st.ah [] st.env).1,
   mem:=(fq (dH st.ah [] st.env).2.1 (dH st.ah [] st.env).2.2 st.mem).1,
   sh:=(bV (fq (dH st.ah [] st.env).2.1 (dH st.ah [] st.env).2.2 st.mem).2.1 (fq (dH st.ah [] st.env).2.1 (dH st.ah [] st.env).2.2 st.mem).2.2 st.sh).1,
   ah:=(bV (fq (dH st.ah [] st.env).2.1 (dH st.ah [] st.env).2.2 st.mem).2.1 (fq (dH st.ah [] st.env).2.1 (dH st.ah [] st.env).2.2 st.mem).2.2 st.sh).2.2 }
inductive bH where
 | normal | ret | exit (id:Nat)
 deriving Inhabited,DecidableEq
def fu (f:St→Option (bH×St)) (pre:St→St):Nat→St→Option (bH×St)
 | 0,_=>none
 | n+1,st=>match f (pre st) with
   | some (.normal,st')=>fu f pre n st'
   | r=>r
def Mp (sz:Nat) (ag:Bool) (el:PV):Option AV:=if (bw el).length=sz then df ag sz (bw el) else none
def ph (f:St→Option (bH×St)) (live:List Nat) (pi px sz:Nat) (ag:Bool) (env:List (Nat×AV)):List (PV×Nat)→St→Option (bH×St)
 | [],st=>some (.normal,{ st with env:=env })
 | (el,i)::r,st=>match Mp sz ag el with
   | none=>none
   | some v=>match f (norm (restrict live { st with env:=dO (dO env pi (.pv (.int .i64 i))) px v })) with
     | some (.normal,st')=>ph f live pi px sz ag env r st'
     | some (e,st')=>some (e,{ st' with env:=env })
     | none=>none
def andThen (f g:St→Option (bH×St)) (st:St):Option (bH×St):=match f st with
 | some (.normal,st')=>g st'
 | _=>none
def JG (live:List Nat) (env:List (Nat×AV)):List (Nat×AV):=(cb live env live).filter fun p=>cz p.2
def ll (f:St→Option (bH×St)) (v:Option AV) (gb pi px sz:Nat) (ag:Bool) (live:List Nat) (st:St):Option (bH×St):=
 match v with
 | some (.fn g [.br s 0])=>if g=gb then
     match st.sh[s]? with
     | some (some [.pv (.aI l)])=>if l.length<4611686018427387904 then ph f live pi px sz ag (JG live st.env) l.zipIdx.reverse { st with sh:=kill st.sh [s] } else none
     | _=>none
   else none
 | _=>none
def zJ:AV→St→St
 | .aG d 0,st=>match look st.mem d with
   | some cs=>match dT st.sh cs with
     | some ps=>{ st with mem:=dO st.mem d (ps.map .pv),sh:=d5 st.sh [.agg cs] }
     | none=>st
   | none=>st
 | _,st=>st
def mN:List Nat→St→St
 | [],st=>st
 | t::r,st=>match look st.env t with
   | some v=>match dR st.sh v with
     | some p=>mN r { st with env:=dO st.env t (.pv p),sh:=d5 st.sh [v] }
     | none=>mN r (zJ v st)
   | none=>mN r st
def apart:Option AV→Option AV→Bool
 | some (.br b _),some (.br b' _)=>b != b'
 | _,_=>false
def iE (env:List (Nat×AV)):List (Nat×Nat)→Bool
 | []=>true
 | (a,b)::r=>apart (look env a) (look env b) && iE env r
def Mq (d s sz n:Nat) (ag:Bool):AV→Option AV
 | .aG d' o=>some (if d'=d then .br s o else .aG d' o)
 | .jP d' m=>if d'=d then (if m*sz≤n then some (.bE s sz m ag) else none) else some (.jP d' m)
 | v=>if en [] v=true then some v else none
def Dr (d s sz n:Nat) (ag:Bool) (env:List (Nat×AV)):List Nat→List (Nat×AV)
 | []=>[]
 | t::r=>match (look env t).bind (Mq d s sz n ag) with
   | some v=>(t,v)::Dr d s sz n ag env r
   | none=>Dr d s sz n ag env r
def tc {α:Type} (d:Nat):List (Nat×α)→List (Nat×α)
 | []=>[]
 | (k,v)::r=>if k=d then tc d r else (k,v)::tc d r
def Mr (d sz:Nat) (ag:Bool) (st:St):St:=match look st.mem d with
 | some cells=>if cells.all dS=true∧cells.all (aW (st.sh.length+1))=true then
     { st with env:=Dr d st.sh.length sz cells.length ag st.env (st.env.map (·.1)),mem:=tc d st.mem,sh:=st.sh++[some cells] } else st
 | none=>st
def Gv:List (Nat×Nat×Bool)→St→St
 | [],st=>st
 | (d,sz,ag)::r,st=>Gv r (Mr d sz ag st)
def zL (b b':Nat):List Nat→List (Nat×AV)→List (Nat×AV)
 | [],env=>env
 | t::r,env=>match look env t with
   | some (.bE s z n ag)=>if s=b then zL b b' r (dO env t (.bE b' z n ag)) else zL b b' r env
   | _=>zL b b' r env
def Gw:List Nat→St→St
 | [],st=>st
 | t::r,st=>match look st.env t with
   | some (.bE b _ _ _)=>match st.sh[b]? with
     | some (some cells)=>if dr cells=false then { st with env:=zL b st.sh.length (t::r) st.env,sh:=st.sh.set b none++[some cells] } else st
     | _=>st
   | _=>st
def nq:List Nat→St→St
 | [],st=>st
 | t::r,st=>match look st.env t with
   | some (.bE b _ _ _)=>match st.sh[b]? with
     | some (some cells)=>if dr cells=false∧(fm (.agg cells)).contains b=false then
         match dT st.sh cells with
         | some ps=>nq r { st with sh:=(d5 st.sh [.agg cells]).set b (some (ps.map .pv)) }
         | none=>nq r st
       else nq r st
     | _=>nq r st
   | _=>nq r st
def de (orc:ep) (k:Nat):au→St→Option (bH×St)
 | .skip,st=>some (.normal,st)
 | .bl ops live,st=>match bQ orc ops st with
   | some st'=>some (.normal,restrict live st')
   | none=>none
 | .seq a b,st=>match de orc k a st with
   | some (.normal,st')=>de orc k b st'
   | r=>r
 | .cond c a b,st=>match gY st.env c with
   | some (.pv (.bool t))=>if t then de orc k a st else de orc k b st
   | _=>none
 | .block id b,st=>match de orc k b st with
   | some (.exit id',st')=>if id'=id then some (.normal,st') else some (.exit id',st')
   | r=>r
 | .loop live b,st=>fu (de orc k b) (fun s=>norm (restrict live s)) k st
 | .exit id,st=>some (.exit id,st)
 | .ret,st=>some (.ret,st)
 | .back c gb pi px sz ag live x y,st=>ll (andThen (de orc k x) (de orc k y)) (gY st.env c) gb pi px sz ag live st
 | .dR ts,st=>some (.normal,mN ts st)
 | .Mn ds,st=>if iE st.env ds=true then some (.normal,st) else none
 | .lb ps,st=>some (.normal,Gv ps st)
 | .lh ts,st=>some (.normal,Gw ts st)
 | .Mo ts,st=>some (.normal,nq ts st)
def cG:Nat→List AV→List (Nat×AV)
 | _,[]=>[]
 | i,v::r=>(i,v)::cG (i+1) r
def pj (st:St):qN→Option AV
 | .t n=>look st.env n
 | .c key sz ag=>match look st.env key with
   | some (.aG d 0)=>match look st.mem key with
     | some cs=>if d=key then cA ag sz cs 0 else none
     | none=>none
   | some (.br s 0)=>match st.sh[s]? with
     | some (some cs)=>if dr cs=true then none else cA ag sz cs 0
     | _=>none
   | _=>none
def et (st:St):List qN→Option (List AV)
 | []=>some []
 | r::rs=>match pj st r,et st rs with
   | some v,some vs=>some (v::vs)
   | _,_=>none
def qU (sh:Sh) (v:AV):AV:=match dR sh v with | some p=>.pv p | none=>v
def th (sh:Sh) (v:AV):AV:=match v with
 | .bM l=>.bM l
 | v=>if bp v=true then qU sh v else v
def zM (sh:Sh) (v:AV):AV:=match v with
 | .bM l=>.bM l
 | .own l τ=>.own l τ
 | .agg cs=>.agg (cs.map (th sh))
 | v=>qU sh v
def cP (bq ks:Bool) (sh:Sh) (vs:List AV):List AV:=if bq then (if ks then vs else vs.map (zM sh)) else vs.map (qU sh)
def eW (bq ks:Bool) (sh:Sh) (vs:List AV):Sh:=if bq && ks then sh else d5 sh vs
def cH (orc:ep) (k:Nat) (bq:Bool) (af:aD) (args:List AV) (sh:Sh) (ts:aN):Option (List AV×Sh×aN):=
 match de orc k af.body { env:=cG 0 args,mem:=[],sh,ah:=ts } with
 | some (e,st)=>
   if e=.ret∨e=.normal then
     match et st af.results with
     | some vs=>
       let rs:=cP bq af.ks st.sh vs
       let sh':=if rs.all (aW sh.length)=true then (eW bq af.ks st.sh vs).take sh.length else eW bq af.ks st.sh vs
       if rs.all ct=true then some ((dm st.ah rs sh').1,(dm st.ah rs sh').2.1,(dm st.ah rs sh').2.2.2) else none
     | none=>none
   else none
 | none=>none
def fZ:List AV→Option (List PV)
 | []=>some []
 | .pv p::r=>(fZ r).map (p::·)
 | _=>none
def run (AP:Nat→Option aD) (k:Nat):Nat→ep
 | 0=>{ p:=fun _ _=>none,i:=fun _ _ _ _=>none }
 | n+1=>
   { p:=fun g dC=>match AP g with
       | some af=>match af.qb with
         | some f=>f.f (run AP k n).p dC
         | none=>if dC.length=af.nparams∧dC.length≤af.ntmps then
             match cH (run AP k n) k false af (dC.map .pv) [] [] with
             | some (rs,_)=>fZ rs
             | none=>none
           else none
       | none=>none
     i:=fun g args sh ts=>match AP g with
       | some af=>if args.length≤af.ntmps then cH (run AP k n) k true af args sh ts else none
       | none=>none }
end Go.Ab
