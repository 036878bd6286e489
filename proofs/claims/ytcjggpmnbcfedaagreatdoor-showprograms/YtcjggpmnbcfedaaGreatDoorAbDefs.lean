import GoSem.Core.Value
import GoSem.Core.Ast
import GoSem.Core.View
/-
  The abstract machine: pure data, abstract values, slim code, and an evaluator with fuel. Nothing here mentions a program.
-/
set_option linter.unusedVariables false
set_option linter.unusedSimpArgs false
set_option linter.unnecessarySimpa false
set_option maxRecDepth 100000
set_option maxHeartbeats 8000000
namespace Go.Ab
inductive PV where
 | bool (b:Bool)
 | int (k:IntKind) (n:Int)
 | str (s:List UInt8)
 | agg (cs:List PV)
 | aE (els:List PV)
 deriving Inhabited
inductive AV where
 | un
 | pv (p:PV)
 | bJ (els:List PV)
 | own (els:List PV) (tok:Nat)
 | agg (cs:List AV)
 | nf (vs:List AV)
 | aB (d off:Nat)
 | aZ (b off:Nat)
 | dG (cs:List PV)
 | bz (b sz len:Nat) (ag:Bool)
 | fn (g:Nat) (cap:List AV)
 | dS
 | dj (s:Nat)
 | dQ (kvs:List (PV×PV))
 | nv (b off n:Nat)
 | ji (d n:Nat)
 deriving Inhabited
abbrev Sh:=List (Option (List AV))
abbrev aH:=List Nat
inductive fF where
 | t (n:Nat)
 | c (v:AV)
 deriving Inhabited
inductive CK where
 | int | str | bool
 deriving Inhabited,DecidableEq
inductive ua where
 | mv | pick
 | bin (op:BinOp)
 | beq (neg:Bool)
 | un (op:UnOp)
 | conv (k:IntKind)
 | ext (i:Nat)
 | field (off sz:Nat) (ag:Bool)
 | bp (off:Nat)
 | aC (sz:Nat)
 | index
 | build (zero:List PV) (places:List (Nat×Nat))
 | aR (sz:Nat)
 | bL (sz:Nat) (ag:Bool)
 | slice (str:Bool) (sz:Nat) (lo hi mx:Bool)
 | len | kq | bj
 | mn | mx
 | MH (g:Nat)
 | Rd (cs:List CK) (neg:Bool)
 | A3 (sz:Nat) (lo hi:Bool)
 | b2s
 deriving Inhabited
inductive AK where
 | v (o:ua)
 | bh (key off sz:Nat) (ag:Bool)
 | cY (key off sz:Nat)
 | alloc (key:Nat) (zero:List PV)
 | box (key sz:Nat)
 | bf (sz:Nat) (ag:Bool)
 | cZ (sz:Nat)
 | kG (sz:Nat)
 | nA (sz:Nat)
 | vW (sz:Nat)
 | jX (zero:List PV)
 | iY (sz bytes:Nat) (ag:Bool) (zero:List PV)
 | kr (key sz bytes:Nat) (zero:List PV)
 | append (sz bytes:Nat)
 | dH (sz bytes:Nat) (ag:Bool)
 | gW (sz bytes:Nat)
 | ot
 | ku (c:CK) (ok:Bool) (zero:PV)
 | rR (c:CK)
 | clone (sz bytes:Nat)
 | lQ (sz bytes:Nat) (ag:Bool)
 | jY (sz:Nat) (zero:List PV)
 | lR (sz:Nat)
 | aq (g:Nat)
 | d7 (g:Nat)
 | aF (g:Nat) (own:List Nat)
 | lA (g:Nat)
 | jG
 | dw
 deriving Inhabited
structure dK where
 dst:Option Nat
 guard:Option (Nat×Bool)
 args:List fF
 op:AK
 deriving Inhabited
inductive aA where
 | skip
 | bw (ops:List dK) (live:List Nat)
 | seq (a b:aA)
 | cond (c:fF) (a b:aA)
 | block (id:Nat) (b:aA)
 | loop (live:List Nat) (b:aA)
 | exit (id:Nat)
 | ret
 | back (f:fF) (gb pi px sz:Nat) (ag:Bool) (live:List Nat) (x y:aA)
 | dL (ts:List Nat)
 | PB (ds:List (Nat×Nat))
 | lS (ps:List (Nat×Nat×Bool))
 | mF (ts:List Nat)
 | QQ (ts:List Nat)
 deriving Inhabited
inductive rS where
 | t (n:Nat)
 | c (key sz:Nat) (ag:Bool)
 deriving Inhabited
structure Prim where
 f:(Nat→List PV→Option (List PV))→List PV→Option (List PV)
 fin:∀o x r,f o x=some r→∃l:List (Nat×List PV×List PV),(∀c∈l,o c.1 c.2.1=some c.2.2)∧∀o',(∀c∈l,o' c.1 c.2.1=some c.2.2)→f o' x=some r
def Prim.pure (f:List PV→Option (List PV)):Prim:=⟨fun _=>f,fun _ _ _ h=>⟨[],by simp,fun _ _=>h⟩⟩
theorem Prim.mono (p:Prim) {a b:Nat→List PV→Option (List PV)} (h:∀g x r,a g x=some r→b g x=some r) {x:List PV} {r:List PV} (e:p.f a x=some r):p.f b x=some r:=by
 obtain ⟨l,h1,h2⟩:=p.fin a x r e
 exact h2 b fun c hc=>h _ _ _ (h1 c hc)
structure aD where
 nparams:Nat
 ntmps:Nat
 results:List rS
 body:aA
 pE:Option Prim:=none
 ks:Bool:=false
 deriving Inhabited
def look {α:Type}:List (Nat×α)→Nat→Option α
 | [],_=>none
 | (k,v)::r,t=>if k=t then some v else look r t
def dt {α:Type}:List (Nat×α)→Nat→α→List (Nat×α)
 | [],t,u=>[(t,u)]
 | (k,v)::r,t,u=>if k=t then (k,u)::r else (k,v)::dt r t u
structure St where
 env:List (Nat×AV)
 mem:List (Nat×List AV)
 sh:Sh
 ae:aH
 deriving Inhabited
def bq:PV→List PV
 | .agg cs=>cs
 | p=>[p]
def bg:AV→List AV
 | .agg cs=>cs
 | .pv (.agg cs)=>cs.map .pv
 | v=>[v]
def bV:AV→Bool
 | .pv _ | .bJ _ | .aZ .. | .bz .. | .dS | .dj _ | .dQ _=>true
 | .fn _ cap=>im cap
 | .agg cs=>im cs
 | _=>false
where im:List AV→Bool
 | []=>true
 | v::r=>bV v && im r
def bm:AV→Bool
 | .pv (.agg _)=>false
 | .pv _ | .bJ _ | .aZ .. | .bz .. | .dS | .dj _ | .dQ _=>true
 | .fn g cap=>bV (.fn g cap)
 | .own ..=>true
 | _=>false
def dv (v:AV):Bool:=bm v
def bP:AV→Bool
 | .own .. | .aB .. | .ji ..=>false
 | .agg cs=>eW cs
 | .nf cs=>eW cs
 | .fn _ cap=>eW cap
 | _=>true
where eW:List AV→Bool
 | []=>true
 | v::r=>bP v && eW r
def gi:AV→Bool
 | .own ..=>true
 | v=>bP v
def fH:List AV→Bool
 | []=>true
 | v::r=>gi v && fH r
def ky:AV→Option PV
 | .pv p=>some p
 | .bJ l=>some (.aE l)
 | .own l _=>some (.aE l)
 | _=>none
def eA:PV→Bool
 | .agg _=>false
 | _=>true
def chunk (sz:Nat):Nat→List PV→List (List PV)
 | 0,_=>[]
 | n+1,l=>l.take sz::chunk sz n (l.drop sz)
def fG:List AV→Option (List PV)
 | []=>some []
 | v::r=>match ky v,fG r with
   | some p,some ps=>some (p::ps)
   | _,_=>none
def fh (sz:Nat) (ag:Bool) (n:Nat) (cells:List PV):Option (List PV):=
 if ag then some ((chunk sz n cells).map .agg)
 else if sz=1 then some cells else none
def c_:List AV→Bool
 | .dQ _::_=>true
 | _=>false
def dI (sh:Sh):AV→Option PV
 | .bz b sz n ag=>match sh[b]? with
   | some (some cells)=>if cells.length=n*sz then ((fG cells).bind (fh sz ag n)).map .aE
     else if c_ cells=false∧n*sz≤cells.length then ((fG (cells.take (n*sz))).bind (fh sz ag n)).map .aE else none
   | _=>none
 | v=>ky v
def d3 (sh:Sh):List AV→Option (List PV)
 | []=>some []
 | v::r=>if bm v=true then
     match dI sh v,d3 sh r with
     | some p,some ps=>some (p::ps)
     | _,_=>none
   else none
def dL (sh:Sh):AV→Option PV
 | .agg cs=>(d3 sh cs).map .agg
 | v=>dI sh v
def dT (sh:Sh):List AV→Option (List PV)
 | []=>some []
 | v::r=>match dL sh v,dT sh r with
   | some p,some ps=>some (p::ps)
   | _,_=>none
def eP:AV→List Nat
 | .bz b _ _ _=>[b]
 | .agg cs=>cs.flatMap fun | .bz b _ _ _=>[b] | _=>[]
 | _=>[]
def kill (sh:Sh) (l:List Nat):Sh:=l.foldl (fun s b=>s.set b none) sh
def dY (sh:Sh) (vs:List AV):Sh:=kill sh (vs.flatMap eP)
def aM (n:Nat):AV→Bool
 | .un | .pv _ | .bJ _ | .own .. | .dS | .dG _ | .dQ _=>true
 | .aZ b _ | .bz b _ _ _ | .dj b=>decide (b<n)
 | .fn _ cap=>cU n cap
 | .agg cs=>cU n cs
 | _=>false
where cU (n:Nat):List AV→Bool
 | []=>true
 | v::r=>aM n v && cU n r
def rT:CK→PV→PV→Option Bool
 | .int,.int k a,.int k' b=>if k=k' then some (a == b) else none
 | .str,.str a,.str b=>some (a == b)
 | .bool,.bool a,.bool b=>some (a == b)
 | _,_,_=>none
def ei:List CK→List PV→List PV→Option Bool
 | [],[],[]=>some true
 | c::cs,p::ps,q::qs=>match rT c p q with
   | some true=>ei cs ps qs
   | some false=>if ps.length=cs.length∧qs.length=cs.length then some false else none
   | none=>none
 | _,_,_=>none
def jZ (c:CK):List (PV×PV)→PV→Option (Option PV)
 | [],_=>some none
 | (k',v)::r,k=>match rT c k k' with
   | some true=>some (some v)
   | some false=>jZ c r k
   | none=>none
def lT (c:CK):List (PV×PV)→PV→PV→Option (List (PV×PV))
 | [],k,p=>some [(k,p)]
 | (k',v)::r,k,p=>match rT c k k' with
   | some true=>some ((k,p)::r)
   | some false=>(lT c r k p).map ((k',v)::·)
   | none=>none
def jH (ok:Bool) (zero:PV) (r:Option PV):AV:=if ok then .nf [.pv (r.getD zero),.pv (.bool r.isSome)] else .pv (r.getD zero)
def dM (op:BinOp):AV→AV→Option AV
 | .pv (.int k a),.pv (.int k' b)=>
   if k=k'∨op=.shl∨op=.shr then
     match op with
     | .add=>some (.pv (.int k (k.wrap (a+b))))
     | .sub=>some (.pv (.int k (k.wrap (a-b))))
     | .mul=>some (.pv (.int k (k.wrap (a*b))))
     | .quo=>if b=0 then none else some (.pv (.int k (k.wrap (a.tdiv b))))
     | .rem=>if b=0 then none else some (.pv (.int k (a.tmod b)))
     | .eql=>some (.pv (.bool (a == b)))
     | .neq=>some (.pv (.bool (a != b)))
     | .lss=>some (.pv (.bool (decide (a<b))))
     | .leq=>some (.pv (.bool (decide (a≤b))))
     | .gtr=>some (.pv (.bool (decide (a > b))))
     | .geq=>some (.pv (.bool (decide (a≥b))))
     | .and=>some (.pv (.int k (k.wrap (BitVec.ofInt k.bits a &&& BitVec.ofInt k.bits b).toNat)))
     | .shl=>if b<0 then none else some (.pv (.int k (k.wrap (a*2 ^ (min b.toNat k.bits)))))
     | .shr=>if b<0 then none else some (.pv (.int k (a.fdiv (2 ^ (min b.toNat k.bits)))))
     | _=>none
   else none
 | .pv (.str a),.pv (.str b)=>
   match op with
   | .add=>if a.length+b.length≤9223372036854775807 then some (.pv (.str (a++b))) else none
   | .eql=>some (.pv (.bool (a == b)))
   | .neq=>some (.pv (.bool (!(a == b))))
   | .lss=>some (.pv (.bool (gX a b)))
   | .gtr=>some (.pv (.bool (!(gX a b || a == b))))
   | .leq=>some (.pv (.bool (gX a b || a == b)))
   | .geq=>some (.pv (.bool (!gX a b)))
   | _=>none
 | _,_=>none
where gX:List UInt8→List UInt8→Bool
 | _,[]=>false
 | [],_::_=>true
 | a::x,b::y=>a<b || (a == b && gX x y)
def Re (op:UnOp):AV→Option AV
 | .pv (.bool b)=>match op with | .not=>some (.pv (.bool !b)) | _=>none
 | .pv (.int k n)=>match op with | .neg=>some (.pv (.int k (k.wrap (0-n)))) | _=>none
 | _=>none
def cN:AV→Option (List PV)
 | .pv (.aE l)=>some l
 | .bJ l=>some l
 | .own l _=>some l
 | _=>none
def bF (sz:Nat):List PV→Bool
 | []=>true
 | p::_=>(bq p).length == sz
def bn (cells:List AV) (off:Nat) (vs:List AV):List AV:=cells.take off++vs++cells.drop (off+vs.length)
def lB (cells:List AV):List (Nat×Nat)→List AV→Option (List AV)
 | [],[]=>some cells
 | (off,sz)::ps,v::vs=>
   if (bg v).length=sz∧off+sz≤cells.length∧(bg v).all bm=true then lB (bn cells off (bg v)) ps vs else none
 | _,_=>none
def cA (ag:Bool) (sz:Nat) (cs:List AV) (off:Nat):Option AV:=
 if off+sz≤cs.length then
   if ag then some (.agg ((cs.drop off).take sz))
   else if sz=1 then cs[off]? else none
 else none
def da (ag:Bool) (sz:Nat) (cs:List PV):Option AV:=
 if sz≤cs.length then
   if ag then some (.pv (.agg (cs.take sz)))
   else if sz=1 then (cs[0]?).map .pv else none
 else none
def eF (lo hi mx:Bool) (n:Nat) (rest:List AV):Option (Int×Int×Option Int):=
 match lo,hi,mx,rest with
 | false,false,false,[]=>some (0,n,none)
 | true,false,false,[.pv (.int _ l)]=>some (l,n,none)
 | false,true,false,[.pv (.int _ h)]=>some (0,h,none)
 | true,true,false,[.pv (.int _ l),.pv (.int _ h)]=>some (l,h,none)
 | false,true,true,[.pv (.int _ h),.pv (.int _ m)]=>some (0,h,some m)
 | true,true,true,[.pv (.int _ l),.pv (.int _ h),.pv (.int _ m)]=>some (l,h,some m)
 | _,_,_,_=>none
def db (str:Bool) (sz:Nat) (lo hi mx:Bool):List AV→Option AV
 | x::rest=>if str then
     match x with
     | .pv (.str s)=>match eF lo hi mx s.length rest with
       | some (l,h,none)=>if 0≤l∧l≤h∧h≤s.length then some (.pv (.str ((s.take h.toNat).drop l.toNat))) else none
       | _=>none
     | _=>none
   else match cN x with
     | some els=>match eF lo hi mx els.length rest with
       | some (l,h,m)=>if 0≤l∧l≤h∧h≤els.length∧(l=0∨bF sz els=true) then
           match m with
           | some m=>if m=h then some (.bJ ((els.take h.toNat).drop l.toNat)) else none
           | none=>some (.pv (.aE ((els.take h.toNat).drop l.toNat)))
         else none
       | none=>none
     | none=>none
 | []=>none
def ou (sz:Nat) (lo hi:Bool):List AV→Option AV
 | .bz b z n ag::rest=>if z=sz then
     match eF lo hi false n rest with
     | some (l,h,none)=>if 0≤l∧l≤h∧h≤n then some (if l=0 then .bz b z h.toNat ag else .nv b (l.toNat*sz) (h.toNat-l.toNat)) else none
     | _=>none
   else none
 | _=>none
def xS (sz:Nat):AV→Option (Nat×Nat×Nat)
 | .bz b z n _=>if z=sz then some (b,0,n) else none
 | .nv b off n=>some (b,off,n)
 | _=>none
def rU (sz:Nat) (zero:List PV) (sh:Sh):Option (Nat×Nat×Nat)→Option Sh
 | some (b,off,n)=>match sh[b]? with
   | some (some cells)=>if c_ cells=false∧off+n*sz≤cells.length∧zero.length=sz then some (sh.set b (some (bn cells off (List.replicate n (zero.map .pv)).flatten))) else none
   | _=>none
 | none=>none
def uE (sz:Nat) (sh:Sh) (xs:List PV):AV→Option (Nat×Sh)
 | .bz b z n _=>match sh[b]? with
   | some (some cells)=>if z=sz∧bF sz xs=true∧c_ cells=false∧n*sz≤cells.length then
       some (min xs.length n,sh.set b (some (bn cells 0 (((xs.take n).flatMap bq).map .pv)))) else none
   | _=>none
 | _=>none
def gm:List PV→Option (List UInt8)
 | []=>some []
 | .int .u8 n::r=>if 0≤n∧n<256 then (gm r).map (UInt8.ofNat n.toNat::·) else none
 | _=>none
def bW:ua→List AV→Option AV
 | .mv,[x]=>some x
 | .pick,[.pv (.bool c),a,b]=>some (if c then a else b)
 | .bin op,[a,b]=>dM op a b
 | .beq neg,[.pv (.bool a),.pv (.bool b)]=>some (.pv (.bool (if neg then !(a == b) else (a == b))))
 | .un op,[a]=>Re op a
 | .conv k,[.pv (.int _ n)]=>some (.pv (.int k (k.wrap n)))
 | .ext i,[.nf vs]=>vs[i]?
 | .field off sz ag,[x]=>match x with
   | .agg cs=>cA ag sz cs off
   | .pv (.agg cs)=>da ag sz (cs.drop off)
   | _=>none
 | .bp off,[x]=>match x with
   | .aB d o=>some (.aB d (o+off))
   | .aZ b o=>some (.aZ b (o+off))
   | .dG cs=>some (.dG (cs.drop off))
   | _=>none
 | .aC sz,[x,.pv (.int _ i)]=>
   if i<0 then none else
   match x with
   | .bz b sz' n _=>if sz=sz'∧i.toNat<n then some (.aZ b (i.toNat*sz)) else none
   | x=>match cN x with
     | some els=>match els[i.toNat]? with
       | some el=>if (bq el).length=sz then some (.dG (bq el)) else none
       | none=>none
     | none=>none
 | .index,[.pv (.str s),.pv (.int _ i)]=>if i<0 then none else (s[i.toNat]?).map fun b=>.pv (.int .u8 b.toNat)
 | .build zero places,vs=>(lB (zero.map zeroCell) places vs).map .agg
 | .aR sz,vs=>(dT [] vs).bind fun els=>if els.all (fun e=>(bq e).length == sz) then some (.bJ els) else none
 | .bL sz ag,[.dG cs]=>da ag sz cs
 | .slice str sz lo hi mx,vs=>db str sz lo hi mx vs
 | .A3 sz lo hi,vs=>ou sz lo hi vs
 | .kq,[.pv (.str s)]=>some (.pv (.int .i64 s.length))
 | .len,[x]=>match x with
   | .bz _ _ n _=>some (.pv (.int .i64 n))
   | x=>(cN x).map fun l=>.pv (.int .i64 l.length)
 | .bj,[x]=>match x with
   | .aB .. | .aZ .. | .dG _ | .fn ..=>some x
   | _=>none
 | .mn,[.pv (.int k x),.pv (.int k' y)]=>if k=k' then some (.pv (.int k (if y<x then y else x))) else none
 | .mx,[.pv (.int k x),.pv (.int k' y)]=>if k=k' then some (.pv (.int k (if y > x then y else x))) else none
 | .MH g,cap=>some (.fn g cap)
 | .b2s,[x]=>((cN x).bind gm).map fun s=>.pv (.str s)
 | .Rd cs neg,[x,y]=>match dL [] x,dL [] y with
   | some (.agg ps),some (.agg qs)=>(ei cs ps qs).map fun b=>.pv (.bool (if neg then !b else b))
   | _,_=>none
 | _,_=>none
where zeroCell:PV→AV
 | .aE []=>.bJ []
 | p=>.pv p
structure Out where
 val:AV
 cells:Option (List AV)
 sh:Sh
 ae:aH
structure eu where
 p:Nat→List PV→Option (List PV)
 i:Nat→List AV→Sh→aH→Option (List AV×Sh×aH)
def q9:List PV→AV
 | [r]=>.pv r
 | rs=>.nf (rs.map .pv)
def oz:List AV→AV
 | [r]=>r
 | rs=>.nf rs
def jI (v:AV):AV:=match dL [] v with | some p=>.pv p | none=>v
def AK.key:AK→Option Nat
 | .bh k _ _ _ | .cY k _ _ | .alloc k _ | .box k _ | .kr k _ _ _=>some k
 | _=>none
def cE (sz bytes:Nat) (s x:AV) (ae:aH):Option (AV×aH):=
 match cN x with
 | none=>none
 | some xs=>if bF sz xs=true then
   match s with
   | .bJ l=>if xs.isEmpty=true then some (.bJ l,ae) else if bF sz l=true∧(l.length+xs.length)*bytes≤140737488355328 then
       some (.own (l++xs) ae.length,ae++[(l++xs).length]) else none
   | .own l τ=>if ae[τ]?=some l.length∧bF sz l=true∧(l.length+xs.length)*bytes≤140737488355328 then
       some (.own (l++xs) τ,ae.set τ (l++xs).length) else none
   | _=>none
   else none
def ek:List PV→List PV→Bool
 | [],[]=>true
 | .str a::r,.str b::q=>(a == b) && ek r q
 | _,_=>false
def xT (sz bytes:Nat) (xs:List PV) (s e:AV) (ae:aH):Option PV:=
 match s,e with
 | .own l τ,.own m σ=>if τ=σ∧ae[τ]?=some m.length∧m.length=l.length+xs.length∧bF 1 l=true∧bF 1 xs=true∧sz=1 ∧
     ek (m.drop l.length) xs=true∧xs.isEmpty=false∧m.length*bytes≤140737488355328 then some (.aE (l++xs)) else none
 | _,_=>none
def rV (sz bytes:Nat) (ag:Bool) (s:AV) (xs:List PV) (sh:Sh):Option (AV×Sh):=
 if xs.isEmpty=true then some (s,sh) else if xs.length*bytes≤140737488355328 then some (.bz sh.length sz xs.length ag,sh++[some ((xs.flatMap bq).map .pv)]) else none
def q_ (sz bytes:Nat) (ag:Bool) (s:AV) (xs:List PV) (sh:Sh) (ae:aH):Option (AV×Sh):=
 match s with
 | .bJ []=>rV sz bytes ag s xs sh
 | .own [] τ=>if ae[τ]?=some 0 then rV sz bytes ag s xs sh else none
 | .bz b z n g=>match sh[b]? with
   | some (some cells)=>if z=sz∧g=ag∧c_ cells=false∧n*sz≤cells.length∧(n+xs.length)*bytes≤140737488355328 then
       if xs.isEmpty=true then some (.bz b sz n ag,sh) else some (.bz sh.length sz (n+xs.length) ag,sh.set b none++[some (cells.take (n*sz)++(xs.flatMap bq).map .pv)])
     else none
   | _=>none
 | _=>none
def j8 (o:Option Bool) (sz bytes:Nat) (x:AV) (sh:Sh) (ae:aH):Option (AV×Sh×aH):=match o with
 | none=>(cE sz bytes (.bJ []) x ae).map fun (v,ts)=>(v,sh,ts)
 | some ag=>match cN x with
   | some xs=>if bF sz xs=true then (rV sz bytes ag (.bJ []) xs sh).map fun (v,sh')=>(v,sh',ae) else none
   | none=>none
def d4 (aQ ts:aH):AV→AV×aH×aH
 | .own l τ=>if aQ[τ]?=some l.length then (.own l ts.length,aQ.set τ (l.length+1),ts++[l.length]) else (.pv (.aE l),aQ,ts)
 | v=>(v,aQ,ts)
def dc (aQ ts:aH):List AV→List AV×aH×aH
 | []=>([],aQ,ts)
 | v::r=>((d4 aQ ts v).1::(dc (d4 aQ ts v).2.1 (d4 aQ ts v).2.2 r).1,(dc (d4 aQ ts v).2.1 (d4 aQ ts v).2.2 r).2)
def bX (aQ ts:aH):AV→AV×aH×aH
 | .own l τ=>if aQ[τ]?=some l.length then (.own l ts.length,aQ.set τ (l.length+1),ts++[l.length]) else (.pv (.aE l),aQ,ts)
 | .bJ l=>(.own l ts.length,aQ,ts++[l.length])
 | .agg cs=>if bP.eW cs=true then (.agg cs,aQ,ts) else (.agg (dc aQ ts cs).1,(dc aQ ts cs).2.1,(dc aQ ts cs).2.2)
 | v=>(v,aQ,ts)
def bI (aQ ts:aH):List AV→List AV×aH×aH
 | []=>([],aQ,ts)
 | v::r=>((bX aQ ts v).1::(bI (bX aQ ts v).2.1 (bX aQ ts v).2.2 r).1,(bI (bX aQ ts v).2.1 (bX aQ ts v).2.2 r).2)
def cf (aQ ts:aH):Sh→Sh×aH×aH
 | []=>([],aQ,ts)
 | none::r=>(none::(cf aQ ts r).1,(cf aQ ts r).2)
 | some cs::r=>(some (bI aQ ts cs).1::(cf (bI aQ ts cs).2.1 (bI aQ ts cs).2.2 r).1,(cf (bI aQ ts cs).2.1 (bI aQ ts cs).2.2 r).2)
def dE (ae:aH) (xs:List AV) (sh:Sh):List AV×Sh×aH×aH:=
 ((bI ae [] xs).1,(cf (bI ae [] xs).2.1 (bI ae [] xs).2.2 sh).1,(cf (bI ae [] xs).2.1 (bI ae [] xs).2.2 sh).2.1,(cf (bI ae [] xs).2.1 (bI ae [] xs).2.2 sh).2.2)
def iq:AV→Bool
 | .own ..=>true
 | v=>bV v
def fJ:List AV→Bool
 | []=>true
 | v::r=>iq v && fJ r
def cp:AV→Bool
 | .own ..=>true
 | .agg cs=>fJ cs
 | v=>bV v
def fK (n:Nat):AV→AV
 | .own l τ=>.own l (τ+n)
 | v=>v
def cM (n:Nat):AV→AV
 | .own l τ=>.own l (τ+n)
 | .agg cs=>if bP.eW cs=true then .agg cs else .agg (cs.map (fK n))
 | v=>v
def ix (n:Nat) (sh:Sh):Sh:=sh.map fun o=>o.map fun cs=>cs.map (cM n)
def fm (own:List Nat):Nat→List AV→List AV
 | _,[]=>[]
 | i,v::r=>(if own.contains i then v else jI v)::fm own (i+1) r
def en (orc:eu) (g:Nat) (own:List Nat) (vals:List AV) (sh:Sh) (ae:aH):Option (AV×Sh×aH):=
 if (fm own 0 vals).all cp=true then
   (orc.i g (dE ae (fm own 0 vals) sh).1 (dE ae (fm own 0 vals) sh).2.1 (dE ae (fm own 0 vals) sh).2.2.2).map fun (rs,sh',ts)=>
     (oz (rs.map (cM ae.length)),ix ae.length sh',(dE ae (fm own 0 vals) sh).2.2.1++ts)
 else none
def cB (v:AV):List AV:=match v with
 | .bJ l=>[.bJ l]
 | .own l τ=>[.own l τ]
 | v=>match dL [] v with | some p=>bg (.pv p) | none=>bg v
mutual
def nb:PV→PV→Bool
 | .bool a,.bool b=>a == b
 | .int k a,.int l b=>decide (k=l) && (a == b)
 | .str a,.str b=>a == b
 | .agg a,.agg b=>oA a b
 | .aE a,.aE b=>oA a b
 | _,_=>false
def oA:List PV→List PV→Bool
 | [],[]=>true
 | a::r,b::q=>nb a b && oA r q
 | _,_=>false
end
def QR:AV→AV→Bool
 | .pv a,.pv b=>nb a b
 | _,_=>false
def uc:List AV→List AV→Bool
 | [],[]=>true
 | a::r,b::q=>QR a b && uc r q
 | _,_=>false
def lI:Sh→Sh→Bool
 | [],[]=>true
 | none::r,none::q=>lI r q
 | some a::r,some b::q=>uc a b && lI r q
 | _,_=>false
def Ts (sh:Sh):AV×Sh×aH→Option Out
 | (v,sh',ts)=>if lI sh' sh=true then some ⟨v,none,sh,ts⟩ else none
def exec (orc:eu) (op:AK) (vals:List AV) (cells:Option (List AV)) (sh:Sh) (ae:aH):Option Out:=
 match op,vals with
 | .v o,vals=>(bW o vals).map fun x=>⟨x,none,sh,ae⟩
 | .bh key off sz ag,[.aB d o]=>if d=key∧o=off then
     match cells with
     | some cs=>(cA ag sz cs off).map fun x=>⟨x,none,sh,ae⟩
     | none=>none
   else none
 | .cY key off sz,[.aB d o,v]=>if d=key∧o=off∧(bg v).length=sz∧(bg v).all bm=true then
     match cells with
     | some cs=>if off+sz≤cs.length then some ⟨.un,some (bn cs off (bg v)),sh,ae⟩ else none
     | none=>none
   else none
 | .alloc key zero,[]=>match cells with
   | none=>some ⟨.aB key 0,some (zero.map bW.zeroCell),sh,ae⟩
   | some _=>none
 | .box key sz,[v]=>match cells with
   | none=>if (bg v).length=sz∧(bg v).all bm=true then some ⟨.aB key 0,some (bg v),sh,ae⟩ else none
   | some _=>none
 | .bf sz ag,[p]=>match p with
   | .dG cs=>(da ag sz cs).map fun x=>⟨x,none,sh,ae⟩
   | .aZ b off=>match sh[b]? with
     | some (some cs)=>if c_ cs=true then none else (cA ag sz cs off).map fun x=>⟨x,none,sh,ae⟩
     | _=>none
   | _=>none
 | .cZ sz,[.aZ b off,v]=>match sh[b]? with
   | some (some cs)=>
     let vs:=cB v
     if c_ cs=false∧vs.length=sz∧off+sz≤cs.length∧vs.all dv=true∧vs.all (aM (b+1))=true then
       some ⟨.un,none,sh.set b (some (bn cs off vs)),ae⟩ else none
   | _=>none
 | .kG sz,[.aZ b off,v]=>match sh[b]? with
   | some (some cs)=>
     let vs:=bg v
     if c_ cs=false∧vs.length=sz∧off+sz≤cs.length∧vs.all dv=true∧vs.all (aM (b+1))=true then
       some ⟨.un,none,sh.set b (some (bn cs off vs)),ae⟩ else none
   | _=>none
 | .nA sz,[v]=>
   let vs:=cB v
   if vs.length=sz∧vs.all dv=true∧vs.all (aM sh.length)=true then
     some ⟨.aZ sh.length 0,none,sh++[some vs],ae⟩ else none
 | .vW sz,[v]=>
   let vs:=bg v
   if vs.length=sz∧vs.all dv=true∧vs.all (aM sh.length)=true then
     some ⟨.aZ sh.length 0,none,sh++[some vs],ae⟩ else none
 | .jX zero,[]=>some ⟨.aZ sh.length 0,none,sh++[some (zero.map bW.zeroCell)],ae⟩
 | .iY sz bytes ag zero,[.pv (.int _ n),.pv (.int _ n')]=>
   if n=n'∧0≤n∧n≤9223372036854775807∧n*bytes≤140737488355328∧zero.length=sz then
     some ⟨.bz sh.length sz n.toNat ag,none,sh++[some ((List.replicate n.toNat (zero.map .pv)).flatten)],ae⟩ else none
 | .kr key sz bytes zero,[.pv (.int _ n),.pv (.int _ n')]=>match cells with
   | none=>if n=n'∧0≤n∧n≤9223372036854775807∧n*bytes≤140737488355328∧zero.length=sz then
       some ⟨.ji key n.toNat,some ((List.replicate n.toNat (zero.map .pv)).flatten),sh,ae⟩ else none
   | some _=>none
 | .append sz bytes,[s,x]=>(cE sz bytes s x ae).map fun (v,ts)=>⟨v,none,sh,ts⟩
 | .dH sz bytes ag,[s,x]=>match cN x with
   | some xs=>if bF sz xs=true then (q_ sz bytes ag s xs sh ae).map fun (v,sh')=>⟨v,none,sh',ae⟩ else none
   | none=>none
 | .gW sz bytes,[s,x,e]=>match cN x with
   | some xs=>(xT sz bytes xs s e ae).map fun p=>⟨.pv p,none,sh,ae⟩
   | none=>none
 | .clone sz bytes,[x]=>(cE sz bytes (.bJ []) x ae).map fun (v,ts)=>⟨v,none,sh,ts⟩
 | .lQ sz bytes ag,[x]=>(j8 (some ag) sz bytes x sh ae).map fun (v,sh',ts)=>⟨v,none,sh',ts⟩
 | .jY sz zero,[x]=>(rU sz zero sh (xS sz x)).map fun sh'=>⟨.nf [],none,sh',ae⟩
 | .lR sz,[x,y]=>match cN y with
   | some xs=>(uE sz sh xs x).map fun (k,sh')=>⟨.pv (.int .i64 (k:Int)),none,sh',ae⟩
   | none=>none
 | .ot,[]=>some ⟨.dj sh.length,none,sh++[some [.dQ []]],ae⟩
 | .ku c ok zero,[m,k]=>match m,k with
   | .dj s,.pv k=>match sh[s]? with
     | some (some [.dQ kvs])=>(jZ c kvs k).map fun r=>⟨jH ok zero r,none,sh,ae⟩
     | _=>none
   | _,_=>none
 | .rR c,[m,k,v]=>match m,k with
   | .dj s,.pv k=>match sh[s]?,dL [] v with
     | some (some [.dQ kvs]),some p=>(lT c kvs k p).map fun kvs'=>⟨.un,none,sh.set s (some [.dQ kvs']),ae⟩
     | _,_=>none
   | _,_=>none
 | .aq g,vals=>match dT [] vals with
   | some dO=>(orc.p g dO).map fun rs=>⟨q9 rs,none,sh,ae⟩
   | none=>none
 | .d7 g,vals=>match dT sh vals with
   | some dO=>(orc.p g dO).map fun rs=>⟨q9 rs,none,dY sh vals,ae⟩
   | none=>none
 | .aF g own,vals=>(en orc g own vals sh ae).map fun (v,sh',ts)=>⟨v,none,sh',ts⟩
 | .lA g,vals=>match dT [] vals with
   | some dO=>match orc.i g (dO.map .pv) [] [] with
     | some (rs,[],ts)=>some ⟨oz (rs.map (cM ae.length)),none,sh,ae++ts⟩
     | _=>none
   | none=>none
 | .dw,f::vals=>match f with
   | .fn g cap=>(en orc g [] (vals++cap) sh ae).bind (Ts sh)
   | _=>none
 | .jG,f::vals=>match f with
   | .fn g cap=>(en orc g [] (vals++cap) sh ae).map fun (v,sh',ts)=>⟨v,none,sh',ts⟩
   | _=>none
 | _,_=>none
def ir (env:List (Nat×AV)):fF→Option AV
 | .t n=>look env n
 | .c v=>some v
def ew (env:List (Nat×AV)):List fF→Option (List AV)
 | []=>some []
 | x::r=>match ir env x,ew env r with
   | some v,some vs=>some (v::vs)
   | _,_=>none
def f_ (env:List (Nat×AV)):Option (Nat×Bool)→Option Bool
 | none=>some true
 | some (t,b)=>match look env t with
   | some (.pv (.bool c))=>some (c == b)
   | some .un=>some false
   | _=>none
def gp (env:List (Nat×AV)):Option Nat→AV→List (Nat×AV)
 | some d,v=>dt env d v
 | none,_=>env
def eX (mem:List (Nat×List AV)):Option Nat→Option (List AV)→List (Nat×List AV)
 | some k,some cs=>dt mem k cs
 | _,_=>mem
def eo (orc:eu) (o:dK) (st:St):Option St:=
 match f_ st.env o.guard with
 | none=>none
 | some false=>some { st with env:=gp st.env o.dst .un }
 | some true=>
   match ew st.env o.args with
   | none=>none
   | some vals=>
     match exec orc o.op vals (o.op.key.bind (look st.mem)) st.sh st.ae with
     | none=>none
     | some out=>some { env:=gp st.env o.dst out.val,mem:=eX st.mem o.op.key out.cells,sh:=out.sh,ae:=out.ae }
def bE (orc:eu):List dK→St→Option St
 | [],st=>some st
 | o::r,st=>match eo orc o st with
   | none=>none
   | some st'=>bE orc r st'
def dR (live:List Nat):AV→Bool
 | .aB d _=>live.contains d
 | .ji d _=>live.contains d
 | .own ..=>true
 | .agg cs=>fH cs
 | v=>bP v
def ca (live:List Nat) (env:List (Nat×AV)):List Nat→List (Nat×AV)
 | []=>[]
 | t::r=>match look env t with
   | some v=>if dR live v=true then (t,v)::ca live env r else ca live env r
   | none=>ca live env r
def cg (mem:List (Nat×List AV)):List Nat→List (Nat×List AV)
 | []=>[]
 | t::r=>match look mem t with
   | some v=>(t,v)::cg mem r
   | none=>cg mem r
def restrict (live:List Nat) (st:St):St:=
 { st with env:=ca live st.env live,mem:=cg st.mem live }
def dU (aQ ts:aH):List (Nat×AV)→List (Nat×AV)×aH×aH
 | []=>([],aQ,ts)
 | (t,v)::r=>((t,(bX aQ ts v).1)::(dU (bX aQ ts v).2.1 (bX aQ ts v).2.2 r).1,(dU (bX aQ ts v).2.1 (bX aQ ts v).2.2 r).2)
def fM (aQ ts:aH):List (Nat×List AV)→List (Nat×List AV)×aH×aH
 | []=>([],aQ,ts)
 | (t,v)::r=>((t,(bI aQ ts v).1)::(fM (bI aQ ts v).2.1 (bI aQ ts v).2.2 r).1,(fM (bI aQ ts v).2.1 (bI aQ ts v).2.2 r).2)
def norm (st:St):St:=
 { env:=(dU st.ae [] st.env).1,
   mem:=(fM (dU st.ae [] st.env).2.1 (dU st.ae [] st.env).2.2 st.mem).1,
   sh:=(cf (fM (dU st.ae [] st.env).2.1 (dU st.ae [] st.env).2.2 st.mem).2.1 (fM (dU st.ae [] st.env).2.1 (dU st.ae [] st.env).2.2 st.mem).2.2 st.sh).1,
   ae:=(cf (fM (dU st.ae [] st.env).2.1 (dU st.ae [] st.env).2.2 st.mem).2.1 (fM (dU st.ae [] st.env).2.1 (dU st.ae [] st.env).2.2 st.mem).2.2 st.sh).2.2 }
inductive bo where
 | normal | ret | exit (id:Nat)
 deriving Inhabited,DecidableEq
def fQ (f:St→Option (bo×St)) (pre:St→St):Nat→St→Option (bo×St)
 | 0,_=>none
 | n+1,st=>match f (pre st) with
   | some (.normal,st')=>fQ f pre n st'
   | r=>r
def ud (sz:Nat) (ag:Bool) (el:PV):Option AV:=if (bq el).length=sz then da ag sz (bq el) else none
def jj (f:St→Option (bo×St)) (live:List Nat) (pi px sz:Nat) (ag:Bool) (env:List (Nat×AV)):List (PV×Nat)→St→Option (bo×St)
 | [],st=>some (.normal,{ st with env:=env })
 | (el,i)::r,st=>match ud sz ag el with
   | none=>none
   | some v=>match f (norm (restrict live { st with env:=dt (dt env pi (.pv (.int .i64 i))) px v })) with
     | some (.normal,st')=>jj f live pi px sz ag env r st'
     | some (e,st')=>some (e,{ st' with env:=env })
     | none=>none
def andThen (f g:St→Option (bo×St)) (st:St):Option (bo×St):=match f st with
 | some (.normal,st')=>g st'
 | _=>none
def mG (live:List Nat) (env:List (Nat×AV)):List (Nat×AV):=(ca live env live).filter fun p=>bP p.2
def jk (f:St→Option (bo×St)) (v:Option AV) (gb pi px sz:Nat) (ag:Bool) (live:List Nat) (st:St):Option (bo×St):=
 match v with
 | some (.fn g [.aZ s 0])=>if g=gb then
     match st.sh[s]? with
     | some (some [.pv (.aE l)])=>if l.length<4611686018427387904 then jj f live pi px sz ag (mG live st.env) l.zipIdx.reverse { st with sh:=kill st.sh [s] } else none
     | _=>none
   else none
 | _=>none
def A4:AV→St→St
 | .aB d 0,st=>match look st.mem d with
   | some cs=>match d3 st.sh cs with
     | some ps=>{ st with mem:=dt st.mem d (ps.map .pv),sh:=dY st.sh [.agg cs] }
     | none=>st
   | none=>st
 | _,st=>st
def lU:List Nat→St→St
 | [],st=>st
 | t::r,st=>match look st.env t with
   | some v=>match dL st.sh v with
     | some p=>lU r { st with env:=dt st.env t (.pv p),sh:=dY st.sh [v] }
     | none=>lU r (A4 v st)
   | none=>lU r st
def apart:Option AV→Option AV→Bool
 | some (.aZ b _),some (.aZ b' _)=>b != b'
 | _,_=>false
def iR (env:List (Nat×AV)):List (Nat×Nat)→Bool
 | []=>true
 | (a,b)::r=>apart (look env a) (look env b) && iR env r
def PC (d s sz n:Nat) (ag:Bool):AV→Option AV
 | .aB d' o=>some (if d'=d then .aZ s o else .aB d' o)
 | .ji d' m=>if d'=d then (if m*sz≤n then some (.bz s sz m ag) else none) else some (.ji d' m)
 | v=>if dR [] v=true then some v else none
def Fq (d s sz n:Nat) (ag:Bool) (env:List (Nat×AV)):List Nat→List (Nat×AV)
 | []=>[]
 | t::r=>match (look env t).bind (PC d s sz n ag) with
   | some v=>(t,v)::Fq d s sz n ag env r
   | none=>Fq d s sz n ag env r
def Fs {α:Type} (d:Nat):List (Nat×α)→List (Nat×α)
 | []=>[]
 | (k,v)::r=>if k=d then Fs d r else (k,v)::Fs d r
def PD (d sz:Nat) (ag:Bool) (st:St):St:=match look st.mem d with
 | some cells=>if cells.all dv=true∧cells.all (aM (st.sh.length+1))=true then
     { st with env:=Fq d st.sh.length sz cells.length ag st.env (st.env.map (·.1)),mem:=Fs d st.mem,sh:=st.sh++[some cells] } else st
 | none=>st
def I8:List (Nat×Nat×Bool)→St→St
 | [],st=>st
 | (d,sz,ag)::r,st=>I8 r (PD d sz ag st)
def A5 (b b':Nat):List Nat→List (Nat×AV)→List (Nat×AV)
 | [],env=>env
 | t::r,env=>match look env t with
   | some (.bz s z n ag)=>if s=b then A5 b b' r (dt env t (.bz b' z n ag)) else A5 b b' r env
   | _=>A5 b b' r env
def I9:List Nat→St→St
 | [],st=>st
 | t::r,st=>match look st.env t with
   | some (.bz b _ _ _)=>match st.sh[b]? with
     | some (some cells)=>if c_ cells=false then { st with env:=A5 b st.sh.length (t::r) st.env,sh:=st.sh.set b none++[some cells] } else st
     | _=>st
   | _=>st
def oB:List Nat→St→St
 | [],st=>st
 | t::r,st=>match look st.env t with
   | some (.bz b _ _ _)=>match st.sh[b]? with
     | some (some cells)=>if c_ cells=false∧(eP (.agg cells)).contains b=false then
         match d3 st.sh cells with
         | some ps=>oB r { st with sh:=(dY st.sh [.agg cells]).set b (some (ps.map .pv)) }
         | none=>oB r st
       else oB r st
     | _=>oB r st
   | _=>oB r st
def dk (orc:eu) (k:Nat):aA→St→Option (bo×St)
 | .skip,st=>some (.normal,st)
 | .bw ops live,st=>match bE orc ops st with
   | some st'=>some (.normal,restrict live st')
   | none=>none
 | .seq a b,st=>match dk orc k a st with
   | some (.normal,st')=>dk orc k b st'
   | r=>r
 | .cond c a b,st=>match ir st.env c with
   | some (.pv (.bool t))=>if t then dk orc k a st else dk orc k b st
   | _=>none
 | .block id b,st=>match dk orc k b st with
   | some (.exit id',st')=>if id'=id then some (.normal,st') else some (.exit id',st')
   | r=>r
 | .loop live b,st=>fQ (dk orc k b) (fun s=>norm (restrict live s)) k st
 | .exit id,st=>some (.exit id,st)
 | .ret,st=>some (.ret,st)
 | .back c gb pi px sz ag live x y,st=>jk (andThen (dk orc k x) (dk orc k y)) (ir st.env c) gb pi px sz ag live st
 | .dL ts,st=>some (.normal,lU ts st)
 | .PB ds,st=>if iR st.env ds=true then some (.normal,st) else none
 | .lS ps,st=>some (.normal,I8 ps st)
 | .mF ts,st=>some (.normal,I9 ts st)
 | .QQ ts,st=>some (.normal,oB ts st)
def cK:Nat→List AV→List (Nat×AV)
 | _,[]=>[]
 | i,v::r=>(i,v)::cK (i+1) r
def qj (st:St):rS→Option AV
 | .t n=>look st.env n
 | .c key sz ag=>match look st.env key with
   | some (.aB d 0)=>match look st.mem key with
     | some cs=>if d=key then cA ag sz cs 0 else none
     | none=>none
   | some (.aZ s 0)=>match st.sh[s]? with
     | some (some cs)=>if c_ cs=true then none else cA ag sz cs 0
     | _=>none
   | _=>none
def eG (st:St):List rS→Option (List AV)
 | []=>some []
 | r::rs=>match qj st r,eG st rs with
   | some v,some vs=>some (v::vs)
   | _,_=>none
def rW (sh:Sh) (v:AV):AV:=match dL sh v with | some p=>.pv p | none=>v
def nB (sh:Sh) (v:AV):AV:=match v with
 | .bJ l=>.bJ l
 | v=>if bm v=true then rW sh v else v
def pF (sh:Sh) (v:AV):AV:=match v with
 | .bJ l=>.bJ l
 | .own l τ=>.own l τ
 | .agg cs=>.agg (cs.map (nB sh))
 | v=>rW sh v
def cS (bl ks:Bool) (sh:Sh) (vs:List AV):List AV:=if bl then (if ks then vs else vs.map (pF sh)) else vs.map (rW sh)
def fp (bl ks:Bool) (sh:Sh) (vs:List AV):Sh:=if bl && ks then sh else dY sh vs
def cL (orc:eu) (k:Nat) (bl:Bool) (af:aD) (args:List AV) (sh:Sh) (ts:aH):Option (List AV×Sh×aH):=
 match dk orc k af.body { env:=cK 0 args,mem:=[],sh,ae:=ts } with
 | some (e,st)=>
   if e=.ret∨e=.normal then
     match eG st af.results with
     | some vs=>
       let rs:=cS bl af.ks st.sh vs
       let sh':=if rs.all (aM sh.length)=true then (fp bl af.ks st.sh vs).take sh.length else fp bl af.ks st.sh vs
       if rs.all cp=true then some ((dE st.ae rs sh').1,(dE st.ae rs sh').2.1,(dE st.ae rs sh').2.2.2) else none
     | none=>none
   else none
 | none=>none
def gq:List AV→Option (List PV)
 | []=>some []
 | .pv p::r=>(gq r).map (p::·)
 | _=>none
def run (AP:Nat→Option aD) (k:Nat):Nat→eu
 | 0=>{ p:=fun _ _=>none,i:=fun _ _ _ _=>none }
 | n+1=>
   { p:=fun g dO=>match AP g with
       | some af=>match af.pE with
         | some f=>f.f (run AP k n).p dO
         | none=>if dO.length=af.nparams∧dO.length≤af.ntmps then
             match cL (run AP k n) k false af (dO.map .pv) [] [] with
             | some (rs,_)=>gq rs
             | none=>none
           else none
       | none=>none
     i:=fun g args sh ts=>match AP g with
       | some af=>if args.length≤af.ntmps then cL (run AP k n) k true af args sh ts else none
       | none=>none }
end Go.Ab
