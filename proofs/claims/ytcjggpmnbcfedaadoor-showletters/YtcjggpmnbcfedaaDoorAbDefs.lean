import GoSem.Core.Value
import GoSem.Core.Ast
import GoSem.Core.View
/-
  The abstract machine: pure data, abstract values, slim code, and an evaluator with fuel. Nothing here mentions a program.
-/
set_option linter.unusedVariables false
set_option linter.unusedSimpArgs false
set_option linter.unnecessarySimpa false
set_option maxRecDepth 100000
set_option maxHeartbeats 8000000
namespace Go.Ab
inductive PV where
 | bool (b:Bool)
 | int (k:IntKind) (n:Int)
 | str (s:List UInt8)
 | agg (cs:List PV)
 | bz (els:List PV)
 deriving Inhabited
inductive AV where
 | un
 | pv (p:PV)
 | cw (els:List PV)
 | own (els:List PV) (tok:Nat)
 | agg (cs:List AV)
 | j1 (vs:List AV)
 | bJ (d off:Nat)
 | a0 (b off:Nat)
 | cj (cs:List PV)
 | aU (b sz len:Nat) (ag:Bool)
 | fn (g:Nat) (cap:List AV)
 | gm
 | dK (s:Nat)
 | cz (kvs:List (PV×PV))
 | kB (b off n:Nat)
 | fk (d n:Nat)
 deriving Inhabited
abbrev Sh:=List (Option (List AV))
abbrev al:=List Nat
inductive c_ where
 | t (n:Nat)
 | c (v:AV)
 deriving Inhabited
inductive CK where
 | int | str | bool
 deriving Inhabited,DecidableEq
inductive mi where
 | mv | pick
 | bin (op:BinOp)
 | beq (neg:Bool)
 | un (op:UnOp)
 | conv (k:IntKind)
 | ext (i:Nat)
 | field (off sz:Nat) (ag:Bool)
 | ga (off:Nat)
 | ed (sz:Nat)
 | index
 | build (zero:List PV) (places:List (Nat×Nat))
 | d3 (sz:Nat)
 | eC (sz:Nat) (ag:Bool)
 | slice (str:Bool) (sz:Nat) (lo hi mx:Bool)
 | len | wT | kU
 | mn | mx
 | AA (g:Nat)
 | Bv (cs:List CK) (neg:Bool)
 | qU (sz:Nat) (lo hi:Bool)
 | b2s
 deriving Inhabited
inductive AK where
 | v (o:mi)
 | dv (key off sz:Nat) (ag:Bool)
 | dL (key off sz:Nat)
 | alloc (key:Nat) (zero:List PV)
 | box (key sz:Nat)
 | ck (sz:Nat) (ag:Bool)
 | d4 (sz:Nat)
 | gn (sz:Nat)
 | kV (sz:Nat)
 | nq (sz:Nat)
 | fR (zero:List PV)
 | gO (sz bytes:Nat) (ag:Bool) (zero:List PV)
 | fp (key sz bytes:Nat) (zero:List PV)
 | append (sz bytes:Nat)
 | cS (sz bytes:Nat) (ag:Bool)
 | dz (sz bytes:Nat)
 | jc
 | gf (c:CK) (ok:Bool) (zero:PV)
 | kW (c:CK)
 | clone (sz bytes:Nat)
 | gp (sz bytes:Nat) (ag:Bool)
 | eM (sz:Nat) (zero:List PV)
 | gP (sz:Nat)
 | aQ (g:Nat)
 | eo (g:Nat)
 | gQ (g:Nat) (own:List Nat)
 | gY (g:Nat)
 | fq
 | bP
 deriving Inhabited
structure bN where
 dst:Option Nat
 guard:Option (Nat×Bool)
 args:List c_
 op:AK
 deriving Inhabited
inductive aR where
 | skip
 | iL (ops:List bN) (live:List Nat)
 | seq (a b:aR)
 | cond (c:c_) (a b:aR)
 | block (id:Nat) (b:aR)
 | loop (live:List Nat) (b:aR)
 | exit (id:Nat)
 | ret
 | back (f:c_) (gb pi px sz:Nat) (ag:Bool) (live:List Nat) (x y:aR)
 | gX (ts:List Nat)
 | AB (ds:List (Nat×Nat))
 | gZ (ps:List (Nat×Nat×Bool))
 | ix (ts:List Nat)
 | Bq (ts:List Nat)
 deriving Inhabited
inductive mj where
 | t (n:Nat)
 | c (key sz:Nat) (ag:Bool)
 deriving Inhabited
structure Prim where
 f:(Nat→List PV→Option (List PV))→List PV→Option (List PV)
 fin:∀o x r,f o x=some r→∃l:List (Nat×List PV×List PV),(∀c∈l,o c.1 c.2.1=some c.2.2)∧∀o',(∀c∈l,o' c.1 c.2.1=some c.2.2)→f o' x=some r
def Prim.pure (f:List PV→Option (List PV)):Prim:=⟨fun _=>f,fun _ _ _ h=>⟨[],by simp,fun _ _=>h⟩⟩
theorem Prim.mono (p:Prim) {a b:Nat→List PV→Option (List PV)} (h:∀g x r,a g x=some r→b g x=some r) {x:List PV} {r:List PV} (e:p.f a x=some r):p.f b x=some r:=by
 obtain ⟨l,h1,h2⟩:=p.fin a x r e
 exact h2 b fun c hc=>h _ _ _ (h1 c hc)
structure aK where
 nparams:Nat
 ntmps:Nat
 results:List mj
 body:aR
 kX:Option Prim:=none
 ks:Bool:=false
 deriving Inhabited
def look {α:Type}:List (Nat×α)→Nat→Option α
 | [],_=>none
 | (k,v)::r,t=>if k=t then some v else look r t
def bV {α:Type}:List (Nat×α)→Nat→α→List (Nat×α)
 | [],t,u=>[(t,u)]
 | (k,v)::r,t,u=>if k=t then (k,u)::r else (k,v)::bV r t u
structure St where
 env:List (Nat×AV)
 mem:List (Nat×List AV)
 sh:Sh
 aa:al
 deriving Inhabited
def aB:PV→List PV
 | .agg cs=>cs
 | p=>[p]
def au:AV→List AV
 | .agg cs=>cs
 | .pv (.agg cs)=>cs.map .pv
 | v=>[v]
def a6:AV→Bool
 | .pv _ | .cw _ | .a0 .. | .aU .. | .gm | .dK _ | .cz _=>true
 | .fn _ cap=>gg cap
 | .agg cs=>gg cs
 | _=>false
where gg:List AV→Bool
 | []=>true
 | v::r=>a6 v && gg r
def aA:AV→Bool
 | .pv (.agg _)=>false
 | .pv _ | .cw _ | .a0 .. | .aU .. | .gm | .dK _ | .cz _=>true
 | .fn g cap=>a6 (.fn g cap)
 | .own ..=>true
 | _=>false
def bm (v:AV):Bool:=aA v
def a_:AV→Bool
 | .own .. | .bJ .. | .fk ..=>false
 | .agg cs=>eN cs
 | .j1 cs=>eN cs
 | .fn _ cap=>eN cap
 | _=>true
where eN:List AV→Bool
 | []=>true
 | v::r=>a_ v && eN r
def ft:AV→Bool
 | .own ..=>true
 | v=>a_ v
def dC:List AV→Bool
 | []=>true
 | v::r=>ft v && dC r
def jI:AV→Option PV
 | .pv p=>some p
 | .cw l=>some (.bz l)
 | .own l _=>some (.bz l)
 | _=>none
def dY:PV→Bool
 | .agg _=>false
 | _=>true
def chunk (sz:Nat):Nat→List PV→List (List PV)
 | 0,_=>[]
 | n+1,l=>l.take sz::chunk sz n (l.drop sz)
def jd:List AV→Option (List PV)
 | []=>some []
 | v::r=>match jI v,jd r with
   | some p,some ps=>some (p::ps)
   | _,_=>none
def g_ (sz:Nat) (ag:Bool) (n:Nat) (cells:List PV):Option (List PV):=
 if ag then some ((chunk sz n cells).map .agg)
 else if sz=1 then some cells else none
def cJ:List AV→Bool
 | .cz _::_=>true
 | _=>false
def cK (sh:Sh):AV→Option PV
 | .aU b sz n ag=>match sh[b]? with
   | some (some cells)=>if cells.length=n*sz then ((jd cells).bind (g_ sz ag n)).map .bz
     else if cJ cells=false∧n*sz≤cells.length then ((jd (cells.take (n*sz))).bind (g_ sz ag n)).map .bz else none
   | _=>none
 | v=>jI v
def eO (sh:Sh):List AV→Option (List PV)
 | []=>some []
 | v::r=>if aA v=true then
     match cK sh v,eO sh r with
     | some p,some ps=>some (p::ps)
     | _,_=>none
   else none
def gX (sh:Sh):AV→Option PV
 | .agg cs=>(eO sh cs).map .agg
 | v=>cK sh v
def bZ (sh:Sh):List AV→Option (List PV)
 | []=>some []
 | v::r=>match gX sh v,bZ sh r with
   | some p,some ps=>some (p::ps)
   | _,_=>none
def da:AV→List Nat
 | .aU b _ _ _=>[b]
 | .agg cs=>cs.flatMap fun | .aU b _ _ _=>[b] | _=>[]
 | _=>[]
def kill (sh:Sh) (l:List Nat):Sh:=l.foldl (fun s b=>s.set b none) sh
def cm (sh:Sh) (vs:List AV):Sh:=kill sh (vs.flatMap da)
def aq (n:Nat):AV→Bool
 | .un | .pv _ | .cw _ | .own .. | .gm | .cj _ | .cz _=>true
 | .a0 b _ | .aU b _ _ _ | .dK b=>decide (b<n)
 | .fn _ cap=>bn n cap
 | .agg cs=>bn n cs
 | _=>false
where bn (n:Nat):List AV→Bool
 | []=>true
 | v::r=>aq n v && bn n r
def kY:CK→PV→PV→Option Bool
 | .int,.int k a,.int k' b=>if k=k' then some (a == b) else none
 | .str,.str a,.str b=>some (a == b)
 | .bool,.bool a,.bool b=>some (a == b)
 | _,_,_=>none
def cn:List CK→List PV→List PV→Option Bool
 | [],[],[]=>some true
 | c::cs,p::ps,q::qs=>match kY c p q with
   | some true=>cn cs ps qs
   | some false=>if ps.length=cs.length∧qs.length=cs.length then some false else none
   | none=>none
 | _,_,_=>none
def fU (c:CK):List (PV×PV)→PV→Option (Option PV)
 | [],_=>some none
 | (k',v)::r,k=>match kY c k k' with
   | some true=>some (some v)
   | some false=>fU c r k
   | none=>none
def hG (c:CK):List (PV×PV)→PV→PV→Option (List (PV×PV))
 | [],k,p=>some [(k,p)]
 | (k',v)::r,k,p=>match kY c k k' with
   | some true=>some ((k,p)::r)
   | some false=>(hG c r k p).map ((k',v)::·)
   | none=>none
def fu (ok:Bool) (zero:PV) (r:Option PV):AV:=if ok then .j1 [.pv (r.getD zero),.pv (.bool r.isSome)] else .pv (r.getD zero)
def cp (op:BinOp):AV→AV→Option AV
 | .pv (.int k a),.pv (.int k' b)=>
   if k=k'∨op=.shl∨op=.shr then
     match op with
     | .add=>some (.pv (.int k (k.wrap (a+b))))
     | .sub=>some (.pv (.int k (k.wrap (a-b))))
     | .mul=>some (.pv (.int k (k.wrap (a*b))))
     | .quo=>if b=0 then none else some (.pv (.int k (k.wrap (a.tdiv b))))
     | .rem=>if b=0 then none else some (.pv (.int k (a.tmod b)))
     | .eql=>some (.pv (.bool (a == b)))
     | .neq=>some (.pv (.bool (a != b)))
     | .lss=>some (.pv (.bool (decide (a<b))))
     | .leq=>some (.pv (.bool (decide (a≤b))))
     | .gtr=>some (.pv (.bool (decide (a > b))))
     | .geq=>some (.pv (.bool (decide (a≥b))))
     | .and=>some (.pv (.int k (k.wrap (BitVec.ofInt k.bits a &&& BitVec.ofInt k.bits b).toNat)))
     | .shl=>if b<0 then none else some (.pv (.int k (k.wrap (a*2 ^ (min b.toNat k.bits)))))
     | .shr=>if b<0 then none else some (.pv (.int k (a.fdiv (2 ^ (min b.toNat k.bits)))))
     | _=>none
   else none
 | .pv (.str a),.pv (.str b)=>
   match op with
   | .add=>if a.length+b.length≤9223372036854775807 then some (.pv (.str (a++b))) else none
   | .eql=>some (.pv (.bool (a == b)))
   | .neq=>some (.pv (.bool (!(a == b))))
   | .lss=>some (.pv (.bool (eD a b)))
   | .gtr=>some (.pv (.bool (!(eD a b || a == b))))
   | .leq=>some (.pv (.bool (eD a b || a == b)))
   | .geq=>some (.pv (.bool (!eD a b)))
   | _=>none
 | _,_=>none
where eD:List UInt8→List UInt8→Bool
 | _,[]=>false
 | [],_::_=>true
 | a::x,b::y=>a<b || (a == b && eD x y)
def Bw (op:UnOp):AV→Option AV
 | .pv (.bool b)=>match op with | .not=>some (.pv (.bool !b)) | _=>none
 | .pv (.int k n)=>match op with | .neg=>some (.pv (.int k (k.wrap (0-n)))) | _=>none
 | _=>none
def bw:AV→Option (List PV)
 | .pv (.bz l)=>some l
 | .cw l=>some l
 | .own l _=>some l
 | _=>none
def aP (sz:Nat):List PV→Bool
 | []=>true
 | p::_=>(aB p).length == sz
def aD (cells:List AV) (off:Nat) (vs:List AV):List AV:=cells.take off++vs++cells.drop (off+vs.length)
def je (cells:List AV):List (Nat×Nat)→List AV→Option (List AV)
 | [],[]=>some cells
 | (off,sz)::ps,v::vs=>
   if (au v).length=sz∧off+sz≤cells.length∧(au v).all aA=true then je (aD cells off (au v)) ps vs else none
 | _,_=>none
def bl (ag:Bool) (sz:Nat) (cs:List AV) (off:Nat):Option AV:=
 if off+sz≤cs.length then
   if ag then some (.agg ((cs.drop off).take sz))
   else if sz=1 then cs[off]? else none
 else none
def cq (ag:Bool) (sz:Nat) (cs:List PV):Option AV:=
 if sz≤cs.length then
   if ag then some (.pv (.agg (cs.take sz)))
   else if sz=1 then (cs[0]?).map .pv else none
 else none
def db (lo hi mx:Bool) (n:Nat) (rest:List AV):Option (Int×Int×Option Int):=
 match lo,hi,mx,rest with
 | false,false,false,[]=>some (0,n,none)
 | true,false,false,[.pv (.int _ l)]=>some (l,n,none)
 | false,true,false,[.pv (.int _ h)]=>some (0,h,none)
 | true,true,false,[.pv (.int _ l),.pv (.int _ h)]=>some (l,h,none)
 | false,true,true,[.pv (.int _ h),.pv (.int _ m)]=>some (0,h,some m)
 | true,true,true,[.pv (.int _ l),.pv (.int _ h),.pv (.int _ m)]=>some (l,h,some m)
 | _,_,_,_=>none
def cT (str:Bool) (sz:Nat) (lo hi mx:Bool):List AV→Option AV
 | x::rest=>if str then
     match x with
     | .pv (.str s)=>match db lo hi mx s.length rest with
       | some (l,h,none)=>if 0≤l∧l≤h∧h≤s.length then some (.pv (.str ((s.take h.toNat).drop l.toNat))) else none
       | _=>none
     | _=>none
   else match bw x with
     | some els=>match db lo hi mx els.length rest with
       | some (l,h,m)=>if 0≤l∧l≤h∧h≤els.length∧(l=0∨aP sz els=true) then
           match m with
           | some m=>if m=h then some (.cw ((els.take h.toNat).drop l.toNat)) else none
           | none=>some (.pv (.bz ((els.take h.toNat).drop l.toNat)))
         else none
       | none=>none
     | none=>none
 | []=>none
def jf (sz:Nat) (lo hi:Bool):List AV→Option AV
 | .aU b z n ag::rest=>if z=sz then
     match db lo hi false n rest with
     | some (l,h,none)=>if 0≤l∧l≤h∧h≤n then some (if l=0 then .aU b z h.toNat ag else .kB b (l.toNat*sz) (h.toNat-l.toNat)) else none
     | _=>none
   else none
 | _=>none
def oL (sz:Nat):AV→Option (Nat×Nat×Nat)
 | .aU b z n _=>if z=sz then some (b,0,n) else none
 | .kB b off n=>some (b,off,n)
 | _=>none
def kZ (sz:Nat) (zero:List PV) (sh:Sh):Option (Nat×Nat×Nat)→Option Sh
 | some (b,off,n)=>match sh[b]? with
   | some (some cells)=>if cJ cells=false∧off+n*sz≤cells.length∧zero.length=sz then some (sh.set b (some (aD cells off (List.replicate n (zero.map .pv)).flatten))) else none
   | _=>none
 | none=>none
def k6 (sz:Nat) (sh:Sh) (xs:List PV):AV→Option (Nat×Sh)
 | .aU b z n _=>match sh[b]? with
   | some (some cells)=>if z=sz∧aP sz xs=true∧cJ cells=false∧n*sz≤cells.length then
       some (min xs.length n,sh.set b (some (aD cells 0 (((xs.take n).flatMap aB).map .pv)))) else none
   | _=>none
 | _=>none
def cd:List PV→Option (List UInt8)
 | []=>some []
 | .int .u8 n::r=>if 0≤n∧n<256 then (cd r).map (UInt8.ofNat n.toNat::·) else none
 | _=>none
def aV:mi→List AV→Option AV
 | .mv,[x]=>some x
 | .pick,[.pv (.bool c),a,b]=>some (if c then a else b)
 | .bin op,[a,b]=>cp op a b
 | .beq neg,[.pv (.bool a),.pv (.bool b)]=>some (.pv (.bool (if neg then !(a == b) else (a == b))))
 | .un op,[a]=>Bw op a
 | .conv k,[.pv (.int _ n)]=>some (.pv (.int k (k.wrap n)))
 | .ext i,[.j1 vs]=>vs[i]?
 | .field off sz ag,[x]=>match x with
   | .agg cs=>bl ag sz cs off
   | .pv (.agg cs)=>cq ag sz (cs.drop off)
   | _=>none
 | .ga off,[x]=>match x with
   | .bJ d o=>some (.bJ d (o+off))
   | .a0 b o=>some (.a0 b (o+off))
   | .cj cs=>some (.cj (cs.drop off))
   | _=>none
 | .ed sz,[x,.pv (.int _ i)]=>
   if i<0 then none else
   match x with
   | .aU b sz' n _=>if sz=sz'∧i.toNat<n then some (.a0 b (i.toNat*sz)) else none
   | x=>match bw x with
     | some els=>match els[i.toNat]? with
       | some el=>if (aB el).length=sz then some (.cj (aB el)) else none
       | none=>none
     | none=>none
 | .index,[.pv (.str s),.pv (.int _ i)]=>if i<0 then none else (s[i.toNat]?).map fun b=>.pv (.int .u8 b.toNat)
 | .build zero places,vs=>(je (zero.map zeroCell) places vs).map .agg
 | .d3 sz,vs=>(bZ [] vs).bind fun els=>if els.all (fun e=>(aB e).length == sz) then some (.cw els) else none
 | .eC sz ag,[.cj cs]=>cq ag sz cs
 | .slice str sz lo hi mx,vs=>cT str sz lo hi mx vs
 | .qU sz lo hi,vs=>jf sz lo hi vs
 | .wT,[.pv (.str s)]=>some (.pv (.int .i64 s.length))
 | .len,[x]=>match x with
   | .aU _ _ n _=>some (.pv (.int .i64 n))
   | x=>(bw x).map fun l=>.pv (.int .i64 l.length)
 | .kU,[x]=>match x with
   | .bJ .. | .a0 .. | .cj _ | .fn ..=>some x
   | _=>none
 | .mn,[.pv (.int k x),.pv (.int k' y)]=>if k=k' then some (.pv (.int k (if y<x then y else x))) else none
 | .mx,[.pv (.int k x),.pv (.int k' y)]=>if k=k' then some (.pv (.int k (if y > x then y else x))) else none
 | .AA g,cap=>some (.fn g cap)
 | .b2s,[x]=>((bw x).bind cd).map fun s=>.pv (.str s)
 | .Bv cs neg,[x,y]=>match gX [] x,gX [] y with
   | some (.agg ps),some (.agg qs)=>(cn cs ps qs).map fun b=>.pv (.bool (if neg then !b else b))
   | _,_=>none
 | _,_=>none
where zeroCell:PV→AV
 | .bz []=>.cw []
 | p=>.pv p
structure Out where
 val:AV
 cells:Option (List AV)
 sh:Sh
 aa:al
structure cZ where
 p:Nat→List PV→Option (List PV)
 i:Nat→List AV→Sh→al→Option (List AV×Sh×al)
def k7:List PV→AV
 | [r]=>.pv r
 | rs=>.j1 (rs.map .pv)
def k8:List AV→AV
 | [r]=>r
 | rs=>.j1 rs
def iM (v:AV):AV:=match gX [] v with | some p=>.pv p | none=>v
def AK.key:AK→Option Nat
 | .dv k _ _ _ | .dL k _ _ | .alloc k _ | .box k _ | .fp k _ _ _=>some k
 | _=>none
def bd (sz bytes:Nat) (s x:AV) (aa:al):Option (AV×al):=
 match bw x with
 | none=>none
 | some xs=>if aP sz xs=true then
   match s with
   | .cw l=>if xs.isEmpty=true then some (.cw l,aa) else if aP sz l=true∧(l.length+xs.length)*bytes≤140737488355328 then
       some (.own (l++xs) aa.length,aa++[(l++xs).length]) else none
   | .own l τ=>if aa[τ]?=some l.length∧aP sz l=true∧(l.length+xs.length)*bytes≤140737488355328 then
       some (.own (l++xs) τ,aa.set τ (l++xs).length) else none
   | _=>none
   else none
def cb:List PV→List PV→Bool
 | [],[]=>true
 | .str a::r,.str b::q=>(a == b) && cb r q
 | _,_=>false
def oM (sz bytes:Nat) (xs:List PV) (s e:AV) (aa:al):Option PV:=
 match s,e with
 | .own l τ,.own m σ=>if τ=σ∧aa[τ]?=some m.length∧m.length=l.length+xs.length∧aP 1 l=true∧aP 1 xs=true∧sz=1 ∧
     cb (m.drop l.length) xs=true∧xs.isEmpty=false∧m.length*bytes≤140737488355328 then some (.bz (l++xs)) else none
 | _,_=>none
def k9 (sz bytes:Nat) (ag:Bool) (s:AV) (xs:List PV) (sh:Sh):Option (AV×Sh):=
 if xs.isEmpty=true then some (s,sh) else if xs.length*bytes≤140737488355328 then some (.aU sh.length sz xs.length ag,sh++[some ((xs.flatMap aB).map .pv)]) else none
def ml (sz bytes:Nat) (ag:Bool) (s:AV) (xs:List PV) (sh:Sh) (aa:al):Option (AV×Sh):=
 match s with
 | .cw []=>k9 sz bytes ag s xs sh
 | .own [] τ=>if aa[τ]?=some 0 then k9 sz bytes ag s xs sh else none
 | .aU b z n g=>match sh[b]? with
   | some (some cells)=>if z=sz∧g=ag∧cJ cells=false∧n*sz≤cells.length∧(n+xs.length)*bytes≤140737488355328 then
       if xs.isEmpty=true then some (.aU b sz n ag,sh) else some (.aU sh.length sz (n+xs.length) ag,sh.set b none++[some (cells.take (n*sz)++(xs.flatMap aB).map .pv)])
     else none
   | _=>none
 | _=>none
def fW (o:Option Bool) (sz bytes:Nat) (x:AV) (sh:Sh) (aa:al):Option (AV×Sh×al):=match o with
 | none=>(bd sz bytes (.cw []) x aa).map fun (v,ts)=>(v,sh,ts)
 | some ag=>match bw x with
   | some xs=>if aP sz xs=true then (k9 sz bytes ag (.cw []) xs sh).map fun (v,sh')=>(v,sh',aa) else none
   | none=>none
def dM (az ts:al):AV→AV×al×al
 | .own l τ=>if az[τ]?=some l.length then (.own l ts.length,az.set τ (l.length+1),ts++[l.length]) else (.pv (.bz l),az,ts)
 | v=>(v,az,ts)
def cf (az ts:al):List AV→List AV×al×al
 | []=>([],az,ts)
 | v::r=>((dM az ts v).1::(cf (dM az ts v).2.1 (dM az ts v).2.2 r).1,(cf (dM az ts v).2.1 (dM az ts v).2.2 r).2)
def aW (az ts:al):AV→AV×al×al
 | .own l τ=>if az[τ]?=some l.length then (.own l ts.length,az.set τ (l.length+1),ts++[l.length]) else (.pv (.bz l),az,ts)
 | .cw l=>(.own l ts.length,az,ts++[l.length])
 | .agg cs=>if a_.eN cs=true then (.agg cs,az,ts) else (.agg (cf az ts cs).1,(cf az ts cs).2.1,(cf az ts cs).2.2)
 | v=>(v,az,ts)
def aI (az ts:al):List AV→List AV×al×al
 | []=>([],az,ts)
 | v::r=>((aW az ts v).1::(aI (aW az ts v).2.1 (aW az ts v).2.2 r).1,(aI (aW az ts v).2.1 (aW az ts v).2.2 r).2)
def bK (az ts:al):Sh→Sh×al×al
 | []=>([],az,ts)
 | none::r=>(none::(bK az ts r).1,(bK az ts r).2)
 | some cs::r=>(some (aI az ts cs).1::(bK (aI az ts cs).2.1 (aI az ts cs).2.2 r).1,(bK (aI az ts cs).2.1 (aI az ts cs).2.2 r).2)
def bR (aa:al) (xs:List AV) (sh:Sh):List AV×Sh×al×al:=
 ((aI aa [] xs).1,(bK (aI aa [] xs).2.1 (aI aa [] xs).2.2 sh).1,(bK (aI aa [] xs).2.1 (aI aa [] xs).2.2 sh).2.1,(bK (aI aa [] xs).2.1 (aI aa [] xs).2.2 sh).2.2)
def gR:AV→Bool
 | .own ..=>true
 | v=>a6 v
def dc:List AV→Bool
 | []=>true
 | v::r=>gR v && dc r
def aY:AV→Bool
 | .own ..=>true
 | .agg cs=>dc cs
 | v=>a6 v
def hH (n:Nat):AV→AV
 | .own l τ=>.own l (τ+n)
 | v=>v
def cA (n:Nat):AV→AV
 | .own l τ=>.own l (τ+n)
 | .agg cs=>if a_.eN cs=true then .agg cs else .agg (cs.map (hH n))
 | v=>v
def eP (n:Nat) (sh:Sh):Sh:=sh.map fun o=>o.map fun cs=>cs.map (cA n)
def ep (own:List Nat):Nat→List AV→List AV
 | _,[]=>[]
 | i,v::r=>(if own.contains i then v else iM v)::ep own (i+1) r
def dd (orc:cZ) (g:Nat) (own:List Nat) (vals:List AV) (sh:Sh) (aa:al):Option (AV×Sh×al):=
 if (ep own 0 vals).all aY=true then
   (orc.i g (bR aa (ep own 0 vals) sh).1 (bR aa (ep own 0 vals) sh).2.1 (bR aa (ep own 0 vals) sh).2.2.2).map fun (rs,sh',ts)=>
     (k8 (rs.map (cA aa.length)),eP aa.length sh',(bR aa (ep own 0 vals) sh).2.2.1++ts)
 else none
def bA (v:AV):List AV:=match v with
 | .cw l=>[.cw l]
 | .own l τ=>[.own l τ]
 | v=>match gX [] v with | some p=>au (.pv p) | none=>au v
mutual
def mm:PV→PV→Bool
 | .bool a,.bool b=>a == b
 | .int k a,.int l b=>decide (k=l) && (a == b)
 | .str a,.str b=>a == b
 | .agg a,.agg b=>la a b
 | .bz a,.bz b=>la a b
 | _,_=>false
def la:List PV→List PV→Bool
 | [],[]=>true
 | a::r,b::q=>mm a b && la r q
 | _,_=>false
end
def B3:AV→AV→Bool
 | .pv a,.pv b=>mm a b
 | _,_=>false
def ub:List AV→List AV→Bool
 | [],[]=>true
 | a::r,b::q=>B3 a b && ub r q
 | _,_=>false
def lb:Sh→Sh→Bool
 | [],[]=>true
 | none::r,none::q=>lb r q
 | some a::r,some b::q=>ub a b && lb r q
 | _,_=>false
def B_ (sh:Sh):AV×Sh×al→Option Out
 | (v,sh',ts)=>if lb sh' sh=true then some ⟨v,none,sh,ts⟩ else none
def exec (orc:cZ) (op:AK) (vals:List AV) (cells:Option (List AV)) (sh:Sh) (aa:al):Option Out:=
 match op,vals with
 | .v o,vals=>(aV o vals).map fun x=>⟨x,none,sh,aa⟩
 | .dv key off sz ag,[.bJ d o]=>if d=key∧o=off then
     match cells with
     | some cs=>(bl ag sz cs off).map fun x=>⟨x,none,sh,aa⟩
     | none=>none
   else none
 | .dL key off sz,[.bJ d o,v]=>if d=key∧o=off∧(au v).length=sz∧(au v).all aA=true then
     match cells with
     | some cs=>if off+sz≤cs.length then some ⟨.un,some (aD cs off (au v)),sh,aa⟩ else none
     | none=>none
   else none
 | .alloc key zero,[]=>match cells with
   | none=>some ⟨.bJ key 0,some (zero.map aV.zeroCell),sh,aa⟩
   | some _=>none
 | .box key sz,[v]=>match cells with
   | none=>if (au v).length=sz∧(au v).all aA=true then some ⟨.bJ key 0,some (au v),sh,aa⟩ else none
   | some _=>none
 | .ck sz ag,[p]=>match p with
   | .cj cs=>(cq ag sz cs).map fun x=>⟨x,none,sh,aa⟩
   | .a0 b off=>match sh[b]? with
     | some (some cs)=>if cJ cs=true then none else (bl ag sz cs off).map fun x=>⟨x,none,sh,aa⟩
     | _=>none
   | _=>none
 | .d4 sz,[.a0 b off,v]=>match sh[b]? with
   | some (some cs)=>
     let vs:=bA v
     if cJ cs=false∧vs.length=sz∧off+sz≤cs.length∧vs.all bm=true∧vs.all (aq (b+1))=true then
       some ⟨.un,none,sh.set b (some (aD cs off vs)),aa⟩ else none
   | _=>none
 | .gn sz,[.a0 b off,v]=>match sh[b]? with
   | some (some cs)=>
     let vs:=au v
     if cJ cs=false∧vs.length=sz∧off+sz≤cs.length∧vs.all bm=true∧vs.all (aq (b+1))=true then
       some ⟨.un,none,sh.set b (some (aD cs off vs)),aa⟩ else none
   | _=>none
 | .kV sz,[v]=>
   let vs:=bA v
   if vs.length=sz∧vs.all bm=true∧vs.all (aq sh.length)=true then
     some ⟨.a0 sh.length 0,none,sh++[some vs],aa⟩ else none
 | .nq sz,[v]=>
   let vs:=au v
   if vs.length=sz∧vs.all bm=true∧vs.all (aq sh.length)=true then
     some ⟨.a0 sh.length 0,none,sh++[some vs],aa⟩ else none
 | .fR zero,[]=>some ⟨.a0 sh.length 0,none,sh++[some (zero.map aV.zeroCell)],aa⟩
 | .gO sz bytes ag zero,[.pv (.int _ n),.pv (.int _ n')]=>
   if n=n'∧0≤n∧n≤9223372036854775807∧n*bytes≤140737488355328∧zero.length=sz then
     some ⟨.aU sh.length sz n.toNat ag,none,sh++[some ((List.replicate n.toNat (zero.map .pv)).flatten)],aa⟩ else none
 | .fp key sz bytes zero,[.pv (.int _ n),.pv (.int _ n')]=>match cells with
   | none=>if n=n'∧0≤n∧n≤9223372036854775807∧n*bytes≤140737488355328∧zero.length=sz then
       some ⟨.fk key n.toNat,some ((List.replicate n.toNat (zero.map .pv)).flatten),sh,aa⟩ else none
   | some _=>none
 | .append sz bytes,[s,x]=>(bd sz bytes s x aa).map fun (v,ts)=>⟨v,none,sh,ts⟩
 | .cS sz bytes ag,[s,x]=>match bw x with
   | some xs=>if aP sz xs=true then (ml sz bytes ag s xs sh aa).map fun (v,sh')=>⟨v,none,sh',aa⟩ else none
   | none=>none
 | .dz sz bytes,[s,x,e]=>match bw x with
   | some xs=>(oM sz bytes xs s e aa).map fun p=>⟨.pv p,none,sh,aa⟩
   | none=>none
 | .clone sz bytes,[x]=>(bd sz bytes (.cw []) x aa).map fun (v,ts)=>⟨v,none,sh,ts⟩
 | .gp sz bytes ag,[x]=>(fW (some ag) sz bytes x sh aa).map fun (v,sh',ts)=>⟨v,none,sh',ts⟩
 | .eM sz zero,[x]=>(kZ sz zero sh (oL sz x)).map fun sh'=>⟨.j1 [],none,sh',aa⟩
 | .gP sz,[x,y]=>match bw y with
   | some xs=>(k6 sz sh xs x).map fun (k,sh')=>⟨.pv (.int .i64 (k:Int)),none,sh',aa⟩
   | none=>none
 | .jc,[]=>some ⟨.dK sh.length,none,sh++[some [.cz []]],aa⟩
 | .gf c ok zero,[m,k]=>match m,k with
   | .dK s,.pv k=>match sh[s]? with
     | some (some [.cz kvs])=>(fU c kvs k).map fun r=>⟨fu ok zero r,none,sh,aa⟩
     | _=>none
   | _,_=>none
 | .kW c,[m,k,v]=>match m,k with
   | .dK s,.pv k=>match sh[s]?,gX [] v with
     | some (some [.cz kvs]),some p=>(hG c kvs k p).map fun kvs'=>⟨.un,none,sh.set s (some [.cz kvs']),aa⟩
     | _,_=>none
   | _,_=>none
 | .aQ g,vals=>match bZ [] vals with
   | some cv=>(orc.p g cv).map fun rs=>⟨k7 rs,none,sh,aa⟩
   | none=>none
 | .eo g,vals=>match bZ sh vals with
   | some cv=>(orc.p g cv).map fun rs=>⟨k7 rs,none,cm sh vals,aa⟩
   | none=>none
 | .gQ g own,vals=>(dd orc g own vals sh aa).map fun (v,sh',ts)=>⟨v,none,sh',ts⟩
 | .gY g,vals=>match bZ [] vals with
   | some cv=>match orc.i g (cv.map .pv) [] [] with
     | some (rs,[],ts)=>some ⟨k8 (rs.map (cA aa.length)),none,sh,aa++ts⟩
     | _=>none
   | none=>none
 | .bP,f::vals=>match f with
   | .fn g cap=>(dd orc g [] (vals++cap) sh aa).bind (B_ sh)
   | _=>none
 | .fq,f::vals=>match f with
   | .fn g cap=>(dd orc g [] (vals++cap) sh aa).map fun (v,sh',ts)=>⟨v,none,sh',ts⟩
   | _=>none
 | _,_=>none
def dZ (env:List (Nat×AV)):c_→Option AV
 | .t n=>look env n
 | .c v=>some v
def cB (env:List (Nat×AV)):List c_→Option (List AV)
 | []=>some []
 | x::r=>match dZ env x,cB env r with
   | some v,some vs=>some (v::vs)
   | _,_=>none
def dm (env:List (Nat×AV)):Option (Nat×Bool)→Option Bool
 | none=>some true
 | some (t,b)=>match look env t with
   | some (.pv (.bool c))=>some (c == b)
   | some .un=>some false
   | _=>none
def dq (env:List (Nat×AV)):Option Nat→AV→List (Nat×AV)
 | some d,v=>bV env d v
 | none,_=>env
def cM (mem:List (Nat×List AV)):Option Nat→Option (List AV)→List (Nat×List AV)
 | some k,some cs=>bV mem k cs
 | _,_=>mem
def cr (orc:cZ) (o:bN) (st:St):Option St:=
 match dm st.env o.guard with
 | none=>none
 | some false=>some { st with env:=dq st.env o.dst .un }
 | some true=>
   match cB st.env o.args with
   | none=>none
   | some vals=>
     match exec orc o.op vals (o.op.key.bind (look st.mem)) st.sh st.aa with
     | none=>none
     | some out=>some { env:=dq st.env o.dst out.val,mem:=cM st.mem o.op.key out.cells,sh:=out.sh,aa:=out.aa }
def aJ (orc:cZ):List bN→St→Option St
 | [],st=>some st
 | o::r,st=>match cr orc o st with
   | none=>none
   | some st'=>aJ orc r st'
def cC (live:List Nat):AV→Bool
 | .bJ d _=>live.contains d
 | .fk d _=>live.contains d
 | .own ..=>true
 | .agg cs=>dC cs
 | v=>a_ v
def aO (live:List Nat) (env:List (Nat×AV)):List Nat→List (Nat×AV)
 | []=>[]
 | t::r=>match look env t with
   | some v=>if cC live v=true then (t,v)::aO live env r else aO live env r
   | none=>aO live env r
def aT (mem:List (Nat×List AV)):List Nat→List (Nat×List AV)
 | []=>[]
 | t::r=>match look mem t with
   | some v=>(t,v)::aT mem r
   | none=>aT mem r
def restrict (live:List Nat) (st:St):St:=
 { st with env:=aO live st.env live,mem:=aT st.mem live }
def bS (az ts:al):List (Nat×AV)→List (Nat×AV)×al×al
 | []=>([],az,ts)
 | (t,v)::r=>((t,(aW az ts v).1)::(bS (aW az ts v).2.1 (aW az ts v).2.2 r).1,(bS (aW az ts v).2.1 (aW az ts v).2.2 r).2)
def de (az ts:al):List (Nat×List AV)→List (Nat×List AV)×al×al
 | []=>([],az,ts)
 | (t,v)::r=>((t,(aI az ts v).1)::(de (aI az ts v).2.1 (aI az ts v).2.2 r).1,(de (aI az ts v).2.1 (aI az ts v).2.2 r).2)
def norm (st:St):St:=
 { env:=(bS st.aa [] st.env).1,
   mem:=(de (bS st.aa [] st.env).2.1 (bS st.aa [] st.env).2.2 st.mem).1,
   sh:=(bK (de (bS st.aa [] st.env).2.1 (bS st.aa [] st.env).2.2 st.mem).2.1 (de (bS st.aa [] st.env).2.1 (bS st.aa [] st.env).2.2 st.mem).2.2 st.sh).1,
   aa:=(bK (de (bS st.aa [] st.env).2.1 (bS st.aa [] st.env).2.2 st.mem).2.1 (de (bS st.aa [] st.env).2.1 (bS st.aa [] st.env).2.2 st.mem).2.2 st.sh).2.2 }
inductive aE where
 | normal | ret | exit (id:Nat)
 deriving Inhabited,DecidableEq
def df (f:St→Option (aE×St)) (pre:St→St):Nat→St→Option (aE×St)
 | 0,_=>none
 | n+1,st=>match f (pre st) with
   | some (.normal,st')=>df f pre n st'
   | r=>r
def mo (sz:Nat) (ag:Bool) (el:PV):Option AV:=if (aB el).length=sz then cq ag sz (aB el) else none
def gS (f:St→Option (aE×St)) (live:List Nat) (pi px sz:Nat) (ag:Bool) (env:List (Nat×AV)):List (PV×Nat)→St→Option (aE×St)
 | [],st=>some (.normal,{ st with env:=env })
 | (el,i)::r,st=>match mo sz ag el with
   | none=>none
   | some v=>match f (norm (restrict live { st with env:=bV (bV env pi (.pv (.int .i64 i))) px v })) with
     | some (.normal,st')=>gS f live pi px sz ag env r st'
     | some (e,st')=>some (e,{ st' with env:=env })
     | none=>none
def andThen (f g:St→Option (aE×St)) (st:St):Option (aE×St):=match f st with
 | some (.normal,st')=>g st'
 | _=>none
def iy (live:List Nat) (env:List (Nat×AV)):List (Nat×AV):=(aO live env live).filter fun p=>a_ p.2
def eQ (f:St→Option (aE×St)) (v:Option AV) (gb pi px sz:Nat) (ag:Bool) (live:List Nat) (st:St):Option (aE×St):=
 match v with
 | some (.fn g [.a0 s 0])=>if g=gb then
     match st.sh[s]? with
     | some (some [.pv (.bz l)])=>if l.length<4611686018427387904 then gS f live pi px sz ag (iy live st.env) l.zipIdx.reverse { st with sh:=kill st.sh [s] } else none
     | _=>none
   else none
 | _=>none
def qV:AV→St→St
 | .bJ d 0,st=>match look st.mem d with
   | some cs=>match eO st.sh cs with
     | some ps=>{ st with mem:=bV st.mem d (ps.map .pv),sh:=cm st.sh [.agg cs] }
     | none=>st
   | none=>st
 | _,st=>st
def jg:List Nat→St→St
 | [],st=>st
 | t::r,st=>match look st.env t with
   | some v=>match gX st.sh v with
     | some p=>jg r { st with env:=bV st.env t (.pv p),sh:=cm st.sh [v] }
     | none=>jg r (qV v st)
   | none=>jg r st
def apart:Option AV→Option AV→Bool
 | some (.a0 b _),some (.a0 b' _)=>b != b'
 | _,_=>false
def er (env:List (Nat×AV)):List (Nat×Nat)→Bool
 | []=>true
 | (a,b)::r=>apart (look env a) (look env b) && er env r
def qW (d s sz n:Nat) (ag:Bool):AV→Option AV
 | .bJ d' o=>some (if d'=d then .a0 s o else .bJ d' o)
 | .fk d' m=>if d'=d then (if m*sz≤n then some (.aU s sz m ag) else none) else some (.fk d' m)
 | v=>if cC [] v=true then some v else none
def nr (d s sz n:Nat) (ag:Bool) (env:List (Nat×AV)):List Nat→List (Nat×AV)
 | []=>[]
 | t::r=>match (look env t).bind (qW d s sz n ag) with
   | some v=>(t,v)::nr d s sz n ag env r
   | none=>nr d s sz n ag env r
def kC {α:Type} (d:Nat):List (Nat×α)→List (Nat×α)
 | []=>[]
 | (k,v)::r=>if k=d then kC d r else (k,v)::kC d r
def y7 (d sz:Nat) (ag:Bool) (st:St):St:=match look st.mem d with
 | some cells=>if cells.all bm=true∧cells.all (aq (st.sh.length+1))=true then
     { st with env:=nr d st.sh.length sz cells.length ag st.env (st.env.map (·.1)),mem:=kC d st.mem,sh:=st.sh++[some cells] } else st
 | none=>st
def oN:List (Nat×Nat×Bool)→St→St
 | [],st=>st
 | (d,sz,ag)::r,st=>oN r (y7 d sz ag st)
def qX (b b':Nat):List Nat→List (Nat×AV)→List (Nat×AV)
 | [],env=>env
 | t::r,env=>match look env t with
   | some (.aU s z n ag)=>if s=b then qX b b' r (bV env t (.aU b' z n ag)) else qX b b' r env
   | _=>qX b b' r env
def wU:List Nat→St→St
 | [],st=>st
 | t::r,st=>match look st.env t with
   | some (.aU b _ _ _)=>match st.sh[b]? with
     | some (some cells)=>if cJ cells=false then { st with env:=qX b st.sh.length (t::r) st.env,sh:=st.sh.set b none++[some cells] } else st
     | _=>st
   | _=>st
def jh:List Nat→St→St
 | [],st=>st
 | t::r,st=>match look st.env t with
   | some (.aU b _ _ _)=>match st.sh[b]? with
     | some (some cells)=>if cJ cells=false∧(da (.agg cells)).contains b=false then
         match eO st.sh cells with
         | some ps=>jh r { st with sh:=(cm st.sh [.agg cells]).set b (some (ps.map .pv)) }
         | none=>jh r st
       else jh r st
     | _=>jh r st
   | _=>jh r st
def bB (orc:cZ) (k:Nat):aR→St→Option (aE×St)
 | .skip,st=>some (.normal,st)
 | .iL ops live,st=>match aJ orc ops st with
   | some st'=>some (.normal,restrict live st')
   | none=>none
 | .seq a b,st=>match bB orc k a st with
   | some (.normal,st')=>bB orc k b st'
   | r=>r
 | .cond c a b,st=>match dZ st.env c with
   | some (.pv (.bool t))=>if t then bB orc k a st else bB orc k b st
   | _=>none
 | .block id b,st=>match bB orc k b st with
   | some (.exit id',st')=>if id'=id then some (.normal,st') else some (.exit id',st')
   | r=>r
 | .loop live b,st=>df (bB orc k b) (fun s=>norm (restrict live s)) k st
 | .exit id,st=>some (.exit id,st)
 | .ret,st=>some (.ret,st)
 | .back c gb pi px sz ag live x y,st=>eQ (andThen (bB orc k x) (bB orc k y)) (dZ st.env c) gb pi px sz ag live st
 | .gX ts,st=>some (.normal,jg ts st)
 | .AB ds,st=>if er st.env ds=true then some (.normal,st) else none
 | .gZ ps,st=>some (.normal,oN ps st)
 | .ix ts,st=>some (.normal,wU ts st)
 | .Bq ts,st=>some (.normal,jh ts st)
def bh:Nat→List AV→List (Nat×AV)
 | _,[]=>[]
 | i,v::r=>(i,v)::bh (i+1) r
def mM (st:St):mj→Option AV
 | .t n=>look st.env n
 | .c key sz ag=>match look st.env key with
   | some (.bJ d 0)=>match look st.mem key with
     | some cs=>if d=key then bl ag sz cs 0 else none
     | none=>none
   | some (.a0 s 0)=>match st.sh[s]? with
     | some (some cs)=>if cJ cs=true then none else bl ag sz cs 0
     | _=>none
   | _=>none
def cE (st:St):List mj→Option (List AV)
 | []=>some []
 | r::rs=>match mM st r,cE st rs with
   | some v,some vs=>some (v::vs)
   | _,_=>none
def lf (sh:Sh) (v:AV):AV:=match gX sh v with | some p=>.pv p | none=>v
def mq (sh:Sh) (v:AV):AV:=match v with
 | .cw l=>.cw l
 | v=>if aA v=true then lf sh v else v
def qY (sh:Sh) (v:AV):AV:=match v with
 | .cw l=>.cw l
 | .own l τ=>.own l τ
 | .agg cs=>.agg (cs.map (mq sh))
 | v=>lf sh v
def bf (aw ks:Bool) (sh:Sh) (vs:List AV):List AV:=if aw then (if ks then vs else vs.map (qY sh)) else vs.map (lf sh)
def cU (aw ks:Bool) (sh:Sh) (vs:List AV):Sh:=if aw && ks then sh else cm sh vs
def bo (orc:cZ) (k:Nat) (aw:Bool) (af:aK) (args:List AV) (sh:Sh) (ts:al):Option (List AV×Sh×al):=
 match bB orc k af.body { env:=bh 0 args,mem:=[],sh,aa:=ts } with
 | some (e,st)=>
   if e=.ret∨e=.normal then
     match cE st af.results with
     | some vs=>
       let rs:=bf aw af.ks st.sh vs
       let sh':=if rs.all (aq sh.length)=true then (cU aw af.ks st.sh vs).take sh.length else cU aw af.ks st.sh vs
       if rs.all aY=true then some ((bR st.aa rs sh').1,(bR st.aa rs sh').2.1,(bR st.aa rs sh').2.2.2) else none
     | none=>none
   else none
 | none=>none
def dD:List AV→Option (List PV)
 | []=>some []
 | .pv p::r=>(dD r).map (p::·)
 | _=>none
def run (AP:Nat→Option aK) (k:Nat):Nat→cZ
 | 0=>{ p:=fun _ _=>none,i:=fun _ _ _ _=>none }
 | n+1=>
   { p:=fun g cv=>match AP g with
       | some af=>match af.kX with
         | some f=>f.f (run AP k n).p cv
         | none=>if cv.length=af.nparams∧cv.length≤af.ntmps then
             match bo (run AP k n) k false af (cv.map .pv) [] [] with
             | some (rs,_)=>dD rs
             | none=>none
           else none
       | none=>none
     i:=fun g args sh ts=>match AP g with
       | some af=>if args.length≤af.ntmps then bo (run AP k n) k true af args sh ts else none
       | none=>none }
end Go.Ab
