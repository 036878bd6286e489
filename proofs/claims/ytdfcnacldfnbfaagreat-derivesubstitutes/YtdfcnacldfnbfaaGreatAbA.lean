import GoSem.Core.Value
import GoSem.Core.Ast
import GoSem.Core.View
import Derived.Calls
import Derived.Laws.World
import Derived.Laws.Sem
import Derived.Orders
import Derived.Below
import Derived.Laws.Cells
import Derived.Laws.CopyRow
import Derived.Laws.Entries
import Derived.Laws.Strings
import Derived.Laws.IdiomStrings
import Derived.Laws.Tables
import Derived.RangeFuncRecord
/- The abstract machine, and that the code of the model does what its slim code says. -/
set_option linter.defProp false
set_option linter.unusedVariables false
set_option linter.unusedSimpArgs false
set_option linter.unnecessarySimpa false
set_option maxRecDepth 100000
set_option maxHeartbeats 8000000
namespace Go.Ab
def zb6:=@List.take_succ_cons
def za2:=@List.cons_append
def zaG:=@Nat.add_mul
def zah:=@List.mem_cons
def zbv:=@List.getElem?_append
def zao:=@List.getElem?_append_left
def zaa:=@List.getElem?_eq_some_iff
def zaN:=@List.getElem?_append_right
def zae:=@List.mem_append
def zcU:=@List.drop_succ_cons
def zcQ:=@List.take_zero
def zal:=@Nat.le_refl
def zaI:=@Nat.le_trans
def zan:=@List.map_cons
def zbF:=@Nat.lt_of_lt_of_le
def zaK:=@Array.getElem?_eq_some_iff
def zav:=@Go.Sem.run_bind
def zaR:=@Go.run_underlying
def zam:=@Go.Result.andThen_ok
def zac:=@Option.map_eq_some_iff
def zdk:=@Int.not_lt
def zad:=@if_neg
def zaC:=@Go.Sem.run_pure
def za4:=@if_true
def zaV:=@Bool.false_eq_true
def zbr:=@if_false
def zab:=@Option.ite_none_right_eq_some
def zb8:=@List.getElem?_drop
def zb0:=@Nat.add_zero
def zbS:=@Go.run_loadCells_list
def zbG:=@List.getElem?_take
def zbD:=@Nat.add_assoc
def zag:=@Option.some.injEq
def zcR:=@List.mapM_cons
def za1:=@List.all_cons
def zcY:=@Bool.and_true
def zaO:=@List.foldl_cons
def zas:=@List.all_eq_true
def zbh:=@List.mem_of_mem_take
def zbY:=@List.mem_of_mem_drop
def zcZ:=@List.zip_cons_cons
def zdp:=@Array.mapM_eq_mapM_toList
def zbP:=@Go.RowKit.Below.heap_alloc
def zbL:=@Nat.lt_or_ge
def zcI:=@Array.getElem?_eq_none
def zbK:=@Nat.zero_add
def zbO:=@List.flatMap_nil
def zaJ:=@List.append_nil
def zaz:=@List.take_of_length_le
def zcp:=@congrArg
def zat:=@List.length_append
def zb2:=@List.length_take
def zcA:=@List.length_drop
def zay:=@List.length_cons
def zcy:=@List.range'_succ
def zaq:=@List.flatMap_cons
def zaF:=@List.append_assoc
def zb1:=@List.take_append
def zaj:=@Bool.and_eq_true
def zb7:=@beq_iff_eq
def zcx:=@Nat.add_sub_cancel_left
def zau:=@Option.bind_eq_some_iff
def zai:=@if_pos
def zbE:=@Option.isSome_none
def zby:=@Option.map_none
def zaZ:=@Option.map_some
def zbz:=@List.cons.injEq
def zaT:=@Option.getD_none
def zaD:=@List.length_map
def zbN:=@Array.ext'
def zcF:=@Array.toList_map
def zaw:=@Prod.mk.injEq
def zax:=@List.getElem?_set
def zcW:=@Go.World.cell?_alloc_lt
def zcG:=@Ne.symm
def zaX:=@List.getElem?_eq_none
def zaH:=@Nat.mul_le_mul_right
def zdm:=@Array.getElem?_append_left
def zbk:=@List.eq_nil_of_length_eq_zero
def zc6:=@List.isEmpty_iff
def zcS:=@Eq.trans
def zbW:=@List.ext_getElem?
def zcv:=@Go.run_storeCells_at
def zbs:=@List.replicate_succ
def zc2:=@List.flatten_cons
def zak:=@List.mem_map
def zbb:=@List.getElem?_map
def zb5:=@Array.getElem?_eq_getElem
def zci:=@List.mem_flatten
def zbR:=@List.mem_replicate
def zcl:=@Nat.min_eq_left
def zc0:=@List.size_toArray
def zbQ:=@List.take_append_of_le_length
def zdb:=@List.drop_append_of_le_length
def za8:=@Option.bind_some
def zbC:=@Nat.le_succ
inductive PV where
 |bool (b:Bool)
 |int (k:IntKind) (n:Int)
 |str (s:List UInt8)
 |agg (cs:List PV)
 |ae (els:List PV)
 deriving Inhabited
inductive AV where
 |un
 |pv (p:PV)
 |dm (els:List PV)
 |own (els:List PV) (tok:Nat)
 |agg (cs:List AV)
 |rQ (vs:List AV)
 |au (d off:Nat)
 |aL (b off:Nat)
 |et (cs:List PV)
 |bl (b sz len:Nat) (ag:Bool)
 |fn (g:Nat) (cap:List AV)
 |iN
 |kH (s:Nat)
 |gA (kvs:List (PV×PV))
 |rT (b off n:Nat)
 |ug (d n:Nat)
 deriving Inhabited
abbrev Sh:=List (Option (List AV))
abbrev aH:=List Nat
inductive fp where
 |t (n:Nat)
 |c (v:AV)
 deriving Inhabited
inductive CK where
 |int|str|bool
 deriving Inhabited,DecidableEq
inductive Sv where
 |mv|pick
 |bin (op:BinOp)
 |beq (neg:Bool)
 |un (op:UnOp)
 |conv (k:IntKind)
 |ext (i:Nat)
 |field (off sz:Nat) (ag:Bool)
 |jh (off:Nat)
 |fK (sz:Nat)
 |index
 |build (zero:List PV) (places:List (Nat×Nat))
 |eA (sz:Nat)
 |g_ (sz:Nat) (ag:Bool)
 |slice (str:Bool) (sz:Nat) (lo hi mx:Bool)
 |len|EV|rU
 |mn|mx
 |uh (g:Nat)
 |veq (cs:List CK) (neg:Bool)
 |vu (sz:Nat) (lo hi:Bool)
 |b2s
 deriving Inhabited
inductive AK where
 |v (o:Sv)
 |cD (key off sz:Nat) (ag:Bool)
 |bN (key off sz:Nat)
 |alloc (key:Nat) (zero:List PV)
 |box (key sz:Nat)
 |ej (sz:Nat) (ag:Bool)
 |eX (sz:Nat)
 |ND (sz:Nat)
 |rV (sz:Nat)
 |vw (sz:Nat)
 |gD (zero:List PV)
 |mc (sz bytes:Nat) (ag:Bool) (zero:List PV)
 |s6 (key sz bytes:Nat) (zero:List PV)
 |append (sz bytes:Nat)
 |ei (sz bytes:Nat) (ag:Bool)
 |zG (sz bytes:Nat)
 |VJ
 |BU (c:CK) (ok:Bool) (zero:PV)
 |Z4 (c:CK)
 |clone (sz bytes:Nat)
 |kI (sz bytes:Nat) (ag:Bool)
 |iW (sz:Nat) (zero:List PV)
 |NF (sz:Nat)
 |aJ (g:Nat)
 |dt (g:Nat)
 |bg (g:Nat) (own:List Nat)
 |vz (g:Nat)
 |h_
 |gE
 deriving Inhabited
structure d8 where
 dst:Option Nat
 guard:Option (Nat×Bool)
 args:List fp
 op:AK
 deriving Inhabited
inductive ah where
 |skip
 |ka (ops:List d8) (live:List Nat)
 |seq (a b:ah)
 |cond (c:fp) (a b:ah)
 |block (id:Nat) (b:ah)
 |loop (live:List Nat) (b:ah)
 |exit (id:Nat)
 |ret
 |back (f:fp) (gb pi px sz:Nat) (ag:Bool) (live:List Nat) (x y:ah)
 |eQ (ts:List Nat)
 |VK (ds:List (Nat×Nat))
 |NG (ps:List (Nat×Nat×Bool))
 |oK (ts:List Nat)
 |Xt (ts:List Nat)
 deriving Inhabited
inductive rW where
 |t (n:Nat)
 |c (key sz:Nat) (ag:Bool)
 deriving Inhabited
structure Prim where
 f:(Nat->List PV->Option (List PV))->List PV->Option (List PV)
 fin:∀o x r,f o x=some r->∃l:List (Nat×List PV×List PV),(∀c∈l,o c.1 c.2.1=some c.2.2)/\∀o',(∀c∈l,o' c.1 c.2.1=some c.2.2)->f o' x=some r
def Prim.pure(f:List PV->Option (List PV)):Prim:=⟨fun _=>f,fun _ _ _ h=>⟨[],by simp,fun _ _=>h⟩⟩
def Prim.mono(p:Prim){E b:Nat->List PV->Option (List PV)}(h:∀g z r,E g z=some r->b g z=some r){z:List PV}{r:List PV}(e:p.f E z=some r):p.f b z=some r:=by
 obtain⟨l,h1,h2⟩:=p.fin E z r e;exact h2 b fun c d=>h _ _ _ (h1 c d)
structure aw where
 nparams:Nat
 ntmps:Nat
 results:List rW
 body:ah
 rX:Option Prim:=none
 ks:Bool:=false
 deriving Inhabited
variable{α:Type}{vs:List Value}{p:PV}{v:Value}{els:List PV}
def look:List (Nat×α)->Nat->Option α
 |[],_=>none
 |(k,v)::r,t=>if k=t then some v else look r t
def dh:List (Nat×α)->Nat->α->List (Nat×α)
 |[],t,u=>[(t,u)]
 |(k,v)::r,t,u=>if k=t then(k,u)::r else(k,v)::dh r t u
structure St where
 env:List (Nat×AV)
 mem:List (Nat×List AV)
 sh:Sh
 aa:aH
 deriving Inhabited
def bp:PV->List PV
 | .agg cs=>cs
 |p=>[p]
def bf:AV->List AV
 | .agg cs=>cs
 | .pv (.agg cs)=>cs.map .pv
 |v=>[v]
def bU:AV->Bool
 | .pv _| .dm _| .aL ..| .bl ..| .iN| .kH _| .gA _=>true
 | .fn _ cap=>ji cap
 | .agg cs=>ji cs
 |_=>false
where ji:List AV->Bool
 |[]=>true
 |v::r=>bU v && ji r
def a9:AV->Bool
 | .pv (.agg _)=>false
 | .pv _| .dm _| .aL ..| .bl ..| .iN| .kH _| .gA _=>true
 | .fn g cap=>bU (.fn g cap)
 | .own ..=>true
 |_=>false
def eo(v:AV):Bool:=a9 v
def bB:AV->Bool
 | .own ..| .au ..| .ug ..=>false
 | .agg cs=>ep cs
 | .rQ cs=>ep cs
 | .fn _ cap=>ep cap
 |_=>true
where ep:List AV->Bool
 |[]=>true
 |v::r=>bB v && ep r
def pC:AV->Bool
 | .own ..=>true
 |v=>bB v
def iD:List AV->Bool
 |[]=>true
 |v::r=>pC v && iD r
def jH:AV->Option PV
 | .pv p=>some p
 | .dm l=>some (.ae l)
 | .own l _=>some (.ae l)
 |_=>none
def jI:PV->Bool
 | .agg _=>false
 |_=>true
def chunk(sz:Nat):Nat->List PV->List (List PV)
 |0,_=>[]
 |n+1,l=>l.take sz::chunk sz n (l.drop sz)
def fM:List AV->Option (List PV)
 |[]=>some []
 |v::r=>match jH v,fM r with
  |some p,some ps=>some (p::ps)
  |_,_=>none
def ie(sz:Nat)(ag:Bool)(n:Nat)(cells:List PV):Option (List PV):=
 if ag then some ((chunk sz n cells).map .agg)
 else if sz=1 then some cells else none
def dR:List AV->Bool
 | .gA _::_=>true
 |_=>false
def eG(sh:Sh):AV->Option PV
 | .bl b sz n ag=>match sh[b]? with
  |some (some cells)=>if cells.length=n*sz then((fM cells).bind (ie sz ag n)).map .ae
    else if dR cells=false/\n*sz<=cells.length then((fM (cells.take (n*sz))).bind (ie sz ag n)).map .ae else none
  |_=>none
 |v=>jH v
def eY(sh:Sh):List AV->Option (List PV)
 |[]=>some []
 |v::r=>if a9 v=true then
  match eG sh v,eY sh r with
  |some p,some ps=>some (p::ps)
  |_,_=>none
   else none
def eQ(sh:Sh):AV->Option PV
 | .agg cs=>(eY sh cs).map .agg
 |v=>eG sh v
def dS(sh:Sh):List AV->Option (List PV)
 |[]=>some []
 |v::r=>match eQ sh v,dS sh r with
  |some p,some ps=>some (p::ps)
  |_,_=>none
def iv:AV->List Nat
 | .bl b _ _ _=>[b]
 | .agg cs=>cs.flatMap fun| .bl b _ _ _=>[b]|_=>[]
 |_=>[]
def kill(sh:Sh)(l:List Nat):Sh:=l.foldl (fun s b=>s.set b none) sh
def fu(sh:Sh)(vs:List AV):Sh:=kill sh (vs.flatMap iv)
def aN(n:Nat):AV->Bool
 | .un| .pv _| .dm _| .own ..| .iN| .et _| .gA _=>true
 | .aL b _| .bl b _ _ _| .kH b=>decide (b<n)
 | .fn _ cap=>cN n cap
 | .agg cs=>cN n cs
 |_=>false
where cN (n:Nat):List AV->Bool
 |[]=>true
 |v::r=>aN n v && cN n r
def NH:CK->PV->PV->Option Bool
 | .int,.int k a,.int k' b=>if k=k' then some (a == b)else none
 | .str,.str a,.str b=>some (a == b)
 | .bool,.bool a,.bool b=>some (a == b)
 |_,_,_=>none
def Sw:List CK->List PV->List PV->Option Bool
 |[],[],[]=>some true
 |c::cs,p::ps,q::a=>match NH c p q with
  |some true=>Sw cs ps a
  |some false=>if ps.length=cs.length/\a.length=cs.length then some false else none
  |none=>none
 |_,_,_=>none
def EW(c:CK):List (PV×PV)->PV->Option (Option PV)
 |[],_=>some none
 |(k',v)::r,k=>match NH c k k' with
  |some true=>some (some v)
  |some false=>EW c r k
  |none=>none
def NI(c:CK):List (PV×PV)->PV->PV->Option (List (PV×PV))
 |[],k,p=>some [(k,p)]
 |(k',v)::r,k,p=>match NH c k k' with
  |some true=>some ((k,p)::r)
  |some false=>(NI c r k p).map ((k',v)::·)
  |none=>none
def zH(ok:Bool)(zero:PV)(r:Option PV):AV:=if ok then .rQ [.pv (r.getD zero),.pv (.bool r.isSome)]else .pv (r.getD zero)
def cU(op:BinOp):AV->AV->Option AV
 | .pv (.int k a),.pv (.int k' b)=>
  if k=k'\/op=.shl\/op=.shr then
   match op with
   | .add=>some (.pv (.int k (k.wrap (a+b))))
   | .sub=>some (.pv (.int k (k.wrap (a-b))))
   | .mul=>some (.pv (.int k (k.wrap (a*b))))
   | .quo=>if b=0 then none else some (.pv (.int k (k.wrap (a.tdiv b))))
   | .rem=>if b=0 then none else some (.pv (.int k (a.tmod b)))
   | .eql=>some (.pv (.bool (a == b)))
   | .neq=>some (.pv (.bool (a != b)))
   | .lss=>some (.pv (.bool (decide (a<b))))
   | .leq=>some (.pv (.bool (decide (a<=b))))
   | .gtr=>some (.pv (.bool (decide (a > b))))
   | .geq=>some (.pv (.bool (decide (a>=b))))
   | .and=>some (.pv (.int k (k.wrap (BitVec.ofInt k.bits a &&& BitVec.ofInt k.bits b).toNat)))
   | .shl=>if b<0 then none else some (.pv (.int k (k.wrap (a*2 ^ (min b.toNat k.bits)))))
   | .shr=>if b<0 then none else some (.pv (.int k (a.fdiv (2 ^ (min b.toNat k.bits)))))
   |_=>none
  else none
 | .pv (.str a),.pv (.str b)=>
  match op with
  | .add=>if a.length+b.length<=9223372036854775807 then some (.pv (.str (a++b)))else none
  | .eql=>some (.pv (.bool (a == b)))
  | .neq=>some (.pv (.bool (!(a == b))))
  | .lss=>some (.pv (.bool (eV a b)))
  | .gtr=>some (.pv (.bool (!(eV a b || a == b))))
  | .leq=>some (.pv (.bool (eV a b || a == b)))
  | .geq=>some (.pv (.bool (!eV a b)))
  |_=>none
 |_,_=>none
where eV:List UInt8->List UInt8->Bool
 |_,[]=>false
 |[],_::_=>true
 |a::x,b::y=>a<b || (a == b && eV x y)
def Z5(op:UnOp):AV->Option AV
 | .pv (.bool b)=>match op with| .not=>some (.pv (.bool !b))|_=>none
 | .pv (.int k n)=>match op with| .neg=>some (.pv (.int k (k.wrap (0-n))))|_=>none
 |_=>none
def dG:AV->Option (List PV)
 | .pv (.ae l)=>some l
 | .dm l=>some l
 | .own l _=>some l
 |_=>none
def bj(sz:Nat):List PV->Bool
 |[]=>true
 |p::_=>(bp p).length == sz
def a_(cells:List AV)(off:Nat)(vs:List AV):List AV:=cells.take off++vs++cells.drop (off+vs.length)
def nv(cells:List AV):List (Nat×Nat)->List AV->Option (List AV)
 |[],[]=>some cells
 |(off,sz)::ps,v::vs=>
  if (bf v).length=sz/\off+sz<=cells.length/\(bf v).all a9=true then nv (a_ cells off (bf v)) ps vs else none
 |_,_=>none
def cm(ag:Bool)(sz:Nat)(cs:List AV)(off:Nat):Option AV:=
 if off+sz<=cs.length then
  if ag then some (.agg ((cs.drop off).take sz))
  else if sz=1 then cs[off]? else none
 else none
def cV(ag:Bool)(sz:Nat)(cs:List PV):Option AV:=
 if sz<=cs.length then
  if ag then some (.pv (.agg (cs.take sz)))
  else if sz=1 then(cs[0]?).map .pv else none
 else none
def eI(lo hi mx:Bool)(n:Nat)(rest:List AV):Option (Int×Int×Option Int):=
 match lo,hi,mx,rest with
 |false,false,false,[]=>some (0,n,none)
 |true,false,false,[.pv (.int _ l)]=>some (l,n,none)
 |false,true,false,[.pv (.int _ h)]=>some (0,h,none)
 |true,true,false,[.pv (.int _ l),.pv (.int _ h)]=>some (l,h,none)
 |false,true,true,[.pv (.int _ h),.pv (.int _ m)]=>some (0,h,some m)
 |true,true,true,[.pv (.int _ l),.pv (.int _ h),.pv (.int _ m)]=>some (l,h,some m)
 |_,_,_,_=>none
def dC(str:Bool)(sz:Nat)(lo hi mx:Bool):List AV->Option AV
 |x::rest=>if str then
  match x with
  | .pv (.str s)=>match eI lo hi mx s.length rest with
   |some (l,h,none)=>if 0<=l/\l<=h/\h<=s.length then some (.pv (.str ((s.take h.toNat).drop l.toNat)))else none
   |_=>none
  |_=>none
   else match dG x with
    |some els=>match eI lo hi mx els.length rest with
     |some (l,h,m)=>if 0<=l/\l<=h/\h<=els.length/\(l=0\/bj sz els=true)then
      match m with
      |some m=>if m=h then some (.dm ((els.take h.toNat).drop l.toNat))else none
      |none=>some (.pv (.ae ((els.take h.toNat).drop l.toNat)))
       else none
     |none=>none
    |none=>none
 |[]=>none
def me(sz:Nat)(lo hi:Bool):List AV->Option AV
 | .bl b z n ag::rest=>if z=sz then
  match eI lo hi false n rest with
  |some (l,h,none)=>if 0<=l/\l<=h/\h<=n then some (if l=0 then .bl b z h.toNat ag else .rT b (l.toNat*sz) (h.toNat-l.toNat))else none
  |_=>none
   else none
 |_=>none
def vA(sz:Nat):AV->Option (Nat×Nat×Nat)
 | .bl b z n _=>if z=sz then some (b,0,n)else none
 | .rT b off n=>some (b,off,n)
 |_=>none
def pQ(sz:Nat)(zero:List PV)(sh:Sh):Option (Nat×Nat×Nat)->Option Sh
 |some (b,off,n)=>match sh[b]? with
  |some (some cells)=>if dR cells=false/\off+n*sz<=cells.length/\zero.length=sz then some (sh.set b (some (a_ cells off (List.replicate n (zero.map .pv)).flatten)))else none
  |_=>none
 |none=>none
def acN(sz:Nat)(sh:Sh)(xs:List PV):AV->Option (Nat×Sh)
 | .bl b z n _=>match sh[b]? with
  |some (some cells)=>if z=sz/\bj sz xs=true/\dR cells=false/\n*sz<=cells.length then
   some (min xs.length n,sh.set b (some (a_ cells 0 (((xs.take n).flatMap bp).map .pv))))else none
  |_=>none
 |_=>none
def ig:List PV->Option (List UInt8)
 |[]=>some []
 | .int .u8 n::r=>if 0<=n/\n<256 then(ig r).map (UInt8.ofNat n.toNat::·)else none
 |_=>none
def bK:Sv->List AV->Option AV
 | .mv,[x]=>some x
 | .pick,[.pv (.bool c),a,b]=>some (if c then a else b)
 | .bin op,[a,b]=>cU op a b
 | .beq neg,[.pv (.bool a),.pv (.bool b)]=>some (.pv (.bool (if neg then !(a == b)else(a == b))))
 | .un op,[a]=>Z5 op a
 | .conv k,[.pv (.int _ n)]=>some (.pv (.int k (k.wrap n)))
 | .ext i,[.rQ vs]=>vs[i]?
 | .field off sz ag,[x]=>match x with
  | .agg cs=>cm ag sz cs off
  | .pv (.agg cs)=>cV ag sz (cs.drop off)
  |_=>none
 | .jh off,[x]=>match x with
  | .au d o=>some (.au d (o+off))
  | .aL b o=>some (.aL b (o+off))
  | .et cs=>some (.et (cs.drop off))
  |_=>none
 | .fK sz,[x,.pv (.int _ i)]=>
  if i<0 then none else
  match x with
  | .bl b sz' n _=>if sz=sz'/\i.toNat<n then some (.aL b (i.toNat*sz))else none
  |x=>match dG x with
   |some els=>match els[i.toNat]? with
    |some el=>if(bp el).length=sz then some (.et (bp el))else none
    |none=>none
   |none=>none
 | .index,[.pv (.str s),.pv (.int _ i)]=>if i<0 then none else(s[i.toNat]?).map fun b=>.pv (.int .u8 b.toNat)
 | .build zero places,vs=>(nv (zero.map zeroCell) places vs).map .agg
 | .eA sz,vs=>(dS [] vs).bind fun els=>if els.all (fun e=>(bp e).length == sz)then some (.dm els)else none
 | .g_ sz ag,[.et cs]=>cV ag sz cs
 | .slice str sz lo hi mx,vs=>dC str sz lo hi mx vs
 | .vu sz lo hi,vs=>me sz lo hi vs
 | .EV,[.pv (.str s)]=>some (.pv (.int .i64 s.length))
 | .len,[x]=>match x with
  | .bl _ _ n _=>some (.pv (.int .i64 n))
  |x=>(dG x).map fun l=>.pv (.int .i64 l.length)
 | .rU,[x]=>match x with
  | .au ..| .aL ..| .et _| .fn ..=>some x
  |_=>none
 | .mn,[.pv (.int k x),.pv (.int k' y)]=>if k=k' then some (.pv (.int k (if y<x then y else x)))else none
 | .mx,[.pv (.int k x),.pv (.int k' y)]=>if k=k' then some (.pv (.int k (if y > x then y else x)))else none
 | .uh g,cap=>some (.fn g cap)
 | .b2s,[x]=>((dG x).bind ig).map fun s=>.pv (.str s)
 |_,_=>none
where zeroCell:PV->AV
 | .ae []=>.dm []
 |p=>.pv p
structure Out where
 val:AV
 cells:Option (List AV)
 sh:Sh
 aa:aH
structure fQ where
 p:Nat->List PV->Option (List PV)
 i:Nat->List AV->Sh->aH->Option (List AV×Sh×aH)
def vB:List PV->AV
 |[r]=>.pv r
 |rs=>.rQ (rs.map .pv)
def ui:List AV->AV
 |[r]=>r
 |rs=>.rQ rs
def mf(v:AV):AV:=match eQ [] v with|some p=>.pv p|none=>v
def AK.key:AK->Option Nat
 | .cD k _ _ _| .bN k _ _| .alloc k _| .box k _| .s6 k _ _ _=>some k
 |_=>none
def cz(sz bytes:Nat)(s x:AV)(aa:aH):Option (AV×aH):=
 match dG x with
 |none=>none
 |some xs=>if bj sz xs=true then
  match s with
  | .dm l=>if xs.isEmpty=true then some (.dm l,aa)else if bj sz l=true/\(l.length+xs.length)*bytes<=140737488355328 then
   some (.own (l++xs) aa.length,aa++[(l++xs).length])else none
  | .own l τ=>if aa[τ]?=some l.length/\bj sz l=true/\(l.length+xs.length)*bytes<=140737488355328 then
   some (.own (l++xs) τ,aa.set τ (l++xs).length)else none
  |_=>none
  else none
def BV:List PV->List PV->Bool
 |[],[]=>true
 | .str a::r,.str b::q=>(a == b) && BV r q
 |_,_=>false
def acS(sz bytes:Nat)(xs:List PV)(s e:AV)(aa:aH):Option PV:=
 match s,e with
 | .own l τ,.own m σ=>if τ=σ/\aa[τ]?=some m.length/\m.length=l.length+xs.length/\bj 1 l=true/\bj 1 xs=true/\sz=1 /\
     BV (m.drop l.length) xs=true/\xs.isEmpty=false/\m.length*bytes<=140737488355328 then some (.ae (l++xs))else none
 |_,_=>none
def uj(sz bytes:Nat)(ag:Bool)(s:AV)(xs:List PV)(sh:Sh):Option (AV×Sh):=
 if xs.isEmpty=true then some (s,sh)else if xs.length*bytes<=140737488355328 then some (.bl sh.length sz xs.length ag,sh++[some ((xs.flatMap bp).map .pv)])else none
def um(sz bytes:Nat)(ag:Bool)(s:AV)(xs:List PV)(sh:Sh)(aa:aH):Option (AV×Sh):=
 match s with
 | .dm []=>uj sz bytes ag s xs sh
 | .own [] τ=>if aa[τ]?=some 0 then uj sz bytes ag s xs sh else none
 | .bl b z n g=>match sh[b]? with
  |some (some cells)=>if z=sz/\g=ag/\dR cells=false/\n*sz<=cells.length/\(n+xs.length)*bytes<=140737488355328 then
   if xs.isEmpty=true then some (.bl b sz n ag,sh)else some (.bl sh.length sz (n+xs.length) ag,sh.set b none++[some (cells.take (n*sz)++(xs.flatMap bp).map .pv)])
    else none
  |_=>none
 |_=>none
def ij(o:Option Bool)(sz bytes:Nat)(x:AV)(sh:Sh)(aa:aH):Option (AV×Sh×aH):=match o with
 |none=>(cz sz bytes (.dm []) x aa).map fun(v,ts)=>(v,sh,ts)
 |some ag=>match dG x with
  |some xs=>if bj sz xs=true then(uj sz bytes ag (.dm []) xs sh).map fun(v,sh')=>(v,sh',aa)else none
  |none=>none
def eZ(aQ ts:aH):AV->AV×aH×aH
 | .own l τ=>if aQ[τ]?=some l.length then(.own l ts.length,aQ.set τ (l.length+1),ts++[l.length])else(.pv (.ae l),aQ,ts)
 |v=>(v,aQ,ts)
def cX(aQ ts:aH):List AV->List AV×aH×aH
 |[]=>([],aQ,ts)
 |v::r=>((eZ aQ ts v).1::(cX (eZ aQ ts v).2.1 (eZ aQ ts v).2.2 r).1,(cX (eZ aQ ts v).2.1 (eZ aQ ts v).2.2 r).2)
def bz(aQ ts:aH):AV->AV×aH×aH
 | .own l τ=>if aQ[τ]?=some l.length then(.own l ts.length,aQ.set τ (l.length+1),ts++[l.length])else(.pv (.ae l),aQ,ts)
 | .dm l=>(.own l ts.length,aQ,ts++[l.length])
 | .agg cs=>if bB.ep cs=true then(.agg cs,aQ,ts)else(.agg (cX aQ ts cs).1,(cX aQ ts cs).2.1,(cX aQ ts cs).2.2)
 |v=>(v,aQ,ts)
def bo(aQ ts:aH):List AV->List AV×aH×aH
 |[]=>([],aQ,ts)
 |v::r=>((bz aQ ts v).1::(bo (bz aQ ts v).2.1 (bz aQ ts v).2.2 r).1,(bo (bz aQ ts v).2.1 (bz aQ ts v).2.2 r).2)
def bt(aQ ts:aH):Sh->Sh×aH×aH
 |[]=>([],aQ,ts)
 |none::r=>(none::(bt aQ ts r).1,(bt aQ ts r).2)
 |some cs::r=>(some (bo aQ ts cs).1::(bt (bo aQ ts cs).2.1 (bo aQ ts cs).2.2 r).1,(bt (bo aQ ts cs).2.1 (bo aQ ts cs).2.2 r).2)
def cL(aa:aH)(xs:List AV)(sh:Sh):List AV×Sh×aH×aH:=
 ((bo aa [] xs).1,(bt (bo aa [] xs).2.1 (bo aa [] xs).2.2 sh).1,(bt (bo aa [] xs).2.1 (bo aa [] xs).2.2 sh).2.1,(bt (bo aa [] xs).2.1 (bo aa [] xs).2.2 sh).2.2)
def mg:AV->Bool
 | .own ..=>true
 |v=>bU v
def gF:List AV->Bool
 |[]=>true
 |v::r=>mg v && gF r
def bQ:AV->Bool
 | .own ..=>true
 | .agg cs=>gF cs
 |v=>bU v
def jW(n:Nat):AV->AV
 | .own l τ=>.own l (τ+n)
 |v=>v
def dj(n:Nat):AV->AV
 | .own l τ=>.own l (τ+n)
 | .agg cs=>if bB.ep cs=true then .agg cs else .agg (cs.map (jW n))
 |v=>v
def gh(n:Nat)(sh:Sh):Sh:=sh.map fun o=>o.map fun cs=>cs.map (dj n)
def eB(own:List Nat):Nat->List AV->List AV
 |_,[]=>[]
 |i,v::r=>(if own.contains i then v else mf v)::eB own (i+1) r
def eJ(orc:fQ)(g:Nat)(own:List Nat)(vals:List AV)(sh:Sh)(aa:aH):Option (AV×Sh×aH):=
 if (eB own 0 vals).all bQ=true then
  (orc.i g (cL aa (eB own 0 vals) sh).1 (cL aa (eB own 0 vals) sh).2.1 (cL aa (eB own 0 vals) sh).2.2.2).map fun(rs,sh',ts)=>
   (ui (rs.map (dj aa.length)),gh aa.length sh',(cL aa (eB own 0 vals) sh).2.2.1++ts)
 else none
def cP(v:AV):List AV:=match v with
 | .dm l=>[.dm l]
 | .own l τ=>[.own l τ]
 |v=>match eQ [] v with|some p=>bf (.pv p)|none=>bf v
mutual
def xU:PV->PV->Bool
 | .bool a,.bool b=>a == b
 | .int k a,.int l b=>decide (k=l) && (a == b)
 | .str a,.str b=>a == b
 | .agg a,.agg b=>vD a b
 | .ae a,.ae b=>vD a b
 |_,_=>false
def vD:List PV->List PV->Bool
 |[],[]=>true
 |a::r,b::q=>xU a b && vD r q
 |_,_=>false
end
def Z6:AV->AV->Bool
 | .pv a,.pv b=>xU a b
 |_,_=>false
def xX:List AV->List AV->Bool
 |[],[]=>true
 |a::r,b::q=>Z6 a b && xX r q
 |_,_=>false
def pq:Sh->Sh->Bool
 |[],[]=>true
 |none::r,none::q=>pq r q
 |some a::r,some b::q=>xX a b && pq r q
 |_,_=>false
def roK(sh:Sh):AV×Sh×aH->Option Out
 |(v,sh',ts)=>if pq sh' sh=true then some ⟨v,none,sh,ts⟩else none
def exec(orc:fQ)(op:AK)(vals:List AV)(cells:Option (List AV))(sh:Sh)(aa:aH):Option Out:=
 match op,vals with
 | .v o,vals=>(bK o vals).map fun x=>⟨x,none,sh,aa⟩
 | .cD key off sz ag,[.au d o]=>if d=key/\o=off then
  match cells with
  |some cs=>(cm ag sz cs off).map fun x=>⟨x,none,sh,aa⟩
  |none=>none
   else none
 | .bN key off sz,[.au d o,v]=>if d=key/\o=off/\(bf v).length=sz/\(bf v).all a9=true then
  match cells with
  |some cs=>if off+sz<=cs.length then some ⟨.un,some (a_ cs off (bf v)),sh,aa⟩else none
  |none=>none
   else none
 | .alloc key zero,[]=>match cells with
  |none=>some ⟨.au key 0,some (zero.map bK.zeroCell),sh,aa⟩
  |some _=>none
 | .box key sz,[v]=>match cells with
  |none=>if(bf v).length=sz/\(bf v).all a9=true then some ⟨.au key 0,some (bf v),sh,aa⟩else none
  |some _=>none
 | .ej sz ag,[p]=>match p with
  | .et cs=>(cV ag sz cs).map fun x=>⟨x,none,sh,aa⟩
  | .aL b off=>match sh[b]? with
   |some (some cs)=>if dR cs=true then none else(cm ag sz cs off).map fun x=>⟨x,none,sh,aa⟩
   |_=>none
  |_=>none
 | .eX sz,[.aL b off,v]=>match sh[b]? with
  |some (some cs)=>
   let vs:=cP v
   if dR cs=false/\vs.length=sz/\off+sz<=cs.length/\vs.all eo=true/\vs.all (aN (b+1))=true then
    some ⟨.un,none,sh.set b (some (a_ cs off vs)),aa⟩else none
  |_=>none
 | .rV sz,[v]=>
  let vs:=cP v
  if vs.length=sz/\vs.all eo=true/\vs.all (aN sh.length)=true then
   some ⟨.aL sh.length 0,none,sh++[some vs],aa⟩else none
 | .vw sz,[v]=>
  let vs:=bf v
  if vs.length=sz/\vs.all eo=true/\vs.all (aN sh.length)=true then
   some ⟨.aL sh.length 0,none,sh++[some vs],aa⟩else none
 | .gD zero,[]=>some ⟨.aL sh.length 0,none,sh++[some (zero.map bK.zeroCell)],aa⟩
 | .mc sz bytes ag zero,[.pv (.int _ n),.pv (.int _ n')]=>
  if n=n'/\0<=n/\n<=9223372036854775807/\n*bytes<=140737488355328/\zero.length=sz then
   some ⟨.bl sh.length sz n.toNat ag,none,sh++[some ((List.replicate n.toNat (zero.map .pv)).flatten)],aa⟩else none
 | .append sz bytes,[s,x]=>(cz sz bytes s x aa).map fun(v,ts)=>⟨v,none,sh,ts⟩
 | .ei sz bytes ag,[s,x]=>match dG x with
  |some xs=>if bj sz xs=true then(um sz bytes ag s xs sh aa).map fun(v,sh')=>⟨v,none,sh',aa⟩else none
  |none=>none
 | .clone sz bytes,[x]=>(cz sz bytes (.dm []) x aa).map fun(v,ts)=>⟨v,none,sh,ts⟩
 | .kI sz bytes ag,[x]=>(ij (some ag) sz bytes x sh aa).map fun(v,sh',ts)=>⟨v,none,sh',ts⟩
 | .iW sz zero,[x]=>(pQ sz zero sh (vA sz x)).map fun sh'=>⟨.rQ [],none,sh',aa⟩
 | .aJ g,vals=>match dS [] vals with
  |some eE=>(orc.p g eE).map fun rs=>⟨vB rs,none,sh,aa⟩
  |none=>none
 | .dt g,vals=>match dS sh vals with
  |some eE=>(orc.p g eE).map fun rs=>⟨vB rs,none,fu sh vals,aa⟩
  |none=>none
 | .bg g own,vals=>(eJ orc g own vals sh aa).map fun(v,sh',ts)=>⟨v,none,sh',ts⟩
 | .gE,f::vals=>match f with
  | .fn g cap=>(eJ orc g [] (vals++cap) sh aa).bind (roK sh)
  |_=>none
 | .h_,f::vals=>match f with
  | .fn g cap=>(eJ orc g [] (vals++cap) sh aa).map fun(v,sh',ts)=>⟨v,none,sh',ts⟩
  |_=>none
 |_,_=>none
def iJ(env:List (Nat×AV)):fp->Option AV
 | .t n=>look env n
 | .c v=>some v
def eN(env:List (Nat×AV)):List fp->Option (List AV)
 |[]=>some []
 |x::r=>match iJ env x,eN env r with
  |some v,some vs=>some (v::vs)
  |_,_=>none
def gT(env:List (Nat×AV)):Option (Nat×Bool)->Option Bool
 |none=>some true
 |some (t,b)=>match look env t with
  |some (.pv (.bool c))=>some (c == b)
  |some .un=>some false
  |_=>none
def ik(env:List (Nat×AV)):Option Nat->AV->List (Nat×AV)
 |some d,v=>dh env d v
 |none,_=>env
def gG(mem:List (Nat×List AV)):Option Nat->Option (List AV)->List (Nat×List AV)
 |some k,some cs=>dh mem k cs
 |_,_=>mem
def eC(orc:fQ)(o:d8)(st:St):Option St:=
 match gT st.env o.guard with
 |none=>none
 |some false=>some {st with env:=ik st.env o.dst .un}
 |some true=>
  match eN st.env o.args with
  |none=>none
  |some vals=>
   match exec orc o.op vals (o.op.key.bind (look st.mem)) st.sh st.aa with
   |none=>none
   |some out=>some {env:=ik st.env o.dst out.val,mem:=gG st.mem o.op.key out.cells,sh:=out.sh,aa:=out.aa}
def bC(orc:fQ):List d8->St->Option St
 |[],st=>some st
 |o::r,st=>match eC orc o st with
  |none=>none
  |some a=>bC orc r a
def ia(live:List Nat):AV->Bool
 | .au d _=>live.contains d
 | .ug d _=>live.contains d
 | .own ..=>true
 | .agg cs=>iD cs
 |v=>bB v
def bM(live:List Nat)(env:List (Nat×AV)):List Nat->List (Nat×AV)
 |[]=>[]
 |t::r=>match look env t with
  |some v=>if ia live v=true then(t,v)::bM live env r else bM live env r
  |none=>bM live env r
def bR(mem:List (Nat×List AV)):List Nat->List (Nat×List AV)
 |[]=>[]
 |t::r=>match look mem t with
  |some v=>(t,v)::bR mem r
  |none=>bR mem r
def restrict(live:List Nat)(st:St):St:=
 {st with env:=bM live st.env live,mem:=bR st.mem live}
def dL(aQ ts:aH):List (Nat×AV)->List (Nat×AV)×aH×aH
 |[]=>([],aQ,ts)
 |(t,v)::r=>((t,(bz aQ ts v).1)::(dL (bz aQ ts v).2.1 (bz aQ ts v).2.2 r).1,(dL (bz aQ ts v).2.1 (bz aQ ts v).2.2 r).2)
def gH(aQ ts:aH):List (Nat×List AV)->List (Nat×List AV)×aH×aH
 |[]=>([],aQ,ts)
 |(t,v)::r=>((t,(bo aQ ts v).1)::(gH (bo aQ ts v).2.1 (bo aQ ts v).2.2 r).1,(gH (bo aQ ts v).2.1 (bo aQ ts v).2.2 r).2)
def norm(st:St):St:=
 { env:=(dL st.aa [] st.env).1,
   mem:=(gH (dL st.aa [] st.env).2.1 (dL st.aa [] st.env).2.2 st.mem).1,
   sh:=(bt (gH (dL st.aa [] st.env).2.1 (dL st.aa [] st.env).2.2 st.mem).2.1 (gH (dL st.aa [] st.env).2.1 (dL st.aa [] st.env).2.2 st.mem).2.2 st.sh).1,
   aa:=(bt (gH (dL st.aa [] st.env).2.1 (dL st.aa [] st.env).2.2 st.mem).2.1 (gH (dL st.aa [] st.env).2.1 (dL st.aa [] st.env).2.2 st.mem).2.2 st.sh).2.2}
inductive aX where
 |normal|ret|exit (id:Nat)
 deriving Inhabited,DecidableEq
def gI(f:St->Option (aX×St))(a:St->St):Nat->St->Option (aX×St)
 |0,_=>none
 |n+1,st=>match f (a st)with
  |some (.normal,b)=>gI f a n b
  |r=>r
def uq(sz:Nat)(ag:Bool)(el:PV):Option AV:=if(bp el).length=sz then cV ag sz (bp el)else none
def iK(f:St->Option (aX×St))(live:List Nat)(pi px sz:Nat)(ag:Bool)(env:List (Nat×AV)):List (PV×Nat)->St->Option (aX×St)
 |[],st=>some (.normal,{st with env:=env})
 |(el,i)::r,st=>match uq sz ag el with
  |none=>none
  |some v=>match f (norm (restrict live {st with env:=dh (dh env pi (.pv (.int .i64 i))) px v}))with
   |some (.normal,a)=>iK f live pi px sz ag env r a
   |some (e,a)=>some (e,{a with env:=env})
   |none=>none
def andThen(f g:St->Option (aX×St))(st:St):Option (aX×St):=match f st with
 |some (.normal,a)=>g a
 |_=>none
def iX(live:List Nat)(env:List (Nat×AV)):List (Nat×AV):=(bM live env live).filter fun p=>bB p.2
def fR(f:St->Option (aX×St))(v:Option AV)(gb pi px sz:Nat)(ag:Bool)(live:List Nat)(st:St):Option (aX×St):=
 match v with
 |some (.fn g [.aL s 0])=>if g=gb then
  match st.sh[s]? with
  |some (some [.pv (.ae l)])=>if l.length<4611686018427387904 then iK f live pi px sz ag (iX live st.env) l.zipIdx.reverse {st with sh:=kill st.sh [s]}else none
  |_=>none
   else none
 |_=>none
def pD:AV->AV
 | .dm l=>.pv (.ae l)
 |v=>v
def zI:AV->St->St
 | .aL b 0,st=>match st.sh[b]? with
  |some (some cs)=>{st with sh:=st.sh.set b (some ((cs.take (cs.length / 2)).map pD++cs.drop (cs.length / 2)))}
  |_=>st
 | .au d 0,st=>match look st.mem d with
  |some cs=>match eY st.sh cs with
   |some ps=>{st with mem:=dh st.mem d (ps.map .pv),sh:=fu st.sh [.agg cs]}
   |none=>st
  |none=>st
 |_,st=>st
def pw:List Nat->St->St
 |[],st=>st
 |t::r,st=>match look st.env t with
  |some v=>match eQ st.sh v with
   |some p=>pw r {st with env:=dh st.env t (.pv p),sh:=fu st.sh [v]}
   |none=>pw r (zI v st)
  |none=>pw r st
def apart:Option AV->Option AV->Bool
 |some (.aL b _),some (.aL a _)=>b != a
 |_,_=>false
def jX(env:List (Nat×AV)):List (Nat×Nat)->Bool
 |[]=>true
 |(a,b)::r=>apart (look env a) (look env b) && jX env r
def Z7(d:Nat):List (Nat×α)->List (Nat×α)
 |[]=>[]
 |(k,v)::r=>if k=d then Z7 d r else(k,v)::Z7 d r
def Sx(_:List (Nat×Nat×Bool))(st:St):St:=st
def Sy(b a:Nat):List Nat->List (Nat×AV)->List (Nat×AV)
 |[],env=>env
 |t::r,env=>match look env t with
  |some (.bl s z n ag)=>if s=b then Sy b a r (dh env t (.bl a z n ag))else Sy b a r env
  |_=>Sy b a r env
def Z8(_:List Nat)(st:St):St:=st
def Xu(_:List Nat)(st:St):St:=st
def cT(orc:fQ)(k:Nat):ah->St->Option (aX×St)
 | .skip,st=>some (.normal,st)
 | .ka ops live,st=>match bC orc ops st with
  |some d=>some (.normal,restrict live d)
  |none=>none
 | .seq a b,st=>match cT orc k a st with
  |some (.normal,d)=>cT orc k b d
  |r=>r
 | .cond c a b,st=>match iJ st.env c with
  |some (.pv (.bool t))=>if t then cT orc k a st else cT orc k b st
  |_=>none
 | .block id b,st=>match cT orc k b st with
  |some (.exit e,d)=>if e=id then some (.normal,d)else some (.exit e,d)
  |r=>r
 | .loop live b,st=>gI (cT orc k b) (fun s=>norm (restrict live s)) k st
 | .exit id,st=>some (.exit id,st)
 | .ret,st=>some (.ret,st)
 | .back c gb pi px sz ag live x y,st=>fR (andThen (cT orc k x) (cT orc k y)) (iJ st.env c) gb pi px sz ag live st
 | .eQ ts,st=>some (.normal,pw ts st)
 | .VK ds,st=>if jX st.env ds=true then some (.normal,st)else none
 | .NG ps,st=>some (.normal,Sx ps st)
 | .oK ts,st=>some (.normal,Z8 ts st)
 | .Xt ts,st=>some (.normal,Xu ts st)
def bY:Nat->List AV->List (Nat×AV)
 |_,[]=>[]
 |i,v::r=>(i,v)::bY (i+1) r
def s7(st:St):rW->Option AV
 | .t n=>look st.env n
 | .c key sz ag=>match look st.env key with
  |some (.au d 0)=>match look st.mem key with
   |some cs=>if d=key then cm ag sz cs 0 else none
   |none=>none
  |some (.aL s 0)=>match st.sh[s]? with
   |some (some cs)=>if dR cs=true then none else cm ag sz cs 0
   |_=>none
  |_=>none
def e8(st:St):List rW->Option (List AV)
 |[]=>some []
 |r::rs=>match s7 st r,e8 st rs with
  |some v,some vs=>some (v::vs)
  |_,_=>none
def mh(sh:Sh)(v:AV):AV:=match eQ sh v with|some p=>.pv p|none=>v
def rY(sh:Sh)(v:AV):AV:=match v with
 | .dm l=>.dm l
 |v=>if a9 v=true then mh sh v else v
def nG(sh:Sh)(v:AV):AV:=match v with
 | .dm l=>.dm l
 | .own l τ=>.own l τ
 | .agg cs=>.agg (cs.map (rY sh))
 |v=>mh sh v
def cI(a6 ks:Bool)(sh:Sh)(vs:List AV):List AV:=if a6 then(if ks then vs else vs.map (nG sh))else vs.map (mh sh)
def gq(a6 ks:Bool)(sh:Sh)(vs:List AV):Sh:=if a6 && ks then sh else fu sh vs
def cE(orc:fQ)(k:Nat)(a6:Bool)(af:aw)(args:List AV)(sh:Sh)(ts:aH):Option (List AV×Sh×aH):=
 match cT orc k af.body {env:=bY 0 args,mem:=[],sh,aa:=ts}with
 |some (e,st)=>
  if e=.ret\/e=.normal then
   match e8 st af.results with
   |some vs=>
    let rs:=cI a6 af.ks st.sh vs
    let sh':=if rs.all (aN sh.length)=true then(gq a6 af.ks st.sh vs).take sh.length else gq a6 af.ks st.sh vs
    if rs.all bQ=true then some ((cL st.aa rs sh').1,(cL st.aa rs sh').2.1,(cL st.aa rs sh').2.2.2)else none
   |none=>none
  else none
 |none=>none
def gi:List AV->Option (List PV)
 |[]=>some []
 | .pv p::r=>(gi r).map (p::·)
 |_=>none
def run(AP:Nat->Option aw)(k:Nat):Nat->fQ
 |0=>{p:=fun _ _=>none,i:=fun _ _ _ _=>none}
 |n+1=>
  { p:=fun g eE=>match AP g with
   |some af=>match af.rX with
    |some f=>f.f (run AP k n).p eE
    |none=>if eE.length=af.nparams/\eE.length<=af.ntmps then
     match cE (run AP k n) k false af (eE.map .pv) [] []with
     |some (rs,_)=>gi rs
     |none=>none
      else none
   |none=>none,
    i:=fun g args sh ts=>match AP g with
     |some af=>if args.length<=af.ntmps then cE (run AP k n) k true af args sh ts else none
     |none=>none}
def Sz{q b c:Prop}(h:q\/b)(f:b->c):q\/c:=h.elim .inl fun x=>.inr (f x)
abbrev bA:=Nat->Nat->Option Value
def At(K:bA)(b o:Nat)(vs:List Value):Prop:=∀j v,vs[j]?=some v->K b (o+j)=some v
mutual
def R(K:bA)(top:Bool):PV->List Value->Prop
 | .bool b,vs=>vs=[.bool b]
 | .int k n,vs=>vs=[.int k n]
 | .str s,vs=>vs=[.string ⟨s.toArray⟩]
 | .agg cs,vs=>top=true/\d9 K cs vs
 | .ae els,vs=>∃base len cap,vs=[.slice base len cap]/\len<=cap/\els.length=len/\(els=[]\/∃b o sz,base=some ⟨b,o,none⟩/\Row K b o sz els)
def d9(K:bA):List PV->List Value->Prop
 |[],vs=>vs=[]
 |c::cs,vs=>∃v r,vs=v::r/\R K false c [v]/\d9 K cs r
def Row(K:bA)(b o sz:Nat):List PV->Prop
 |[]=>True
 |el::r=>(∃vs,vs.length=sz/\At K b o vs/\R K true el vs)/\Row K b (o+sz) sz r
end
def Rel(K:bA):PV->Value->Prop
 | .agg cs,v=>∃vs:List Value,v=.agg vs.toArray/\d9 K cs vs
 |p,v=>R K false p [v]
def mL(K:bA):List PV->List Value->Prop
 |[],vs=>vs=[]
 |c::cs,vs=>∃v r,vs=v::r/\Rel K c v/\mL K cs r
def bA.le(K K':bA):Prop:=∀b o v,K b o=some v->K' b o=some v
def bA.le_refl(K:bA):K.le K:=fun _ _ _ h=>h
def bA.le_trans{a b c:bA}(h:a.le b)(k:b.le c):a.le c:=fun x y z w=>k x y z (h x y z w)
variable{K K':bA}
def At.mono(h:K.le K'){b o:Nat}(a:At K b o vs):At K' b o vs:=fun j v hj=>h _ _ _ (a j v hj)
mutual
theorem R.mono{K K':bA}(h:K.le K'):∀(p:PV)(top:Bool)(vs:List Value),R K top p vs->R K' top p vs
 | .bool _,_,_,hr=>by simpa only[R]using hr
 | .int _ _,_,_,hr=>by simpa only[R]using hr
 | .str _,_,_,hr=>by simpa only[R]using hr
 | .agg cs,_,vs,hr=>by
  simp only[R]at hr⊢;exact⟨hr.1,d9.mono h cs vs hr.2⟩
 | .ae els,_,vs,hr=>by
  simp only[R]at hr⊢;obtain⟨base,len,cap,e1,e0,e2,e3⟩:=hr;refine⟨base,len,cap,e1,e0,e2,Sz e3 ?_⟩
  rintro⟨b,o,sz,e4,e5⟩
  exact⟨b,o,sz,e4,Row.mono h els b o sz e5⟩
theorem d9.mono{K K':bA}(h:K.le K'):∀(cs:List PV)(vs:List Value),d9 K cs vs->d9 K' cs vs
 |[],_,hr=>by simpa only[d9]using hr
 |c::cs,vs,hr=>by
  simp only[d9]at hr⊢;obtain⟨v,r,e1,e2,e3⟩:=hr;exact⟨v,r,e1,R.mono h c false [v] e2,d9.mono h cs r e3⟩
theorem Row.mono{K K':bA}(h:K.le K'):∀(els:List PV)(b o sz:Nat),Row K b o sz els->Row K' b o sz els
 |[],_,_,_,_=>by simp only[Row]
 |el::r,b,o,sz,hr=>by
  simp only[Row]at hr⊢;obtain⟨⟨vs,e1,e2,e3⟩,e4⟩:=hr;exact⟨⟨vs,e1,e2.mono h,R.mono h el true vs e3⟩,Row.mono h r b (o+sz) sz e4⟩
end
def Rel.mono(h:K.le K')(hr:Rel K p v):Rel K' p v:=by
 cases p with
 |agg cs=>obtain⟨vs,e1,e2⟩:=hr;exact⟨vs,e1,d9.mono h _ _ e2⟩
 |_=>exact R.mono h _ _ _ hr
def mL.mono(h:K.le K'):∀{cs:List PV}{vs:List Value},mL K cs vs->mL K' cs vs
 |[],_,hr=>hr
 |_::_,_,⟨v,r,e1,e2,e3⟩=>⟨v,r,e1,e2.mono h,mL.mono h e3⟩
def d9.length:∀{cs:List PV}{vs:List Value},d9 K cs vs->vs.length=cs.length
 |[],_,hr=>by simp only[d9]at hr;simp[hr]
 |_::cs,_,hr=>by
  simp only[d9]at hr;obtain⟨v,r,rfl,_,e3⟩:=hr;simp[d9.length e3]
def mL.length:∀{cs:List PV}{vs:List Value},mL K cs vs->vs.length=cs.length
 |[],_,hr=>by cases hr;rfl
 |_::_,_,⟨v,r,rfl,_,e3⟩=>by simp[mL.length e3]
def R.length(h:R K true p vs):vs.length=(bp p).length:=by
 cases p with
 |agg cs=>simp only[R]at h;simp[bp,h.2.length]
 |ae els=>simp only[R]at h;obtain⟨b,l,c,rfl,_⟩:=h;rfl
 |_=>simp only[R]at h;subst h;rfl
def R.cells(h:R K true p vs):d9 K (bp p) vs:=by
 cases p with
 |agg cs=>simp only[R]at h;exact h.2
 |ae els=>
  have h':=h;simp only[R]at h;obtain⟨b,l,c,rfl,e⟩:=h;simp only[bp,d9];exact⟨_,[],rfl,by simp only[R];exact⟨b,l,c,rfl,e⟩,rfl⟩
 |_=>simp only[R]at h;subst h;simp[bp,d9,R]
def R.top(h:R K false p vs):R K true p vs:=by
 cases p with
 |agg cs=>simp[R]at h
 |_=>simp only[R]at h⊢;exact h
def d9.get:∀{cs:List PV}{vs:List Value},d9 K cs vs->∀{j:Nat}{c:PV},cs[j]?=some c->∃v,vs[j]?=some v/\R K false c [v]
 |[],_,_,j,c,a=>by simp at a
 |c0::cs,vs,h,j,c,a=>by
  simp only[d9]at h;obtain⟨v,r,rfl,e2,e3⟩:=h;cases j with
  |zero=>simp at a;subst a;exact⟨v,by simp,e2⟩
  |succ j=>simpa using d9.get e3 (by simpa using a)
def d9.drop:∀(n:Nat){cs:List PV}{vs:List Value},d9 K cs vs->d9 K (cs.drop n) (vs.drop n)
 |0,_,_,h=>by simpa using h
 |n+1,[],_,h=>by simp only[d9]at h;subst h;simp[d9]
 |n+1,_::cs,_,h=>by
  simp only[d9]at h;obtain⟨v,r,rfl,_,e3⟩:=h;simpa using d9.drop n e3
def d9.take:∀(n:Nat){cs:List PV}{vs:List Value},d9 K cs vs->d9 K (cs.take n) (vs.take n)
 |0,_,_,_=>by simp[d9]
 |n+1,[],_,h=>by simp only[d9]at h;subst h;simp[d9]
 |n+1,_::cs,_,h=>by
  simp only[d9]at h;obtain⟨v,r,rfl,e2,e3⟩:=h;simp only[zb6,d9];exact⟨v,_,rfl,e2,d9.take n e3⟩
def d9.append:∀{cs:List PV}{vs:List Value}{ds:List PV}{us:List Value},d9 K cs vs->d9 K ds us->d9 K (cs++ds) (vs++us)
 |[],_,_,_,h,k=>by simp only[d9]at h;subst h;simpa using k
 |_::cs,_,_,_,h,k=>by
  simp only[d9]at h;obtain⟨v,r,rfl,e2,e3⟩:=h;simp only[za2,d9];exact⟨v,_,rfl,e2,d9.append e3 k⟩
def Row.get:∀{els:List PV}{b o sz:Nat},Row K b o sz els->∀{i:Nat}{el:PV},els[i]?=some el->
   ∃vs,vs.length=sz/\At K b (o+i*sz) vs/\R K true el vs
 |[],_,_,_,_,i,el,h=>by simp at h
 |e0::r,b,o,sz,hr,i,el,h=>by
  simp only[Row]at hr;obtain⟨e1,e2⟩:=hr;cases i with
  |zero=>simp at h;subst h;simpa using e1
  |succ i=>
   obtain⟨vs,h1,h2,h3⟩:=Row.get e2 (i:=i) (by simpa using h);exact⟨vs,h1,by rw[show o+(i+1)*sz=o+sz+i*sz from by rw[zaG];omega];exact h2,h3⟩
def d9.one:∀{cs:List PV}{vs:List Value},d9 K cs vs->∀u∈vs,u.oneCell'=true
 |[],_,h,u,hu=>by simp only[d9]at h;subst h;simp at hu
 |c::cs,_,h,u,hu=>by
  simp only[d9]at h;obtain⟨v,r,rfl,e2,e3⟩:=h;simp only[zah]at hu;rcases hu with rfl|hu
  .cases c with
   |agg _=>simp[R]at e2
   |ae _=>simp only[R]at e2;obtain⟨b,l,c,e,_⟩:=e2;simp at e;subst e;rfl
   |_=>simp[R]at e2;subst e2;rfl
  .exact d9.one e3 u hu
def Row.flat:∀{els:List PV}{b o sz:Nat},Row K b o sz els->
   ∃a:List Value,a.length=els.length*sz/\At K b o a/\(∀(K':bA)(d o':Nat),K.le K'->At K' d o' a->Row K' d o' sz els)/\∀u∈a,u.oneCell'=true
 |[],b,o,sz,_=>⟨[],by simp,by intro j v h;simp at h,by intros;simp only[Row],by simp⟩
 |el::r,b,o,sz,hr=>by
  simp only[Row]at hr;obtain⟨⟨vs,h1,h2,h3⟩,h4⟩:=hr;obtain⟨a,g1,g2,f,g4⟩:=Row.flat h4;refine⟨vs++a,by simp[h1,g1,zaG];omega,?_,?_,?_⟩
  .intro j v hj;rw[zbv]at hj;split at hj
   .exact h2 j v hj
   .have:=g2 _ v hj;rw[h1]at this
    rwa [show o+sz+(j-sz)=o+j from by omega]at this
  .intro K' d o' c e;simp only[Row];refine⟨⟨vs,h1,?_,R.mono c _ _ _ h3⟩,?_⟩
   .intro j v hj;exact e j v (by rw[zao];exact hj;exact(zaa.1 hj).1)
   .refine f K' d (o'+sz) c ?_;intro j v hj;have:=e (sz+j) v (by rw[zaN (by omega),h1];simpa using hj)
    rwa [show o'+sz+j=o'+(sz+j) from by omega]
  .intro u hu;simp only[zae]at hu;rcases hu with hu|hu
   .exact d9.one h3.cells u hu
   .exact g4 u hu
def Row.append:∀{els:List PV}{b o sz:Nat}{a:List PV},Row K b o sz els->Row K b (o+els.length*sz) sz a->Row K b o sz (els++a)
 |[],_,_,_,_,_,k=>by simpa using k
 |el::r,b,o,sz,a,h,k=>by
  simp only[Row,za2]at h⊢;refine⟨h.1,Row.append h.2 ?_⟩;rw[show o+sz+r.length*sz=o+(el::r).length*sz from by simp[zaG];omega];exact k
def Row.drop:∀(n:Nat){els:List PV}{b o sz:Nat},Row K b o sz els->Row K b (o+n*sz) sz (els.drop n)
 |0,_,_,_,_,h=>by simpa using h
 |n+1,[],_,_,_,_=>by simp only[List.drop_nil,Row]
 |n+1,el::r,b,o,sz,h=>by
  simp only[Row]at h;simp only[zcU];rw[show o+(n+1)*sz=o+sz+n*sz from by rw[zaG];omega];exact Row.drop n h.2
def Row.take:∀(n:Nat){els:List PV}{b o sz:Nat},Row K b o sz els->Row K b o sz (els.take n)
 |0,_,_,_,_,_=>by simp only[zcQ,Row]
 |n+1,[],_,_,_,_=>by simp only[List.take_nil,Row]
 |n+1,el::r,b,o,sz,h=>by
  simp only[Row]at h;simp only[zb6,Row];exact⟨h.1,Row.take n h.2⟩
def Row.sz{b o t s:Nat}(h:Row K b o t els)(hs:bj s els=true)(a:els≠[]):s=t:=by
 cases els with
 |nil=>exact absurd rfl a
 |cons el r=>
  simp only[Row]at h;obtain⟨⟨vs,h1,_,h3⟩,_⟩:=h;have:=h3.length;simp[bj]at hs;omega
def VM(K:bA)(els:List PV)(base:Option Addr)(len:Nat):Prop:=
 els.length=len/\(els=[]\/∃b o sz,base=some ⟨b,o,none⟩/\Row K b o sz els)
def VM.mono(h:K.le K'){base:Option Addr}{len:Nat}(hr:VM K els base len):VM K' els base len:=
 ⟨hr.1,Sz hr.2 fun⟨b,o,sz,e,r⟩=>⟨b,o,sz,e,Row.mono h _ _ _ _ r⟩⟩
def cJ:Rel K (.ae els) v<->∃base len cap,v=.slice base len cap/\len<=cap/\VM K els base len:=by
 simp only[Rel,R,VM];constructor
 .rintro⟨b,l,c,e,h⟩;exact⟨b,l,c,by simpa using e,h⟩
 .rintro⟨b,l,c,e,h⟩;exact⟨b,l,c,by simpa using e,h⟩
def NJ(h:jI p=true):Rel K p v<->R K false p [v]:=by
 cases p with
 |agg cs=>simp[jI]at h
 |_=>exact Iff.rfl
def Rel.ZC(h:R K false p [v]):Rel K p v:=by
 cases p with
 |agg cs=>simp[R]at h
 |_=>exact h
structure nA where
 nO:List (Nat×Nat×Nat)
 VN:List Nat
 ps:List Nat
 live:List (Nat×List Nat)
 loops:List (Nat×List Nat)
 site:List Nat
 own:List (Nat×List Nat)
 IK:List (Nat×Nat):=[]
 ks:Bool:=false
 q:List Nat:=[]
 hot:List Nat:=[]
 fz:List (Nat×List Nat):=[]
 dup:List (Nat×Nat):=[]
 ro:List Nat:=[]
 far:List (Nat×List (Nat×Nat)):=[]
 NG:List (Nat×List (Nat×Nat×Bool)):=[]
 pr:List (Nat×List (Nat×Nat×Nat)):=[]
 cut:List (Nat×Nat×List Nat×List Nat):=[]
 fs:List (Nat×List Nat):=[]
 kp:List Nat:=[]
 zap:List Nat:=[]
def nA.at(A:nA)(id:Nat):nA:=match look A.pr id with
 |some l=>{A with nO:=l++A.nO}
 |none=>A
structure Names where
 g:List (Nat×Nat)
 shf:List Nat
 bk:List (Nat×Nat×Bool):=[]
 cl:List (Nat×Nat×Nat):=[]
 py:Nat->Option (Array Value):=fun _=>none
def Names.of(ρ:Names)(f:Nat):Option Nat:=look ρ.g f
def dM(P:Program)(t:TypeId):Option Nat:=(P.info? t).map (·.size)
def iB(P:Program)(t:TypeId):Option Nat:=(P.info? t).map (·.bytes)
def kb(P:Program)(t:TypeId):Option Bool:=(P.underlying t).map fun| .struct _| .array ..=>true|_=>false
def dI:Value->Option PV
 | .bool b=>some (.bool b)
 | .int k n=>some (.int k n)
 | .string s=>some (.str s.data.toList)
 | .slice none 0 0=>some (.ae [])
 |_=>none
def dN{X:Type}(f:α->Option X):List α->Option (List X)
 |[]=>some []
 |x::r=>match f x,dN f r with
  |some y,some b=>some (y::b)
  |_,_=>none
def EX(v:Value):Option AV:=
 match v with
 | .slice none 0 0=>some (.dm [])
 | .pointer none=>some .iN
 | .nilFunc=>some .iN
 | .agg cs=>(dN dI cs.toList).map fun l=>.pv (.agg l)
 |v=>(dI v).map .pv
def dp(P:Program)(t:TypeId):Option (List PV):=
 match (P.info? t).bind (·.zero)with
 |some z=>dN dI z.cells.toList
 |none=>none
def kh(ρ:Names):Operand->Option fp
 | .tmp t=>some (.t t)
 | .const v=>(EX v).map .c
 | .func f=>(ρ.of f).map fun g=>.c (.fn g [])
 | .global _=>none
def gr(P:Program)(t:TypeId):Option TypeId:=match P.underlying t with|some (.slice e)=>some e|_=>none
def kJ(P:Program)(t:TypeId)(f:Nat):Option Field:=match P.underlying t with|some (.struct fs)=>fs[f]?|_=>none
def EY(P:Program)(t:TypeId):Option CK:=if dM P t=some 1 then match P.underlying t with
 |some (.int _)=>some .int
 |some .string=>some .str
 |some .bool=>some .bool
 |_=>none
 else none
def EZ(P:Program):Nat->List Field->Option (List CK)
 |_,[]=>some []
 | i,f::r=>if f.name ≠ "_"∧f.offset=i then match EY P f.type,EZ P (i+1) r with
  |some c,some cs=>some (c::cs)
  |_,_=>none
  else none
def zeroOf(P:Program)(t:TypeId):Option PV:=match(P.info? t).bind (·.zero)with
 |some (.agg cs)=>(dN dI cs.toList).map .agg
 |some v=>dI v
 |none=>none
def IL(P:Program)(op:BinOp)(t:TypeId):Option Sv:=
 match P.underlying t with
 |some (.int _)|some .string=>some (.bin op)
 |some .bool=>if op=.eql then some (.beq false)else if op=.neq then some (.beq true)else none
 |_=>none
def fieldsOf(P:Program)(t:TypeId):Option (List (Nat×Nat)):=
 match P.underlying t with
 |some (.struct fs)=>dN (fun f=>(dM P f.type).map fun s=>(f.offset,s)) fs.toList
 |_=>none
def placesOf(P:Program)(t:TypeId)(is:List Nat):Option (List (Nat×Nat)):=
 match fieldsOf P t with
 |some all=>dN (fun i=>all[i]?) is
 |none=>none
def uF:Nat->List (Nat×Operand)->Bool
 |_,[]=>true
 |i,(j,_)::r=>i == j && uF (i+1) r
def cp(P:Program)(ρ:Names)(A:nA)(dst:Option Nat):Op->Option (AK×List Operand)
 | .move x| .assign x=>some (.v .mv,[x])
 | .pick c a b=>some (.v .pick,[c,a,b])
 | .binOp op t x y _=>(IL P op t).map fun o=>(.v o,[x,y])
 | .unOp op _ x=>some (.v (.un op),[x])
 | .convert s d x=>match P.underlying s,P.underlying d with
  |some (.int _),some (.int k)=>some (.v (.conv k),[x])
  |some (.slice e),some .string=>match P.underlying e with
   |some (.int .u8)=>some (.v .b2s,[x])
   |_=>none
  |_,_=>none
 | .extract x i=>some (.v (.ext i),[x])
 | .field t x f=>match kJ P t f with
  |some j=>match dM P j.type,kb P j.type with
   |some sz,some ag=>some (.v (.field j.offset sz ag),[x])
   |_,_=>none
  |none=>none
 | .fieldAddr t x f=>match kJ P t f with
  |some j=>match dM P j.type with
   |some s=>if s=0 then none else some (.v (.jh j.offset),[x])
   |none=>none
  |none=>none
 | .indexAddr t x i=>match gr P t with
  |some e=>(dM P e).map fun sz=>(.v (.fK sz),[x,i])
  |none=>none
 | .index t x i=>match P.underlying t with
  |some .string=>some (.v .index,[x,i])
  |_=>none
 | .build t ps=>match P.underlying t with
  |some (.struct _)=>match dp P t,placesOf P t (ps.toList.map (·.1))with
   |some z,some pl=>some (.v (.build z pl),ps.toList.map (·.2))
   |_,_=>none
  |_=>none
 | .buildSlice t n ps=>match gr P t with
  |some e=>match dM P e,dp P e with
   |some sz,some _=>if ps.size=n/\uF 0 ps.toList=true/\0<sz/\n*sz<=16777216 then some (.v (.eA sz),ps.toList.map (·.2))else none
   |_,_=>none
  |none=>none
 | .load t x=>match dM P t,kb P t with
  |some sz,some ag=>match x with
   | .tmp tx=>match look A.nO tx with
    |some (k,o)=>some (.cD k o sz ag,[x])
    |none=>if A.VN.contains tx then some (.ej sz ag,[x])else some (.v (.g_ sz ag),[x])
   |_=>none
  |_,_=>none
 | .store t x v=>match dM P t,x with
  |some sz,.tmp tx=>match look A.nO tx with
   |some (k,o)=>some (.bN k o sz,[x,v])
   |none=>if A.kp.contains tx=true then some (.ND sz,[x,v])else some (.eX sz,[x,v])
  |_,_=>none
 | .alloc t=>match dp P t,dst with
  |some z,some d=>match look A.nO d with
   |some (k,0)=>if k=d then some (.alloc d z,[])else none
   |some _=>none
   |none=>some (.gD z,[])
  |_,_=>none
 | .box t x=>match dM P t,dst with
  |some sz,some d=>match look A.nO d with
   |some (k,0)=>if k=d then some (.box d sz,[x])else none
   |some _=>none
   |none=>if A.kp.contains d=true then some (.vw sz,[x])else some (.rV sz,[x])
  |_,_=>none
 | .makeMap _ r=>if r.isNone=true then some (.VJ,[])else none
 | .lookup t x i ok=>match P.underlying t with
  |some (.map k e)=>match EY P k,zeroOf P e with
   |some c,some z=>some (.BU c ok z,[x,i])
   |_,_=>none
  |_=>none
 | .mapUpdate t m i x| .insert t m i x=>match P.underlying t with
  |some (.map k _)=>(EY P k).map fun c=>(.Z4 c,[m,i,x])
  |_=>none
 | .nilCheck x=>some (.v .rU,[x])
 | .makeFunc fn first cap=>match fn with
  | .func f=>if first.size=0 then(ρ.of f).map fun g=>(.v (.uh g),cap.toList)else none
  |_=>none
 | .makeSlice t l c=>match gr P t with
  |some e=>match dM P e,iB P e,kb P e,dp P e with
   |some sz,some h,some ag,some z=>if z.length=sz/\0<sz then match dst.bind (look A.nO),dst with
    |some (k,0),some d=>if k=d then some (.s6 d sz h z,[l,c])else none
    |some _,_=>none
    |none,_=>some (.mc sz h ag z,[l,c])
     else none
   |_,_,_,_=>none
  |none=>none
 | .slice t x lo hi mx=>match P.underlying t with
  |some (.slice e)=>if mx.isSome=false/\(dst.map (A.hot.contains ·)).getD false=true then(dM P e).map fun sz=>(.v (.vu sz lo.isSome hi.isSome),x::(lo.toList++hi.toList++mx.toList))
    else (dM P e).map fun sz=>(.v (.slice false sz lo.isSome hi.isSome mx.isSome),x::(lo.toList++hi.toList++mx.toList))
  |some .string=>if mx.isSome then none else some (.v (.slice true 0 lo.isSome hi.isSome false),x::(lo.toList++hi.toList++mx.toList))
  |_=>none
 | .call c=>match c.callee with
  | .builtin .len=>match c.args.toList,(c.argTypes[0]?).bind P.underlying with
   |[x],some (.slice _)=>some (.v .len,[x])
   |[x],some .string=>some (.v .EV,[x])
   |_,_=>none
  | .builtin .min=>match c.args.toList with
   |[x,y]=>some (.v .mn,[x,y])
   |_=>none
  | .builtin .max=>match c.args.toList with
   |[x,y]=>some (.v .mx,[x,y])
   |_=>none
  | .builtin .append=>match c.args.toList,(c.argTypes[0]?).bind (gr P),(c.argTypes[1]?).bind (gr P)with
   |[x,y],some e,some _=>match dM P e,iB P e,dp P e with
    |some sz,some h,some z=>if z.length=sz/\0<sz/\0<h then
     if (dst.map (A.hot.contains ·)).getD false then(kb P e).map fun ag=>(.ei sz h ag,[x,y])else match dst.bind (look A.dup)with
      |some u=>some (.zG sz h,[x,y,.tmp u])
      |none=>some (.append sz h,[x,y])
      else none
    |_,_,_=>none
   |_,_,_=>none
  | .builtin .clear=>match c.args.toList,(c.argTypes[0]?).bind (gr P)with
   |[x],some e=>match dM P e,dp P e with
    |some sz,some z=>if z.length=sz/\0<sz then some (.iW sz z,[x])else none
    |_,_=>none
   |_,_=>none
  | .builtin .copy=>match c.args.toList,(c.argTypes[0]?).bind (gr P),(c.argTypes[1]?).bind (gr P)with
   |[x,y],some e,some _=>match dM P e with
    |some sz=>some (.NF sz,[x,y])
    |none=>none
   |_,_,_=>none
  | .value (.func f)=>match ρ.of f with
   |some g=>match look ρ.cl g with
    |some (sz,h)=>if c.args.size=1 then
     (if(dst.map (A.hot.contains ·)).getD false=true then match(c.argTypes[0]?).bind (gr P)with
      |some e=>(kb P e).map fun ag=>(.kI sz h ag,c.args.toList)
      |none=>none
     else some (.clone sz h,c.args.toList))else none
    |none=>if(dst.map (A.q.contains ·)).getD false then some (.vz g,c.args.toList)
    else if ρ.shf.contains g || (dst.map (A.site.contains ·)).getD false then some (.bg g ((dst.bind (look A.own)).getD []),c.args.toList)
    else if(dst.map (A.ps.contains ·)).getD false then some (.dt g,c.args.toList)else some (.aJ g,c.args.toList)
   |none=>none
  | .value (.tmp t)=>if(dst.map (A.ro.contains ·)).getD false=true then some (.gE,.tmp t::c.args.toList)else some (.h_,.tmp t::c.args.toList)
  |_=>none
 |_=>none
def im(P:Program)(ρ:Names)(A:nA)(N:Nat)(ops:Array Oper)(o:Oper):Option d8:=
 match cp P ρ A o.dst o.op with
 |some (k,args)=>match dN (kh ρ) args with
  |some as=>
   if (o.dst.map (fun d=>decide (d<N))).getD true=true then
    match o.guard with
    |none=>some {dst:=o.dst,guard:=none,args:=as,op:=k}
    |some (j,b)=>match(ops[j]?).bind (·.dst)with
     |some t=>some {dst:=o.dst,guard:=some (t,b),args:=as,op:=k}
     |none=>none
   else none
  |none=>none
 |none=>none
def d8.looks(o:d8):List Nat:=
 (o.args.filterMap fun| .t n=>some n|_=>none)++(match o.guard with|some (t,_)=>[t]|none=>[])
def AK.jY:AK->Bool
 | .ej ..| .eX _| .ND _| .rV _| .vw _| .gD _| .mc ..| .dt _| .bg ..| .h_| .gE| .VJ| .BU ..| .Z4 _| .ei ..| .kI ..| .iW ..| .NF _=>true
 |_=>false
def AK.yt:AK->Bool
 | .ej ..| .BU ..| .gE=>true
 |_=>false
def AK.ir:AK->Bool
 | .append ..| .ei ..| .zG ..| .clone ..| .bg ..| .vz _| .h_| .gE=>true
 |_=>false
def AK.jw:AK->Bool
 | .bN ..| .alloc ..| .box ..| .s6 ..=>true
 |_=>false
def indep(x y:d8):Bool:=
 (match x.dst with|some d=>!(y.looks).contains d && y.dst != some d|none=>true) &&
 (match y.dst with|some d=>!(x.looks).contains d|none=>true) &&
 (!(x.op.jY && y.op.jY)|| (x.op.yt && y.op.yt)) && !(x.op.ir && y.op.ir) &&
 (match x.op.key,y.op.key with
  |some a,some b=>a != b || !(x.op.jw || y.op.jw)
  |_,_=>true)
def d8.addr(o:d8):Option Nat:=match o.op,o.args with
 | .ej ..,.t a::_| .eX _,.t a::_=>some a
 |_,_=>none
def BW(ds:List (Nat×Nat))(x y:d8):Bool:=
 (match x.dst with|some d=>!(y.looks).contains d && y.dst != some d|none=>true) &&
 (match y.dst with|some d=>!(x.looks).contains d|none=>true) &&
 (match x.addr,y.addr with
  |some a,some b=>ds.contains (a,b)
  |_,_=>false)
def zJ:List d8->Bool
 |[]=>true
 |x::r=>(match x.addr with|some a=>(x::r).all (fun o=>o.dst != some a)|none=>true) && zJ r
def nP:List Oper->List Nat->List Nat
 |[],acc=>acc
 |o::r,acc=>nP r (acc++[o.after.toList.foldl (fun s e=>if Region.binds .any e then s ||| 2 ^ e.on ||| acc.getD e.on 0 else s) 0])
def uG(ds:List (Nat×Nat))(a:List Nat)(i:Nat)(x:d8):Nat->List d8->Bool
 |_,[]=>true
 |j,y::r=>((a.getD j 0).testBit i || indep x y || BW ds x y) && uG ds a i x (j+1) r
def nQ(ds:List (Nat×Nat))(a:List Nat):Nat->List d8->Bool
 |_,[]=>true
 |i,x::r=>uG ds a i x (i+1) r && nQ ds a (i+1) r
def jl:Nat->List Oper->Bool
 |_,[]=>true
 |i,o::r=>o.after.toList.all (fun e=>!Region.binds .any e || decide (e.on<i)) && jl (i+1) r
def zL(ds:List (Nat×Nat))(ops:List Oper)(as:List d8):Bool:=jl 0 ops && (nQ ds (nP ops []) 0 as && zJ as)
def kK:Code->Option Nat
 | .region id _ _=>some id
 | .seq a b| .cond _ a b=>match kK a with|some i=>some i|none=>kK b
 | .block _ c| .loop c| .scope c=>kK c
 |_=>none
def ah.fw:ah->Bool
 | .seq a b| .cond _ a b=>a.fw && b.fw
 | .block _ b| .loop _ b=>b.fw
 | .back ..=>false
 |_=>true
def mM(o:Option (List Nat))(c:ah):ah:=match o with
 |some ts=>.seq (.eQ ts) c
 |none=>c
def zM(o:Option (List Nat))(c:ah):ah:=match o with
 |some ts=>.seq (.Xt ts) c
 |none=>c
def behind(ds:Option (List (Nat×Nat)))(ps:Option (List (Nat×Nat×Bool)))(c:ah):ah:=
 let c1:=match ds with
  |some ds=>.seq c (.VK ds)
  |none=>c
 match ps with
 |some ps=>.seq c1 (.NG ps)
 |none=>c1
def acO(o:d8):Option (Nat×Nat×Nat×Bool):=match o.op,o.dst,o.guard,o.args with
 | .ej sz ag,some d,none,[.t a]=>some (d,a,sz,ag)
 |_,_,_,_=>none
def acT(o:d8):Option (Nat×Nat):=match o.op,o.dst,o.guard,o.args with
 | .v .len,some d,none,[.t a]=>some (d,a)
 |_,_,_,_=>none
def pBs(o:d8):Option (Nat×List PV×Nat):=match o.op,o.dst,o.guard,o.args with
 | .v (.eA sz),some d,none,[.c (.pv (.agg a))]=>some (d,a,sz)
 |_,_,_,_=>none
def acU(o:d8):Option (Nat×Nat×Nat×Nat×Nat):=match o.op,o.dst,o.guard,o.args with
 | .append sz a,some d,none,[.t s,.t z]=>some (d,s,z,sz,a)
 |_,_,_,_=>none
def pSt(o:d8):Option (Nat×Nat×Nat):=match o.op,o.dst,o.guard,o.args with
 | .eX sz,none,none,[.t c,.t v]=>some (c,v,sz)
 |_,_,_,_=>none
def acV(o:Oper):Option (Nat×Nat×Nat×Nat):=match o.op,o.dst,o.guard with
 | .indexAddr t (.tmp v) (.tmp l),some p,none=>some (p,t,v,l)
 |_,_,_=>none
def acW(o:Oper):Option (Nat×Nat×Nat):=match o.op,o.dst,o.guard with
 | .store a (.tmp p) (.tmp x),none,none=>some (a,p,x)
 |_,_,_=>none
def Xv:List Nat->Bool
 |[]=>true
 |x::r=>!r.contains x && Xv r
def gv(P:Program)(ρ:Names)(A:nA)(N:Nat):Code->Option ah
 | .skip=>some .skip
 | .region id ops d=>match dN (im P ρ (A.at id) N ops) ops.toList with
  |some as=>if d then(if zL ((look A.far id).getD []) ops.toList as then some (mM (look A.fz id) (behind (look A.far id) (look A.NG id) (.ka as ((look A.live id).getD []))))else none)
    else match look A.cut id with
     |some _=>none
     |none=>some (zM (look A.fs id) (mM (look A.fz id) (behind (look A.far id) (look A.NG id) (.ka as ((look A.live id).getD [])))))
  |none=>none
 | .seq a b=>match gv P ρ A N a,gv P ρ A N b with
  |some x,some y=>some (.seq x y)
  |_,_=>none
 | .cond c a b=>match kh ρ c,gv P ρ A N a,gv P ρ A N b with
  |some c,some x,some y=>some (.cond c x y)
  |_,_,_=>none
 | .block id b=>(gv P ρ A N b).map (.block id)
 | .loop b=>(gv P ρ A N b).map (.loop (((kK b).bind (look A.loops)).getD []))
 | .exit id=>some (.exit id)
 | .ret=>some .ret
 | .rangeFunc (.tmp t) ps a b=>match ps.toList,look A.IK t with
  |[pi,px],some gb=>match look ρ.bk gb,gv P ρ A N a,gv P ρ A N b with
   |some (sz,ag),some x,some y=>if x.fw=true/\y.fw=true/\pi<N/\px<N then some (.back (.t t) gb pi px sz ag (((kK a).bind (look A.loops)).getD []) x y)else none
   |_,_,_=>none
  |_,_=>none
 |_=>none
def IM(P:Program):ResultVar->Option rW
 | .tmp t=>some (.t t)
 | .cell a t=>match dM P t,kb P t with
  |some sz,some ag=>some (.c a sz ag)
  |_,_=>none
def s8(P:Program)(ρ:Names)(A:nA)(fn:Func):Option aw:=
 match fn.body,dN (IM P) fn.results.toList with
 | some b,some rs=>if fn.params.size+fn.nfree≤fn.ntmps∧fn.name != "runtime.NumGoroutine" then
  (gv P ρ A fn.ntmps b).map fun c=>{nparams:=fn.params.size,ntmps:=fn.ntmps,results:=rs,body:=c,ks:=A.ks}else none
 |_,_=>none
inductive pR where
 |eM|nO (d:Nat)|shr (b:Nat)|tok (τ:Nat)
 deriving DecidableEq
structure Tk where
 base:Option Addr
 len:Nat
 cap:Nat
 sz:Nat
 own:Bool:=false
def Tk.val(t:Tk):Value:=.slice t.base t.len t.cap
def Tk.dead(t:Tk):Prop:=t.base=none/\0<t.len
def Tk.on(t t':Tk):Prop:=(t.dead->t'.dead)/\(t'.dead\/t.cap<t'.len\/(t'.base=t.base/\t'.cap=t.cap/\(t'=t\/t'.own=true)))
def Tk.Z3(t:Tk)(v:Value):Prop:=t.dead\/∃base len cap,v=.slice base len cap/\(cap<t.len\/(base=t.base/\cap=t.cap/\(len=t.len\/t.own=true)))
def Tk.jA(t:Tk):t.on t:=⟨id,.inr (.inr ⟨rfl,rfl,.inl rfl⟩)⟩
def Tk.NK{S b c:Tk}(h:S.on b)(k:b.on c)(hl:b.len<=c.len):S.on c:=by
 refine⟨fun d=>k.1 (h.1 d),?_⟩;rcases h.2 with d|e|⟨e1,e2,e3⟩
 .exact .inl (k.1 d)
 .exact .inr (.inl (by omega))
 .rcases k.2 with d|e|⟨f1,f2,f3⟩
  .exact .inl d
  .exact .inr (.inl (by omega))
  .refine .inr (.inr ⟨f1.trans e1,f2.trans e2,?_⟩);rcases f3 with rfl|f3
   .exact e3
   .exact .inr f3
def Tk.uH(t:Tk):t.Z3 t.val:=.inr ⟨_,_,_,rfl,.inr ⟨rfl,rfl,.inl rfl⟩⟩
def Tk.Xw{S t':Tk}(h:S.Z3 v)(k:S.on t')(hl:S.len<=t'.len):t'.Z3 v:=by
 rcases h with d|⟨base,len,cap,e,h⟩
 .exact .inl (k.1 d)
 .rcases k.2 with d|a|⟨e1,e2,e3⟩
  .exact .inl d
  .refine .inr ⟨base,len,cap,e,.inl ?_⟩;rcases h with h|⟨_,h,_⟩<;>omega
  .refine .inr ⟨base,len,cap,e,?_⟩;rcases h with h|⟨h1,h2,h3⟩
   .exact .inl (by omega)
   .refine .inr ⟨h1.trans e1.symm,h2.trans e2.symm,?_⟩;rcases e3 with rfl|e3
    .exact h3
    .exact .inr e3
structure Gh where
 K:bA
 role:Nat->pR
 pm:Nat->Option Nat
 sm:Nat->Option (Nat×Nat)
 tk:Nat->Option Tk
structure bV where
 r:Nat->Nat->Prop
 py:Nat->Option (Array Value)
mutual
def aD(ρ:bV)(G:Gh):AV->Value->Prop
 | .un,v=>v=undef
 | .pv p,v=>Rel G.K p v
 | .dm els,v=>∃base len,v=.slice base len len/\VM G.K els base len
 | .own els τ,v=>∃t,G.tk τ=some t/\(els.length<=t.len/\t.Z3 v)/\Rel G.K (.ae els) v /\
     (els.length=t.len->v=t.val/\(els=[]\/∃b o,t.base=some ⟨b,o,none⟩/\Row G.K b o t.sz els))
 | .agg cs,v=>∃vs:List Value,v=.agg vs.toArray/\aA ρ G cs vs
 | .rQ cs,v=>∃vs:List Value,v=.tuple vs.toArray/\aA ρ G cs vs
 | .au d off,v=>∃b,G.pm d=some b/\v=.pointer (some ⟨b,off,none⟩)
 | .aL s off,v=>∃b,G.sm s=some b/\v=.pointer (some ⟨b.1,off,none⟩)
 | .et cs,v=>∃b o vs,v=.pointer (some ⟨b,o,none⟩)/\At G.K b o vs/\d9 G.K cs vs
 | .bl s z n _,v=>∃b cap,G.sm s=some b/\v=.slice (some ⟨b.1,0,none⟩) n (n+cap)/\(n+cap)*z<=b.2
 | .fn g cap,v=>∃f vs,ρ.r g f/\v=.func (.func f) #[] (List.toArray vs)/\aA ρ G cap vs
 | .iN,v=>v=.pointer none\/v=.nilFunc
 | .kH s,v=>∃b,G.sm s=some b/\v=.map (some b.1)
 | .gA _,_=>False
 | .ug d n,v=>∃b,G.pm d=some b/\v=.slice (some ⟨b,0,none⟩) n n
 | .rT s off n,v=>∃b base cap,G.sm s=some b/\v=.slice base n cap/\(n=0\/base=some ⟨b.1,off,none⟩)
def aA(ρ:bV)(G:Gh):List AV->List Value->Prop
 |[],vs=>vs=[]
 |c::cs,vs=>∃v r,vs=v::r/\aD ρ G c v/\aA ρ G cs r
end
structure Gh.le(G G':Gh):Prop where
 K:G.K.le G'.K
 pm:∀d b,G.pm d=some b->G'.pm d=some b
 sm:∀d b,G.sm d=some b->G'.sm d=some b
 tk:∀τ t,G.tk τ=some t->∃t',G'.tk τ=some t'/\(t.len<=t'.len/\t.on t')/\(t.len=t'.len->t'=t)
def Gh.le_refl(G:Gh):G.le G:=⟨G.K.le_refl,fun _ _ h=>h,fun _ _ h=>h,fun _ t h=>⟨t,h,⟨zal _,t.jA⟩,fun _=>rfl⟩⟩
def Gh.le_trans{a b c:Gh}(h:a.le b)(k:b.le c):a.le c:=
 ⟨bA.le_trans h.K k.K,fun x y e=>k.pm _ _ (h.pm x y e),fun x y e=>k.sm _ _ (h.sm x y e),fun τ t e=>by
  obtain⟨t',e1,e2,e3⟩:=h.tk τ t e;obtain⟨d,f1,f2,f3⟩:=k.tk τ t' e1
  exact⟨d,f1,⟨zaI e2.1 f2.1,Tk.NK e2.2 f2.2 f2.1⟩,fun hl=>by
   have h1:t.len=t'.len:=Nat.le_antisymm e2.1 (hl ▸ f2.1);have h2:t'.len=d.len:=h1 ▸ hl;rw[f3 h2,e3 h1]⟩⟩
section
variable {ρ:bV} {G G':Gh}
mutual
theorem aD.mono(h:G.le G'):∀{x:AV}{v:Value},aD ρ G x v->aD ρ G' x v
 | .un,_,hr=>by simpa only[aD]using hr
 | .pv p,_,hr=>by simp only[aD]at hr⊢;exact hr.mono h.K
 | .dm els,_,hr=>by
  simp only[aD]at hr⊢;obtain⟨b,l,e,r⟩:=hr;exact⟨b,l,e,r.mono h.K⟩
 | .own els τ,v,hr=>by
  simp only[aD]at hr⊢;obtain⟨t,e1,e2,e3,e4⟩:=hr;obtain⟨t',f1,f2,f3⟩:=h.tk τ t e1;refine⟨t',f1,⟨zaI e2.1 f2.1,Tk.Xw e2.2 f2.2 f2.1⟩,e3.mono h.K,fun hl=>?_⟩;have h1:els.length=t.len:=Nat.le_antisymm e2.1 (hl ▸ f2.1);have h2:=f3 (h1 ▸ hl);subst h2;obtain⟨g1,g2⟩:=e4 h1;exact⟨g1,Sz g2 fun⟨b,o,e,r⟩=>⟨b,o,e,Row.mono h.K _ _ _ _ r⟩⟩
 | .agg cs,_,hr=>by
  simp only[aD]at hr⊢;obtain⟨vs,e,r⟩:=hr;exact⟨vs,e,aA.mono h r⟩
 | .rQ cs,_,hr=>by
  simp only[aD]at hr⊢;obtain⟨vs,e,r⟩:=hr;exact⟨vs,e,aA.mono h r⟩
 | .au d off,_,hr=>by
  simp only[aD]at hr⊢;obtain⟨b,e,r⟩:=hr;exact⟨b,h.pm _ _ e,r⟩
 | .aL d off,_,hr=>by
  simp only[aD]at hr⊢;obtain⟨b,e,r⟩:=hr;exact⟨b,h.sm _ _ e,r⟩
 | .et cs,_,hr=>by
  simp only[aD]at hr⊢;obtain⟨b,o,vs,e,f,r⟩:=hr;exact⟨b,o,vs,e,f.mono h.K,d9.mono h.K _ _ r⟩
 | .bl s _ n _,_,hr=>by
  simp only[aD]at hr⊢;obtain⟨b,c,e,r⟩:=hr;exact⟨b,c,h.sm _ _ e,r⟩
 | .fn g cap,_,hr=>by
  simp only[aD]at hr⊢;obtain⟨f,vs,e1,e2,r⟩:=hr;exact⟨f,vs,e1,e2,aA.mono h r⟩
 | .iN,_,hr=>by simpa only[aD]using hr
 | .kH s,_,hr=>by
  simp only[aD]at hr⊢;obtain⟨b,e,r⟩:=hr;exact⟨b,h.sm _ _ e,r⟩
 | .gA _,_,hr=>by simp only[aD]at hr
 | .rT s _ _,_,hr=>by
  simp only[aD]at hr⊢;obtain⟨b,x,c,e,r⟩:=hr;exact⟨b,x,c,h.sm _ _ e,r⟩
 | .ug d _,_,hr=>by
  simp only[aD]at hr⊢;obtain⟨b,e,r⟩:=hr;exact⟨b,h.pm _ _ e,r⟩
theorem aA.mono(h:G.le G'):∀{xs:List AV}{vs:List Value},aA ρ G xs vs->aA ρ G' xs vs
 |[],_,hr=>by simpa only[aA]using hr
 |_::_,_,hr=>by
  simp only[aA]at hr⊢;obtain⟨v,r,e,e1,e2⟩:=hr;exact⟨v,r,e,aD.mono h e1,aA.mono h e2⟩
end
def aA.length:∀{xs:List AV}{vs:List Value},aA ρ G xs vs->vs.length=xs.length
 |[],_,hr=>by simp only[aA]at hr;simp[hr]
 |_::_,_,hr=>by
  simp only[aA]at hr;obtain⟨v,r,rfl,_,e2⟩:=hr;simp[aA.length e2]
def aA.get:∀{xs:List AV}{vs:List Value},aA ρ G xs vs->∀{j:Nat}{x:AV},xs[j]?=some x->∃v,vs[j]?=some v/\aD ρ G x v
 |[],_,_,j,x,a=>by simp at a
 |b::xs,_,hr,j,x,a=>by
  simp only[aA]at hr;obtain⟨v,r,rfl,e1,e2⟩:=hr;cases j with
  |zero=>simp at a;subst a;exact⟨v,by simp,e1⟩
  |succ j=>simpa using aA.get e2 (by simpa using a)
def aA.drop:∀(n:Nat){xs:List AV}{vs:List Value},aA ρ G xs vs->aA ρ G (xs.drop n) (vs.drop n)
 |0,_,_,h=>by simpa using h
 |n+1,[],_,h=>by simp only[aA]at h;subst h;simp[aA]
 |n+1,_::cs,_,h=>by
  simp only[aA]at h;obtain⟨v,r,rfl,_,e3⟩:=h;simpa using aA.drop n e3
def aA.take:∀(n:Nat){xs:List AV}{vs:List Value},aA ρ G xs vs->aA ρ G (xs.take n) (vs.take n)
 |0,_,_,_=>by simp[aA]
 |n+1,[],_,h=>by simp only[aA]at h;subst h;simp[aA]
 |n+1,_::cs,_,h=>by
  simp only[aA]at h;obtain⟨v,r,rfl,e2,e3⟩:=h;simp only[zb6,aA];exact⟨v,_,rfl,e2,aA.take n e3⟩
def aA.append:∀{xs:List AV}{vs:List Value}{a:List AV}{us:List Value},aA ρ G xs vs->aA ρ G a us->aA ρ G (xs++a) (vs++us)
 |[],_,_,_,h,k=>by simp only[aA]at h;subst h;simpa using k
 |_::cs,_,_,_,h,k=>by
  simp only[aA]at h;obtain⟨v,r,rfl,e2,e3⟩:=h;simp only[za2,aA];exact⟨v,_,rfl,e2,aA.append e3 k⟩
def mi:∀{cs:List PV}{vs:List Value},d9 G.K cs vs->aA ρ G (cs.map .pv) vs
 |[],_,h=>by simp only[d9]at h;subst h;simp[aA]
 |_::cs,_,h=>by
  simp only[d9]at h;obtain⟨v,r,rfl,e2,e3⟩:=h;simp only[zan,aA];exact⟨v,r,rfl,by simp only[aD];exact Rel.ZC e2,mi e3⟩
def jB:∀{cs:List PV}{vs:List Value},mL G.K cs vs->aA ρ G (cs.map .pv) vs
 |[],_,h=>by cases h;simp[aA]
 |_::cs,_,⟨v,r,e1,e2,e3⟩=>by
  subst e1;simp only[zan,aA];exact⟨v,r,rfl,by simp only[aD];exact e2,jB e3⟩
def aD.cells{x:AV}{v:Value}(h:aD ρ G x v)(hx:(bf x).all a9=true):aA ρ G (bf x) v.cells.toList:=by
 cases x with
 |agg cs=>simp only[aD]at h;obtain⟨vs,rfl,r⟩:=h;simpa[bf,Value.cells]using r
 |pv p=>
  cases p with
  |agg cs=>
   simp only[aD,Rel]at h;obtain⟨vs,rfl,r⟩:=h;simpa[bf,Value.cells]using mi r
  |bool b=>have h':=h;simp only[aD,Rel,R]at h;simp at h;subst h;simp only[bf,Value.cells,aA];exact⟨_,[],rfl,h',rfl⟩
  |int k n=>have h':=h;simp only[aD,Rel,R]at h;simp at h;subst h;simp only[bf,Value.cells,aA];exact⟨_,[],rfl,h',rfl⟩
  |str s=>have h':=h;simp only[aD,Rel,R]at h;simp at h;subst h;simp only[bf,Value.cells,aA];exact⟨_,[],rfl,h',rfl⟩
  |ae els=>
   have h':=h;simp only[aD]at h;obtain⟨b,l,c,rfl,_⟩:=cJ.1 h;simp only[bf,Value.cells,aA];exact⟨_,[],rfl,h',rfl⟩
 |dm els=>
  have h':=h;simp only[aD]at h;obtain⟨b,l,rfl,_⟩:=h;simp only[bf,Value.cells,aA];exact⟨_,[],rfl,h',rfl⟩
 |own els τ=>
  have h':=h;simp only[aD]at h;obtain⟨t,_,_,h3,_⟩:=h;obtain⟨b,l,c,rfl,_⟩:=cJ.1 h3;simp only[bf,Value.cells,aA];exact⟨_,[],rfl,h',rfl⟩
 |aL s o=>
  have h':=h;simp only[aD]at h;obtain⟨b,_,rfl⟩:=h;simp only[bf,Value.cells,aA];exact⟨_,[],rfl,h',rfl⟩
 |bl s z n ag=>
  have h':=h;simp only[aD]at h;obtain⟨b,c,_,rfl,_⟩:=h;simp only[bf,Value.cells,aA];exact⟨_,[],rfl,h',rfl⟩
 |fn g cap=>
  have h':=h;simp only[aD]at h;obtain⟨f,vs,_,rfl,_⟩:=h;simp only[bf,Value.cells,aA];exact⟨_,[],rfl,h',rfl⟩
 |iN=>
  have h':=h;simp only[aD]at h;rcases h with rfl|rfl
  .simp only[bf,Value.cells,aA];exact⟨_,[],rfl,h',rfl⟩
  .simp only[bf,Value.cells,aA];exact⟨_,[],rfl,h',rfl⟩
 |kH s=>
  have h':=h;simp only[aD]at h;obtain⟨b,_,rfl⟩:=h;simp only[bf,Value.cells,aA];exact⟨_,[],rfl,h',rfl⟩
 |gA kvs=>simp only[aD]at h
 |_=>simp[bf,a9]at hx
end
structure Blk(ρ:bV)(G:Gh)(w:World)(b:Nat)(r:pR)(cells:List AV):Prop where
 role:G.role b=r
 at_:∃c t,w.heap[b]?=some (.cells c t (0,0))/\aA ρ G cells c.toList
def rZ(K:bA):List (PV×PV)->List MapEntry->Prop
 |[],b=>b=[]
 |(k,p)::r,b=>∃e a,b=e::a/\Rel K k e.key/\Rel K p e.val/\rZ K r a
def rZ.mono{K K':bA}(h:K.le K'):∀{kvs:List (PV×PV)}{b:List MapEntry},rZ K kvs b->rZ K' kvs b
 |[],_,hr=>hr
 |(_,_)::_,_,⟨e,a,e1,e3,e4,e5⟩=>⟨e,a,e1,e3.mono h,e4.mono h,rZ.mono h e5⟩
def Holds(ρ:bV)(G:Gh)(o:Obj)(n:Nat)(cells:List AV):Prop:=
 (∃c t vs suf,o=.cells c t (0,0)/\c.size=n/\c.toList=vs++suf/\aA ρ G cells vs)\/∃b a kvs,o=.map b a/\cells=[.gA kvs]/\rZ G.K kvs b.toList
variable{ρ:bV}{G G':Gh}{vals:List AV}{o:Obj}{n:Nat}{w:World}{mem:List (Nat×List AV)}{sh:Sh}{aa:aH}
def Holds.full{c:Array Value}{t:TypeId}(h:aA ρ G vals c.toList):Holds ρ G (.cells c t (0,0)) c.size vals:=
 .inl ⟨c,t,c.toList,[],rfl,rfl,by simp,h⟩
structure zN(ρ:bV)(G:Gh)(w:World)(b:Nat×Nat)(r:pR)(cells:List AV):Prop where
 role:G.role b.1=r
 at_:∃o,w.heap[b.1]?=some o/\Holds ρ G o b.2 cells
def Holds.to{cells':List AV}(h:Holds ρ G o n vals)(hK:G.K.le G'.K)(hm:∀kvs,vals=[.gA kvs]->cells'=[.gA kvs])
   (a:∀vs,aA ρ G vals vs->aA ρ G' cells' vs):Holds ρ G' o n cells':=by
 rcases h with⟨c,t,vs,suf,e,e3,e4,r⟩|⟨b,cl,kvs,e,e2,r⟩
 .exact .inl ⟨c,t,vs,suf,e,e3,e4,a _ r⟩
 .exact .inr ⟨b,cl,kvs,e,hm kvs e2,r.mono hK⟩
def Holds.mono(h:G.le G')(a:Holds ρ G o n vals):Holds ρ G' o n vals:=
 a.to h.K (fun _ e=>e) (fun _ r=>r.mono h)
structure Z9(ρ:bV)(G:Gh)(w:World)(b:Nat×Nat)(r:pR)(cells:List AV):Prop where
 role:G.role b.1=r
 at_:∃c t vs suf,w.heap[b.1]?=some (.cells c t (0,0))/\c.size=b.2/\c.toList=vs++suf/\aA ρ G cells vs
def zN.cells{b:Nat×Nat}{r:pR}(h:zN ρ G w b r vals)(hm:dR vals=false):Z9 ρ G w b r vals:=by
 obtain⟨h1,o,h2,h3⟩:=h;rcases h3 with⟨c,t,vs,suf,rfl,h4,h5,h6⟩|⟨a,cl,kvs,rfl,rfl,_⟩
 .exact⟨h1,c,t,vs,suf,h2,h4,h5,h6⟩
 .simp[dR]at hm
theorem Xx{vs:List Value}(h:aA ρ G vals vs):dR vals=false:=by
 cases vals with
 |nil=>rfl
 |cons c r=>
  cases c with
  |gA kvs=>simp[aA,aD]at h
  |_=>rfl
structure Z_(G:Gh)(w:World)(τ:Nat)(t:Tk):Prop where
 cap:t.len<=t.cap
 zero:t.len=0->t.cap=0
 spare:t.len<t.cap\/t.own=true->∃b o c ty,t.base=some ⟨b,o,none⟩/\G.role b=.tok τ/\w.heap[b]?=some (.cells c ty (0,0))/\
   o+t.cap*t.sz<=c.size/\∀j v,G.K b j=some v->j<o+t.len*t.sz
structure Inv(ρ:bV)(G:Gh)(w:World)(mem:List (Nat×List AV))(sh:Sh)(aa:aH):Prop where
 known:∀b o v,G.K b o=some v->w.cell? ⟨b,o,none⟩=some v
 bn:∀b o v,G.K b o=some v->G.role b=.eM\/∃τ,G.role b=.tok τ
 fresh:∀b,w.heap.size<=b->G.role b=.eM
 dz:∀d cells,look mem d=some cells->∃b,G.pm d=some b/\Blk ρ G w b (.nO d) cells/\cells.all a9=true
 jJ:∀d b,G.pm d=some b->(look mem d).isSome=true
 eD:∀s cells,sh[s]?=some (some cells)->∃b,G.sm s=some b/\zN ρ G w b (.shr s) cells/\cells.all eo=true/\cells.all (aN (s+1))=true
 ix:∀s b,G.sm s=some b->s<sh.length
 dO:∀τ n,aa[τ]?=some n->∃t,G.tk τ=some t/\t.len=n/\Z_ G w τ t
 iE:∀τ t,G.tk τ=some t->aa[τ]?=some t.len
 py:∀b c,ρ.py b=some c->G.role b=.eM/\∃t z,w.heap[b]?=some (.cells c t z)
structure nR(ρ:bV)(G:Gh)(N:Nat)(env:List (Nat×AV))(a:Act):Prop where
 size:a.tmps.size=N
 env:∀t x,look env t=some x->∃v,a.tmps[t]?=some v/\aD ρ G x v
def Marks(n0:Nat)(G:Gh)(a:Act)(w:World):Prop:=
 n0<=w.heap.size/\∃Ds:List Nat,a.defers=Ds.map (fun D=>{target:=.collected D,args:=#[]})/\Ds.Nodup /\
   ∀D∈Ds,n0<=D/\D<w.heap.size/\G.role D=.eM/\w.heap[D]?=some (.deferred (some []))
structure iU(ρ:bV)(n0 N:Nat)(G:Gh)(st:St)(a:Act)(w:World):Prop where
 env:nR ρ G N st.env a
 inv:Inv ρ G w st.mem st.sh st.aa
 marks:Marks n0 G a w
structure bZ(G:Gh)(w:World)(G':Gh)(w':World):Prop where
 size:w.heap.size<=w'.heap.size
 os:w'.os=w.os
 tape:w'.tape=w.tape
 output:w'.output=w.output
 K:G.K.le G'.K
 sm:∀s b,G.sm s=some b->G'.sm s=some b
 eM:∀b,b<w.heap.size->G.role b=.eM->G'.role b=.eM/\w'.heap[b]?=w.heap[b]?
 kL:∀b τ,b<w.heap.size->G.role b=.tok τ->G'.role b=.eM\/∃τ',G'.role b=.tok τ'
 jK:∀b o v,b<w.heap.size->G.role b=.eM->G'.K b o=some v->G.K b o=some v
def bZ.refl(G:Gh)(w:World):bZ G w G w:=
 ⟨zal _,rfl,rfl,rfl,G.K.le_refl,fun _ _ h=>h,fun _ _ h=>⟨h,rfl⟩,fun _ τ _ h=>.inr ⟨τ,h⟩,fun _ _ _ _ _ h=>h⟩
def bZ.trans{j i g:Gh}{f d c:World}(h:bZ j f i d)(k:bZ i d g c):bZ j f g c where
 size:=zaI h.size k.size
 os:=k.os.trans h.os
 tape:=k.tape.trans h.tape
 output:=k.output.trans h.output
 K:=bA.le_trans h.K k.K
 sm:=fun s b e=>k.sm _ _ (h.sm s b e)
 eM:=fun b a hr=>by
  obtain⟨h1,h2⟩:=h.eM b a hr;obtain⟨l,k2⟩:=k.eM b (zbF a h.size) h1;exact⟨l,k2.trans h2⟩
 kL:=fun b τ a hr=>by
  rcases h.kL b τ a hr with h1|⟨τ',h1⟩
  .exact .inl (k.eM b (zbF a h.size) h1).1
  .exact k.kL b τ' (zbF a h.size) h1
 jK:=fun b o v a hr m=>h.jK b o v a hr (k.jK b o v (zbF a h.size) (h.eM b a hr).1 m)
def Marks.BI{t:Nat}{P c:Act}{w':World}(h:Marks t G P w)(b:bZ G w G' w')(hd:c.defers=P.defers):Marks t G' c w':=by
 obtain⟨e0,Ds,e1,e2,e3⟩:=h;refine⟨zaI e0 b.size,Ds,hd.trans e1,e2,fun D d=>?_⟩;obtain⟨e,f1,f2,f3⟩:=e3 D d;obtain⟨g1,g2⟩:=b.eM D f1 f2;exact⟨e,zbF f1 b.size,g1,g2.trans f3⟩
def Inv.kM{w':World}(h:Inv ρ G w mem sh aa)(d:bZ G w G' w'):
   ∀b c,ρ.py b=some c->G'.role b=.eM/\∃t z,w'.heap[b]?=some (.cells c t z):=fun b c e=>by
 obtain⟨h1,t,z,h2⟩:=h.py b c e;obtain⟨a,k2⟩:=d.eM b (zaK.1 h2).1 h1;exact⟨a,t,z,k2.trans h2⟩
def bZ.drew(G:Gh)(w:World):bZ G w G w.drew:=
 ⟨zal _,rfl,rfl,rfl,G.K.le_refl,fun _ _ h=>h,fun _ _ h=>⟨h,rfl⟩,fun _ τ _ h=>.inr ⟨τ,h⟩,fun _ _ _ _ _ h=>h⟩
def Inv.drew(h:Inv ρ G w mem sh aa):Inv ρ G w.drew mem sh aa where
 known:=h.known
 bn:=h.bn
 fresh:=h.fresh
 dz:=fun d cells e=>by obtain⟨b,e1,e2,e3⟩:=h.dz d cells e;exact⟨b,e1,⟨e2.role,e2.at_⟩,e3⟩
 jJ:=h.jJ
 eD:=fun d cells e=>by obtain⟨b,e1,e2,e3⟩:=h.eD d cells e;exact⟨b,e1,⟨e2.role,e2.at_⟩,e3⟩
 ix:=h.ix
 dO:=fun τ n e=>by obtain⟨t,e1,e2,e3⟩:=h.dO τ n e;exact⟨t,e1,e2,⟨e3.cap,e3.zero,e3.spare⟩⟩
 iE:=h.iE
 py:=h.py
section
variable {P:Program} {ns:Names} {G:Gh} {w:World}
abbrev num(ns:Names):bV:=⟨fun g f=>ns.of f=some g,ns.py⟩
variable{t n N off o f e s len cap d τ type xc:Nat}{b neg ag:Bool}{K:bA}{v u:Value}{p:PV}{x y x1:AV}{env:List (Nat×AV)}{k:IntKind}{i:Int}{M:List UInt8}{ρ:bV}{op:BinOp}{cs us vals rest cells':List AV}{vs suf l:List Value}{z els:List PV}{c c' new:Array Value}{fr:Nat×Nat}{V:Field}{α X:Type}{U:List (Nat×Nat)}{mem:List (Nat×List AV)}{sh:Sh}{aa toks':aH}{G':Gh}{w':World}{r:pR}{lo hi mx:Option Operand}{D:Operand->Value}{A:nA}{args:List Operand}{o':Obj}{ty:TypeId}{argTypes:Array TypeId}{base xb:Option Addr}{dst:Option Nat}
def eK(h:dM P t=some n)(w:World):(sizeOf t).run P w=.ok n w:=by
 unfold dM at h;cases hi:P.info? t with
 |none=>simp[hi]at h
 |some i=>simp[hi]at h;simp[sizeOf,typeInfo,hi,h]
def s9(h:iB P t=some n)(w:World):∃i,P.info? t=some i/\i.bytes=n/\(typeInfo t).run P w=.ok i w:=by
 unfold iB at h;cases hi:P.info? t with
 |none=>simp[hi]at h
 |some i=>simp[hi]at h;exact⟨i,rfl,h,by simp[typeInfo,hi]⟩
def kD(h:kb P t=some b)(w:World):(isAgg t).run P w=.ok b w:=by
 unfold kb at h;cases hu:P.underlying t with
 |none=>simp[hu]at h
 |some d=>
  simp[hu]at h;simp only[isAgg,zav,zaR hu,zam];cases d<;>simp_all
def mN(h:dI v=some p):R K false p [v]/\jI p=true:=by
 cases v with
 |bool b=>simp[dI]at h;subst h;simp[R,jI]
 |int k n=>simp[dI]at h;subst h;simp[R,jI]
 |string s=>simp[dI]at h;subst h;simp[R,jI]
 |slice a l c=>
  cases a with
  |some a=>simp[dI]at h
  |none=>
   cases l with
   |succ l=>simp[dI]at h
   |zero=>
    cases c with
    |succ c=>simp[dI]at h
    |zero=>
     simp[dI]at h;subst h;refine⟨?_,rfl⟩;simp only[R];exact⟨none,0,0,rfl,zal _,rfl,by simp⟩
 |_=>simp[dI]at h
def yu:∀{l:List Value}{z:List PV},dN dI l=some z->d9 K z l
 |[],_,h=>by simp[dN]at h;subst h;simp[d9]
 |v::l,z,h=>by
  simp only[dN]at h;split at h
  .rename_i y a h1 h2;cases h;simp only[d9];exact⟨v,l,rfl,(mN h1).1,yu h2⟩
  .cases h
def E_(h:EX v=some x):aD (num ns) G x v:=by
 unfold EX at h;split at h
 .simp at h;subst h;simp only[aD];exact⟨none,0,rfl,rfl,.inl rfl⟩
 .simp at h;subst h;simp[aD]
 .simp at h;subst h;simp[aD]
 .rename_i cs;simp only[zac]at h;obtain⟨ps,h1,rfl⟩:=h;simp only[aD];exact⟨cs.toList,by simp,yu h1⟩
 .cases a:dI v with
  |none=>simp[a]at h
  |some p=>simp[a]at h;subst h;simp only[aD];exact Rel.ZC (mN a).1
def IN{P:Act}(i:nR (num ns) G N env P){x:Operand}{e:fp}{v:AV}
   (b:kh ns x=some e) (d:iJ env e=some v):aD (num ns) G v (P.eval x):=by
 cases x with
 |tmp t=>
  simp[kh]at b;subst b;obtain⟨h,h1,h2⟩:=i.env t v (by simpa[iJ]using d);have:P.eval (.tmp t)=h:=by simp[Act.eval,h1]
  rw[this];exact h2
 |const c=>
  simp only[kh,zac]at b;obtain⟨x,h1,rfl⟩:=b;simp[iJ]at d;subst d;exact E_ h1
 |func f=>
  simp only[kh,zac]at b;obtain⟨g,h1,rfl⟩:=b;simp[iJ]at d;subst d;simp only[aD];exact⟨f,[],h1,rfl,by simp[aA]⟩
 |global g=>simp[kh]at b
def BX{P:Act}(d:nR (num ns) G N env P):∀{xs:List Operand}{as:List fp}{vs:List AV},
   dN (kh ns) xs=some as->eN env as=some vs->aA (num ns) G vs (xs.map P.eval)
 |[],as,vs,c,b=>by
  simp[dN]at c;subst c;simp[eN]at b;subst b;simp[aA]
 |x::xs,as,vs,c,b=>by
  simp only[dN]at c;split at c
  .rename_i g f h1 h2;simp at c;subst c;simp only[eN]at b;split at b
   .rename_i v e g1 g2;simp at b;subst b;simp only[zan,aA];exact⟨_,_,rfl,IN d h1 g1,BX d h2 g2⟩
   .simp at b
  .simp at c
def toList_mk(l:List UInt8):(ByteArray.mk l.toArray).toList=l:=by
 rw[ByteArray.toList_eq]
def vE:∀(a b:List UInt8),cU.eV a b=Op.bytesLess a b
 |_,[]=>by simp[cU.eV,Op.bytesLess]
 |[],_::_=>by simp[cU.eV,Op.bytesLess]
 |a::x,b::y=>by simp[cU.eV,Op.bytesLess,vE x y]
def jC:Rel K (.int k i) v<->v=.int k i:=by simp[Rel,R]
def kN:Rel K (.bool b) v<->v=.bool b:=by simp[Rel,R]
def oL:Rel K (.str M) v<->v=.string ⟨M.toArray⟩:=by simp[Rel,R]
def dP:aD ρ G (.pv (.int k i)) (.int k i):=by simp only[aD];exact jC.2 rfl
def oM:aD ρ G (.pv (.bool b)) (.bool b):=by simp only[aD];exact kN.2 rfl
def vF:aD ρ G (.pv (.str M)) (.string ⟨M.toArray⟩):=by simp only[aD];exact oL.2 rfl
variable{t:TypeId}{b:Nat}
def s_{z:AV}{d:Value}(hx:aD (num ns) G x u)(hy:aD (num ns) G y d)
   (h:cU op x y=some z) (g f:Operand):∃v,(do eqGuard op t g f u d;binOp op t u d:Sem Value).run P w=.ok v w/\aD (num ns) G z v:=by
 unfold cU at h;split at h
 .rename_i k a k' b;simp only[aD,jC]at hx hy;subst hx;subst hy;have i:(eqGuard op t g f (.int k a) (.int k' b)).run P w=.ok () w:=by cases op<;>simp[eqGuard]
  simp only[zav,i,zam];split at h
  .rename_i c;cases op<;>simp only[reduceCtorEq,or_false,or_self,or_true]at c<;>simp at h;case add=>subst c;subst h;exact⟨_,by simp[binOp,Op.intArith],dP⟩
   case sub=>subst c;subst h;exact⟨_,by simp[binOp,Op.intArith],dP⟩
   case mul=>subst c;subst h;exact⟨_,by simp[binOp,Op.intArith],dP⟩
   case quo=>subst c;obtain⟨h1,h⟩:=h;subst h;exact⟨_,by simp[binOp,Op.intDiv,h1],dP⟩
   case rem=>subst c;obtain⟨h1,h⟩:=h;subst h;exact⟨_,by simp[binOp,Op.intDiv,h1],dP⟩
   case and=>subst c;subst h;exact⟨_,by simp[binOp,Op.intBits],dP⟩
   case shl=>obtain⟨h1,h⟩:=h;subst h;exact⟨_,by simp[binOp,Op.shift,zdk.2 h1],dP⟩
   case shr=>obtain⟨h1,h⟩:=h;subst h;exact⟨_,by simp[binOp,Op.shift,zdk.2 h1],dP⟩
   all_goals (subst c;subst h;exact⟨_,by simp[binOp,Op.intCmp],oM⟩)
  .simp at h
 .rename_i a b;simp only[aD,oL]at hx hy;subst hx;subst hy;have i:(eqGuard op t g f (.string ⟨a.toArray⟩) (.string ⟨b.toArray⟩)).run P w=.ok () w:=by cases op<;>simp[eqGuard]
  simp only[zav,i,zam];cases op<;>simp at h
  case add=>
   obtain⟨h1,h⟩:=h;subst h
   have h2:¬((((ByteArray.mk a.toArray).size+(ByteArray.mk b.toArray).size:Nat):Int)> IntKind.i64.max):=by
    have e1:(ByteArray.mk a.toArray).size=a.length:=(by simp[ByteArray.size]);have e2:(ByteArray.mk b.toArray).size=b.length:=(by simp[ByteArray.size]);rw[e1,e2];have:IntKind.i64.max=9223372036854775807:=(by decide);rw[this];omega
   have h3:(ByteArray.mk a.toArray)++(ByteArray.mk b.toArray)=ByteArray.mk (a++b).toArray:=by
    apply ByteArray.ext;simp
   exact⟨_,by simp only[binOp,Op.stringOp,zad h2,h3];rfl,vF⟩
  all_goals (subst h;exact⟨_,by simp only[binOp,Op.stringOp,toList_mk,<-vE,zaC,Bool.not_or],oM⟩)
 .simp at h
def run_equalIn_bool(d:Nat)(hu:P.underlying t=some .bool)(a b:Bool):(Op.equalIn (d+1) t (.bool a) (.bool b)).run P w=.ok (a == b) w:=by
 simp only[Op.equalIn,zav,zaR hu,zam,zaC]
def run_equal_bool(hu:P.underlying t=some .bool)(a b:Bool):(Op.equal t (.bool a) (.bool b)).run P w=.ok (a == b) w:=
 run_equalIn_bool 9999 hu a b
def BY(hu:P.underlying t=some .bool)(e:(op=.eql/\neg=false)\/(op=.neq/\neg=true))(a b:Bool)(d c:Operand):
   (do eqGuard op t d c (.bool a) (.bool b);binOp op t (.bool a) (.bool b):Sem Value).run P w=.ok (.bool (if neg then !(a == b)else(a == b))) w:=by
 rcases e with⟨rfl,rfl⟩|⟨rfl,rfl⟩
 .have f:(eqGuard .eql t d c (.bool a) (.bool b)).run P w=.ok () w:=(by simp[eqGuard]);simp only[zav,f,zam,binOp,run_equal_bool hu,zaC];rfl
 .have f:(eqGuard .neq t d c (.bool a) (.bool b)).run P w=.ok () w:=(by simp[eqGuard]);simp only[zav,f,zam,binOp,run_equal_bool hu,zaC];rfl
def Addr.fU(b o n:Nat):(⟨b,o,none⟩:Addr).add n=⟨b,o+n,none⟩:=by unfold Addr.add;split<;>simp_all
def ta(vs:List Value)(off sz:Nat):vs.toArray.extract off (off+sz)=((vs.drop off).take sz).toArray:=by
 simp[List.extract_toArray]
def Fa{t:Nat}(b:dM P t=some n)(a:kb P t=some ag)
   (h:cm ag n cs off=some x) (hr:aA (num ns) G cs vs):
   ∃v,(part t vs.toArray off).run P w=.ok v w/\aD (num ns) G x v:=by
 unfold cm at h;split at h
 .rename_i c;cases ag with
  |true=>
   simp at h;subst h;refine⟨.agg (vs.toArray.extract off (off+n)),?_,?_⟩
   .simp only[part,zav,kD a,zam,za4,eK b,zaC]
   .simp only[aD];exact⟨(vs.drop off).take n,by rw[ta],(hr.drop off).take n⟩
  |false=>
   simp at h;obtain⟨_,h⟩:=h;obtain⟨v,h1,h2⟩:=hr.get h;refine⟨v,?_,h2⟩;simp only[part,zav,kD a,zam,zaV,zbr];simp[h1]
 .simp at h
def BZ{t:Nat}(b:dM P t=some n)(a:kb P t=some ag)
   (h:cV ag n (z.drop off)=some x) (hr:d9 G.K z vs):
   ∃v,(part t vs.toArray off).run P w=.ok v w/\aD (num ns) G x v:=by
 unfold cV at h;split at h
 .rename_i d;cases ag with
  |true=>
   simp at h;subst h;refine⟨.agg (vs.toArray.extract off (off+n)),?_,?_⟩
   .simp only[part,zav,kD a,zam,za4,eK b,zaC]
   .simp only[aD,Rel];exact⟨(vs.drop off).take n,by rw[ta],d9.take n (d9.drop off hr)⟩
  |false=>
   simp only[zaV,zbr,zab,zac]at h;obtain⟨_,c,h,rfl⟩:=h;rw[zb8]at h;obtain⟨v,h1,h2⟩:=hr.get h;simp only[zb0]at h1;refine⟨v,?_,by simp only[aD];exact Rel.ZC h2⟩;simp only[part,zav,kD a,zam,zaV,zbr];simp[h1]
 .simp at h
def lE{t:Nat}(d:dM P t=some n)(c:kb P t=some ag)
   (e:∀j v,vs[j]?=some v->w.cell? ⟨b,o+j,none⟩=some v) (hl:n<=vs.length) (h1:ag=false->n=1):
   (loadVar t ⟨b,o,none⟩).run P w=.ok (if ag then .agg (vs.take n).toArray else vs.getD 0 undef) w:=by
 cases ag with
 |true=>
  have a:(vs.take n).length=n:=by simp;omega
  have:=zbS (P:=P) w ⟨b,o,none⟩ (vs.take n) (fun j v hj=>by
   rw[Addr.fU];rw[zbG]at hj;split at hj
   .exact e j v hj
   .simp at hj)
  rw[a]at this;simp only[loadVar,zav,kD c,zam,za4,eK d,this,zaC]
 |false=>
  have:=h1 rfl;subst this;cases vs with
  |nil=>simp at hl
  |cons v r=>
   have:=e 0 v rfl;simp only[zb0]at this;simp only[loadVar,zav,kD c,zam,zaV,zbr,run_load,this];simp
def pE{t:Nat}(a:dM P t=some n)(d:kb P t=some ag)
   (h:cV ag n z=some x) (hr:d9 G.K z vs) (f:∀j v,vs[j]?=some v->w.cell? ⟨b,o+j,none⟩=some v):
   ∃v,(loadVar t ⟨b,o,none⟩).run P w=.ok v w/\aD (num ns) G x v:=by
 have e:=hr.length;unfold cV at h;split at h
 .rename_i g;cases ag with
  |true=>
   simp at h;subst h;refine⟨_,lE a d f (by omega) (by simp),?_⟩;simp only[za4,aD,Rel];exact⟨_,rfl,d9.take n hr⟩
  |false=>
   simp only[zaV,zbr,zab,zac]at h;obtain⟨h1,c,h,rfl⟩:=h;obtain⟨v,h3,h4⟩:=hr.get h;refine⟨_,lE a d f (by omega) (fun _=>h1),?_⟩;simp only[zaV,zbr,aD];have:vs.getD 0 undef=v:=by simp[List.getD,h3]
   rw[this];exact Rel.ZC h4
 .simp at h
def ki{t:Nat}(a:dM P t=some n)(d:kb P t=some ag)
   (h:cm ag n cs off=some x) (hr:aA (num ns) G cs vs) (g:∀j v,vs[j]?=some v->w.cell? ⟨b,j,none⟩=some v):
   ∃v,(loadVar t ⟨b,off,none⟩).run P w=.ok v w/\aD (num ns) G x v:=by
 have e:=hr.length
 have c:∀j v,(vs.drop off)[j]?=some v->w.cell? ⟨b,off+j,none⟩=some v:=fun j v hj=>by
  rw[zb8]at hj;exact g _ v hj
 unfold cm at h;split at h
 .rename_i f;cases ag with
  |true=>
   simp at h;subst h;refine⟨_,lE a d c (by simp;omega) (by simp),?_⟩;simp only[za4,aD];exact⟨_,rfl,aA.take n (aA.drop off hr)⟩
  |false=>
   simp at h;obtain⟨h1,h⟩:=h;obtain⟨v,h3,h4⟩:=hr.get h;refine⟨_,lE a d c (by simp;omega) (fun _=>h1),?_⟩;simp only[zaV,zbr];have:(vs.drop off).getD 0 undef=v:=by simp[List.getD,zb8,h3]
   rw[this];exact h4
 .simp at h
def lQ(h:w.heap[b]?=some (.cells c t fr)):∀j v,c.toList[j]?=some v->w.cell? ⟨b,j,none⟩=some v:=by
 intro j v hj;simp[World.cell?,h];simpa using hj
def qG(h:w.heap[b]?=some (.cells c t fr))(hs:c.toList=vs++suf):∀j v,vs[j]?=some v->w.cell? ⟨b,j,none⟩=some v:=by
 intro j v hj;refine lQ h j v ?_;rw[hs,zao (zaa.1 hj).1];exact hj
variable{t:Nat}
def td(h:kJ P t f=some V):∃fs,P.underlying t=some (.struct fs)/\fs[f]?=some V:=by
 unfold kJ at h;split at h
 .rename_i fs hu;exact⟨fs,hu,h⟩
 .simp at h
def fD(h:gr P t=some e):P.underlying t=some (.slice e):=by
 unfold gr at h;split at h
 .rename_i hu;simp at h;subst h;exact hu
 .simp at h
def B0(hf:kJ P t f=some V)(a:dM P V.type=some n)(b:kb P V.type=some ag)
   (h:bK (.field V.offset n ag) [x]=some y) (hr:aD (num ns) G x v):∃u,(Instr.field t v f).run P w=.ok u w/\aD (num ns) G y u:=by
 obtain⟨fs,hu,d⟩:=td hf;simp only[bK]at h;split at h
 .rename_i cs;simp only[aD]at hr;obtain⟨vs,rfl,hr⟩:=hr;obtain⟨u,h1,h2⟩:=Fa (w:=w) a b h hr;refine⟨u,?_,h2⟩;simp only[Instr.field,zav,zaR hu,zam,d,asAgg,zaC,h1]
 .rename_i cs;simp only[aD,Rel]at hr;obtain⟨vs,rfl,hr⟩:=hr;obtain⟨u,h1,h2⟩:=BZ (ns:=ns) (w:=w) a b h hr;refine⟨u,?_,h2⟩;simp only[Instr.field,zav,zaR hu,zam,d,asAgg,zaC,h1]
 .simp at h
def nS(hf:kJ P t f=some V)(a:dM P V.type=some s)(hs:s≠0)(b o:Nat):
   (Instr.fieldAt t (.pointer (some ⟨b,o,none⟩)) f).run P w=.ok (.pointer (some ⟨b,o+V.offset,none⟩)) w:=by
 obtain⟨fs,hu,d⟩:=td hf;simp only[Instr.fieldAt,zav,zaR hu,zam,d,Instr.sureAddr,zaC,fieldPlace,eK a,hs,zbr,Addr.fU]
def B1(hf:kJ P t f=some V)(a:dM P V.type=some s)(hs:s≠0)
   (h:bK (.jh V.offset) [x]=some y) (hr:aD (num ns) G x v):∃u,(Instr.fieldAt t v f).run P w=.ok u w/\aD (num ns) G y u:=by
 simp only[bK]at h;split at h
 .simp at h;subst h;simp only[aD]at hr;obtain⟨b,e,rfl⟩:=hr;exact⟨_,nS hf a hs _ _,by simp only[aD];exact⟨b,e,rfl⟩⟩
 .simp at h;subst h;simp only[aD]at hr;obtain⟨b,e,rfl⟩:=hr;exact⟨_,nS hf a hs _ _,by simp only[aD];exact⟨b,e,rfl⟩⟩
 .simp at h;subst h;simp only[aD]at hr;obtain⟨b,o,vs,rfl,h1,h2⟩:=hr;refine⟨_,nS hf a hs _ _,?_⟩;simp only[aD];refine⟨b,_,vs.drop V.offset,rfl,?_,d9.drop _ h2⟩;intro j u hj;rw[zb8]at hj;have:=h1 _ u hj
  rwa [zbD]
 .simp at h
def tf(c:gr P t=some e)(a:dM P e=some n)(h0:0<=i)(hi:i.toNat<len):
   (Instr.indexAt t (.slice (some ⟨b,o,none⟩) len cap) (.int k i)).run P w=.ok (.pointer (some ⟨b,o+i.toNat*n,none⟩)) w:=by
 have hu:=fD c;have:(0<=i/\i<(len:Int)):=⟨h0,by omega⟩;simp only[Instr.indexAt,zav,asIntOf,zaC,zam,zaR hu];simp[this,eK a,Addr.fU]
def f_(h:dG x=some els)(hr:aD (num ns) G x v):Rel G.K (.ae els) v:=by
 unfold dG at h;split at h
 .simp at h;subst h;simpa only[aD]using hr
 .simp at h;subst h;simp only[aD]at hr;obtain⟨b,l,rfl,hr⟩:=hr;exact cJ.2 ⟨b,l,l,rfl,zal _,hr⟩
 .simp at h;subst h;simp only[aD]at hr;obtain⟨t,_,_,hr,_⟩:=hr;exact hr
 .simp at h
def B2{sz:Nat}(r:gr P t=some e)(f:dM P e=some sz)
   (h:bK (.fK sz) [x,.pv (.int k i)]=some y) (hr:aD (num ns) G x v):
   ∃u,(Instr.indexAt t v (.int k i)).run P w=.ok u w/\aD (num ns) G y u:=by
 simp only[bK]at h;split at h
 .simp at h
 .rename_i h0;split at h
  .rename_i s d n ag;simp only[aD]at hr;obtain⟨b,c,e1,rfl,_⟩:=hr;simp only[zab,zag]at h;obtain⟨⟨h1,h2⟩,rfl⟩:=h;refine⟨_,tf r f (by omega) h2,?_⟩;simp only[aD];exact⟨b,e1,by simp⟩
  .rename_i A _;split at h
   .rename_i els j;have m:=f_ j hr;obtain⟨base,len,cap,rfl,_,q,a⟩:=cJ.1 m;split at h
    .rename_i el l;simp only[zab,zag]at h;obtain⟨hl,rfl⟩:=h;have p:i.toNat<els.length:=(zaa.1 l).1;rcases a with g|⟨b,o,d,rfl,a⟩
     .subst g;simp at p
     .obtain⟨vs,g1,g2,z⟩:=a.get l;have:sz=d:=by rw[<-hl,<-z.length,g1]
      subst this;refine⟨_,tf r f (by omega) (by omega),?_⟩;simp only[aD];exact⟨b,_,vs,rfl,g2,z.cells⟩
    .simp at h
   .simp at h
def B3(hu:P.underlying t=some .string)
   (h:bK .index [.pv (.str M),.pv (.int k i)]=some y):
   ∃u,(Instr.index t (.string ⟨M.toArray⟩) (.int k i)).run P w=.ok u w/\aD (num ns) G y u:=by
 simp only[bK]at h;split at h
 .simp at h
 .rename_i h0;simp only[zac]at h;obtain⟨b,h1,rfl⟩:=h;refine⟨_,?_,dP⟩
  have h2:(ByteArray.mk M.toArray)[i.toNat]?=some b:=by
   have a:=(zaa.1 h1).1;rw[getElem?_pos (ByteArray.mk M.toArray) i.toNat (by simpa[ByteArray.size]using a)];have:=(zaa.1 h1).2;simp only[zag];rw[<-this];rfl
  simp only[Instr.index,zav,asIntOf,zaC,zam,zaR hu];have h3:0<=i:=by omega
  simp only[h3,za4,h2,zaC]
def jL{f:α->Option X}:∀{l:List α}{r:List X},dN f l=some r->r.length=l.length
 |[],_,h=>by simp[dN]at h;subst h;rfl
 |x::l,r,h=>by
  simp only[dN]at h;split at h
  .rename_i y b h1 h2;simp at h;subst h;simp[jL h2]
  .simp at h
def B4{f:α->Option X}:∀{l:List α}{r:List X},dN f l=some r->∀{i:Nat}{x:α},l[i]?=some x->∃y,r[i]?=some y/\f x=some y
 |[],_,_,i,x,hx=>by simp at hx
 |a::l,r,h,i,x,hx=>by
  simp only[dN]at h;split at h
  .rename_i y c h1 h2;simp at h;subst h;cases i with
   |zero=>simp at hx;subst hx;exact⟨y,by simp,h1⟩
   |succ i=>simpa using B4 h2 (by simpa using hx)
  .simp at h
def B5{f:α->Sem X}{g:α->Option X}(hf:∀x y,g x=some y->(f x).run P w=.ok y w):∀{l:List α}{r:List X},
   dN g l=some r->(l.mapM f).run P w=.ok r w
 |[],_,h=>by simp[dN]at h;subst h;simp
 |x::l,r,h=>by
  simp only[dN]at h;split at h
  .rename_i y b h1 h2;simp at h;subst h;simp only[zcR,zav,hf x y h1,zam,B5 hf h2,zaC]
  .simp at h
def jm(h:dp P t=some z):∃a,(zeroValue t).run P w=.ok a w/\dN dI a.cells.toList=some z:=by
 unfold dp at h;split at h
 .rename_i a b;cases hi:P.info? t with
  |none=>simp[hi]at b
  |some i=>
   simp[hi]at b;exact⟨a,by simp[zeroValue,typeInfo,hi,b],h⟩
 .simp at h
def zP(h:dI v=some p):aD ρ G (bK.zeroCell p) v/\a9 (bK.zeroCell p)=true:=by
 obtain⟨h1,h2⟩:=mN (K:=G.K) h;unfold bK.zeroCell;split
 .refine⟨?_,rfl⟩;cases v with
  |slice a l c=>
   cases a with
   |some a=>simp[dI]at h
   |none=>
    cases l with
    |succ l=>simp[dI]at h
    |zero=>
     cases c with
     |succ c=>simp[dI]at h
     |zero=>simp only[aD];exact⟨none,0,rfl,rfl,.inl rfl⟩
  |_=>simp[dI]at h
 .refine⟨by simp only[aD];exact Rel.ZC h1,?_⟩;cases p<;>simp_all[a9,jI]
def jD{ρ:bV}:∀{l:List Value}{z:List PV},dN dI l=some z->aA ρ G (z.map bK.zeroCell) l/\(z.map bK.zeroCell).all a9=true
 |[],_,h=>by simp[dN]at h;subst h;simp[aA]
 |v::l,z,h=>by
  simp only[dN]at h;split at h
  .rename_i y b h1 h2;simp at h;subst h;obtain⟨g1,g2⟩:=jD (ρ:=ρ) h2;obtain⟨a,g4⟩:=zP (G:=G) (ρ:=ρ) h1;simp only[zan,aA,za1,g4,g2,zcY,and_true];exact⟨v,l,rfl,a,g1⟩
  .simp at h
def r7(off:Nat):∀(l:List Value)(k:Nat)(cs:Array Value),off+k+l.length<=cs.size->
   ((l.zipIdx k).foldl (fun cs (x:Value×Nat)=>cs.setIfInBounds (off+x.2) x.1) cs).toList=cs.toList.take (off+k)++l++cs.toList.drop (off+k+l.length)
 |[],k,cs,_=>by simp
 |v::l,k,cs,h=>by
  simp only[List.zipIdx_cons,zaO];have h':off+(k+1)+l.length<=(cs.setIfInBounds (off+k) v).size:=by simp at h⊢;omega
  rw[r7 off l (k+1) _ h'];have:=list_seg_step cs.toList (off+k) v l (by simp at h⊢;omega);simpa[Array.toList_setIfInBounds,zbD]using this
def iY(off:Nat)(h:aA ρ G cs l)(k:aA ρ G us vs):
   aA ρ G (a_ cs off us) (l.take off++vs++l.drop (off+vs.length)):=by
 unfold a_;rw[<-k.length];exact aA.append (aA.append (h.take off) k) (h.drop _)
def kj{B:AV->Bool}(h:cs.all B=true)(k:us.all B=true):(a_ cs off us).all B=true:=by
 unfold a_;rw[zas]at*;intro x hx;simp only[zae]at hx;rcases hx with(hx|hx)|hx
 .exact h x (zbh hx)
 .exact k x hx
 .exact h x (zbY hx)
def vG{place:Nat->Option (Nat×Nat)}:∀{is:List Nat}{pl:List (Nat×Nat)}{vals:List AV}{a:List Value}{cells:List AV}{rc:Array Value}{cs:List AV},
   dN place is=some pl->aA (num ns) G vals a->aA (num ns) G cells rc.toList->cells.all a9=true->is.length=a.length->nv cells pl vals=some cs->
   ∃e,Instr.fill place rc (is.zip a)=some e/\aA (num ns) G cs e.toList/\cs.all a9=true
 |[],pl,vals,a,cells,rc,cs,hp,j,k,m,hl,h=>by
  simp[dN]at hp;subst hp;have:a=[]:=by cases a<;>simp_all
  subst this;have:=j.length;have:vals=[]:=by cases vals<;>simp_all
  subst this;simp[nv]at h;subst h;exact⟨rc,by simp[Instr.fill],k,m⟩
 |i::is,pl,vals,a,cells,rc,cs,hp,j,k,m,hl,h=>by
  simp only[dN]at hp;split at hp
  .rename_i y p h1 h2;simp at hp;subst hp;obtain⟨off,sz⟩:=y;cases vals with
   |nil=>simp[nv]at h
   |cons v vals=>
    simp only[aA]at j;obtain⟨c,q,rfl,e1,e2⟩:=j;simp only[nv,zab]at h;obtain⟨⟨g1,g2,n⟩,h⟩:=h;have b:=e1.cells n;have g:=b.length;have f:c.cells.size=sz:=by rw[<-g1,<-g];simp
    have o:rc.size=cells.length:=by have:=k.length;simpa using this
    simp only[zcZ,Instr.fill,h1]
    have l:(decide (c.cells.size≠sz)|| decide (off+c.cells.size > rc.size))=false:=by
     simp[f];omega
    have d:(c.cells.zipIdx.foldl (fun cs (x:Value×Nat)=>cs.setIfInBounds (off+x.2) x.1) rc).toList=rc.toList.take off++c.cells.toList++rc.toList.drop (off+c.cells.toList.length):=by
     have:=r7 off c.cells.toList 0 rc (by simp;omega);rw[<-Array.foldl_toList];simpa using this
    rw[zad (by simp[f];omega)];refine vG (is:=is) h2 e2 (cells:=a_ cells off (bf v)) ?_ (kj m n) (by simpa using hl) h;rw[d];exact iY off k b
  .simp at hp
def zQ(h:fieldsOf P t=some U):∃fs,P.underlying t=some (.struct fs)/\
   (fs.mapM fun f=>(do pure (f.offset,<-sizeOf f.type):Sem (Nat×Nat))).run P w=.ok U.toArray w:=by
 unfold fieldsOf at h;split at h
 .rename_i fs hu;refine⟨fs,hu,?_⟩;rw[zdp];simp only[Sem.run_map];rw[B5 (g:=fun f=>(dM P f.type).map fun s=>(f.offset,s)) ?_ h]
  .rfl
  .intro f y hy;simp only[zac]at hy;obtain⟨s,h1,rfl⟩:=hy;simp only[zav,eK h1,zam,zaC]
 .simp at h
def B6{is:List Nat}{a:List Value}
   (f:dp P t=some z) (hp:placesOf P t is=some U) (hr:aA (num ns) G vals a) (hl:is.length=a.length) (h:bK (.build z U) vals=some x):
   ∃v,(Instr.build t (is.zip a).toArray).run P w=.ok v w/\aD (num ns) G x v:=by
 obtain⟨e,d,c⟩:=jm (w:=w) f;unfold placesOf at hp;split at hp
 .rename_i all b;obtain⟨fs,hu,hm⟩:=zQ (w:=w) b;simp only[bK,zac]at h;obtain⟨cs,h1,rfl⟩:=h;obtain⟨g1,g2⟩:=jD (G:=G) (ρ:=num ns) c;obtain⟨rc,e1,e2,_⟩:=vG (place:=(all.toArray[·]?)) (rc:=e.cells) (by simpa using hp) hr g1 g2 hl h1;refine⟨.agg rc,?_,?_⟩
  .simp only[Instr.build,zav,d,zam,zaR hu,hm];simp only[e1,zaC]
  .simp only[aD];exact⟨rc.toList,by simp,e2⟩
 .simp at hp
def Rel.toR(h:Rel K p v):R K true p v.cells.toList:=by
 cases p with
 |agg cs=>obtain⟨vs,rfl,h⟩:=h;simp only[R,Value.cells];exact⟨trivial,by simpa using h⟩
 |bool b=>have h':=h;simp only[Rel,R]at h';simp at h';subst h';simpa[Value.cells]using R.top h
 |int k n=>have h':=h;simp only[Rel,R]at h';simp at h';subst h';simpa[Value.cells]using R.top h
 |str s=>have h':=h;simp only[Rel,R]at h';simp at h';subst h';simpa[Value.cells]using R.top h
 |ae els=>
  have h':=h;obtain⟨b,l,c,rfl,_⟩:=cJ.1 h';simpa[Value.cells]using R.top h
def qH(h:jH x=some p)(hr:aD (num ns) G x v):Rel G.K p v:=by
 unfold jH at h;split at h<;>simp at h<;>subst h
 .simpa only[aD]using hr
 .exact f_ (x:=.dm _) rfl hr
 .exact f_ (x:=.own _ _) rfl hr
def th:eG [] x=jH x:=by
 cases x<;>simp[eG,jH]
def r_(h:jH x=some p)(hl:a9 x=true):jI p=true:=by
 cases x with
 |pv q=>simp[jH]at h;subst h;cases q<;>simp_all[a9,jI]
 |dm _=>simp[jH]at h;subst h;rfl
 |own _ _=>simp[jH]at h;subst h;rfl
 |_=>simp[jH]at h
def Rel.NL(h:Rel K p v)(hl:jI p=true):R K false p [v]:=(NJ hl).1 h
def yx:∀{cs:List AV}{ps:List PV}{vs:List Value},eY [] cs=some ps->aA (num ns) G cs vs->d9 G.K ps vs
 |[],ps,vs,h,hr=>by simp[eY]at h;subst h;simp only[aA]at hr;simp[d9,hr]
 |c::cs,ps,vs,h,hr=>by
  simp only[eY,th,zab]at h;obtain⟨hl,h⟩:=h;split at h
  .rename_i p a h1 h2;simp at h;subst h;simp only[aA]at hr;obtain⟨v,r,rfl,e1,e2⟩:=hr;simp only[d9];exact⟨v,r,rfl,(qH h1 e1).NL (r_ h1 hl),yx h2 e2⟩
  .simp at h
def zR(h:eQ [] x=some p)(hr:aD (num ns) G x v):Rel G.K p v:=by
 cases x with
 |agg cs=>
  simp only[eQ,zac]at h;obtain⟨ps,h1,rfl⟩:=h;simp only[aD]at hr;obtain⟨vs,rfl,hr⟩:=hr;simp only[Rel];exact⟨vs,rfl,yx h1 hr⟩
 |_=>simp only[eQ,th]at h;exact qH h hr
def pS:∀{xs:List AV}{ps:List PV}{vs:List Value},dS [] xs=some ps->aA (num ns) G xs vs->mL G.K ps vs
 |[],ps,vs,h,hr=>by simp[dS]at h;subst h;simp only[aA]at hr;exact hr
 |c::cs,ps,vs,h,hr=>by
  simp only[dS]at h;split at h
  .rename_i p a h1 h2;simp at h;subst h;simp only[aA]at hr;obtain⟨v,r,rfl,e1,e2⟩:=hr;exact⟨v,r,rfl,zR h1 e1,pS h2 e2⟩
  .simp at h
def Gh.vH(G:Gh)(b:Nat)(c:Array Value):Gh:={G with K:=fun a o=>if a=b then c[o]? else G.K a o}
def Inv.kO(h:Inv ρ G w mem sh aa)(a:G.K b o=some v):b<w.heap.size:=
 World.block_lt_of_cell? _ _ (h.known b o v a)
def Gh.uI(h:Inv ρ G w mem sh aa)(c:Array Value):G.le (G.vH w.heap.size c) where
 K:=fun b o v a=>by
  have:=h.kO a;simp only[Gh.vH];rw[zad (by omega)];exact a
 pm:=fun _ _ h=>h
 sm:=fun _ _ h=>h
 tk:=fun _ t h=>⟨t,h,⟨zal _,t.jA⟩,fun _=>rfl⟩
variable{o:Obj}
def bu(h:b<w.heap.size):(w.alloc o).heap[b]?=w.heap[b]?:=zbP w o b h
def heap_alloc_new:(w.alloc o).heap[w.heap.size]?=some o:=by
 show (w.heap.push o)[w.heap.size]?=some o;simp
def dv(h:w.heap[b]?=some o):b<w.heap.size:=by
 rcases zbL b w.heap.size with h'|h'
 .exact h'
 .simp[zcI h']at h
def Blk.mono(h:Blk ρ G w b r vals)(a:G.le G')(hr:G'.role b=G.role b)(d:w'.heap[b]?=w.heap[b]?):Blk ρ G' w' b r vals:=by
 obtain⟨h1,c,t,h2,h3⟩:=h;exact⟨hr.trans h1,c,t,d.trans h2,aA.mono a h3⟩
def zN.mono{b:Nat×Nat}(h:zN ρ G w b r vals)(a:G.le G')(hr:G'.role b.1=G.role b.1)(c:w'.heap[b.1]?=w.heap[b.1]?):zN ρ G' w' b r vals:=by
 obtain⟨h1,o,h2,h3⟩:=h;exact⟨hr.trans h1,o,c.trans h2,h3.mono a⟩
def zN.lt{b:Nat×Nat}(h:zN ρ G w b r vals):b.1<w.heap.size:=by
 obtain⟨_,o,h2,_⟩:=h;exact dv h2
def Inv.vJ(h:Inv ρ G w mem sh aa)(c:Array Value)(t:TypeId):
   Inv ρ (G.vH w.heap.size c) (w.alloc (.cells c t)) mem sh aa:=by
 have f:=Gh.uI h c;constructor
 .intro b o v e;simp only[Gh.vH]at e;split at e
  .rename_i a;subst a;simp[e]
  .rw[World.cell?_alloc_old]
   .exact h.known b o v e
   .simpa using ‹¬b=w.heap.size›
 .intro b o v e;simp only[Gh.vH]at e;split at e
  .rename_i a;subst a;exact .inl (h.fresh _ (zal _))
  .exact h.bn b o v e
 .intro b a;simp at a;exact h.fresh b (by omega)
 .intro d cells hd;obtain⟨b,e1,e2,e3⟩:=h.dz d cells hd;have a:b<w.heap.size:=by obtain⟨c,t,i,_⟩:=e2.at_;exact dv i
  exact⟨b,e1,e2.mono f rfl (bu a),e3⟩
 .exact h.jJ
 .intro d cells hd;obtain⟨b,e1,e2,e3⟩:=h.eD d cells hd;have a:b.1<w.heap.size:=e2.lt;exact⟨b,e1,e2.mono f rfl (bu a),e3⟩
 .exact h.ix
 .intro τ n hn;obtain⟨tk,e1,e2,e3⟩:=h.dO τ n hn;refine⟨tk,e1,e2,e3.cap,e3.zero,fun g=>?_⟩;obtain⟨b,o,l,ty,f1,f2,f3,k,f5⟩:=e3.spare g;have a:=dv f3;refine⟨b,o,l,ty,f1,f2,(bu a).trans f3,k,fun j v e=>f5 j v ?_⟩;simp only[Gh.vH]at e
  rwa [zad (by omega)]at e
 .exact h.iE
 .intro b c' a;obtain⟨h1,t',z,h2⟩:=h.py b c' a;exact⟨h1,t',z,(bu (zaK.1 h2).1).trans h2⟩
def bZ.vJ(h:Inv ρ G w mem sh aa)(c:Array Value)(t:TypeId):
   bZ G w (G.vH w.heap.size c) (w.alloc (.cells c t)) where
 size:=by simp
 os:=rfl
 tape:=rfl
 output:=rfl
 K:=(Gh.uI h c).K
 sm:=fun _ _ h=>h
 eM:=fun b d hr=>⟨hr,bu d⟩
 kL:=fun b τ _ hr=>.inr ⟨τ,hr⟩
 jK:=fun b o v d _ a=>by
  simp only[Gh.vH]at a
  rwa [zad (by omega)]at a
def SB:At (G.vH b l.toArray).K b 0 l:=by
 intro j v hj;simp only[Gh.vH,za4,zbK];simpa using hj
def ti(sz:Nat):∀(a:List Value)(k:Nat)(rc:Array Value),rc.size=(k+a.length)*sz->(∀v∈a,v.cells.size=sz)->
   ∃c,Instr.fill (fun i=>some (i*sz,sz)) rc ((List.range' k a.length).zip a)=some c/\c.toList=rc.toList.take (k*sz)++a.flatMap (fun v=>v.cells.toList)
 |[],k,rc,h,_=>⟨rc,by simp[Instr.fill],by simp at h;simp only[zbO,zaJ];rw[zaz];simp;omega⟩
 |v::a,k,rc,h,hs=>by
  have e:=hs v (by simp);have f:rc.size=k*sz+(a.length+1)*sz:=(by rw[h,zaG];simp);have g:k*sz+sz<=rc.size:=by rw[f,zaG];omega
  have b:(v.cells.zipIdx.foldl (fun cs (x:Value×Nat)=>cs.setIfInBounds (k*sz+x.2) x.1) rc).toList=rc.toList.take (k*sz)++v.cells.toList++rc.toList.drop (k*sz+sz):=by
   have:=r7 (k*sz) v.cells.toList 0 rc (by simp[e];omega);rw[<-Array.foldl_toList];simpa[e]using this
  have d:(v.cells.zipIdx.foldl (fun cs (x:Value×Nat)=>cs.setIfInBounds (k*sz+x.2) x.1) rc).size=rc.size:=by
   have hl:=zcp List.length b;rw[zat,zat,zb2,zcA]at hl;simp only[Array.length_toList,e]at hl;omega
  obtain⟨c,e1,e2⟩:=ti sz a (k+1) _ (by rw[d,h];congr 1;simp;omega) (fun u hu=>hs u (by simp[hu]));refine⟨c,?_,?_⟩
  .simp only[zay,zcy,zcZ,Instr.fill];rw[zad (by simp[e];omega)];exact e1
  .rw[e2,b];simp only[zaq];rw[zaF,zb1];have h1:(rc.toList.take (k*sz)).length=k*sz:=by simp;omega
   rw[h1];have h2:(k+1)*sz-k*sz=sz:=by rw[zaG];omega
   rw[h2,zaz (by rw[h1,zaG];omega),zb1];simp[e,zaF];exact zaz (by simp[e])
def tj(f:Operand->Value):∀(l:List (Nat×Operand))(k:Nat),uF k l=true->
   l.map (fun x=>(x.1,f x.2))=(List.range' k ((l.map (·.2)).map f).length).zip ((l.map (·.2)).map f)
 |[],k,_=>by simp
 |(i,x)::l,k,h=>by
  simp only[uF,zaj,zb7]at h;obtain⟨rfl,h⟩:=h;simp only[zan,zay,zcy,zcZ];rw[tj f l _ h]
def tq(f:Operand->Value):∀(l:List (Nat×Operand)),l.map (fun x=>(x.1,f x.2))=(l.map (·.1)).zip ((l.map (·.2)).map f)
 |[]=>by simp
 |x::l=>by simp[tq f l]
def B7:∀{els:List PV}{vs:List Value}{o:Nat},mL K els vs->els.all (fun e=>(bp e).length == t)=true->
   At K b o (vs.flatMap fun v=>v.cells.toList)->Row K b o t els
 |[],_,_,_,_,_=>by simp only[Row]
 |e::els,vs,o,⟨v,r,e1,e2,e3⟩,hs,c=>by
  subst e1;simp only[za1,zaj,zb7]at hs;have d:=e2.toR;have a:v.cells.toList.length=t:=by rw[d.length,hs.1]
  simp only[Row];refine⟨⟨v.cells.toList,a,?_,d⟩,B7 e3 hs.2 ?_⟩
  .intro j u hj;exact c j u (by simp only[zaq];rw[zao (zaa.1 hj).1];exact hj)
  .intro j u hj;have:=c (t+j) u (by simp only[zaq];rw[zaN (by omega),a,zcx];exact hj)
   rwa [<-zbD]at this
def vK:∀{els:List PV}{vs:List Value},mL K els vs->els.all (fun e=>(bp e).length == t)=true->∀v∈vs,v.cells.size=t
 |[],vs,h,_,v,a=>by cases h;simp at a
 |e::els,vs,⟨u,r,e1,e2,e3⟩,hs,v,a=>by
  subst e1;simp only[za1,zaj,zb7]at hs;simp only[zah]at a;rcases a with rfl|a
  .have:=e2.toR.length;simp at this;rw[this,hs.1]
  .exact vK e3 hs.2 v a
def zT{sz:Nat}{d:List Value}
   (B:gr P t=some e) (o:dM P e=some sz) (y:dp P e=some z) (hn:d.length=n) (h0:0<sz) (C:n*sz<=16777216)
   (hr:aA (num ns) G vals d) (hi:Inv ρ G w mem sh aa) (h:bK (.eA sz) vals=some x):
   ∃v c,(Instr.buildSlice t n ((List.range' 0 d.length).zip d).toArray).run P w=.ok v (w.alloc (.cells c e))/\
     aD (num ns) (G.vH w.heap.size c) x v:=by
 have hu:=fD B;simp only[bK,zau,zab,zag]at h;obtain⟨els,h1,h2,rfl⟩:=h;have i:=pS h1 hr;have s:=i.length;obtain⟨r,m,u⟩:=jm (w:=w) y;have A:¬(n*sz=0/\0<n):=by rintro⟨a,b⟩;have:=Nat.mul_pos b h0;omega
 let z0:Array Value:=if n*sz=0 then #[]else r.cells
 have j:((Array.range (n*sz)).map (z0[· % z0.size]!)).size=(0+d.length)*sz:=by simp[hn]
 obtain⟨rc,g1,g2⟩:=ti sz d 0 _ j (vK i h2);have q:rc.toList=d.flatMap (fun v=>v.cells.toList):=by simpa using g2
 refine⟨.slice (some ⟨w.heap.size,0,none⟩) n n,rc,?_,?_⟩
 .simp only[Instr.buildSlice,zav,zaR hu,zam,eK o];rw[zad (by omega)];by_cases f:n*sz=0
  .have g:z0=#[]:=zai f;rw[g]at g1;rw[zai f];simp only[zav,zaC,zam,g1];rfl
  .have g:z0=r.cells:=zad f;rw[g]at g1;rw[zad f];simp only[zav,zaC,m,zam,g1];rfl
 .simp only[aD];refine⟨_,n,rfl,by omega,?_⟩;by_cases k:els=[]
  .exact .inl k
  .refine .inr ⟨w.heap.size,0,sz,rfl,?_⟩;have p:=(Gh.uI hi rc).K;refine B7 (mL.mono p i) h2 ?_;rw[<-q];have:=SB (G:=G) (b:=w.heap.size) (l:=rc.toList);simpa using this
def cY{y:Nat}{code:BoundsCode}(h0:0<=i)(hy:i<=y):(Instr.sliceBound (.int k i) y code).run P w=.ok i.toNat w:=by
 simp only[Instr.sliceBound,zav,asIntOf,zaC,zam];rw[zai ⟨h0,hy⟩];rfl
def pT{T h:Int}{m:Option Int}{b:Bool}
   (hr:aA (num ns) G rest ((lo.toList++hi.toList++mx.toList).map D)) (e:eI lo.isSome hi.isSome mx.isSome n rest=some (T,h,m))
   (h0:0<=T) (h1:T<=h) (h2:h<=n) (h3:n<=cap) (hm:∀x,m=some x->x=h):
   (Instr.sliceBounds b n cap (lo.map D) (hi.map D) (mx.map D)).run P w=.ok (T.toNat,h.toNat,(m.map Int.toNat).getD cap) w:=by
 cases lo<;>cases hi<;>cases mx<;>simp only[zbE,Option.isSome_some,eI]at e <;>
   (try (split at e<;>first|(simp at e;done)|skip))<;>(try (simp at e;done))
 all_goals simp at e
 all_goals obtain⟨rfl,rfl,rfl⟩:=e
 all_goals (try contradiction)
 all_goals simp[aA,aD,Rel,R]at hr
 .simp only[Instr.sliceBounds,zby,zav,zaC,zam];simp
 .rename_i k h _ _ _;have e1:=cY (P:=P) (w:=w) (k:=k) (i:=h) (y:=cap) (code:=if b then .sliceAcap else .sliceAlen) (by omega) (by omega);simp only[Instr.sliceBounds,zby,zaZ,hr,zav,zaC,zam,e1];simp
 .rename_i k h k' m _ _ _;obtain⟨c,a⟩:=hr;have d:=hm m rfl;subst d;have e1:=cY (P:=P) (w:=w) (k:=k') (i:=m) (y:=cap) (code:=if b then .slice3Acap else .slice3Alen) (by omega) (by omega);have e2:=cY (P:=P) (w:=w) (k:=k) (i:=m) (y:=m.toNat) (code:=.slice3B) (by omega) (by omega);simp only[Instr.sliceBounds,zby,zaZ,c,a,zav,zaC,zam,e1,e2];simp
 .rename_i k T _ _ _;have e1:=cY (P:=P) (w:=w) (k:=k) (i:=T) (y:=n) (code:=.sliceB) (by omega) (by omega);simp only[Instr.sliceBounds,zby,zaZ,hr,zav,zaC,zam,zbE,zaV,zbr,e1];simp
 .rename_i k T k' h _ _ _;obtain⟨c,a⟩:=hr;have e1:=cY (P:=P) (w:=w) (k:=k') (i:=h) (y:=cap) (code:=if b then .sliceAcap else .sliceAlen) (by omega) (by omega);have e2:=cY (P:=P) (w:=w) (k:=k) (i:=T) (y:=h.toNat) (code:=.sliceB) (by omega) (by omega);simp only[Instr.sliceBounds,zby,zaZ,c,a,zav,zaC,zam,e1,zbE,zaV,zbr,e2];simp
 .rename_i k T k' h g m _ _ _;obtain⟨c,a,j⟩:=hr;have d:=hm m rfl;subst d;have e1:=cY (P:=P) (w:=w) (k:=g) (i:=m) (y:=cap) (code:=if b then .slice3Acap else .slice3Alen) (by omega) (by omega);have e2:=cY (P:=P) (w:=w) (k:=k') (i:=m) (y:=m.toNat) (code:=.slice3B) (by omega) (by omega);have e3:=cY (P:=P) (w:=w) (k:=k) (i:=T) (y:=m.toNat) (code:=.slice3C) (by omega) (by omega);simp only[Instr.sliceBounds,zaZ,c,a,j,zav,zaC,zam,e1,e2,Option.isSome_some,za4,e3];simp
def SC{o:Nat}(hr:Row K b o t els):Row K b (o+n*t) t ((els.take e).drop n):=Row.drop n (Row.take e hr)
def B8{sz:Nat}(hu:P.underlying t=some (.slice e))(q:dM P e=some sz)
   (hr:aA (num ns) G rest ((lo.toList++hi.toList++mx.toList).map D)) (hx:aD (num ns) G x v)
   (h:dC false sz lo.isSome hi.isSome mx.isSome (x::rest)=some y):
   ∃u,(Instr.sliceAt t v (lo.map D) (hi.map D) (mx.map D)).run P w=.ok u w/\aD (num ns) G y u:=by
 simp only[dC,zaV,zbr]at h;split at h
 .rename_i els p;obtain⟨base,len,cap,rfl,s,n,a⟩:=cJ.1 (f_ p hx);split at h
  .rename_i l d m z;simp only[zab]at h;obtain⟨⟨h0,h1,h2,h3⟩,h⟩:=h
   have hm:∀x,m=some x->x=d:=by
    intro x hx;subst hx;simp only[zab]at h;exact h.1
   rw[n]at z h2;have k:=pT (P:=P) (w:=w) (b:=true) hr z h0 h1 h2 (by omega:len<=cap) hm
   have iQ:(Instr.sliceAt t (.slice base len cap) (lo.map D) (hi.map D) (mx.map D)).run P w =
       .ok (.slice (if(m.map Int.toNat).getD cap=l.toNat then base else base.map (·.add (l.toNat*sz))) (d.toNat-l.toNat) ((m.map Int.toNat).getD cap-l.toNat)) w:=by
     simp only[Instr.sliceAt,zav,zaR hu,zam,Instr.slice,k,eK q,zaC]
   refine⟨_,iQ,?_⟩
   have j:VM G.K ((els.take d.toNat).drop l.toNat) (if(m.map Int.toNat).getD cap=l.toNat then base else base.map (·.add (l.toNat*sz))) (d.toNat-l.toNat):=by
    refine⟨by simp;omega,?_⟩;by_cases c:(els.take d.toNat).drop l.toNat=[]
    .exact .inl c
    .refine .inr ?_
     have A:l.toNat<d.toNat:=by
      rcases zbL l.toNat d.toNat with h'|h'
      .exact h'
      .exfalso;apply c;apply List.drop_of_length_le;simp;omega
     rcases a with hn|⟨b,o,i,rfl,a⟩
     .subst hn;simp at c
     .have r:(m.map Int.toNat).getD cap≠l.toNat:=by
       cases m with
       |none=>simp;omega
       |some x=>have:=hm x rfl;subst this;simp;omega
      rw[zad r];have g:els≠[]:=by intro e;subst e;simp at c
      refine⟨b,o+l.toNat*i,i,?_,SC a⟩;rcases h3 with h3|h3
      .subst h3;simp[Addr.add]
      .have:=a.sz h3 g;subst this;simp[Addr.fU]
   cases m with
   |none=>
    simp at h;subst h;simp only[aD];exact cJ.2 ⟨_,_,_,rfl,by simp;omega,j⟩
   |some x=>
    have:=hm x rfl;subst this;simp at h;subst h;simp only[aD];exact⟨_,_,rfl,j⟩
  .simp at h
 .simp at h
def zU{sz:Nat}(hu:P.underlying t=some (.slice e))(m:dM P e=some sz)(o:mx.isSome=false)
   (hr:aA (num ns) G rest ((lo.toList++hi.toList++mx.toList).map D)) (hx:aD (num ns) G x v)
   (h:me sz lo.isSome hi.isSome (x::rest)=some y):
   ∃u,(Instr.sliceAt t v (lo.map D) (hi.map D) (mx.map D)).run P w=.ok u w/\aD (num ns) G y u:=by
 unfold me at h;split at h
 .rename_i b z n ag k j;simp only[zbz]at j;obtain⟨rfl,rfl⟩:=j;rw[zab]at h;obtain⟨rfl,h⟩:=h;split at h
  .rename_i l d p;simp only[zab,zag]at h;obtain⟨⟨h0,h1,h2⟩,rfl⟩:=h;simp only[aD]at hx;obtain⟨a,cap,g,rfl,c⟩:=hx;rw[<-o]at p;have i:=pT (P:=P) (w:=w) (b:=true) (cap:=n+cap) hr p h0 h1 h2 (by omega) (by simp)
   have iQ:(Instr.sliceAt t (.slice (some ⟨a.1,0,none⟩) n (n+cap)) (lo.map D) (hi.map D) (mx.map D)).run P w =
       .ok (.slice (if n+cap=l.toNat then some ⟨a.1,0,none⟩else(some ⟨a.1,0,none⟩:Option Addr).map (·.add (l.toNat*z))) (d.toNat-l.toNat) (n+cap-l.toNat)) w:=by
     simp only[Instr.sliceAt,zav,zaR hu,zam,Instr.slice,i,eK m,zaC,zby,zaT]
   refine⟨_,iQ,?_⟩;by_cases hl:l=0
   .subst hl;simp only[za4,aD];refine⟨a,n+cap-d.toNat,g,?_,?_⟩
    .have e1:d.toNat+(n+cap-d.toNat)=n+cap:=(by omega);rw[e1];simp[Addr.add]
    .have e1:d.toNat+(n+cap-d.toNat)=n+cap:=(by omega);rw[e1];exact c
   .rw[zad hl];simp only[aD];refine⟨a,_,_,g,rfl,?_⟩;by_cases q:d.toNat-l.toNat=0
    .exact .inl q
    .right;rw[zad (by omega)];simp[Addr.add];exact fun e=>e.symm
  .simp at h
 .simp at h
def ur(hu:P.underlying t=some .string)(e:mx.isSome=false)
   (hr:aA (num ns) G rest ((lo.toList++hi.toList++mx.toList).map D)) (hx:aD (num ns) G x v)
   (h:dC true 0 lo.isSome hi.isSome false (x::rest)=some y):
   ∃u,(Instr.sliceAt t v (lo.map D) (hi.map D) (mx.map D)).run P w=.ok u w/\aD (num ns) G y u:=by
 simp only[dC,za4]at h;split at h
 .rename_i s;simp only[aD,oL]at hx;subst hx;split at h
  .rename_i l g i;simp only[zab,zag]at h;obtain⟨⟨h0,h1,h2⟩,rfl⟩:=h;rw[<-e]at i;have a:=pT (P:=P) (w:=w) (b:=false) hr i h0 h1 h2 (zal _) (by simp);have d:mx=none:=by cases mx<;>simp_all
   subst d;have c:(ByteArray.mk s.toArray).size=s.length:=by simp[ByteArray.size]
   refine⟨.string ((ByteArray.mk s.toArray).extract l.toNat g.toNat),?_,?_⟩
   .simp only[Instr.sliceAt,zav,zaR hu,zam,Instr.slice,zby,zbE,zaV,zbr,c];simp only[zby]at a;simp[a]
   .have:(ByteArray.mk s.toArray).extract l.toNat g.toNat=⟨((s.take g.toNat).drop l.toNat).toArray⟩:=by
     apply ByteArray.ext;simp[ByteArray.data_extract];rw[List.drop_take]
    rw[this];exact vF
  .simp at h
 .simp at h
def IP(ns:Names)(P:Program)(G:Gh)(w:World)(mem:List (Nat×List AV))(sh:Sh)(aa:aH)(s:Sem Value)(x:AV):Prop:=
 ∃v w' G',s.run P w=.ok v w'/\aD (num ns) G' x v/\Inv (num ns) G' w' mem sh aa/\G.le G'/\bZ G w G' w'
def IP.stay(hi:Inv (num ns) G w mem sh aa){j:Sem Value}(h:j.run P w=.ok v w)(hr:aD (num ns) G x v):
   IP ns P G w mem sh aa j x:=⟨v,w,G,h,hr,hi,G.le_refl,bZ.refl G w⟩
def cC(h:aA ρ G vals [v]):∃x,vals=[x]/\aD ρ G x v:=by
 cases vals with
 |nil=>simp[aA]at h
 |cons x r=>
  simp only[aA]at h;obtain⟨u,a,e,h1,h2⟩:=h;cases e;cases r with
  |nil=>exact⟨x,rfl,h1⟩
  |cons _ _=>simp[aA]at h2
def e_(h:aA ρ G vals [u,v]):∃x y,vals=[x,y]/\aD ρ G x u/\aD ρ G y v:=by
 cases vals with
 |nil=>simp[aA]at h
 |cons x r=>
  simp only[aA]at h;obtain⟨a,b,e,h1,h2⟩:=h;cases e;obtain⟨y,rfl,h3⟩:=cC h2;exact⟨x,y,rfl,h1,h3⟩
def B9{t:Value}(h:aA ρ G vals [u,v,t]):∃x y z,vals=[x,y,z]/\aD ρ G x u/\aD ρ G y v/\aD ρ G z t:=by
 cases vals with
 |nil=>simp[aA]at h
 |cons x r=>
  simp only[aA]at h;obtain⟨a,b,e,h1,h2⟩:=h;cases e;obtain⟨y,z,rfl,h3,h4⟩:=e_ h2;exact⟨x,y,z,rfl,h1,h3,h4⟩
def NM{J:AV}(h:bK .pick [x1,y,J]=some x):∃c,x1=.pv (.bool c)/\x=if c then y else J:=by
 cases x1 with
 |pv p=>cases p with
  |bool c=>exact⟨c,rfl,by simpa[bK]using h.symm⟩
  |_=>simp[bK]at h
 |_=>simp[bK]at h
def SD(h:bK (.beq neg) [x1,y]=some x):∃p q,x1=.pv (.bool p)/\y=.pv (.bool q)/\x=.pv (.bool (if neg then !(p == q)else(p == q))):=by
 cases x1 with
 |pv p=>cases p with
  |bool c=>cases y with
   |pv q=>cases q with
    |bool d=>exact⟨c,d,rfl,rfl,by simpa[bK]using h.symm⟩
    |_=>simp[bK]at h
   |_=>simp[bK]at h
  |_=>simp[bK]at h
 |_=>simp[bK]at h
def NO(h:bK (.conv k) [x1]=some x):∃k' n,x1=.pv (.int k' n)/\x=.pv (.int k (k.wrap n)):=by
 cases x1 with
 |pv p=>cases p with
  |int k' n=>exact⟨k',n,rfl,by simpa[bK]using h.symm⟩
  |_=>simp[bK]at h
 |_=>simp[bK]at h
def Kj(h:bK (.fK t) [x1,y]=some x):∃k i,y=.pv (.int k i):=by
 cases y with
 |pv p=>cases p with
  |int k n=>exact⟨k,n,rfl⟩
  |_=>simp[bK]at h
 |_=>simp[bK]at h
def Kk(h:bK .index [x1,y]=some x):∃s k i,x1=.pv (.str s)/\y=.pv (.int k i):=by
 cases x1 with
 |pv q=>cases q with
  |str s=>cases y with
   |pv p=>cases p with
    |int k n=>exact⟨s,k,n,rfl,rfl⟩
    |_=>simp[bK]at h
   |_=>simp[bK]at h
  |_=>simp[bK]at h
 |_=>simp[bK]at h
def vL:∀{els:List PV}{s:List UInt8},ig els=some s->els=s.map fun b=>.int .u8 (b.toNat:Int)
 |[],s,h=>by simp[ig]at h;subst h;rfl
 | .int .u8 n::r,s,h=>by
  simp only[ig,zab,zac]at h;obtain⟨⟨h0,h1⟩,q,h2,rfl⟩:=h
  have:((UInt8.ofNat n.toNat).toNat:Int)=n:=by
   simp;omega
  simp only[zan,this,<-vL h2]
 | .int .i64 _::_,_,h=>by simp[ig]at h
 | .int .i32 _::_,_,h=>by simp[ig]at h
 | .int .i16 _::_,_,h=>by simp[ig]at h
 | .int .i8 _::_,_,h=>by simp[ig]at h
 | .int .u64 _::_,_,h=>by simp[ig]at h
 | .int .u32 _::_,_,h=>by simp[ig]at h
 | .int .u16 _::_,_,h=>by simp[ig]at h
 | .bool _::_,_,h=>by simp[ig]at h
 | .str _::_,_,h=>by simp[ig]at h
 | .agg _::_,_,h=>by simp[ig]at h
 | .ae _::_,_,h=>by simp[ig]at h
def b2s_inv(h:bK .b2s [x1]=some x):∃s:List UInt8,dG x1=some (s.map fun b=>.int .u8 (b.toNat:Int))/\x=.pv (.str s):=by
 simp only[bK,zac,zau]at h;obtain⟨s,⟨els,h1,h2⟩,rfl⟩:=h;exact⟨s,by rw[h1,vL h2],rfl⟩
def b2s_run{s d e:TypeId}(hs:P.underlying s=some (.slice e))(g:P.underlying e=some (.int .u8))(hd:P.underlying d=some .string)
   (hi:∀b o u,G.K b o=some u->w.cell? ⟨b,o,none⟩=some u) (hx:dG x=some (M.map fun b=>.int .u8 (b.toNat:Int))) (hr:aD (num ns) G x v):
   (convert s d v).run P w=.ok (.string ⟨M.toArray⟩) w:=by
 obtain⟨base,len,cap,rfl,_,f,c⟩:=cJ.1 (f_ hx hr);simp only[zaD]at f;subst f;cases base with
 |none=>
  have h0:M=[]:=by
   rcases c with h|⟨b,o,sz,e,_⟩
   .simpa using h
   .cases e
  subst h0;show(convert s d (.slice none 0 cap)).run P w=_;rw[run_convert_bytes_string w s d e none 0 cap hs g hd];simp[Conv.bytesToString];rfl
 |some a=>
  refine run_convert_bytes_back w s d e a cap M hs g hd fun j hj=>?_;rcases c with h|⟨b,o,sz,e,c⟩
  .simp at h;subst h;simp at hj
  .cases e
   obtain⟨vs,g1,g2,k⟩:=c.get (i:=j) (el:=.int .u8 (M[j].toNat:Int)) (by simp[hj]);simp only[R]at k;subst k;simp at g1;subst g1;rw[Addr.fU];have:=g2 0 _ rfl;simp at this;exact hi _ _ _ this
def SE(h:bK (.ext t) [x1]=some x):∃vs,x1=.rQ vs/\vs[t]?=some x:=by
 cases x1 with
 |rQ vs=>exact⟨vs,rfl,by simpa[bK]using h⟩
 |_=>simp[bK]at h
def Kl(h:bK (.g_ t ag) [x1]=some x):∃cs,x1=.et cs/\cV ag t cs=some x:=by
 cases x1 with
 |et vs=>exact⟨vs,rfl,by simpa[bK]using h⟩
 |_=>simp[bK]at h
def NP(h:bK .EV [x1]=some x):∃s,x1=.pv (.str s)/\x=.pv (.int .i64 (s.length:Int)):=by
 cases x1 with
 |pv q=>cases q with
  |str s=>exact⟨s,rfl,by simpa[bK]using h.symm⟩
  |_=>simp[bK]at h
 |_=>simp[bK]at h
def Xy(h:bK .mn [x1,y]=some x):∃k p q,x1=.pv (.int k p)/\y=.pv (.int k q)/\x=.pv (.int k (if q<p then q else p)):=by
 cases x1 with
 |pv q=>cases q with
  |int k s=>cases y with
   |pv p=>cases p with
    |int k' n=>
     simp only[bK,zab,zag]at h;obtain⟨rfl,rfl⟩:=h;exact⟨k,s,n,rfl,rfl,rfl⟩
    |_=>simp[bK]at h
   |_=>simp[bK]at h
  |_=>simp[bK]at h
 |_=>simp[bK]at h
def Xz(h:bK .mx [x1,y]=some x):∃k p q,x1=.pv (.int k p)/\y=.pv (.int k q)/\x=.pv (.int k (if q > p then q else p)):=by
 cases x1 with
 |pv q=>cases q with
  |int k s=>cases y with
   |pv p=>cases p with
    |int k' n=>
     simp only[bK,zab,zag]at h;obtain⟨rfl,rfl⟩:=h;exact⟨k,s,n,rfl,rfl,rfl⟩
    |_=>simp[bK]at h
   |_=>simp[bK]at h
  |_=>simp[bK]at h
 |_=>simp[bK]at h
def B_{o:Oper}{vo:Sv}(B:cp P ns A o.dst o.op=some (.v vo,args)){a:Act}
      (hr:aA (num ns) G vals (args.map a.eval)) (hi:Inv (num ns) G w mem sh aa) (h:bK vo vals=some x):
   ∃v w' G',(execOp a.eval o).run P w=.ok (.value v) w'/\aD (num ns) G' x v/\Inv (num ns) G' w' mem sh aa/\G.le G'/\bZ G w G' w':=by
 obtain⟨dst,op,type,pos,after,guard⟩:=o
 have C:∀{s:Sem Value},IP ns P G w mem sh aa s x->(execOp a.eval ⟨dst,op,type,pos,after,guard⟩=(do pure (.value (<-s)):Sem Next))->
     ∃v w' G',(execOp a.eval ⟨dst,op,type,pos,after,guard⟩).run P w=.ok (.value v) w'/\aD (num ns) G' x v/\Inv (num ns) G' w' mem sh aa/\G.le G'/\bZ G w G' w':=by
   rintro s ⟨v,w',G',h1,h2,h3,h4,h5⟩ N
   exact⟨v,w',G',by rw[N];simp only[zav,h1,zam,zaC],h2,h3,h4,h5⟩
 cases op<;>simp only[cp]at B
 case move y=>
  simp at B;obtain⟨rfl,rfl⟩:=B;obtain⟨K,rfl,h1⟩:=cC (by simpa using hr);simp[bK]at h;subst h;exact⟨_,w,G,by simp[execOp],h1,hi,G.le_refl,bZ.refl G w⟩
 case assign y=>
  simp at B;obtain⟨rfl,rfl⟩:=B;obtain⟨K,rfl,h1⟩:=cC (by simpa using hr);simp[bK]at h;subst h;exact⟨_,w,G,by simp[execOp],h1,hi,G.le_refl,bZ.refl G w⟩
 case pick c y z=>
  simp at B;obtain⟨rfl,rfl⟩:=B;obtain⟨x1,W,x3,rfl,h1,h2,h3⟩:=B9 (by simpa using hr);obtain⟨b,rfl,rfl⟩:=NM h;simp only[aD,kN]at h1;refine⟨if b then a.eval y else a.eval z,w,G,by simp[execOp,h1,asBool],?_,hi,G.le_refl,bZ.refl G w⟩;cases b<;>simp[h2,h3]
 case binOp op t y z ty=>
  simp only[zac]at B;obtain⟨a0,h0,N⟩:=B;simp at N;obtain⟨rfl,rfl⟩:=N;obtain⟨x1,W,rfl,h1,h2⟩:=e_ (by simpa using hr);unfold IL at h0;refine C (s:=do eqGuard op t y z (a.eval y) (a.eval z);binOp op t (a.eval y) (a.eval z)) ?_ rfl;split at h0
  .simp at h0;subst h0;simp only[bK]at h;obtain⟨v,g1,g2⟩:=s_ (P:=P) (w:=w) (t:=t) h1 h2 h y z;exact .stay hi g1 g2
  .simp at h0;subst h0;simp only[bK]at h;obtain⟨v,g1,g2⟩:=s_ (P:=P) (w:=w) (t:=t) h1 h2 h y z;exact .stay hi g1 g2
  .rename_i hu
   have key:∀neg,a0=.beq neg->((op=.eql/\neg=false)\/(op=.neq/\neg=true))->IP ns P G w mem sh aa (do eqGuard op t y z (a.eval y) (a.eval z);binOp op t (a.eval y) (a.eval z)) x:=by
    intro neg O a3;subst O;obtain⟨p,q,rfl,rfl,rfl⟩:=SD h;simp only[aD,kN]at h1 h2;rw[h1,h2];exact .stay hi (BY hu a3 p q y z) oM
   split at h0
   .simp at h0;exact key false h0.symm (.inl ⟨‹_›,rfl⟩)
   .split at h0
    .simp at h0;exact key true h0.symm (.inr ⟨‹_›,rfl⟩)
    .simp at h0
  .simp at h0
 case unOp op t y=>
  simp at B;obtain⟨rfl,rfl⟩:=B;obtain⟨K,rfl,h1⟩:=cC (by simpa using hr);refine C (s:=Op.unary op (a.eval y)) ?_ rfl;simp only[bK]at h;unfold Z5 at h;split at h
  .split at h<;>simp at h
   subst h;simp only[aD,kN]at h1;rw[h1];exact .stay hi (by simp[Op.unary]) oM
  .split at h<;>simp at h
   subst h;simp only[aD,jC]at h1;rw[h1];exact .stay hi (by simp[Op.unary,Op.intArith]) dP
  .simp at h
 case convert s d y=>
  split at B
  .rename_i k1 k2 hs hd;simp at B;obtain⟨rfl,rfl⟩:=B;obtain⟨K,rfl,h1⟩:=cC (by simpa using hr);obtain⟨k',n,rfl,rfl⟩:=NO h;simp only[aD,jC]at h1;refine C (s:=convert s d (a.eval y)) ?_ rfl;rw[h1];exact .stay hi (by simp[convert,zaR hs,zaR hd,Conv.intToInt]) dP
  .rename_i e hs hd;split at B
   .rename_i N;simp at B;obtain⟨rfl,rfl⟩:=B;obtain⟨K,rfl,h1⟩:=cC (by simpa using hr);obtain⟨l,hl,rfl⟩:=b2s_inv h;refine C (s:=convert s d (a.eval y)) ?_ rfl;exact .stay hi (b2s_run hs N hd hi.known hl h1) vF
   .simp at B
  .simp at B
 case extract y i=>
  simp at B;obtain⟨rfl,rfl⟩:=B;obtain⟨K,rfl,h1⟩:=cC (by simpa using hr);obtain⟨vs,rfl,h2⟩:=SE h;simp only[aD]at h1;obtain⟨us,h3,h4⟩:=h1;obtain⟨u,h5,h6⟩:=h4.get h2;refine C (s:=Instr.extract (a.eval y) i) ?_ rfl;rw[h3];exact .stay hi (by simp[Instr.extract,h5]) h6
 case field t y f=>
  split at B
  .rename_i fd hf;split at B
   .rename_i sz ag F V;simp at B;obtain⟨rfl,rfl⟩:=B;obtain⟨K,rfl,h1⟩:=cC (by simpa using hr);obtain⟨u,g1,g2⟩:=B0 (w:=w) hf F V h h1;exact C (s:=Instr.field t (a.eval y) f) (.stay hi g1 g2) rfl
   .simp at B
  .simp at B
 case fieldAddr t y f=>
  split at B
  .rename_i fd hf;split at B
   .rename_i sz F;split at B
    .simp at B
    .rename_i a1;simp at B;obtain⟨rfl,rfl⟩:=B;obtain⟨K,rfl,h1⟩:=cC (by simpa using hr);obtain⟨u,g1,g2⟩:=B1 (w:=w) hf F a1 h h1;exact C (s:=Instr.fieldAt t (a.eval y) f) (.stay hi g1 g2) rfl
   .simp at B
  .simp at B
 case indexAddr t y i=>
  split at B
  .rename_i e N;simp only[zac]at B;obtain⟨sz,F,B⟩:=B;simp at B;obtain⟨rfl,rfl⟩:=B;obtain⟨x1,W,rfl,h1,h2⟩:=e_ (by simpa using hr);obtain⟨k,i',rfl⟩:=Kj h;obtain⟨u,g1,g2⟩:=B2 (w:=w) N F h h1;simp only[aD,jC]at h2;refine C (s:=Instr.indexAt t (a.eval y) (a.eval i)) ?_ rfl;rw[h2];exact .stay hi g1 g2
  .simp at B
 case index t y i=>
  split at B
  .rename_i hu;simp at B;obtain⟨rfl,rfl⟩:=B;obtain⟨x1,W,rfl,h1,h2⟩:=e_ (by simpa using hr);obtain⟨s,k,i',rfl,rfl⟩:=Kk h;obtain⟨u,g1,g2⟩:=B3 (ns:=ns) (G:=G) (w:=w) hu h;simp only[aD,jC,oL]at h1 h2;refine C (s:=Instr.index t (a.eval y) (a.eval i)) ?_ rfl;rw[h1,h2];exact .stay hi g1 g2
  .simp at B
 case build t ps=>
  split at B
  .rename_i fs hu;split at B
   .rename_i z pl hz hp;simp at B;obtain⟨rfl,rfl⟩:=B
    have M:(ps.map fun(i,x)=>(i,a.eval x))=((ps.toList.map (·.1)).zip ((ps.toList.map (·.2)).map a.eval)).toArray:=by
     apply zbN;rw[zcF];exact tq a.eval ps.toList
    refine C (s:=Instr.build t (ps.map fun(i,x)=>(i,a.eval x))) ?_ rfl;rw[M];obtain⟨u,g1,g2⟩:=B6 (w:=w) hz hp hr (by simp) h;exact .stay hi g1 g2
   .simp at B
  .simp at B
 case buildSlice t n ps=>
  split at B
  .rename_i e N;split at B
   .rename_i sz z F hz;simp only[zab,zag,zaw]at B;obtain⟨⟨hn,X,h0,hb⟩,O,rfl⟩:=B;simp at O;subst O
    have M:(ps.map fun(i,x)=>(i,a.eval x))=((List.range' 0 ((ps.toList.map (·.2)).map a.eval).length).zip ((ps.toList.map (·.2)).map a.eval)).toArray:=by
     apply zbN;rw[zcF];exact tj a.eval ps.toList 0 X
    refine C (s:=Instr.buildSlice t n (ps.map fun(i,x)=>(i,a.eval x))) ?_ rfl;rw[M];obtain⟨u,c,g1,g2⟩:=zT N F hz (by simp[hn]) h0 hb hr hi h;exact⟨u,_,_,g1,g2,hi.vJ c e,Gh.uI hi c,bZ.vJ hi c e⟩
   .simp at B
  .simp at B
 case load t y=>
  split at B
  .rename_i sz ag F V;split at B
   .rename_i tx;split at B
    .simp at B
    .split at B
     .simp at B
     .simp at B;obtain⟨rfl,rfl⟩:=B;obtain⟨K,rfl,h1⟩:=cC (by simpa using hr);obtain⟨cs,rfl,h2⟩:=Kl h;simp only[aD]at h1;obtain⟨b,o,vs,e,ha,a2⟩:=h1;refine C (s:=Instr.loadAt t (a.eval (.tmp tx))) ?_ rfl;rw[e];obtain⟨u,g1,g2⟩:=pE (ns:=ns) (w:=w) F V h2 a2 (fun j v hj=>hi.known _ _ _ (ha j v hj));exact .stay hi (by simp[Instr.loadAt,Instr.sureAddr,g1]) g2
   .simp at B
  .simp at B
 case nilCheck y=>
  simp at B;obtain⟨rfl,rfl⟩:=B;obtain⟨K,rfl,h1⟩:=cC (by simpa using hr);simp only[bK]at h;split at h
  .simp at h;subst h;have J:=h1;simp only[aD]at h1;obtain⟨b,e,L⟩:=h1;exact⟨a.eval y,w,G,by simp[execOp,L],J,hi,G.le_refl,bZ.refl G w⟩
  .simp at h;subst h;have J:=h1;simp only[aD]at h1;obtain⟨b,e,L⟩:=h1;exact⟨a.eval y,w,G,by simp[execOp,L],J,hi,G.le_refl,bZ.refl G w⟩
  .simp at h;subst h;have J:=h1;simp only[aD]at h1;obtain⟨b,o,vs,L,_⟩:=h1;exact⟨a.eval y,w,G,by simp[execOp,L],J,hi,G.le_refl,bZ.refl G w⟩
  .simp at h;subst h;have J:=h1;simp only[aD]at h1;obtain⟨f,vs,_,L,_⟩:=h1;exact⟨a.eval y,w,G,by simp[execOp,L],J,hi,G.le_refl,bZ.refl G w⟩
  .simp at h
 case makeFunc fn first cap=>
  split at B
  .rename_i f;split at B
   .rename_i hf;simp only[zac]at B;obtain⟨g,hg,B⟩:=B;simp at B;obtain⟨rfl,rfl⟩:=B;simp[bK]at h;subst h;refine C (s:=Instr.makeFunc (.func f) (first.map a.eval) (cap.map a.eval)) ?_ rfl;have Q:first=#[]:=by simpa using hf
    subst Q;refine .stay (v:=.func (.func f) #[] (cap.map a.eval)) hi (by simp[Instr.makeFunc]) ?_;simp only[aD];exact⟨f,cap.toList.map a.eval,hg,by congr 1;apply zbN;simp,hr⟩
   .simp at B
  .simp at B
 case slice t y lo U mx=>
  split at B
  .rename_i e hu;split at B
   .rename_i Z;simp only[zac]at B;obtain⟨sz,F,B⟩:=B;simp only[zaw,AK.v.injEq]at B;obtain⟨rfl,rfl⟩:=B;cases vals with
    |nil=>simp[aA]at hr
    |cons x0 rest=>
     simp only[zan,aA]at hr;obtain⟨v,r,e1,h1,h2⟩:=hr;simp only[zbz]at e1;obtain⟨rfl,rfl⟩:=e1;simp only[bK]at h;obtain⟨u,g1,g2⟩:=zU (w:=w) hu F Z.1 h2 h1 h;exact C (s:=Instr.sliceAt t (a.eval y) (lo.map a.eval) (U.map a.eval) (mx.map a.eval)) (.stay hi g1 g2) rfl
   .simp only[zac]at B;obtain⟨sz,F,B⟩:=B;simp only[zaw,AK.v.injEq]at B;obtain⟨rfl,rfl⟩:=B;cases vals with
    |nil=>simp[aA]at hr
    |cons x0 rest=>
     simp only[zan,aA]at hr;obtain⟨v,r,e1,h1,h2⟩:=hr;simp only[zbz]at e1;obtain⟨rfl,rfl⟩:=e1;simp only[bK]at h;obtain⟨u,g1,g2⟩:=B8 (w:=w) hu F h2 h1 h;exact C (s:=Instr.sliceAt t (a.eval y) (lo.map a.eval) (U.map a.eval) (mx.map a.eval)) (.stay hi g1 g2) rfl
  .rename_i hu;split at B
   .simp at B
   .rename_i a4;simp only[zag,zaw,AK.v.injEq]at B;obtain⟨rfl,rfl⟩:=B;cases vals with
    |nil=>simp[aA]at hr
    |cons x0 rest=>
     simp only[zan,aA]at hr;obtain⟨v,r,e1,h1,h2⟩:=hr;simp only[zbz]at e1;obtain⟨rfl,rfl⟩:=e1;simp only[bK]at h;obtain⟨u,g1,g2⟩:=ur (w:=w) hu (by simpa using a4) h2 h1 h;exact C (s:=Instr.sliceAt t (a.eval y) (lo.map a.eval) (U.map a.eval) (mx.map a.eval)) (.stay hi g1 g2) rfl
  .simp at B
 case call c=>
  obtain⟨callee,H,E⟩:=c;simp only at B;split at B
  .-- len
   split at B
   .rename_i y e D ht;simp only[zag,zaw,AK.v.injEq]at B;obtain⟨rfl,rfl⟩:=B;simp only[zau]at ht;obtain⟨t,T,S⟩:=ht;obtain⟨K,rfl,h1⟩:=cC (by simpa using hr);have I:H=#[y]:=by apply zbN;simpa using D
    subst I
    have R:∀base n c,(Builtin.len_ E type #[.slice base n c]).run P w=.ok (goInt n) w:=by
     intro base n c;simp[Builtin.len_,T,zaR S]
    refine C (s:=Builtin.len_ E type #[a.eval y]) ?_ ?_
    .simp only[bK]at h;split at h
     .simp at h;subst h;simp only[aD]at h1;obtain⟨b,cap,_,L,_⟩:=h1;rw[L];exact .stay hi (R _ _ _) dP
     .rename_i x0 _;simp only[zac]at h;obtain⟨l,hl,rfl⟩:=h;obtain⟨b,len,cap,L,_,Y,_⟩:=cJ.1 (f_ hl h1);rw[L];refine .stay hi (R _ _ _) ?_;rw[Y];exact dP
    .simp[execOp,resolve,invoke,builtin]
   .rename_i y D ht;simp only[zag,zaw,AK.v.injEq]at B;obtain⟨rfl,rfl⟩:=B;simp only[zau]at ht;obtain⟨t,T,S⟩:=ht;obtain⟨K,rfl,h1⟩:=cC (by simpa using hr);have I:H=#[y]:=by apply zbN;simpa using D
    subst I;obtain⟨s,rfl,rfl⟩:=NP h;simp only[aD,oL]at h1;refine C (s:=Builtin.len_ E type #[a.eval y]) ?_ ?_
    .rw[h1];refine .stay (v:=goInt (ByteArray.mk s.toArray).size) hi (by simp[Builtin.len_,T,zaR S]) ?_;have:(ByteArray.mk s.toArray).size=s.length:=by simp[ByteArray.size]
     rw[this];exact dP
    .simp[execOp,resolve,invoke,builtin]
   .simp at B
  .split at B
   .rename_i y z D;simp only[zag,zaw,AK.v.injEq]at B;obtain⟨rfl,rfl⟩:=B;have I:H=#[y,z]:=by apply zbN;simpa using D
    subst I;obtain⟨x1,W,rfl,h1,h2⟩:=e_ (by simpa using hr);obtain⟨k,p,q,rfl,rfl,rfl⟩:=Xy h;simp only[aD,jC]at h1 h2;refine C (s:=Builtin.min_ E type #[a.eval y,a.eval z]) ?_ ?_
    .rw[h1,h2];exact .stay hi (by simp[Builtin.min_,Builtin.min2]) dP
    .simp[execOp,resolve,invoke,builtin]
   .simp at B
  .split at B
   .rename_i y z D;simp only[zag,zaw,AK.v.injEq]at B;obtain⟨rfl,rfl⟩:=B;have I:H=#[y,z]:=by apply zbN;simpa using D
    subst I;obtain⟨x1,W,rfl,h1,h2⟩:=e_ (by simpa using hr);obtain⟨k,p,q,rfl,rfl,rfl⟩:=Xz h;simp only[aD,jC]at h1 h2;refine C (s:=Builtin.max_ E type #[a.eval y,a.eval z]) ?_ ?_
    .rw[h1,h2];exact .stay hi (by simp[Builtin.max_,Builtin.max2]) dP
    .simp[execOp,resolve,invoke,builtin]
   .simp at B
  .split at B
   .split at B
    .split at B
     .split at B
      .simp at B
      .split at B<;>simp at B
     .simp at B
    .simp at B
   .simp at B
  .split at B
   .split at B
    .split at B<;>simp at B
    .simp at B
   .simp at B
  .split at B
   .split at B<;>simp at B
   .simp at B
  .split at B
   .split at B
    .rw[zab]at B;obtain⟨_,B⟩:=B;split at B
     .split at B
      .simp at B
      .simp at B
     .simp at B
    .split at B
     .simp at B
     .split at B
      .simp at B
      .split at B<;>simp at B
   .simp at B
  .split at B<;>simp at B
  .simp at B
 case store t y v=>
  split at B
  .split at B
   .simp at B
   .split at B<;>simp at B
  .simp at B
 case alloc t=>
  split at B
  .split at B
   .split at B<;>simp at B
   .simp at B
   .simp at B
  .simp at B
 case box t y=>
  split at B
  .split at B
   .split at B<;>simp at B
   .simp at B
   .split at B<;>simp at B
  .simp at B
 case makeSlice t l c=>
  split at B
  .split at B
   .split at B
    .split at B
     .split at B<;>simp at B
     .simp at B
     .simp at B
    .simp at B
   .simp at B
  .simp at B
 case makeMap t r=>split at B<;>simp at B
 case lookup t y i ok=>
  split at B
  .split at B<;>simp at B
  .simp at B
 case mapUpdate t m i y=>
  split at B<;>simp at B
 case insert t m i y=>
  split at B<;>simp at B
 all_goals simp at B
def cB:∀(l:List (Nat×α))(k:Nat)(v:α),look (dh l k v) k=some v
 |[],k,v=>by simp[dh,look]
 |(k',u)::r,k,v=>by
  simp only[dh];split
  .rename_i h;simp[look,h]
  .rename_i h;simp[look,h,cB r k v]
def b_:∀(l:List (Nat×α))(k k':Nat)(v:α),k≠k'->look (dh l k v) k'=look l k'
 |[],k,k',v,h=>by simp[dh,look,h]
 |(a,u)::r,k,k',v,h=>by
  simp only[dh];split
  .rename_i h0;subst h0;simp[look,h]
  .simp only[look];split
   .rfl
   .exact b_ r k k' v h
structure nB(G:Gh)(w w':World)(b:Nat):Prop where
 size:w'.heap.size=w.heap.size
 other:∀k,k≠b->w'.heap[k]?=w.heap[k]?
 os:w'.os=w.os
 tape:w'.tape=w.tape
 output:w'.output=w.output
def nB.setRow(b:Nat)(c:Array Value):nB G w (w.setRow b c) b:=
 ⟨setRow_size _ _ _,fun k h=>setRow_other _ _ _ _ h,rfl,rfl,rfl⟩
def nB.BI(h:nB G w w' b)(c:G.role b≠.eM):bZ G w G w' where
 size:=by rw[h.size];exact zal _
 os:=h.os
 tape:=h.tape
 output:=h.output
 K:=G.K.le_refl
 sm:=fun _ _ h=>h
 eM:=fun _ _ hr=>⟨hr,h.other _ (fun e=>c (e ▸ hr))⟩
 kL:=fun _ τ _ hr=>.inr ⟨τ,hr⟩
 jK:=fun _ _ _ _ _ a=>a
def nB.known(hi:Inv ρ G w mem sh aa)(h:nB G w w' b)
   (f:G.role b≠.eM) (d:∀τ,G.role b≠.tok τ):∀a o v,G.K a o=some v->w'.cell? ⟨a,o,none⟩=some v:=by
 intro a o v e
 have c:a≠b:=by
  rintro rfl
  rcases hi.bn _ _ _ e with h1|⟨τ,h1⟩
  .exact f h1
  .exact d τ h1
 have:=hi.known a o v e;unfold World.cell? at this⊢;simp only at this⊢;rw[h.other a c];exact this
def nB.tok(hi:Inv ρ G w mem sh aa)(h:nB G w w' b)
   (d:∀τ,G.role b≠.tok τ):∀τ n,aa[τ]?=some n->∃t,G.tk τ=some t/\t.len=n/\Z_ G w' τ t:=by
 intro τ n hn;obtain⟨t,e1,e2,e3⟩:=hi.dO τ n hn;refine⟨t,e1,e2,e3.cap,e3.zero,fun a=>?_⟩;obtain⟨f,o,c,ty,f1,f2,f3,g,f5⟩:=e3.spare a;exact⟨f,o,c,ty,f1,f2,by rw[h.other f (fun e=>d τ (e ▸ f2))];exact f3,g,f5⟩
def Inv.Km(hi:Inv ρ G w mem sh aa)
   (hl:look mem d=some vals) (hp:G.pm d=some b) (hr:aA ρ G cells' c'.toList) (v:cells'.all a9=true):
   Inv ρ G (w.setRow b c') (dh mem d cells') sh aa/\bZ G w G (w.setRow b c'):=by
 obtain⟨b0,e1,e2,e3⟩:=hi.dz d vals hl;have:b0=b:=by rw[hp]at e1;simpa using e1.symm
 subst this;obtain⟨a,c,t,r,_⟩:=e2;have h:G.role b0≠.eM:=by rw[a];simp
 have m:∀τ,G.role b0≠.tok τ:=by intro τ;rw[a];simp
 have j:=nB.setRow (G:=G) (w:=w) b0 c';refine⟨⟨j.known hi h m,hi.bn,?_,?_,?_,?_,hi.ix,j.tok hi m,hi.iE,hi.kM (j.BI h)⟩,j.BI h⟩
 .intro k p;rw[j.size]at p;exact hi.fresh k p
 .intro n cs e;by_cases f:d=n
  .subst f;rw[cB]at e;simp at e;subst e;exact⟨b0,hp,⟨a,c',t,setRow_heap _ _ _ _ _ _ r,hr⟩,v⟩
  .rw[b_ _ _ _ _ f]at e;obtain⟨l,g1,g2,o⟩:=hi.dz n cs e;refine⟨l,g1,⟨g2.role,?_⟩,o⟩;obtain⟨c2,q,i,g⟩:=g2.at_;refine⟨c2,q,?_,g⟩;rw[j.other l]
   .exact i
   .rintro rfl
    have:=g2.role;rw[a]at this;simp at this;exact f this
 .intro n l e;by_cases f:d=n
  .subst f;rw[cB];rfl
  .rw[b_ _ _ _ _ f];exact hi.jJ n l e
 .intro s cs hs;obtain⟨l,g1,g2,o⟩:=hi.eD s cs hs;refine⟨l,g1,⟨g2.role,?_⟩,o⟩;obtain⟨o2,i,g⟩:=g2.at_;refine⟨o2,?_,g⟩;rw[j.other l.1]
  .exact i
  .intro u;have:=g2.role;rw[u,a]at this;simp at this
def Inv.Ko(hi:Inv ρ G w mem sh aa){b:Nat×Nat}
   (hl:sh[s]?=some (some vals)) (hp:G.sm s=some b) (f:nB G w w' b.1) (q:w'.heap[b.1]?=some o') (hr:Holds ρ G o' b.2 cells') (r:cells'.all eo=true) (hf:cells'.all (aN (s+1))=true):
   Inv ρ G w' mem (sh.set s (some cells')) aa/\bZ G w G w':=by
 obtain⟨b0,e1,e2,e3⟩:=hi.eD s vals hl;have:b0=b:=by rw[hp]at e1;simpa using e1.symm
 subst this;have a:=e2.role;have d:G.role b0.1≠.eM:=by rw[a];simp
 have i:∀τ,G.role b0.1≠.tok τ:=by intro τ;rw[a];simp
 refine⟨⟨f.known hi d i,hi.bn,?_,?_,hi.jJ,?_,?_,f.tok hi i,hi.iE,hi.kM (f.BI d)⟩,f.BI d⟩
 .intro k o;rw[f.size]at o;exact hi.fresh k o
 .intro t cs m;obtain⟨g,g1,g2,n⟩:=hi.dz t cs m;refine⟨g,g1,⟨g2.role,?_⟩,n⟩;obtain⟨c2,p,e,c⟩:=g2.at_;refine⟨c2,p,?_,c⟩;rw[f.other g]
  .exact e
  .rintro rfl
   have:=g2.role;rw[a]at this;simp at this
 .intro s' cs hs;rw[zax]at hs;split at hs
  .rename_i l;subst l;split at hs
   .simp at hs;subst hs;exact⟨b0,hp,⟨a,o',q,hr⟩,r,hf⟩
   .simp at hs
  .rename_i j;obtain⟨g,g1,g2,n⟩:=hi.eD s' cs hs;refine⟨g,g1,⟨g2.role,?_⟩,n⟩;obtain⟨o2,e,c⟩:=g2.at_;refine⟨o2,?_,c⟩;rw[f.other g.1]
   .exact e
   .intro l;have:=g2.role;rw[l,a]at this;simp at this;exact j this
 .intro s' g h;simpa using hi.ix s' g h
def Inv.vM(hi:Inv ρ G w mem sh aa){b:Nat×Nat}{t:TypeId}
   (hl:sh[s]?=some (some vals)) (hp:G.sm s=some b) (e:w.heap[b.1]?=some (.cells c t (0,0))) (a:c'.size=b.2) (d:c'.toList=vs++suf) (hr:aA ρ G cells' vs) (f:cells'.all eo=true) (hf:cells'.all (aN (s+1))=true):
   Inv ρ G (w.setRow b.1 c') mem (sh.set s (some cells')) aa/\bZ G w G (w.setRow b.1 c'):=
 hi.Ko hl hp (nB.setRow b.1 c') (setRow_heap _ _ _ _ _ _ e) (.inl ⟨c',t,vs,suf,rfl,a,d,hr⟩) f hf
def Gh.dT(G:Gh)(d b:Nat):Gh:={G with role:=fun k=>if k=b then .nO d else G.role k,pm:=fun k=>if k=d then some b else G.pm k}
def Gh.dJ(G:Gh)(s b n:Nat):Gh:={G with role:=fun k=>if k=b then .shr s else G.role k,sm:=fun k=>if k=s then some (b,n)else G.sm k}
theorem Inv.yy(hi:Inv ρ G w mem sh aa)(t:TypeId)
   (hl:look mem d=none) (hr:aA ρ G vals c.toList) (p:vals.all a9=true):
   Inv ρ (G.dT d w.heap.size) (w.alloc (.cells c t)) (dh mem d vals) sh aa/\G.le (G.dT d w.heap.size)/\bZ G w (G.dT d w.heap.size) (w.alloc (.cells c t)):=by
 have r:G.pm d=none:=by
  cases h:G.pm d with
  |none=>rfl
  |some b=>have:=hi.jJ d b h;rw[hl]at this;simp at this
 have i:G.le (G.dT d w.heap.size):=⟨G.K.le_refl,fun k b h=>by
  simp only[Gh.dT];split
  .rename_i e;subst e;rw[r]at h;simp at h
  .exact h,fun _ _ h=>h,fun _ t h=>⟨t,h,⟨zal _,t.jA⟩,fun _=>rfl⟩⟩
 have j:bZ G w (G.dT d w.heap.size) (w.alloc (.cells c t)):={
           size:=by simp,os:=rfl,tape:=rfl,output:=rfl,K:=G.K.le_refl,sm:=fun _ _ h=>h,
           eM:=fun b p hr=>⟨by simp only[Gh.dT];rw[zad (by omega)];exact hr,bu p⟩
           kL:=fun b τ p hr=>.inr ⟨τ,by simp only[Gh.dT];rw[zad (by omega)];exact hr⟩
           jK:=fun _ _ _ _ _ l=>l}
 refine⟨⟨?_,?_,?_,?_,?_,?_,hi.ix,?_,hi.iE,hi.kM j⟩,i,j⟩
 .intro b o v l;have f:b<w.heap.size:=hi.kO (o:=o) (v:=v) l;rw[zcW _ _ ⟨b,o,none⟩ f];exact hi.known b o v l
 .intro b o v l;have:=hi.kO (o:=o) (v:=v) l;simp only[Gh.dT];rw[zad (by omega)];exact hi.bn b o v l
 .intro b u;simp at u;simp only[Gh.dT];rw[zad (by omega)];exact hi.fresh b (by omega)
 .intro q cs a;by_cases g:d=q
  .subst g;rw[cB]at a;simp at a;subst a;exact⟨w.heap.size,by simp[Gh.dT],⟨by simp[Gh.dT],c,t,heap_alloc_new,aA.mono i hr⟩,p⟩
  .rw[b_ _ _ _ _ g]at a;obtain⟨m,g1,g2,x⟩:=hi.dz q cs a;have f:m<w.heap.size:=by obtain⟨_,_,y,_⟩:=g2.at_;exact dv y
   exact⟨m,by simp only[Gh.dT];rw[zad (zcG g)];exact g1,g2.mono i (by simp only[Gh.dT];rw[zad (by omega)]) (bu f),x⟩
 .intro q m a;by_cases g:d=q
  .subst g;rw[cB];rfl
  .rw[b_ _ _ _ _ g];simp only[Gh.dT]at a;rw[zad (zcG g)]at a;exact hi.jJ q m a
 .intro s cs hs;obtain⟨m,g1,g2,x⟩:=hi.eD s cs hs;have f:m.1<w.heap.size:=g2.lt;exact⟨m,g1,g2.mono i (by simp only[Gh.dT];rw[zad (by omega)]) (bu f),x⟩
 .intro τ n hn;obtain⟨tk,e1,e2,e3⟩:=hi.dO τ n hn;refine⟨tk,e1,e2,e3.cap,e3.zero,fun f=>?_⟩;obtain⟨b,o,A,ty,f1,f2,f3,z,f5⟩:=e3.spare f;have p:=dv f3;exact⟨b,o,A,ty,f1,by simp only[Gh.dT];rw[zad (by omega)];exact f2,(bu p).trans f3,z,f5⟩
theorem Inv.Fb(hi:Inv ρ G w mem sh aa){cells:List AV}
   (hr:Holds ρ G o' N cells) (g:cells.all eo=true) (hf:cells.all (aN (sh.length+1))=true):
   Inv ρ (G.dJ sh.length w.heap.size N) (w.alloc o') mem (sh++[some cells]) aa/\G.le (G.dJ sh.length w.heap.size N)/\bZ G w (G.dJ sh.length w.heap.size N) (w.alloc o'):=by
 have j:G.sm sh.length=none:=by
  cases h:G.sm sh.length with
  |none=>rfl
  |some b=>have:=hi.ix _ b h;omega
 have c:G.le (G.dJ sh.length w.heap.size N):=⟨G.K.le_refl,fun _ _ h=>h,fun k b h=>by
  simp only[Gh.dJ];split
  .rename_i e;subst e;rw[j]at h;simp at h
  .exact h,fun _ t h=>⟨t,h,⟨zal _,t.jA⟩,fun _=>rfl⟩⟩
 have d:bZ G w (G.dJ sh.length w.heap.size N) (w.alloc o'):={
           size:=by simp,os:=rfl,tape:=rfl,output:=rfl,K:=G.K.le_refl,sm:=c.sm,
           eM:=fun b g hr=>⟨by simp only[Gh.dJ];rw[zad (by omega)];exact hr,bu g⟩
           kL:=fun b τ g hr=>.inr ⟨τ,by simp only[Gh.dJ];rw[zad (by omega)];exact hr⟩
           jK:=fun _ _ _ _ _ f=>f}
 refine⟨⟨?_,?_,?_,?_,hi.jJ,?_,?_,?_,hi.iE,hi.kM d⟩,c,d⟩
 .intro b o v f;have a:b<w.heap.size:=hi.kO (o:=o) (v:=v) f;rw[zcW _ _ ⟨b,o,none⟩ a];exact hi.known b o v f
 .intro b o v f;have:=hi.kO (o:=o) (v:=v) f;simp only[Gh.dJ];rw[zad (by omega)];exact hi.bn b o v f
 .intro b p;simp at p;simp only[Gh.dJ];rw[zad (by omega)];exact hi.fresh b (by omega)
 .intro y cs m;obtain⟨i,g1,g2,q⟩:=hi.dz y cs m;have a:i<w.heap.size:=by obtain⟨_,_,r,_⟩:=g2.at_;exact dv r
  exact⟨i,g1,g2.mono c (by simp only[Gh.dJ];rw[zad (by omega)]) (bu a),q⟩
 .intro s cs hs;rw[zbv]at hs;split at hs
  .obtain⟨i,g1,g2,q⟩:=hi.eD s cs hs;have a:i.1<w.heap.size:=g2.lt;exact⟨i,c.sm _ _ g1,g2.mono c (by simp only[Gh.dJ];rw[zad (by omega)]) (bu a),q⟩
  .rename_i u
   have l:s=sh.length:=by
    rcases zbL (s-sh.length) 1 with h|h
    .omega
    .rw[zaX (by simpa using h)]at hs;simp at hs
   subst l;simp at hs;subst hs;exact⟨(w.heap.size,N),by simp[Gh.dJ],⟨by simp[Gh.dJ],o',heap_alloc_new,hr.mono c⟩,g,hf⟩
 .intro s b h;simp only[Gh.dJ]at h;split at h
  .rename_i e;subst e;simp
  .have:=hi.ix s b h;simp;omega
 .intro τ n hn;obtain⟨tk,e1,e2,e3⟩:=hi.dO τ n hn;refine⟨tk,e1,e2,e3.cap,e3.zero,fun a=>?_⟩;obtain⟨b,o,z,ty,f1,f2,f3,x,f5⟩:=e3.spare a;have g:=dv f3;exact⟨b,o,z,ty,f1,by simp only[Gh.dJ];rw[zad (by omega)];exact f2,(bu g).trans f3,x,f5⟩
def Inv.qI(hi:Inv ρ G w mem sh aa){cells:List AV}(t:TypeId)
   (hr:aA ρ G cells c.toList) (a:cells.all eo=true) (hf:cells.all (aN (sh.length+1))=true):
   Inv ρ (G.dJ sh.length w.heap.size c.size) (w.alloc (.cells c t)) mem (sh++[some cells]) aa/\G.le (G.dJ sh.length w.heap.size c.size)/\bZ G w (G.dJ sh.length w.heap.size c.size) (w.alloc (.cells c t)):=
 hi.Fb (Holds.full hr) a hf
structure pU(G:Gh)(aa toks':aH)(τ n:Nat):Prop where
 at_:toks'[τ]?=some n
 other:∀σ,σ≠τ->toks'[σ]?=aa[σ]?
 aQ:∀t,G.tk τ=some t->t.len<n
def Gh.bD(G:Gh)(τ:Nat)(t:Tk)(role:Nat->pR)(K:bA):Gh:=
 {G with K,role,tk:=fun σ=>if σ=τ then some t else G.tk σ}
def Gh.sa{S:Tk}{role:Nat->pR}(hK:G.K.le K)(b:∀t0,G.tk τ=some t0->(t0.len<=S.len/\t0.on S)/\(t0.len=S.len->S=t0)):G.le (G.bD τ S role K) where
 K:=hK
 pm:=fun _ _ h=>h
 sm:=fun _ _ h=>h
 tk:=fun σ t0 h=>by
  simp only[Gh.bD];by_cases a:σ=τ
  .subst a;simp only[za4];obtain⟨h1,h2⟩:=b t0 h;exact⟨S,rfl,h1,h2⟩
  .rw[zad a];exact⟨t0,h,⟨zal _,Tk.jA _⟩,fun _=>rfl⟩
def fW(G:Gh)(b τ:Nat):Nat->pR:=fun k=>if k=b then .tok τ else if G.role k=.tok τ then .eM else G.role k
def kP(G:Gh)(b m:Nat)(c:Array Value):bA:=fun k o=>if k=b then(if o<m then c[o]? else none)else G.K k o
def Inv.grow(hi:Inv ρ G w mem sh aa){t:Tk}(ty:TypeId)
   (q:t.base=some ⟨w.heap.size,0,none⟩) (C:t.cap*t.sz<=c.size) (hl:t.len<=t.cap) (h0:0<t.len) (hu:pU G aa toks' τ t.len) (y:∀t0,G.tk τ=some t0->¬t0.dead/\t0.cap<t.len):
   Inv ρ (G.bD τ t (fW G w.heap.size τ) (kP G w.heap.size (t.len*t.sz) c)) (w.alloc (.cells c ty)) mem sh toks' /\
   G.le (G.bD τ t (fW G w.heap.size τ) (kP G w.heap.size (t.len*t.sz) c))/\
   bZ G w (G.bD τ t (fW G w.heap.size τ) (kP G w.heap.size (t.len*t.sz) c)) (w.alloc (.cells c ty)):=by
 have hK:G.K.le (kP G w.heap.size (t.len*t.sz) c):=fun b o v a=>by
  have:=hi.kO a;simp only[kP];rw[zad (by omega)];exact a
 have m:G.le (G.bD τ t (fW G w.heap.size τ) (kP G w.heap.size (t.len*t.sz) c)):=
   Gh.sa hK fun t0 h=>by have:=hu.aQ t0 h;exact⟨⟨by omega,fun d=>absurd d (y t0 h).1,.inr (.inl (y t0 h).2)⟩,by omega⟩
 have g:∀b r,b<w.heap.size->G.role b=r->(∀σ,r≠.tok σ)->fW G w.heap.size τ b=r:=by
  intro b r q hr hn;simp only[fW];rw[zad (by omega),zad (by rw[hr];exact hn τ),hr]
 have l:bZ G w (G.bD τ t (fW G w.heap.size τ) (kP G w.heap.size (t.len*t.sz) c)) (w.alloc (.cells c ty)):={
           size:=by simp,os:=rfl,tape:=rfl,output:=rfl,K:=hK,sm:=fun _ _ h=>h,
           eM:=fun b q hr=>⟨g b _ q hr (by simp),bu q⟩
           kL:=fun b σ q hr=>by
            simp only[Gh.bD,fW];rw[zad (by omega)];split
            .exact .inl rfl
            .exact .inr ⟨σ,hr⟩
           jK:=fun b o v q _ a=>by
            simp only[Gh.bD,kP]at a
            rwa [zad (by omega)]at a}
 refine⟨⟨?_,?_,?_,?_,hi.jJ,?_,hi.ix,?_,?_,hi.kM l⟩,m,l⟩
 .intro b o v a;simp only[Gh.bD,kP]at a;split at a
  .rename_i e;subst e;split at a
   .simp[a]
   .simp at a
  .have f:b<w.heap.size:=hi.kO (o:=o) (v:=v) a;rw[zcW _ _ ⟨b,o,none⟩ f];exact hi.known b o v a
 .intro b o v a;simp only[Gh.bD,kP]at a;simp only[Gh.bD,fW];split at a
  .rename_i e;subst e;exact .inr ⟨τ,by simp⟩
  .rename_i e;rw[zad e];split
   .exact .inl rfl
   .exact hi.bn b o v a
 .intro b p;simp at p;simp only[Gh.bD,fW];rw[zad (by omega)];have:=hi.fresh b (by omega);rw[this];simp
 .intro d cs hd;obtain⟨k,g1,g2,x⟩:=hi.dz d cs hd;have f:k<w.heap.size:=by obtain⟨_,_,z,_⟩:=g2.at_;exact dv z
  exact⟨k,g1,g2.mono m ((g k _ f g2.role (by simp)).trans g2.role.symm) (bu f),x⟩
 .intro s cs hs;obtain⟨k,g1,g2,x⟩:=hi.eD s cs hs;have f:k.1<w.heap.size:=g2.lt;exact⟨k,g1,g2.mono m ((g k.1 _ f g2.role (by simp)).trans g2.role.symm) (bu f),x⟩
 .intro σ n hn;by_cases i:σ=τ
  .subst i;rw[hu.at_]at hn;simp at hn;refine⟨t,by simp[Gh.bD],hn,hl,fun h=>by omega,fun f=>⟨w.heap.size,0,c,ty,q,by simp[Gh.bD,fW],heap_alloc_new,by omega,fun j v a=>?_⟩⟩;simp only[Gh.bD,kP,za4]at a;split at a
   .omega
   .simp at a
  .rw[hu.other σ i]at hn;obtain⟨t0,e1,e2,e3⟩:=hi.dO σ n hn;refine⟨t0,by simp only[Gh.bD];rw[zad i];exact e1,e2,e3.cap,e3.zero,fun f=>?_⟩;obtain⟨k,o,B,u,f1,f2,f3,A,f5⟩:=e3.spare f;have p:=dv f3;refine⟨k,o,B,u,f1,?_,(bu p).trans f3,A,fun j v a=>f5 j v ?_⟩
   .simp only[Gh.bD,fW];rw[zad (by omega),zad (by rw[f2];simp;exact i)];exact f2
   .simp only[Gh.bD,kP]at a
    rwa [zad (by omega)]at a
 .intro σ t0 h;simp only[Gh.bD]at h;split at h
  .rename_i e;subst e;simp at h;subst h;exact hu.at_
  .rename_i e;rw[hu.other σ e];exact hi.iE σ t0 h
def Inv.SF(hi:Inv ρ G w mem sh aa){t:Tk}
   (hl:t.cap=t.len) (i:t.own=false) (hn:G.tk τ=none) (h1:toks'[τ]?=some t.len) (h2:∀σ,σ≠τ->toks'[σ]?=aa[σ]?):
   Inv ρ (G.bD τ t G.role G.K) w mem sh toks'/\G.le (G.bD τ t G.role G.K)/\bZ G w (G.bD τ t G.role G.K) w:=by
 have g:G.le (G.bD τ t G.role G.K):=Gh.sa G.K.le_refl fun t0 h=>by rw[hn]at h;simp at h
 have c:bZ G w (G.bD τ t G.role G.K) w:={
           size:=zal _,os:=rfl,tape:=rfl,output:=rfl,K:=G.K.le_refl,sm:=fun _ _ h=>h,
           eM:=fun b m hr=>⟨hr,rfl⟩,kL:=fun b σ m hr=>.inr ⟨σ,hr⟩,jK:=fun _ _ _ _ _ l=>l}
 refine⟨⟨hi.known,hi.bn,hi.fresh,?_,hi.jJ,?_,hi.ix,?_,?_,hi.kM c⟩,g,c⟩
 .intro d cs hd;obtain⟨k,g1,g2,j⟩:=hi.dz d cs hd;exact⟨k,g1,g2.mono g rfl rfl,j⟩
 .intro d cs hd;obtain⟨k,g1,g2,j⟩:=hi.eD d cs hd;exact⟨k,g1,g2.mono g rfl rfl,j⟩
 .intro σ n a;by_cases f:σ=τ
  .subst f;rw[h1]at a;simp at a;exact⟨t,by simp[Gh.bD],a,by omega,fun _=>by omega,fun h=>h.elim (fun h=>by omega) (fun h=>by rw[i]at h;cases h)⟩
  .rw[h2 σ f]at a;obtain⟨t0,e1,e2,e3⟩:=hi.dO σ n a;exact⟨t0,by simp only[Gh.bD];rw[zad f];exact e1,e2,e3.cap,e3.zero,e3.spare⟩
 .intro σ t0 h;simp only[Gh.bD]at h;split at h
  .rename_i e;subst e;simp at h;subst h;exact h1
  .rename_i e;rw[h2 σ e];exact hi.iE σ t0 h
def kQ(G:Gh)(b o:Nat)(l:List Value):bA:=fun k j=>if k=b/\o<=j/\j<o+l.length then l[j-o]? else G.K k j
def Inv.fill(hi:Inv ρ G w mem sh aa){o:Nat}{t:Tk}
   (ht:G.tk τ=some t) (O:t.base=some ⟨b,o,none⟩) (a:G.role b=.tok τ) (N:w.heap[b]?=some (.cells c ty (0,0))) (F:o+t.cap*t.sz<=c.size)
   (i:∀j v,G.K b j=some v->j<o+t.len*t.sz) (hl:l.length=n*t.sz) (hn:0<n) (u:t.len+n<=t.cap)
   (z:c'=(c.toList.take (o+t.len*t.sz)++l++c.toList.drop (o+t.len*t.sz+l.length)).toArray) (hu:pU G aa toks' τ (t.len+n)):
   Inv ρ (G.bD τ {t with len:=t.len+n,own:=true} G.role (kQ G b (o+t.len*t.sz) l)) (w.setRow b c') mem sh toks' /\
   G.le (G.bD τ {t with len:=t.len+n,own:=true} G.role (kQ G b (o+t.len*t.sz) l))/\
   bZ G w (G.bD τ {t with len:=t.len+n,own:=true} G.role (kQ G b (o+t.len*t.sz) l)) (w.setRow b c'):=by
 have B:G.role b≠.eM:=by rw[a];simp
 have s:(t.len+n)*t.sz=t.len*t.sz+n*t.sz:=zaG _ _ _;have L:(t.len+n)*t.sz<=t.cap*t.sz:=zaH _ u
 have J:c'.size=c.size:=by
  subst z;simp;omega
 have hK:G.K.le (kQ G b (o+t.len*t.sz) l):=fun k j v f=>by
  simp only[kQ];rw[zad]
  .exact f
  .rintro⟨rfl,h1,_⟩
   have:=i j v f;omega
 have y:G.le (G.bD τ {t with len:=t.len+n,own:=true} G.role (kQ G b (o+t.len*t.sz) l)):=
   Gh.sa hK fun t0 h=>by rw[ht]at h;simp at h;subst h;exact⟨⟨by simp,fun d=>(by rw[Tk.dead,O]at d;simp at d),.inr (.inr ⟨rfl,rfl,.inr rfl⟩)⟩,by simp;omega⟩
 have A:=nB.setRow (G:=G) (w:=w) b c';have p:(w.setRow b c').heap[b]?=some (.cells c' ty (0,0)):=setRow_heap _ _ _ _ _ _ N
 have x:bZ G w (G.bD τ {t with len:=t.len+n,own:=true} G.role (kQ G b (o+t.len*t.sz) l)) (w.setRow b c'):={
           size:=by rw[A.size];exact zal _,os:=rfl,tape:=rfl,output:=rfl,K:=hK,sm:=fun _ _ h=>h,
           eM:=fun k f hr=>⟨hr,A.other k (fun e=>B (e ▸ hr))⟩
           kL:=fun k σ f hr=>.inr ⟨σ,hr⟩
           jK:=fun k j v f hr D=>by
            simp only[Gh.bD,kQ]at D
            rwa [zad (by rintro⟨e,_⟩;subst e;exact B hr)]at D}
 refine⟨⟨?_,?_,?_,?_,hi.jJ,?_,hi.ix,?_,?_,hi.kM x⟩,y,x⟩
 .intro k j v f;simp only[Gh.bD,kQ]at f;split at f
  .rename_i e;obtain⟨rfl,e1,e2⟩:=e;simp only[World.cell?,p];subst z;simp only[zbE,zaV,zbr,List.getElem?_toArray];rw[zao (by simp;omega),zaN (by simp;omega)];have:(c.toList.take (o+t.len*t.sz)).length=o+t.len*t.sz:=by simp;omega
   rw[this];exact f
  .rename_i e;by_cases E:k=b
   .subst E;have hj:=i j v f;have g:=hi.known k j v f;simp only[World.cell?,N,zbE,zaV,zbr]at g;simp only[World.cell?,p];subst z;simp only[zbE,zaV,zbr,List.getElem?_toArray];rw[zao (by simp;omega),zao (by simp;omega),zbG,zai hj];simpa using g
   .have g:=hi.known k j v f;unfold World.cell? at g⊢;simp only at g⊢;rw[A.other k E];exact g
 .intro k j v f;simp only[Gh.bD,kQ]at f;split at f
  .rename_i e;obtain⟨rfl,_⟩:=e;exact .inr ⟨τ,a⟩
  .exact hi.bn k j v f
 .intro k f;rw[A.size]at f;exact hi.fresh k f
 .intro d cs hd;obtain⟨r,g1,g2,M⟩:=hi.dz d cs hd;refine⟨r,g1,g2.mono y rfl (A.other r ?_),M⟩
  rintro rfl
  have:=g2.role;rw[a]at this;simp at this
 .intro d cs hd;obtain⟨r,g1,g2,M⟩:=hi.eD d cs hd;refine⟨r,g1,g2.mono y rfl (A.other r.1 ?_),M⟩;intro P;have:=g2.role;rw[P,a]at this;simp at this
 .intro σ m hm;by_cases q:σ=τ
  .subst q;rw[hu.at_]at hm;simp at hm;refine⟨{t with len:=t.len+n,own:=true},by simp[Gh.bD],hm,u,fun h=>by simp at h;omega,fun C=>⟨b,o,c',ty,O,a,p,by rw[J];exact F,fun j v f=>?_⟩⟩;simp only[Gh.bD,kQ]at f;show j<o+(t.len+n)*t.sz;split at f
   .rename_i e;rw[s];omega
   .have:=i j v f;rw[s];omega
  .rw[hu.other σ q]at hm;obtain⟨t0,e1,e2,e3⟩:=hi.dO σ m hm;refine⟨t0,by simp only[Gh.bD];rw[zad q];exact e1,e2,e3.cap,e3.zero,fun C=>?_⟩;obtain⟨r,o',R,I,f1,f2,f3,Q,f5⟩:=e3.spare C;have H:r≠b:=by rintro rfl;rw[a]at f2;simp at f2;exact q f2.symm
   refine⟨r,o',R,I,f1,f2,(A.other r H).trans f3,Q,fun j v f=>f5 j v ?_⟩;simp only[Gh.bD,kQ]at f
   rwa [zad (by rintro⟨e,_⟩;exact H e)]at f
 .intro σ t0 h;simp only[Gh.bD]at h;split at h
  .rename_i e;subst e;simp at h;subst h;exact hu.at_
  .rename_i e;rw[hu.other σ e];exact hi.iE σ t0 h
def yz(n:Nat):∀(r c:Nat),c<=2*n->256<=c->Builtin.growBy n r c<=2*n
 |0,c,h,_=>h
 |r+1,c,h,h2=>by
  simp only[Builtin.growBy];split
  .exact h
  .exact yz n r _ (by omega) (by omega)
def nextslicecap_le(n c:Nat)(h:c<n):Builtin.nextslicecap n c<=2*n:=by
 unfold Builtin.nextslicecap;split
 .omega
 .split
  .omega
  .exact yz n 4 c (by omega) (by omega)
def kR(k:∀b o u,G.K b o=some u->w.cell? ⟨b,o,none⟩=some u)(hr:Rel G.K (.ae els) v)(hs:bj t els=true)(hn:els.length=n):
   ∃c:List Value,(Builtin.firstCells t n v).run P w=.ok c.toArray w/\c.length=n*t /\
     (∀(K':bA)(h o':Nat),G.K.le K'->At K' h o' c->Row K' h o' t els)/\(∀u∈c,u.oneCell'=true):=by
 obtain⟨base,len,cap,rfl,_,g,f⟩:=cJ.1 hr;by_cases d:els=[]
 .subst d;simp at hn;subst hn;refine⟨[],?_,by simp,fun _ _ _ _ _=>by simp only[Row],by simp⟩;cases base with
  |none=>simp[Builtin.firstCells]
  |some a=>simp[Builtin.firstCells,loadCells,loadCellsFrom]
 .obtain⟨b,o,i,rfl,e⟩:=f.resolve_left d;have:=e.sz hs d;subst this;obtain⟨c,g1,g2,l,g4⟩:=e.flat;refine⟨c,?_,by rw[g1,hn],l,g4⟩;have hl:=zbS (P:=P) w ⟨b,o,none⟩ c (fun j u hj=>by rw[Addr.fU];exact k _ _ _ (g2 j u hj));rw[g1,hn]at hl;simpa[Builtin.firstCells]using hl
def gJ{e1 t1 o:Nat}(h0:argTypes[0]?=some t)(h1:argTypes[1]?=some t1)
   (hu:P.underlying t=some (.slice e)) (d:P.underlying t1=some (.slice e1)) (f:dM P e=some o) (hx:v=.slice xb n xc)
   (b:(Builtin.firstCells o n v).run P w=.ok new w) (c:len+n<=cap):
   (Builtin.append_ argTypes type #[.slice base len cap,v]).run P w =
     match base with
     |some a=>((storeCells (a.add (len*o)) new.toList).run P w).andThen fun _ w'=>.ok (.slice base (len+n) cap) w'
     |none=>.ok (.slice base (len+n) cap) w:=by
 subst hx;cases base with
 |none=>simp[Builtin.append_,h0,h1,zaR hu,zaR d,eK f,Builtin.lenOf,c,b]
 |some a=>simp[Builtin.append_,h0,h1,zaR hu,zaR d,eK f,Builtin.lenOf,c,b]
def mO{e1 t1 sz:Nat}{x:Value}{aQ:Array Value}(h0:argTypes[0]?=some t)(h1:argTypes[1]?=some t1)
   (hu:P.underlying t=some (.slice e)) (m:P.underlying t1=some (.slice e1)) (o:dM P e=some sz) (v:iB P e=some b) (B:dp P e=some z) (A:z.length=sz) (hx:x=.slice xb n xc)
   (d:∀w',w'=w.drew->(Builtin.firstCells sz len (.slice base len cap)).run P w'=.ok aQ w') (f:∀w',w'=w.drew->(Builtin.firstCells sz n x).run P w'=.ok new w')
   (c:cap<len+n) (D:0<b) (h:(len+n)*b<=140737488355328):
   ∃(rest:Array Value)(a:Nat),len+n<=a/\rest.size=(a-(len+n))*sz /\
     (Builtin.append_ argTypes type #[.slice base len cap,x]).run P w =
       .ok (.slice (some ⟨w.heap.size,0,none⟩) (len+n) a) (w.drew.alloc (.cells (aQ++new++rest) e)):=by
 subst hx;obtain⟨i,hi,s,q⟩:=s9 v w
 have g:¬Builtin.nextslicecap (len+n) cap*i.bytes > 2 ^ 48:=by
  have h1:=nextslicecap_le (len+n) cap c;have h2:Builtin.nextslicecap (len+n) cap*i.bytes<=2*(len+n)*i.bytes:=zaH _ h1;have h3:2*(len+n)*i.bytes=2*((len+n)*b):=(by rw[s,Nat.mul_assoc]);rw[h3]at h2;have:(2:Nat)^48=281474976710656:=(by decide);omega
 have p:(Question.appendCap (len+n) cap e).forced=false:=rfl;have r:∀w',(typeInfo e).run P w'=.ok i w':=fun w'=>by simp[typeInfo,hi]
 obtain⟨y,j,l⟩:=jm (P:=P) (w:=w.drew) B;have k:y.cells.size=sz:=by have:=jL l;simp at this;omega
 refine⟨Builtin.zeroCells y.cells ((Question.appendCap (len+n) cap e).cut (w.tape w.drawn (.appendCap (len+n) cap e))-(len+n)),(Question.appendCap (len+n) cap e).cut (w.tape w.drawn (.appendCap (len+n) cap e)),?_,?_,?_⟩
 .simp only[Question.cut];omega
 .simp[Builtin.zeroCells,k]
 .have C:=d w.drew rfl;have hn:=f w.drew rfl;have u:i.bytes≠0:=(by omega);simp[Builtin.append_,h0,h1,zaR hu,zaR m,eK o,Builtin.lenOf,Nat.not_le.2 c,r,u,g,p];simp only[C,hn,j,zam];rfl
def nT(h:dG x=some els)(hr:aD (num ns) G x v):∃xb xc,v=.slice xb els.length xc:=by
 obtain⟨b,l,c,rfl,_,hl,_⟩:=cJ.1 (f_ h hr);exact⟨b,c,by rw[hl]⟩
def Fe{c:Call}{sz:Nat}(h:cp P ns A dst (.call c)=some (.append sz b,args)):
   ∃x y t e t1 e1 z,c.callee=.builtin .append/\c.args=#[x,y]/\args=[x,y]/\c.argTypes[0]?=some t/\c.argTypes[1]?=some t1/\P.underlying t=some (.slice e)/\
     P.underlying t1=some (.slice e1)/\dM P e=some sz/\iB P e=some b/\dp P e=some z/\z.length=sz/\0<sz/\0<b:=by
 obtain⟨callee,i,f⟩:=c;simp only[cp]at h;split at h
 .split at h<;>simp at h
 .split at h<;>simp at h
 .split at h<;>simp at h
 .rename_i j;split at h
  .rename_i x y e e1 n ht a;split at h
   .rename_i k o z hs m l;rw[zab]at h;obtain⟨⟨h1,h2,h3⟩,h⟩:=h;split at h
    .simp at h
    split at h
    .simp at h
    simp only[zag,zaw,AK.append.injEq]at h;obtain⟨⟨rfl,rfl⟩,rfl⟩:=h;simp only[zau]at ht a;obtain⟨t,ht,g⟩:=ht;obtain⟨t1,a,d⟩:=a;exact⟨x,y,t,e,t1,e1,z,rfl,by apply zbN;simpa using n,rfl,ht,a,fD g,fD d,hs,m,l,h1,h2,h3⟩
   .simp at h
  .simp at h
 .split at h
  .split at h
   .split at h<;>simp at h
   .simp at h
  .simp at h
 .split at h
  .split at h<;>simp at h
  .simp at h
 .split at h
  .split at h
   ·(repeat' (split at h))<;>simp at h
   .split at h
    .simp at h
    .split at h
     .simp at h
     .split at h<;>simp at h
  .simp at h
 .split at h<;>simp at h
 .simp at h
def B'{c:Call}{sz:Nat}(h:cp P ns A dst (.call c)=some (.ei sz b ag,args)):
   ∃x y t e t1 e1 z,c.callee=.builtin .append/\c.args=#[x,y]/\args=[x,y]/\c.argTypes[0]?=some t/\c.argTypes[1]?=some t1/\P.underlying t=some (.slice e)/\
     P.underlying t1=some (.slice e1)/\dM P e=some sz/\iB P e=some b/\dp P e=some z/\z.length=sz/\0<sz/\0<b:=by
 obtain⟨callee,i,f⟩:=c;simp only[cp]at h;split at h
 .split at h<;>simp at h
 .split at h<;>simp at h
 .split at h<;>simp at h
 .rename_i j;split at h
  .rename_i x y e e1 o ht a;split at h
   .rename_i k p z hs m l;rw[zab]at h;obtain⟨⟨h1,h2,h3⟩,h⟩:=h;split at h
    .simp only[zac,zaw,AK.ei.injEq]at h;obtain⟨q,n,⟨rfl,rfl,rfl⟩,rfl⟩:=h;simp only[zau]at ht a;obtain⟨t,ht,g⟩:=ht;obtain⟨t1,a,d⟩:=a;exact⟨x,y,t,e,t1,e1,z,rfl,by apply zbN;simpa using o,rfl,ht,a,fD g,fD d,hs,m,l,h1,h2,h3⟩
    .split at h<;>simp at h
   .simp at h
  .simp at h
 .split at h
  .split at h
   .split at h<;>simp at h
   .simp at h
  .simp at h
 .split at h
  .split at h<;>simp at h
  .simp at h
 .split at h
  .split at h
   ·(repeat' (split at h))<;>simp at h
   .split at h
    .simp at h
    .split at h
     .simp at h
     .split at h<;>simp at h
  .simp at h
 .split at h<;>simp at h
 .simp at h
def SG(h:VM K els base len)(hs:bj t els=true):els=[]\/∃b o,base=some ⟨b,o,none⟩/\Row K b o t els:=by
 rcases h.2 with h1|⟨b,o,a,e,hr⟩
 .exact .inl h1
 .by_cases hn:els=[]
  .exact .inl hn
  .have:=hr.sz hs hn;subst this;exact .inr ⟨b,o,e,hr⟩
def Kq(hi:Inv (num ns) G w mem sh aa){xs:List PV}{sz a:Nat}(e:TypeId)
   (i:vs.length=z.length*sz) (hn:suf.length=xs.length*sz) (m:∀(K':bA)(h o':Nat),G.K.le K'->At K' h o' vs->Row K' h o' sz z)
   (n:∀(K':bA)(h o':Nat),G.K.le K'->At K' h o' suf->Row K' h o' sz xs) (d:z.length+xs.length<=a) (hr:c'.size=(a-(z.length+xs.length))*sz) (h0:0<xs.length)
   (hu:pU G aa toks' τ (z.length+xs.length)) (o:∀t0,G.tk τ=some t0->¬t0.dead/\t0.cap<z.length+xs.length):
   ∃G',aD (num ns) G' (.own (z++xs) τ) (.slice (some ⟨w.heap.size,0,none⟩) (z.length+xs.length) a)/\
     Inv (num ns) G' (w.alloc (.cells (vs.toArray++suf.toArray++c') e)) mem sh toks'/\G.le G'/\bZ G w G' (w.alloc (.cells (vs.toArray++suf.toArray++c') e)):=by
 let t:Tk:={base:=some ⟨w.heap.size,0,none⟩,len:=z.length+xs.length,cap:=a,sz:=sz,own:=true}
 have k:(vs.toArray++suf.toArray++c').size=a*sz:=by
  simp[i,hn,hr];have:a=(z.length+xs.length)+(a-(z.length+xs.length)):=by omega
  conv=>rhs;rw[this,zaG,zaG]
 obtain⟨h1,h2,h3⟩:=hi.grow (t:=t) (c:=vs.toArray++suf.toArray++c') e rfl (by rw[k];exact zal _) d (by show 0<z.length+xs.length;omega) hu o;refine⟨_,?_,h1,h2,h3⟩
 have g:At (kP G w.heap.size (t.len*t.sz) (vs.toArray++suf.toArray++c')) w.heap.size 0 (vs++suf):=by
  intro j v hj;have f:=(zaa.1 hj).1;simp only[zat,i,hn]at f;simp only[kP,za4,zbK];rw[zai (by show j<(z.length+xs.length)*sz;rw[zaG];exact f)];rw[zdm (by simp[i,hn];exact f)];simpa using hj
 have b:Row (kP G w.heap.size (t.len*t.sz) (vs.toArray++suf.toArray++c')) w.heap.size 0 sz (z++xs):=by
  refine Row.append (m _ _ _ h2.K fun j v hj=>g j v ?_) (n _ _ _ h2.K fun j v hj=>?_)
  .rw[zao (zaa.1 hj).1];exact hj
  .have:=g (z.length*sz+j) v (by rw[zaN (by omega),i,zcx];exact hj)
   rwa [zbK,<-zbK (z.length*sz+j),<-zbD]at this
 simp only[aD];refine⟨t,by simp[Gh.bD],⟨by simp[t],t.uH⟩,cJ.2 ⟨_,_,_,rfl,d,by simp,.inr ⟨_,_,_,rfl,b⟩⟩,fun _=>⟨rfl,.inr ⟨_,_,rfl,b⟩⟩⟩
def Ff(hi:Inv ρ G w mem sh aa)(n:Nat):pU G aa (aa++[n]) aa.length n:=by
 refine⟨by simp,fun σ a=>?_,fun t h=>?_⟩
 .rcases zbL σ aa.length with h|h
  .rw[zao h]
  .rw[zaX (by simp;omega),zaX h]
 .have:=hi.iE _ t h;rw[zaX (zal _)]at this;simp at this
theorem zV{e1 t1 sz R:Nat}{s:AV}{vs vx:Value}
   (h0:argTypes[0]?=some t) (h1:argTypes[1]?=some t1)
   (hu:P.underlying t=some (.slice e)) (H:P.underlying t1=some (.slice e1)) (I:dM P e=some sz) (ay:iB P e=some R) (hz:dp P e=some z) (ax:z.length=sz) (aO:0<R)
   (hs:aD (num ns) G s vs) (hx:aD (num ns) G x vx) (hi:Inv (num ns) G w mem sh aa) (h:cz sz R s x aa=some (y,toks')):
   ∃v w' G',(Builtin.append_ argTypes type #[vs,vx]).run P w=.ok v w'/\aD (num ns) G' y v/\Inv (num ns) G' w' mem sh toks'/\G.le G'/\bZ G w G' w':=by
 unfold cz at h;split at h
 .simp at h
 .rename_i xs a5;simp only[zab]at h;obtain⟨X,h⟩:=h;obtain⟨xb,xc,rfl⟩:=nT a5 hx;have V:=f_ a5 hx;have D:∀w',w'=w.drew->∀b o u,G.K b o=some u->w'.cell? ⟨b,o,none⟩=some u:=fun w' e b o u hk=>by subst e;exact hi.known b o u hk
  obtain⟨new,S,T,n3,n4⟩:=kR (P:=P) hi.known V X rfl
  have an:∀w',w'=w.drew->(Builtin.firstCells sz xs.length (.slice xb xs.length xc)).run P w'=.ok new.toArray w':=by
   intro w' e;obtain⟨F,m1,_,_⟩:=kR (P:=P) (D w' e) V X rfl;have U:(Builtin.firstCells sz xs.length (.slice xb xs.length xc)).run P w'=.ok F.toArray w':=m1
   have:F=new:=by
    subst e;obtain⟨base,len,cap,e1,_,f,m⟩:=cJ.1 V;cases e1;by_cases L:xs=[]
    .subst L;have a1:new=[]:=by apply zbk;simpa using T
     have a2:F=[]:=by
      cases xb with
      |none=>simpa[Builtin.firstCells]using m1.symm
      |some a=>simpa[Builtin.firstCells,loadCells,loadCellsFrom]using m1.symm
     rw[a1,a2]
    .obtain⟨b,o,b7,e2,i⟩:=m.resolve_left L;cases e2;have:=i.sz X L;subst this;obtain⟨Z,g1,g2,_,_⟩:=i.flat;have l1:=zbS (P:=P) w ⟨b,o,none⟩ Z (fun j u hj=>by rw[Addr.fU];exact hi.known _ _ _ (g2 j u hj));have l2:=zbS (P:=P) w.drew ⟨b,o,none⟩ Z (fun j u hj=>by rw[Addr.fU];exact hi.known _ _ _ (g2 j u hj));rw[g1]at l1 l2;simp only[Builtin.firstCells]at S m1;rw[l1]at S;rw[l2]at m1;simp at S m1;rw[<-S,<-m1]
   rw[U,this]
  have N:∀(l:List PV)(base:Option Addr)(cap τ:Nat),Rel G.K (.ae l) (.slice base l.length cap)->bj sz l=true->cap<l.length+xs.length->(l.length+xs.length)*R<=140737488355328->
      pU G aa toks' τ (l.length+xs.length)->(∀t0,G.tk τ=some t0->¬t0.dead/\t0.cap<l.length+xs.length)->y=.own (l++xs) τ->
      ∃v w' G',(Builtin.append_ argTypes type #[.slice base l.length cap,.slice xb xs.length xc]).run P w=.ok v w'/\aD (num ns) G' y v/\Inv (num ns) G' w' mem sh toks'/\G.le G'/\bZ G w G' w':=by
    intro l base cap τ ai C d g q hg hy;obtain⟨aQ,o1,o2,o3,o4⟩:=kR (P:=P) (w:=w.drew) (D _ rfl) ai C rfl
    obtain⟨rest,am,p1,p2,p3⟩:=mO (type:=type) (aQ:=aQ.toArray) (new:=new.toArray) h0 h1 hu H I ay hz ax (base:=base) (len:=l.length) (cap:=cap) (n:=xs.length) (xb:=xb) (xc:=xc) rfl
      (fun w' e=>by subst e;exact o1) an d aO g
    have J:0<xs.length:=by
     rcases Nat.eq_zero_or_pos xs.length with a4|a4
     .have:=(cJ.1 ai);obtain⟨b',l',c',e',b9,f,_⟩:=this;cases e';omega
     .exact a4
    obtain⟨G',q1,q2,q3,q4⟩:=Kq (ns:=ns) (w:=w.drew) hi.drew e o2 T o3 n3 p1 p2 J q hg;exact⟨_,_,G',p3,by rw[hy];exact q1,q2,q3,(bZ.drew G w).trans q4⟩
  split at h
  .-- a slice Y a3 to spare
   rename_i l;split at h
   .rename_i al;have p:xs=[]:=zc6.1 al;subst p;simp only[zag,zaw]at h;obtain⟨rfl,rfl⟩:=h;have O:=hs;simp only[aD]at hs;obtain⟨base,len,rfl,E⟩:=hs;have f:=E.1;subst f;have A:new=[]:=by apply zbk;simpa using T
    subst A;have k:=gJ (type:=type) h0 h1 hu H I (base:=base) (len:=l.length) (cap:=l.length) (n:=0) (xb:=xb) (xc:=xc) rfl S (by omega);refine⟨.slice base l.length l.length,w,G,?_,O,hi,G.le_refl,bZ.refl G w⟩;refine zcS k ?_;cases base<;>simp[storeCells]
   simp only[zab,zag,zaw]at h;obtain⟨⟨C,g⟩,rfl,rfl⟩:=h;have O:=hs;simp only[aD]at hs;obtain⟨base,len,rfl,E⟩:=hs;have f:=E.1;subst f;have B:(l++xs).length=l.length+xs.length:=by simp
   have q:pU G aa (aa++[(l++xs).length]) aa.length (l.length+xs.length):=by
    rw[B];exact Ff hi (l.length+xs.length)
   have ab:G.tk aa.length=none:=by
    cases hh:G.tk aa.length with
    |none=>rfl
    |some t0=>have:=hi.iE _ t0 hh;rw[zaX (zal _)]at this;simp at this
   by_cases W:xs.length=0
   .have p:xs=[]:=by cases xs with|nil=>rfl|cons _ _=>simp at W
    subst p;have A:new=[]:=by apply zbk;simpa using T
    subst A;have k:=gJ (type:=type) h0 h1 hu H I (base:=base) (len:=l.length) (cap:=l.length) (n:=0) (xb:=xb) (xc:=xc) rfl S (by omega);let tk:Tk:={base,len:=l.length,cap:=l.length,sz};obtain⟨g1,g2,g3⟩:=hi.SF (τ:=aa.length) (t:=tk) (toks':=aa++[(l++[]).length]) rfl rfl ab q.at_ q.other;refine⟨.slice base l.length l.length,w,_,?_,?_,g1,g2,g3⟩
    .refine zcS k ?_;cases base<;>simp[storeCells]
    .simp only[aD];refine⟨tk,by simp[Gh.bD],⟨by simp[tk],tk.uH⟩,?_,fun _=>⟨rfl,?_⟩⟩
     .simp only[zaJ];exact cJ.2 ⟨_,_,_,rfl,zal _,E⟩
     .simp only[zaJ];exact SG E C
   .exact N l base l.length aa.length (cJ.2 ⟨_,_,_,rfl,zal _,E⟩) C (by omega) g q (fun t0 h=>by rw[ab]at h;cases h) rfl
  .-- a slice b4 ba b8 a3 to spare to itself
   rename_i l τ;simp only[zab,zag,zaw]at h;obtain⟨⟨r,C,g⟩,rfl,rfl⟩:=h;have O:=hs;simp only[aD]at hs;obtain⟨tk,e1,e2,e3,e4⟩:=hs
   have f:l.length=tk.len:=by
    have:=hi.iE τ tk e1;rw[r]at this;simpa using this
   obtain⟨hv,i⟩:=e4 f;obtain⟨b6,f1,f2,f3⟩:=hi.dO τ _ r;rw[e1]at f1;cases f1;have B:(l++xs).length=l.length+xs.length:=by simp
   obtain⟨base,b3,cap,b5,a0⟩:=tk;simp only[Tk.val]at hv f f2 f3;subst hv;subst f;by_cases W:xs.length=0
   .have p:xs=[]:=by cases xs with|nil=>rfl|cons _ _=>simp at W
    subst p;have A:new=[]:=by apply zbk;simpa using T
    subst A;have k:=gJ (type:=type) h0 h1 hu H I (base:=base) (len:=l.length) (cap:=cap) (n:=0) (xb:=xb) (xc:=xc) rfl S (by have:=f3.cap;simpa using this)
    have ac:aa.set τ (l++([]:List PV)).length=aa:=by
     apply zbW
     intro j;rw[zax];split
     .rename_i e;subst e;have:=(zaa.1 r);obtain⟨Q,_⟩:=this;rw[zai Q,r];simp
     .rfl
    rw[ac];refine⟨.slice base l.length cap,w,G,?_,?_,hi,G.le_refl,bZ.refl G w⟩
    .refine zcS k ?_;cases base<;>simp[storeCells]
    .simpa using O
   .have J:0<xs.length:=by omega
    have q:pU G aa (aa.set τ (l++xs).length) τ (l.length+xs.length):=by
     rw[B];have Q:=(zaa.1 r).1;refine⟨by rw[zax];simp[Q],fun σ ao=>by rw[zax,zad (zcG ao)],fun t0 h=>?_⟩;rw[e1]at h;cases h;simp;omega
    rcases zbL cap (l.length+xs.length)with d|d
    .refine N l base cap τ e3 C d g q (fun t0 h=>?_) rfl;rw[e1]at h;cases h;refine⟨?_,d⟩
     rintro⟨d1,d2⟩
     rcases i with rfl|⟨b,o,e,_⟩
     .simp at d2
     .rw[d1]at e;cases e
    .have ak:l≠[]:=by
      rintro rfl
      have:=f3.zero rfl;simp at this d;omega
     obtain⟨b,o,M,i⟩:=i.resolve_left ak;simp only at M;subst M;have:=i.sz C ak;subst this;obtain⟨b',o',c,ty,p1,p2,p3,p4,p5⟩:=f3.spare (.inl (by simp;omega));simp only[zag,Addr.mk.injEq]at p1;obtain⟨rfl,rfl,_⟩:=p1;simp only at p4 p5;have aj:(l.length+xs.length)*sz<=cap*sz:=zaH _ d;rw[zaG]at aj;have Ny:=zcv (P:=P) b (o+l.length*sz) ty new 0 c w p3 (by rw[T];omega) n4;have k:=gJ (type:=type) h0 h1 hu H I (base:=some ⟨b,o,none⟩) (len:=l.length) (cap:=cap) (n:=xs.length) (xb:=xb) (xc:=xc) rfl S d;simp only[zb0]at Ny;obtain⟨g1,g2,g3⟩:=hi.fill (t:=⟨some ⟨b,o,none⟩,l.length,cap,sz,a0⟩) (n:=xs.length) e1 rfl p2 p3 p4 p5 T J d rfl q;refine⟨.slice (some ⟨b,o,none⟩) (l.length+xs.length) cap,_,_,?_,?_,g1,g2,g3⟩
     .refine zcS k ?_;simp only[Addr.fU,Ny,zam]
     .have b2:At (kQ G b (o+l.length*sz) new) b (o+l.length*sz) new:=by
       intro j v hj;have Q:=(zaa.1 hj).1;simp only[kQ];rw[zai ⟨trivial,by omega,by omega⟩,zcx];exact hj
      have m:Row (kQ G b (o+l.length*sz) new) b o sz (l++xs):=Row.append (Row.mono g2.K _ _ _ _ i) (n3 _ _ _ g2.K b2);simp only[aD];exact⟨⟨some ⟨b,o,none⟩,l.length+xs.length,cap,sz,true⟩,by simp[Gh.bD],⟨by simp,Tk.uH _⟩,cJ.2 ⟨_,_,_,rfl,d,by simp,.inr ⟨_,_,_,rfl,m⟩⟩,fun _=>⟨rfl,.inr ⟨_,_,rfl,m⟩⟩⟩
  .simp at h
def Kr(h:aD ρ G x v)(hl:a9 x=true):v.oneCell'=true:=by
 cases x with
 |pv p=>
  simp only[aD]at h;cases p with
  |agg _=>simp[a9]at hl
  |ae _=>obtain⟨b,l,c,rfl,_⟩:=cJ.1 h;rfl
  |bool _=>rw[kN]at h;subst h;rfl
  |int _ _=>rw[jC]at h;subst h;rfl
  |str _=>rw[oL]at h;subst h;rfl
 |dm _=>simp only[aD]at h;obtain⟨_,_,rfl,_⟩:=h;rfl
 |own _ _=>simp only[aD]at h;obtain⟨_,_,_,h,_⟩:=h;obtain⟨b,l,c,rfl,_⟩:=cJ.1 h;rfl
 |aL _ _=>simp only[aD]at h;obtain⟨_,_,rfl⟩:=h;rfl
 |bl _ _ _ _=>simp only[aD]at h;obtain⟨_,_,_,rfl,_⟩:=h;rfl
 |fn _ _=>simp only[aD]at h;obtain⟨_,_,_,rfl,_⟩:=h;rfl
 |iN=>simp only[aD]at h;rcases h with rfl|rfl<;>rfl
 |kH _=>simp only[aD]at h;obtain⟨_,_,rfl⟩:=h;rfl
 |gA _=>simp only[aD]at h
 |_=>simp[a9]at hl
def mP:∀{xs:List AV}{vs:List Value},aA ρ G xs vs->xs.all a9=true->∀u∈vs,u.oneCell'=true
 |[],_,h,_,u,hu=>by simp only[aA]at h;subst h;simp at hu
 |x::xs,_,h,hl,u,hu=>by
  simp only[aA]at h;obtain⟨v,r,rfl,e1,e2⟩:=h;simp only[za1,zaj]at hl;simp only[zah]at hu;rcases hu with rfl|hu
  .exact Kr e1 hl.1
  .exact mP e2 hl.2 u hu
def mQ{xs:List AV}(h:xs.all eo=true):xs.all a9=true:=by
 rw[zas]at*;intro x hx;have:=h x hx;cases x<;>simp_all[eo,a9,bU]
def Z'(ns:Names)(P:Program)(G:Gh)(w:World)(mem:List (Nat×List AV))(sh:Sh)(aa:aH)(s:Sem Next)(x:AV):Prop:=
 ∃n v w' G',s.run P w=.ok n w'/\(n=.value v\/(n=.skip/\v=undef))/\aD (num ns) G' x v/\Inv (num ns) G' w' mem sh aa/\G.le G'/\bZ G w G' w'
def qJ(a:dM P t=some n)(d:v.cells.size=n)(e:w.heap[b]?=some (.cells c ty (0,0)))
   (hl:off+n<=c.size) (h1:∀u∈v.cells.toList,u.oneCell'=true):
   (storeVar t ⟨b,off,none⟩ v).run P w=.ok () (w.setRow b (c.toList.take off++v.cells.toList++c.toList.drop (off+v.cells.toList.length)).toArray):=by
 have:=zcv (P:=P) b off ty v.cells.toList 0 c w e (by simp[d];omega) h1;simp only[zb0]at this;simp only[storeVar,zav,eK a,zam];rw[zad (by simp[d])];simpa using this
theorem kS{t:TypeId}:(newVar t v).run P w=.ok ⟨w.heap.size,0,none⟩ (w.alloc (.cells v.cells t)):=rfl
def mR:∀{xs:List AV}{vs:List Value},vs.length=xs.length->(∀(j:Nat)(x:AV)(v:Value),xs[j]?=some x->vs[j]?=some v->aD ρ G x v)->aA ρ G xs vs
 |[],vs,hl,_=>by
  have:vs=[]:=by cases vs<;>simp_all
  subst this;simp[aA]
 |x::xs,[],hl,_=>by simp at hl
 |x::xs,v::vs,hl,h=>by
  simp only[aA];exact⟨v,vs,rfl,h 0 x v rfl rfl,mR (by simpa using hl) fun j y u hy hu=>h (j+1) y u (by simpa using hy) (by simpa using hu)⟩
def gj(l:List α):∀(n j:Nat),j<n*l.length->(List.replicate n l).flatten[j]?=l[j % l.length]?
 |0,j,h=>by simp at h
 |n+1,j,h=>by
  rw[zbs,zc2];by_cases hj:j<l.length
  .rw[zao hj,Nat.mod_eq_of_lt hj]
  .rw[zaN (by omega),gj l n (j-l.length) (by rw[zaG]at h;omega)];congr 1;exact(Nat.mod_eq_sub_mod (by omega)).symm
def Ks(h0:0<=i)(h1:i<=9223372036854775807):IntKind.i64.wrap i=i:=by
 unfold IntKind.wrap;have e1:(2:Int) ^ IntKind.i64.bits=18446744073709551616:=by decide
 have e2:(2:Int) ^ (IntKind.i64.bits-1)=9223372036854775808:=by decide
 have e3:IntKind.i64.signed=true:=rfl;simp only[e1,e2,e3];have:i % 18446744073709551616=i:=Int.emod_eq_of_lt h0 (by omega);simp only[this];rw[zad];simp;omega
def pV{ρ:bV}:∀{l:List Value}{z:List PV},dN dI l=some z->aA ρ G (z.map .pv) l/\(z.map AV.pv).all eo=true
 |[],_,h=>by simp[dN]at h;subst h;simp[aA]
 |v::l,z,h=>by
  simp only[dN]at h;split at h
  .rename_i y b h1 h2;simp at h;subst h;obtain⟨g1,g2⟩:=pV (ρ:=ρ) h2;obtain⟨a,g4⟩:=mN (K:=G.K) h1;have g5:eo (.pv y)=true:=by cases y<;>simp_all[eo,a9,jI]
   simp only[zan,aA,za1,g5,g2,zcY,and_true];exact⟨v,l,rfl,by simp only[aD];exact Rel.ZC a,g1⟩
  .simp at h
def IQ(n:Nat)(z:List PV):(z.map AV.pv).all (aN n)=true:=by
 rw[zas];intro x hx;simp only[zak]at hx;obtain⟨p,_,rfl⟩:=hx;simp[aN]
def Kt(n:Nat)(z:List PV):(z.map bK.zeroCell).all (aN n)=true:=by
 rw[zas];intro x hx;simp only[zak]at hx;obtain⟨p,_,rfl⟩:=hx;unfold bK.zeroCell;split<;>simp[aN]
end
mutual
theorem tt{n m:Nat}(h:n<=m):∀{x:AV},aN n x=true->aN m x=true
 | .un,_=>by simp[aN]
 | .pv _,_=>by simp[aN]
 | .dm _,_=>by simp[aN]
 | .own ..,_=>by simp[aN]
 | .iN,_=>by simp[aN]
 | .et _,_=>by simp[aN]
 | .aL b _,hx=>by simp[aN]at hx⊢;omega
 | .bl b _ _ _,hx=>by simp[aN]at hx⊢;omega
 | .fn _ cap,hx=>by simp only[aN]at hx⊢;exact mS h hx
 | .agg cs,hx=>by simp only[aN]at hx⊢;exact mS h hx
 | .au ..,hx=>by simp[aN]at hx
 | .rQ _,hx=>by simp[aN]at hx
 | .kH b,hx=>by simp[aN]at hx⊢;omega
 | .gA _,_=>by simp[aN]
 | .rT ..,hx=>by simp[aN]at hx
theorem mS{n m:Nat}(h:n<=m):∀{xs:List AV},aN.cN n xs=true->aN.cN m xs=true
 |[],_=>by simp[aN.cN]
 |x::xs,hx=>by
  simp only[aN.cN,zaj]at hx⊢;exact⟨tt h hx.1,mS h hx.2⟩
end
def ko{n t:Nat}(h:n<=t){xs:List AV}(hx:xs.all (aN n)=true):xs.all (aN t)=true:=by
 rw[zas]at*;exact fun x hm=>tt h (hx x hm)
section
variable {P:Program} {ns:Names} {G:Gh} {w:World}
variable{ρ:bV}{k:IntKind}{v:Value}{t cap n:Nat}{ag:Bool}{z:List PV}{mem:List (Nat×List AV)}{sh sh':Sh}{aa:aH}{K:bA}{argTypes:Array TypeId}
def tv{i:Int}(h:aD ρ G (.pv (.int k i)) v):v=.int k i:=by
 simp only[aD]at h;exact jC.1 h
def Ca{e sz A:Nat}{k':IntKind}{T:Int}(hu:P.underlying t=some (.slice e))(D:dM P e=some sz)
   (L:iB P e=some A) (O:dp P e=some z) (b:z.length=sz) (E:0<sz) (h0:0<=T) (h1:T<=9223372036854775807) (h2:T*A<=140737488355328) (hi:Inv (num ns) G w mem sh aa):
   ∃v w' G',(Instr.makeSlice t (.int k T) (.int k' T)).run P w=.ok v w'/\aD (num ns) G' (.bl sh.length sz T.toNat ag) v /\
     Inv (num ns) G' w' mem (sh++[some ((List.replicate T.toNat (z.map .pv)).flatten)]) aa/\G.le G'/\bZ G w G' w':=by
 obtain⟨i,J,K,H⟩:=s9 L w;obtain⟨f,C,p⟩:=jm (P:=P) (w:=w) O;have o:f.cells.size=sz:=by have:=jL p;simp at this;omega
 obtain⟨zr,zl⟩:=pV (G:=G) (ρ:=num ns) p;let z0:Array Value:=if T.toNat*sz=0 then #[]else f.cells;let c:Array Value:=(Array.range (T.toNat*sz)).map (z0[· % z0.size]!);have hw:IntKind.i64.wrap T=T:=Ks h0 h1;have B:(i.bytes:Int)*T<=281474976710656:=by rw[K,Int.mul_comm];omega
 have N:((List.replicate T.toNat (z.map AV.pv)).flatten).length=T.toNat*sz:=by simp[b]
 have q:aA (num ns) G ((List.replicate T.toNat (z.map .pv)).flatten) c.toList:=by
  refine mR (by simp[c,b]) fun j x v hx m=>?_;have s:j<T.toNat*sz:=by have:=(zaa.1 hx).1;omega
  rw[gj _ _ _ (by simpa[b]using s)]at hx;have F:¬T.toNat*sz=0:=by omega
  have a:z0=f.cells:=zad F;obtain⟨M,g1,g2⟩:=zr.get hx
  have:v=M:=by
   simp only[c,a,zcF,zbb,Array.toList_range,zac]at m;obtain⟨R,u,m⟩:=m;rw[List.getElem?_range s]at u;cases u;simp only[zaD,b]at g1;rw[o]at m;have hm:j % sz<f.cells.size:=by rw[o];exact Nat.mod_lt _ E
   rw[getElem!_pos f.cells (j % sz) hm]at m;have h:f.cells[j % sz]?=some M:=by simpa using g1
   rw[zb5 hm]at h;simp at h;rw[<-m,h]
  subst this;exact g2
 have y:((List.replicate T.toNat (z.map AV.pv)).flatten).all eo=true:=by
  rw[zas]at*;intro x hx;simp only[zci,zbR]at hx;obtain⟨l,⟨_,rfl⟩,hx⟩:=hx;exact zl x hx
 have r:((List.replicate T.toNat (z.map AV.pv)).flatten).all (aN (sh.length+1))=true:=by
  have:=IQ (sh.length+1) z;rw[zas]at*;intro x hx;simp only[zci,zbR]at hx;obtain⟨l,⟨_,rfl⟩,hx⟩:=hx;exact this x hx
 obtain⟨g1,g2,Q⟩:=hi.qI (cells:=(List.replicate T.toNat (z.map .pv)).flatten) (c:=c) e q y r;refine⟨.slice (some ⟨w.heap.size,0,none⟩) T.toNat T.toNat,_,_,?_,?_,g1,g2,Q⟩
 .have hp:(2:Int) ^ 48=281474976710656:=by decide
  have ht:(decide (T<0)|| decide ((i.bytes:Int)*T > 2 ^ 48))=false:=by
   rw[hp];simp;omega
  have I:∀w',(typeInfo e).run P w'=.ok i w':=fun w'=>by simp[typeInfo,J]
  have g:¬((decide (T<0)|| decide ((i.bytes:Int)*T > 2 ^ 48))|| decide (T<0)|| decide (T > T))=true:=by
   rw[ht];simp;omega
  simp only[Instr.makeSlice,zav,zaR hu,zam,asInt,asIntOf,zaC,I,hw];rw[zad g];simp only[zav,run_askRoom,zam,eK D];by_cases d:T.toNat*sz=0
  .rw[zai d];simp only[zav,zaC,zam];have a:z0=#[]:=zai d;simp only[c,a];rfl
  .rw[zad d];simp only[zav,zaC,C,zam];have a:z0=f.cells:=zad d;simp only[c,a];rfl
 .simp only[aD];exact⟨(w.heap.size,c.size),0,by simp[Gh.dJ],rfl,by simp[c]⟩
theorem se:∀{cs:List PV}{vs:List Value},d9 K cs vs->∀p∈cs,jI p=true
 |[],_,_,p,hp=>by simp at hp
 |c::cs,_,h,p,hp=>by
  simp only[d9]at h;obtain⟨v,r,rfl,e2,e3⟩:=h;simp only[zah]at hp;rcases hp with rfl|hp
  .cases p with
   |agg _=>simp[R]at e2
   |_=>rfl
  .exact se e3 p hp
def Row.Cb:∀{els:List PV}{b o sz:Nat},Row K b o sz els->
   ∃a:List Value,a.length=els.length*sz/\At K b o a/\d9 K (els.flatMap bp) a/\∀u∈a,u.oneCell'=true
 |[],b,o,sz,_=>⟨[],by simp,by intro j v h;simp at h,by simp[d9],by simp⟩
 |el::r,b,o,sz,hr=>by
  simp only[Row]at hr;obtain⟨⟨vs,h1,h2,h3⟩,h4⟩:=hr;obtain⟨a,g1,g2,c,g4⟩:=Row.Cb h4;refine⟨vs++a,by simp[h1,g1,zaG];omega,?_,by rw[zaq];exact d9.append h3.cells c,?_⟩
  .intro j v hj;rw[zbv]at hj;split at hj
   .exact h2 j v hj
   .have:=g2 _ v hj;rw[h1]at this
    rwa [show o+sz+(j-sz)=o+j from by omega]at this
  .intro u hu;simp only[zae]at hu;rcases hu with hu|hu
   .exact d9.one h3.cells u hu
   .exact g4 u hu
def sf{els:List PV}{base:Option Addr}(hr:Rel G.K (.ae els) (.slice base els.length cap))(hs:bj t els=true):
   ∃c:List Value,c.length=els.length*t/\d9 G.K (els.flatMap bp) c/\(∀u∈c,u.oneCell'=true)/\
     ∀w:World,(∀b o u,G.K b o=some u->w.cell? ⟨b,o,none⟩=some u)->(Builtin.firstCells t els.length (.slice base els.length cap)).run P w=.ok c.toArray w:=by
 obtain⟨h,len,k,e,_,i,g⟩:=cJ.1 hr;cases e;by_cases d:els=[]
 .subst d;refine⟨[],by simp,by simp[d9],by simp,fun w _=>?_⟩;cases base with
  |none=>simp[Builtin.firstCells]
  |some a=>simp[Builtin.firstCells,loadCells,loadCellsFrom]
 .obtain⟨b,o,l,rfl,f⟩:=g.resolve_left d;have:=f.sz hs d;subst this;obtain⟨c,g1,g2,n,g4⟩:=f.Cb;refine⟨c,g1,n,g4,fun w m=>?_⟩;have hl:=zbS (P:=P) w ⟨b,o,none⟩ c (fun j u hj=>by rw[Addr.fU];exact m _ _ _ (g2 j u hj));rw[g1]at hl;simpa[Builtin.firstCells]using hl
def vN{b e:Nat}{c:Array Value}{t:TypeId}{vs suf:List Value}(d:w.heap[b]?=some (.cells c t (0,0)))(a:c.toList=vs++suf)(hn:n*e<=vs.length):
   (Builtin.firstCells e n (.slice (some ⟨b,0,none⟩) n cap)).run P w=.ok (vs.take (n*e)).toArray w:=by
 have hl:=zbS (P:=P) w ⟨b,0,none⟩ (vs.take (n*e)) (fun j u hj=>by
  rw[Addr.fU,zbK];rw[zbG]at hj;split at hj
  .have:c.toList[j]?=some u:=by rw[a,zao (zaa.1 hj).1];exact hj
   simp only[World.cell?,d];simpa using this
  .simp at hj)
 rw[zb2,zcl hn]at hl;simpa[Builtin.firstCells]using hl
def Inv.aaa(hi:Inv ρ G w mem sh aa)(s:Nat):Inv ρ G w mem (sh.set s none) aa:=
 { hi with
  eD:=fun s' cs a=>by
   rw[zax]at a;split at a
   .split at a<;>simp at a
   .exact hi.eD s' cs a
  ix:=fun s' b h=>by simpa using hi.ix s' b h}
def Gh.kU(G:Gh)(s':Nat)(b:Nat×Nat):Gh:={G with role:=fun k=>if k=b.1 then .shr s' else G.role k,sm:=fun k=>if k=s' then some b else G.sm k}
theorem Inv.kU(hi:Inv ρ G w mem sh aa){s:Nat}{b:Nat×Nat}{vals:List AV}(hs:sh[s]?=some (some vals))(A:G.sm s=some b):
   Inv ρ (G.kU sh.length b) w mem (sh.set s none++[some vals]) aa/\G.le (G.kU sh.length b)/\bZ G w (G.kU sh.length b) w:=by
 obtain⟨b0,e1,e2,e3,e4⟩:=hi.eD s vals hs;rw[A]at e1;cases e1;have hr:G.role b.1=.shr s:=e2.role
 have p:G.sm sh.length=none:=by
  cases h:G.sm sh.length with
  |none=>rfl
  |some b=>have:=hi.ix _ b h;omega
 have f:G.le (G.kU sh.length b):=⟨G.K.le_refl,fun _ _ h=>h,fun k b h=>by
  simp only[Gh.kU];split
  .rename_i e;subst e;rw[p]at h;simp at h
  .exact h,fun _ t h=>⟨t,h,⟨zal _,t.jA⟩,fun _=>rfl⟩⟩
 have a:∀k r,G.role k=r->r≠.shr s->(G.kU sh.length b).role k=r:=by
  intro k r g hn;simp only[Gh.kU];rw[zad]
  .exact g
  .rintro rfl;exact hn (g.symm.trans hr)
 have y:s<sh.length:=(zaa.1 hs).1
 have j:bZ G w (G.kU sh.length b) w:={
           size:=zal _,os:=rfl,tape:=rfl,output:=rfl,K:=G.K.le_refl,sm:=f.sm,
           eM:=fun k _ g=>⟨a k _ g (by simp),rfl⟩
           kL:=fun k τ _ g=>.inr ⟨τ,a k _ g (by simp)⟩
           jK:=fun _ _ _ _ _ h=>h}
 refine⟨⟨hi.known,?_,?_,?_,hi.jJ,?_,?_,?_,hi.iE,hi.kM j⟩,f,j⟩
 .intro k o v g;rcases hi.bn k o v g with h|⟨τ,h⟩
  .exact .inl (a k _ h (by simp))
  .exact .inr ⟨τ,a k _ h (by simp)⟩
 .intro k g;exact a k _ (hi.fresh k g) (by simp)
 .intro d cs hd;obtain⟨i,e1,e2,e3⟩:=hi.dz d cs hd;exact⟨i,e1,e2.mono f ((a i _ e2.role (by simp)).trans e2.role.symm) rfl,e3⟩
 .intro s' cs c;rw[zbv]at c;split at c
  .rw[zax]at c;split at c
   .simp at c
   .rename_i q;obtain⟨i,f1,f2,f3⟩:=hi.eD s' cs c;exact⟨i,f.sm _ _ f1,f2.mono f ((a i.1 _ f2.role (by simp;exact fun h=>q h.symm)).trans f2.role.symm) rfl,f3⟩
  .rename_i x
   have l:s'=sh.length:=by
    rcases Nat.eq_or_lt_of_le (Nat.le_of_not_lt x)with h|h
    .simpa using h.symm
    .rw[zaX (by simp at h⊢;omega)]at c;simp at c
   subst l;simp at c;subst c;obtain⟨_,o,z,m⟩:=e2;exact⟨b,by simp[Gh.kU],⟨by simp[Gh.kU],o,z,m.mono f⟩,e3,ko (by omega) e4⟩
 .intro s' i h;simp only[Gh.kU]at h;split at h
  .rename_i e;subst e;simp
  .have:=hi.ix s' i h;simp;omega
 .intro τ n hn;obtain⟨tk,e1,e2,e3⟩:=hi.dO τ n hn;refine⟨tk,e1,e2,e3.cap,e3.zero,fun u=>?_⟩;obtain⟨i,o,C,ty,f1,f2,f3,B,f5⟩:=e3.spare u;exact⟨i,o,C,ty,f1,a i _ f2 (by simp),f3,B,f5⟩
def NQ(h:∀p∈z,jI p=true):(z.map AV.pv).all eo=true:=by
 rw[zas];intro x hx;obtain⟨p,hp,rfl⟩:=zak.1 hx;have:=h p hp;cases p<;>simp_all[eo,a9,jI]
def xY{type e e1 t1 sz L:Nat}{s x y:AV}{xs:List PV}{vs vx:Value}
   (h0:argTypes[0]?=some t) (h1:argTypes[1]?=some t1)
   (hu:P.underlying t=some (.slice e)) (D:P.underlying t1=some (.slice e1)) (E:dM P e=some sz) (am:iB P e=some L) (hz:dp P e=some z) (X:z.length=sz) (ao:0<L)
   (hs:aD (num ns) G s vs) (hx:aD (num ns) G x vx) (hi:Inv (num ns) G w mem sh aa) (Y:dG x=some xs) (b4:bj sz xs=true) (h:um sz L ag s xs sh aa=some (y,sh')):
   ∃v w' G',(Builtin.append_ argTypes type #[vs,vx]).run P w=.ok v w'/\aD (num ns) G' y v/\Inv (num ns) G' w' mem sh' aa/\G.le G'/\bZ G w G' w':=by
 obtain⟨xb,xc,rfl⟩:=nT Y hx;have aO:=f_ Y hx;have A:∀w',w'=w.drew->∀b o u,G.K b o=some u->w'.cell? ⟨b,o,none⟩=some u:=fun w' e b o u hk=>by subst e;exact hi.known b o u hk
 obtain⟨new,U,n2,n3,W⟩:=sf (P:=P) aO b4;have J:((xs.flatMap bp).map AV.pv).all eo=true:=NQ (se n2)
 have H:∀k,((xs.flatMap bp).map AV.pv).all (aN k)=true:=by
  intro k;rw[zas];intro x hx;obtain⟨p,_,rfl⟩:=zak.1 hx;rfl
 have M:∀base,vs=.slice base 0 0->uj sz L ag s xs sh=some (y,sh')->
     ∃v w' G',(Builtin.append_ argTypes type #[vs,.slice xb xs.length xc]).run P w=.ok v w'/\aD (num ns) G' y v/\Inv (num ns) G' w' mem sh' aa/\G.le G'/\bZ G w G' w':=by
   rintro base rfl V
   unfold uj at V;split at V
   .rename_i j;have C:xs=[]:=zc6.1 j;subst C;simp only[zag,zaw]at V;obtain⟨rfl,rfl⟩:=V;have I:new=[]:=by apply zbk;simpa using U
    subst I;have q:=gJ (type:=type) h0 h1 hu D E (base:=base) (len:=0) (cap:=0) (n:=0) (xb:=xb) (xc:=xc) rfl (W w hi.known) (by omega);refine⟨.slice base 0 0,w,G,?_,hs,hi,G.le_refl,bZ.refl G w⟩;refine zcS q ?_;cases base<;>simp[storeCells]
   .rename_i j;simp only[zab,zag,zaw]at V;obtain⟨m,rfl,rfl⟩:=V
    have a5:0<xs.length:=by
     cases xs with
     |nil=>simp at j
     |cons _ _=>simp
    obtain⟨rest,d,p1,p2,p3⟩:=mO (type:=type) (aQ:=#[]) (new:=new.toArray) h0 h1 hu D E am hz X (base:=base) (len:=0) (cap:=0) (n:=xs.length) (xb:=xb) (xc:=xc) rfl
      (fun w' e=>by cases base<;>simp[Builtin.firstCells,loadCells,loadCellsFrom]) (fun w' e=>W w' (A w' e)) (by omega) ao (by simpa using m)
    have l:aA (num ns) G ((xs.flatMap bp).map .pv) new:=mi n2
    obtain⟨g1,g2,g3⟩:=hi.drew.Fb (o':=.cells (#[]++new.toArray++rest) e) (N:=(#[]++new.toArray++rest).size) (cells:=(xs.flatMap bp).map .pv)
      (.inl ⟨_,e,new,rest.toList,rfl,rfl,by simp,l⟩) J (H _)
    refine⟨_,_,_,p3,?_,g1,g2,(bZ.drew G w).trans g3⟩;simp only[aD];refine⟨(w.drew.heap.size,(#[]++new.toArray++rest).size),d-xs.length,by simp[Gh.dJ],?_,?_⟩
    .have:xs.length+(d-xs.length)=d:=by omega
     show Value.slice (some ⟨w.heap.size,0,none⟩) (0+xs.length) d=Value.slice (some ⟨w.heap.size,0,none⟩) xs.length (xs.length+(d-xs.length));simp[this]
    .have:xs.length+(d-xs.length)=d:=by omega
     rw[this];simp[U,p2];have:d=xs.length+(d-xs.length):=by omega
     conv=>lhs;rw[this,zaG]
     omega
 unfold um at h;split at h
 .have a2:=hs;simp only[aD]at hs;obtain⟨base,len,rfl,ay⟩:=hs;have i:len=0:=by have:=ay.1;simpa using this.symm
  subst i;exact M base rfl h
 .rename_i τ;simp only[zab]at h;obtain⟨O,h⟩:=h;simp only[aD]at hs;obtain⟨tk,e1,e2,e3,e4⟩:=hs
  have i:([]:List PV).length=tk.len:=by
   have:=hi.iE τ tk e1;rw[O]at this;simpa using this
  obtain⟨hv,_⟩:=e4 i;obtain⟨b9,f1,f2,f3⟩:=hi.dO τ _ O;rw[e1]at f1;cases f1;have al:=f3.zero (by simpa using i.symm);refine M tk.base ?_ h;rw[hv];simp only[Tk.val];rw[al,<-i];rfl
 .rename_i b f n g;split at h
  .rename_i cells T;simp only[zab]at h;obtain⟨⟨rfl,rfl,b2,bc,m⟩,h⟩:=h;have a2:=hs;simp only[aD]at hs;obtain⟨r,cap,a0,rfl,S⟩:=hs;obtain⟨b8,ab,an,aj,a4⟩:=hi.eD _ _ T;rw[a0]at ab;cases ab;obtain⟨_,c,ty,us,suf,hh,be,Z,l⟩:=an.cells b2;have bb:us.length=cells.length:=l.length;split at h
   .rename_i j;have C:xs=[]:=zc6.1 j;subst C;simp only[zag,zaw]at h;obtain⟨rfl,rfl⟩:=h;have I:new=[]:=by apply zbk;simpa using U
    subst I;have q:=gJ (type:=type) h0 h1 hu D E (base:=some ⟨r.1,0,none⟩) (len:=n) (cap:=n+cap) (n:=0) (xb:=xb) (xc:=xc) rfl (W w hi.known) (by omega);refine⟨.slice (some ⟨r.1,0,none⟩) n (n+cap),w,G,?_,a2,hi,G.le_refl,bZ.refl G w⟩;refine zcS q ?_;simp[storeCells]
   .rename_i j;simp only[zag,zaw]at h;obtain⟨rfl,rfl⟩:=h
    have a5:0<xs.length:=by
     cases xs with
     |nil=>simp at j
     |cons _ _=>simp
    have F:aA (num ns) G (cells.take (n*f)) (us.take (n*f)):=l.take _
    have ai:(cells.take (n*f)).all eo=true:=by
     rw[zas]at aj⊢;exact fun x hx=>aj x (zbh hx)
    have a3:(cells.take (n*f)).all (aN (b+1))=true:=by
     rw[zas]at a4⊢;exact fun x hx=>a4 x (zbh hx)
    have b7:b<sh.length:=(zaa.1 T).1
    have R:(cells.take (n*f)++(xs.flatMap bp).map AV.pv).all eo=true:=by
     rw[List.all_append,ai,J];rfl
    have Q:(cells.take (n*f)++(xs.flatMap bp).map AV.pv).all (aN (sh.length+1))=true:=by
     rw[List.all_append,ko (by omega) a3,H];rfl
    have ax:(us.take (n*f)).length=n*f:=(by rw[zb2];omega);rcases zbL (n+cap) (n+xs.length)with B|B
    .-- a new block
     obtain⟨rest,d,p1,p2,p3⟩:=mO (type:=type) (aQ:=(us.take (n*f)).toArray) (new:=new.toArray) h0 h1 hu D E am hz X (base:=some ⟨r.1,0,none⟩) (len:=n) (cap:=n+cap) (n:=xs.length) (xb:=xb) (xc:=xc) rfl
       (fun w' e=>by subst e;exact vN (w:=w.drew) hh Z (by omega)) (fun w' e=>W w' (A w' e)) B ao m
     have l:aA (num ns) G (cells.take (n*f)++(xs.flatMap bp).map .pv) (us.take (n*f)++new):=F.append (mi n2);have b3:=hi.drew.aaa b;have i:(sh.set b none).length=sh.length:=by simp
     obtain⟨g1,g2,g3⟩:=b3.Fb (o':=.cells ((us.take (n*f)).toArray++new.toArray++rest) e) (N:=((us.take (n*f)).toArray++new.toArray++rest).size) (cells:=cells.take (n*f)++(xs.flatMap bp).map .pv)
       (.inl ⟨_,e,us.take (n*f)++new,rest.toList,rfl,rfl,by simp,l⟩) R (by rw[i];exact Q)
     rw[i]at g1 g2 g3;refine⟨_,_,_,p3,?_,g1,g2,(bZ.drew G w).trans g3⟩;simp only[aD];refine⟨(w.drew.heap.size,((us.take (n*f)).toArray++new.toArray++rest).size),d-(n+xs.length),by simp[Gh.dJ],?_,?_⟩
     .have:n+xs.length+(d-(n+xs.length))=d:=by omega
      show Value.slice (some ⟨w.heap.size,0,none⟩) (n+xs.length) d=Value.slice (some ⟨w.heap.size,0,none⟩) (n+xs.length) (n+xs.length+(d-(n+xs.length)));simp[this]
     .have:n+xs.length+(d-(n+xs.length))=d:=by omega
      rw[this];simp only[Array.size_append,zc0,ax,U,p2];have:d=n+xs.length+(d-(n+xs.length)):=by omega
      conv=>lhs;rw[this,zaG,zaG]
      omega
    .-- in ba place
     have ac:(n+xs.length)*f<=(n+cap)*f:=zaH _ B;rw[zaG]at ac;have b6:n*f+xs.length*f<=c.size:=(by omega);obtain⟨m1,m2,m3⟩:=hi.kU T a0;have Ny:=zcv (P:=P) r.1 (n*f) ty new 0 c w hh (by rw[U];omega) n3;have q:=gJ (type:=type) h0 h1 hu D E (base:=some ⟨r.1,0,none⟩) (len:=n) (cap:=n+cap) (n:=xs.length) (xb:=xb) (xc:=xc) rfl (W w hi.known) B;simp only[zb0]at Ny
     have ak:(sh.set b none++[some cells])[sh.length]?=some (some cells):=by
      rw[zaN (by simp)];simp
     have b5:c.toList.take (n*f)=us.take (n*f):=by
      rw[Z,zbQ (by omega)]
     obtain⟨g1,g2⟩:=m1.vM (cells':=cells.take (n*f)++(xs.flatMap bp).map .pv) (c':=(c.toList.take (n*f)++new++c.toList.drop (n*f+new.length)).toArray) (vs:=us.take (n*f)++new) (suf:=c.toList.drop (n*f+new.length))
       ak (by simp[Gh.kU]) hh (by
        have:c.toList.length=c.size:=by simp
        simp only[zc0,zat,zb2,zcA,U,this];omega)
       (by simp[b5]) (aA.mono m2 (F.append (mi n2))) R Q
     have a1:(sh.set b none++[some cells]).set sh.length (some (cells.take (n*f)++(xs.flatMap bp).map .pv))=sh.set b none++[some (cells.take (n*f)++(xs.flatMap bp).map .pv)]:=by
      rw[List.set_append_right _ _ (by simp)];simp
     rw[a1]at g1;refine⟨.slice (some ⟨r.1,0,none⟩) (n+xs.length) (n+cap),_,_,?_,?_,g1,m2,m3.trans g2⟩
     .refine zcS q ?_;simp only[Addr.fU,zbK,Ny,zam]
     .simp only[aD];refine⟨r,cap-xs.length,by simp[Gh.kU],?_,?_⟩
      .have:n+xs.length+(cap-xs.length)=n+cap:=by omega
       rw[this]
      .have:n+xs.length+(cap-xs.length)=n+cap:=by omega
       rw[this];exact S
  .simp at h
 .simp at h
def Fg{c:Call}{A:nA}{dst:Option Nat}{args:List Operand}(h:cp P ns A dst (.call c)=some (.iW n z,args)):
   ∃x t e,c.callee=.builtin .clear/\c.args=#[x]/\args=[x]/\c.argTypes[0]?=some t/\P.underlying t=some (.slice e)/\dM P e=some n/\dp P e=some z/\z.length=n/\0<n:=by
 obtain⟨callee,d,a⟩:=c;simp only[cp]at h;split at h
 .split at h<;>simp at h
 .split at h<;>simp at h
 .split at h<;>simp at h
 .split at h
  .split at h
   .rw[zab]at h;obtain⟨_,h⟩:=h;split at h
    .simp at h
    .split at h<;>simp at h
   .simp at h
  .simp at h
 .rename_i f;split at h
  .rename_i x e j ht;split at h
   .rename_i g k hs i;simp only[zab,zag,zaw,AK.iW.injEq]at h;obtain⟨⟨h1,h2⟩,⟨rfl,rfl⟩,rfl⟩:=h;simp only[zau]at ht;obtain⟨t,ht,b⟩:=ht;exact⟨x,t,e,rfl,by apply zbN;simpa using j,rfl,ht,fD b,hs,i,h1,h2⟩
   .simp at h
  .simp at h
 .split at h
  .split at h<;>simp at h
  .simp at h
 .split at h
  .split at h
   ·(repeat' (split at h))<;>simp at h
   .split at h
    .simp at h
    .split at h
     .simp at h
     .split at h<;>simp at h
  .simp at h
 .split at h<;>simp at h
 .simp at h
def Ku{l:Array Value}(h:dN dI l.toList=some z)(f:0<z.length):
   aA (num ns) G ((List.replicate n (z.map AV.pv)).flatten) (Builtin.zeroCells l n).toList/\((List.replicate n (z.map AV.pv)).flatten).all eo=true/\∀k,((List.replicate n (z.map AV.pv)).flatten).all (aN k)=true:=by
 obtain⟨zr,zl⟩:=pV (G:=G) (ρ:=num ns) h;have a:l.size=z.length:=by have:=jL h;simp at this;omega
 refine⟨?_,?_,?_⟩
 .refine mR (by simp[Builtin.zeroCells,a]) fun j x v hx c=>?_;have d:j<n*z.length:=by have:=(zaa.1 hx).1;simpa using this
  rw[gj _ _ _ (by simpa using d)]at hx;obtain⟨g,g1,g2⟩:=zr.get hx
  have:v=g:=by
   simp only[Builtin.zeroCells,zcF,zbb,Array.toList_range,zac]at c;obtain⟨i,e,c⟩:=c;rw[List.getElem?_range (by rw[a];exact d)]at e;cases e;simp only[zaD]at g1;rw[a]at c;have hm:j % z.length<l.size:=by rw[a];exact Nat.mod_lt _ f
   rw[getElem!_pos l (j % z.length) hm]at c;have b:l[j % z.length]?=some g:=by simpa using g1
   rw[zb5 hm]at b;simp at b;rw[<-c,b]
  subst this;exact g2
 .rw[zas]at*;intro x hx;simp only[zci,zbR]at hx;obtain⟨l,⟨_,rfl⟩,hx⟩:=hx;exact zl x hx
 .intro k;have:=IQ k z;rw[zas]at*;intro x hx;simp only[zci,zbR]at hx;obtain⟨l,⟨_,rfl⟩,hx⟩:=hx;exact this x hx
def zW{type e sz:Nat}{x:AV}
   (h0:argTypes[0]?=some t) (hu:P.underlying t=some (.slice e)) (W:dp P e=some z) (K:z.length=sz) (Z:0<sz)
   (hx:aD (num ns) G x v) (hi:Inv (num ns) G w mem sh aa) (h:pQ sz z sh (vA sz x)=some sh'):
   ∃w',(Builtin.clear_ argTypes type #[v]).run P w=.ok (.tuple #[]) w'/\Inv (num ns) G w' mem sh' aa/\bZ G w G w':=by
 cases a:vA sz x with
 |none=>rw[a]at h;simp[pQ]at h
 |some q=>
  obtain⟨b,off,n⟩:=q;rw[a]at h
  have X:∃d base cap,G.sm b=some d/\v=.slice base n cap/\(n=0\/base=some ⟨d.1,off,none⟩):=by
   unfold vA at a;split at a
   .simp only[zab,zag,zaw]at a;obtain⟨rfl,rfl,rfl,rfl⟩:=a;simp only[aD]at hx;obtain⟨d,cap,e1,e2,_⟩:=hx;exact⟨d,_,_,e1,e2,.inr rfl⟩
   .simp only[zag,zaw]at a;obtain⟨rfl,rfl,rfl⟩:=a;simpa only[aD]using hx
   .simp at a
  obtain⟨d,base,cap,s,rfl,r⟩:=X;simp only[pQ]at h;split at h
  .rename_i cells g;simp only[zab,zag]at h;obtain⟨⟨O,a0,_⟩,rfl⟩:=h;by_cases hn:n=0
   .subst hn;have e1:a_ cells off ((List.replicate 0 (z.map AV.pv)).flatten)=cells:=by simp[a_]
    have e2:sh.set b (some cells)=sh:=by
     apply zbW
     intro j;rw[zax];split
     .rename_i e;subst e;split
      .exact g.symm
      .rename_i hj;rw[zaX (by omega)]at g;simp at g
     .rfl
    rw[e1,e2];refine⟨w,?_,hi,bZ.refl G w⟩;cases base<;>simp[Builtin.clear_,h0,zaR hu]
   .have hb:=r.resolve_left hn;subst hb;obtain⟨T,B,I,D,A⟩:=hi.eD _ _ g;rw[s]at B;cases B;obtain⟨_,c,ty,us,suf,S,Q,l,i⟩:=I.cells O;have Y:us.length=cells.length:=i.length;obtain⟨f,M,L⟩:=jm (P:=P) (w:=w) W;have N:0<z.length:=(by omega);obtain⟨zr,zl,V⟩:=Ku (ns:=ns) (G:=G) (n:=n) L N;have C:∀u∈(Builtin.zeroCells f.cells n).toList,u.oneCell'=true:=mP zr (mQ zl);have k:(Builtin.zeroCells f.cells n).toList.length=n*sz:=(by rw[zr.length];simp[K]);have H:c.toList.length=us.length+suf.length:=(by rw[l];simp);have F:c.size=us.length+suf.length:=(by simpa using H);have U:=zcv (P:=P) d.1 off ty (Builtin.zeroCells f.cells n).toList 0 c w S (by rw[k];omega) C;simp only[zb0]at U;have E:c.toList.take off=us.take off:=by rw[l,zbQ (by omega)]
    have R:c.toList.drop (off+(Builtin.zeroCells f.cells n).toList.length)=us.drop (off+(Builtin.zeroCells f.cells n).toList.length)++suf:=by
     rw[l,zdb (by rw[k];omega)]
    have p:(a_ cells off ((List.replicate n (z.map AV.pv)).flatten)).all eo=true:=by
     rw[zas]at*;intro y hy;simp only[a_,zae]at hy;rcases hy with(hy|hy)|hy
     .exact D y (zbh hy)
     .exact zl y hy
     .exact D y (zbY hy)
    have o:(a_ cells off ((List.replicate n (z.map AV.pv)).flatten)).all (aN (b+1))=true:=by
     have J:=V (b+1);rw[zas]at*;intro y hy;simp only[a_,zae]at hy;rcases hy with(hy|hy)|hy
     .exact A y (zbh hy)
     .exact J y hy
     .exact A y (zbY hy)
    have m:aA (num ns) G (a_ cells off ((List.replicate n (z.map AV.pv)).flatten)) (us.take off++(Builtin.zeroCells f.cells n).toList++us.drop (off+(Builtin.zeroCells f.cells n).toList.length)):=iY off i zr
    obtain⟨g1,g2⟩:=hi.vM (cells':=a_ cells off ((List.replicate n (z.map AV.pv)).flatten)) (c':=(c.toList.take off++(Builtin.zeroCells f.cells n).toList++c.toList.drop (off+(Builtin.zeroCells f.cells n).toList.length)).toArray)
      (vs:=us.take off++(Builtin.zeroCells f.cells n).toList++us.drop (off+(Builtin.zeroCells f.cells n).toList.length)) (suf:=suf) g s S (by
       simp only[zc0,zat,zb2,zcA,k,H];rw[<-Q,F];omega)
      (by simp only[E,R,zaF]) m p o
    refine⟨_,?_,g1,g2⟩;cases n with
    |zero=>exact absurd rfl hn
    |succ n=>
     simp only[Builtin.clear_,h0];simp[zaR hu,M,U]
  .simp at h
end
section
variable {P:Program} {ns:Names} {A:nA} {dst:Option Nat} {op:Op} {args:List Operand}
variable{b n a t:Nat}{ag:Bool}{z:List PV}{k:AK}
def Cc{o:Nat}(h:cp P ns A dst op=some (.cD b o n ag,args)):
   ∃t tx,op=.load t (.tmp tx)/\args=[.tmp tx]/\dM P t=some n/\kb P t=some ag:=by
 cases op<;>simp only[cp]at h
 all_goals (repeat' (split at h))
 all_goals (try (simp at h;done))
 all_goals
   simp only[zag,zaw,AK.cD.injEq]at h;obtain⟨⟨rfl,rfl,rfl,rfl⟩,rfl⟩:=h;exact⟨_,_,rfl,rfl,by assumption,by assumption⟩
def Cd(h:cp P ns A dst op=some (.ej b ag,args)):
   ∃t tx,op=.load t (.tmp tx)/\args=[.tmp tx]/\dM P t=some b/\kb P t=some ag:=by
 cases op<;>simp only[cp]at h
 all_goals (repeat' (split at h))
 all_goals (try (simp at h;done))
 all_goals
   simp only[zag,zaw,AK.ej.injEq]at h;obtain⟨⟨rfl,rfl⟩,rfl⟩:=h;exact⟨_,_,rfl,rfl,by assumption,by assumption⟩
def zX{o:Nat}(h:cp P ns A dst op=some (.bN b o n,args)):
   ∃t tx v,op=.store t (.tmp tx) v/\args=[.tmp tx,v]/\dM P t=some n:=by
 cases op<;>simp only[cp]at h
 all_goals (repeat' (split at h))
 all_goals (try (simp at h;done))
 all_goals
   simp only[zag,zaw,AK.bN.injEq]at h;obtain⟨⟨rfl,rfl,rfl⟩,rfl⟩:=h;exact⟨_,_,_,rfl,rfl,by assumption⟩
def zY(h:cp P ns A dst op=some (.eX b,args)):
   ∃t tx v,op=.store t (.tmp tx) v/\args=[.tmp tx,v]/\dM P t=some b:=by
 cases op<;>simp only[cp]at h
 all_goals (repeat' (split at h))
 all_goals (try (simp at h;done))
 all_goals
   simp only[zag,zaw,AK.eX.injEq]at h;obtain⟨rfl,rfl⟩:=h;exact⟨_,_,_,rfl,rfl,by assumption⟩
def Ce(h:cp P ns A dst op=some (.alloc b z,args)):
   ∃t,op=.alloc t/\args=[]/\dp P t=some z/\dst=some b:=by
 cases op<;>simp only[cp]at h
 all_goals (repeat' (split at h))
 all_goals (try (simp at h;done))
 all_goals
   simp only[zag,zaw,AK.alloc.injEq]at h;obtain⟨⟨rfl,rfl⟩,rfl⟩:=h;exact⟨_,rfl,rfl,by assumption,rfl⟩
def zZ(h:cp P ns A dst op=some (.gD z,args)):
   ∃t,op=.alloc t/\args=[]/\dp P t=some z:=by
 cases op<;>simp only[cp]at h
 all_goals (repeat' (split at h))
 all_goals (try (simp at h;done))
 all_goals
   simp only[zag,zaw,AK.gD.injEq]at h;obtain⟨rfl,rfl⟩:=h;exact⟨_,rfl,rfl,by assumption⟩
def Kv(h:cp P ns A dst op=some (.box b n,args)):
   ∃t x,op=.box t x/\args=[x]/\dM P t=some n/\dst=some b:=by
 cases op<;>simp only[cp]at h
 all_goals (repeat' (split at h))
 all_goals (try (simp at h;done))
 all_goals
   simp only[zag,zaw,AK.box.injEq]at h;obtain⟨⟨rfl,rfl⟩,rfl⟩:=h;exact⟨_,_,rfl,rfl,by assumption,rfl⟩
def Fh(h:cp P ns A dst op=some (.rV b,args)):
   ∃t x,op=.box t x/\args=[x]/\dM P t=some b:=by
 cases op<;>simp only[cp]at h
 all_goals (repeat' (split at h))
 all_goals (try (simp at h;done))
 all_goals
   simp only[zag,zaw,AK.rV.injEq]at h;obtain⟨rfl,rfl⟩:=h;exact⟨_,_,rfl,rfl,by assumption⟩
def Fj(h:cp P ns A dst op=some (.vw b,args)):
   ∃t x,op=.box t x/\args=[x]/\dM P t=some b:=by
 cases op<;>simp only[cp]at h
 all_goals (repeat' (split at h))
 all_goals (try (simp at h;done))
 all_goals
   simp only[zag,zaw,AK.vw.injEq]at h;obtain⟨rfl,rfl⟩:=h;exact⟨_,_,rfl,rfl,by assumption⟩
def Fl(h:cp P ns A dst op=some (k,args))(b:(∃sz a ag z,k=.mc sz a ag z)\/∃d sz a z,k=.s6 d sz a z):
   ∃t e l c sz a ag z,op=.makeSlice t l c/\args=[l,c]/\P.underlying t=some (.slice e)/\dM P e=some sz/\iB P e=some a/\dp P e=some z/\z.length=sz/\0<sz /\
     (k=.mc sz a ag z\/∃d,dst=some d/\k=.s6 d sz a z):=by
 have g:∀{o:Sv},k≠.v o:=by rintro o rfl;rcases b with⟨_,_,_,_,e⟩|⟨_,_,_,_,e⟩<;>cases e
 cases op with
 |makeSlice t l c=>
  simp only[cp]at h;split at h
  .rename_i e f;split at h
   .rename_i sz a ag z h1 h2 h3 h4;rw[zab]at h;obtain⟨⟨h5,h6⟩,h⟩:=h;split at h
    .rename_i k' d hd;rw[zab]at h;obtain⟨_,h⟩:=h;simp only[zag,zaw]at h;exact⟨t,e,l,c,sz,a,ag,z,rfl,h.2.symm,fD f,h1,h2,h4,h5,h6,.inr ⟨d,rfl,h.1.symm⟩⟩
    .simp at h
    .simp only[zag,zaw]at h;exact⟨t,e,l,c,sz,a,ag,z,rfl,h.2.symm,fD f,h1,h2,h4,h5,h6,.inl h.1.symm⟩
   .simp at h
  .simp at h
 |_=>
  exfalso;simp only[cp]at h
  (repeat' (split at h))
  all_goals (try (simp at h;done))
  all_goals (try simp only[zag,zaw,zac,zab]at h)
  all_goals (rcases b with⟨_,_,_,_,rfl⟩|⟨_,_,_,_,rfl⟩<;>simp at h)
def Cf(h:cp P ns A dst op=some (.mc n a ag z,args)):
   ∃t e l c,op=.makeSlice t l c/\args=[l,c]/\P.underlying t=some (.slice e)/\dM P e=some n/\iB P e=some a/\dp P e=some z/\z.length=n/\0<n:=by
 obtain⟨t,e,l,c,f,g,i,j,h1,h2,h3,h4,h5,h6,h7,h8,b⟩:=Fl h (.inl ⟨_,_,_,_,rfl⟩);rcases b with b|⟨d,_,b⟩<;>cases b;exact⟨t,e,l,c,h1,h2,h3,h4,h5,h6,h7,h8⟩
def z7(h:cp P ns A dst op=some (.append t a,args)):∃c,op=.call c:=by
 cases op<;>simp only[cp]at h
 all_goals (repeat' (split at h))
 all_goals (try (simp at h;done))
 all_goals exact⟨_,rfl⟩
def xZ(h:cp P ns A dst op=some (.ei t a ag,args)):∃c,op=.call c:=by
 cases op<;>simp only[cp]at h
 all_goals (repeat' (split at h))
 all_goals (try (simp at h;done))
 all_goals exact⟨_,rfl⟩
def z8(h:cp P ns A dst op=some (.iW t z,args)):∃c,op=.call c:=by
 cases op<;>simp only[cp]at h
 all_goals (repeat' (split at h))
 all_goals (try (simp at h;done))
 all_goals exact⟨_,rfl⟩
def Fm(a:(match k with| .aJ _| .dt _| .bg ..| .vz _| .h_| .gE| .clone ..| .kI ..=>true|_=>false)=true)(h:cp P ns A dst op=some (k,args)):∃c,op=.call c:=by
 cases op<;>simp only[cp]at h
 all_goals (repeat' (split at h))
 all_goals (try (simp at h;done))
 all_goals (first|exact⟨_,rfl⟩|skip)
 all_goals (simp at h;first|(obtain⟨rfl,_⟩:=h;simp at a;done)|(obtain⟨_,_,rfl,_⟩:=h;simp at a;done))
end
section
variable {orc:fQ} {vals:List AV} {cells:Option (List AV)} {sh:Sh} {aa:aH} {out:Out}
variable{t a:Nat}{ag:Bool}{z:List PV}
def jn{off b:Nat}(h:exec orc (.cD t off b ag) vals cells sh aa=some out):
   ∃cs x,vals=[.au t off]/\cells=some cs/\cm ag b cs off=some x/\out=⟨x,none,sh,aa⟩:=by
 rcases vals with _|⟨v,_|⟨u,r⟩⟩
 .simp[exec]at h
 .cases v with
  |au d o=>
   simp only[exec,zab]at h;obtain⟨⟨rfl,rfl⟩,h⟩:=h;cases cells with
   |none=>simp at h
   |some cs=>
    simp only[zac]at h;obtain⟨x,h1,rfl⟩:=h;exact⟨cs,x,rfl,rfl,h1,rfl⟩
  |_=>simp[exec]at h
 .cases v<;>simp[exec]at h
def jM{off b:Nat}(h:exec orc (.bN t off b) vals cells sh aa=some out):
   ∃cs v,vals=[.au t off,v]/\cells=some cs/\(bf v).length=b/\(bf v).all a9=true/\off+b<=cs.length/\out=⟨.un,some (a_ cs off (bf v)),sh,aa⟩:=by
 rcases vals with _|⟨v,_|⟨u,_|⟨_,_⟩⟩⟩
 .simp[exec]at h
 .cases v<;>simp[exec]at h
 .cases v with
  |au d o=>
   simp only[exec,zab]at h;obtain⟨⟨rfl,rfl,h1,h2⟩,h⟩:=h;cases cells with
   |none=>simp at h
   |some cs=>
    simp only[zab,zag]at h;obtain⟨h3,rfl⟩:=h;exact⟨cs,u,rfl,rfl,h1,h2,h3,rfl⟩
  |_=>simp[exec]at h
 .cases v<;>simp[exec]at h
def kW(h:exec orc (.alloc t z) vals cells sh aa=some out):
   vals=[]/\cells=none/\out=⟨.au t 0,some (z.map bK.zeroCell),sh,aa⟩:=by
 cases vals with
 |nil=>cases cells with
  |none=>simp[exec]at h;exact⟨rfl,rfl,h.symm⟩
  |some _=>simp[exec]at h
 |cons _ _=>simp[exec]at h
def nU{b:Nat}(h:exec orc (.box t b) vals cells sh aa=some out):
   ∃v,vals=[v]/\cells=none/\(bf v).length=b/\(bf v).all a9=true/\out=⟨.au t 0,some (bf v),sh,aa⟩:=by
 rcases vals with _|⟨v,_|⟨u,r⟩⟩
 .simp[exec]at h
 .cases cells with
  |none=>
   simp only[exec,zab,zag]at h;obtain⟨⟨h1,h2⟩,rfl⟩:=h;exact⟨v,rfl,rfl,h1,h2,rfl⟩
  |some _=>simp[exec]at h
 .simp[exec]at h
def mT(h:exec orc (.ej t ag) vals cells sh aa=some out):
   ∃p x,vals=[p]/\out=⟨x,none,sh,aa⟩/\((∃cs,p=.et cs/\cV ag t cs=some x)\/∃b off cs,p=.aL b off/\sh[b]?=some (some cs)/\dR cs=false/\cm ag t cs off=some x):=by
 rcases vals with _|⟨v,_|⟨u,r⟩⟩
 .simp[exec]at h
 .simp only[exec]at h;split at h
  .rename_i cs;simp only[zac]at h;obtain⟨x,h1,rfl⟩:=h;exact⟨_,x,rfl,rfl,.inl ⟨cs,rfl,h1⟩⟩
  .rename_i b off;split at h
   .rename_i cs a;split at h
    .cases h
    .rename_i hm;simp only[zac]at h;obtain⟨x,h1,rfl⟩:=h;exact⟨_,x,rfl,rfl,.inr ⟨b,off,cs,rfl,a,by simpa using hm,h1⟩⟩
   .simp at h
  .simp at h
 .simp[exec]at h
def jN(h:exec orc (.eX t) vals cells sh aa=some out):
   ∃b off v cs,vals=[.aL b off,v]/\sh[b]?=some (some cs)/\dR cs=false/\(cP v).length=t/\off+t<=cs.length/\(cP v).all eo=true/\(cP v).all (aN (b+1))=true /\
     out=⟨.un,none,sh.set b (some (a_ cs off (cP v))),aa⟩:=by
 rcases vals with _|⟨v,_|⟨u,_|⟨_,_⟩⟩⟩
 .simp[exec]at h
 .cases v<;>simp[exec]at h
 .cases v with
  |aL b off=>
   simp only[exec]at h;split at h
   .rename_i cs a;simp only[zab,zag]at h;obtain⟨⟨h0,h1,h2,h3,h4⟩,rfl⟩:=h;exact⟨b,off,u,cs,rfl,a,h0,h1,h2,h3,h4,rfl⟩
   .simp at h
  |_=>simp[exec]at h
 .cases v<;>simp[exec]at h
def oN(h:exec orc (.rV t) vals cells sh aa=some out):
   ∃v,vals=[v]/\(cP v).length=t/\(cP v).all eo=true/\(cP v).all (aN sh.length)=true/\out=⟨.aL sh.length 0,none,sh++[some (cP v)],aa⟩:=by
 rcases vals with _|⟨v,_|⟨u,r⟩⟩
 .simp[exec]at h
 .simp only[exec,zab,zag]at h;obtain⟨⟨h1,h2,h3⟩,rfl⟩:=h;exact⟨v,rfl,h1,h2,h3,rfl⟩
 .simp[exec]at h
def oO(h:exec orc (.vw t) vals cells sh aa=some out):
   ∃v,vals=[v]/\(bf v).length=t/\(bf v).all eo=true/\(bf v).all (aN sh.length)=true/\out=⟨.aL sh.length 0,none,sh++[some (bf v)],aa⟩:=by
 rcases vals with _|⟨v,_|⟨u,r⟩⟩
 .simp[exec]at h
 .simp only[exec,zab,zag]at h;obtain⟨⟨h1,h2,h3⟩,rfl⟩:=h;exact⟨v,rfl,h1,h2,h3,rfl⟩
 .simp[exec]at h
def lF(h:exec orc (.gD z) vals cells sh aa=some out):vals=[]/\out=⟨.aL sh.length 0,none,sh++[some (z.map bK.zeroCell)],aa⟩:=by
 cases vals with
 |nil=>simp[exec]at h;exact⟨rfl,h.symm⟩
 |cons _ _=>simp[exec]at h
def mU(h:exec orc (.mc t a ag z) vals cells sh aa=some out):
   ∃k k' n,vals=[.pv (.int k n),.pv (.int k' n)]/\0<=n/\n<=9223372036854775807/\n*a<=140737488355328/\z.length=t /\
     out=⟨.bl sh.length t n.toNat ag,none,sh++[some ((List.replicate n.toNat (z.map .pv)).flatten)],aa⟩:=by
 rcases vals with _|⟨v,_|⟨u,_|⟨_,_⟩⟩⟩
 .simp[exec]at h
 .simp[exec]at h
 .cases v with
  |pv p=>cases p with
   |int k n=>cases u with
    |pv q=>cases q with
     |int k' n'=>
      simp only[exec,zab,zag]at h;obtain⟨⟨rfl,h1,h2,h3,h4⟩,rfl⟩:=h;exact⟨k,k',n,rfl,h1,h2,h3,h4,rfl⟩
     |_=>simp[exec]at h
    |_=>simp[exec]at h
   |_=>simp[exec]at h
  |_=>simp[exec]at h
 .simp[exec]at h
def pW(h:exec orc (.clone t a) vals cells sh aa=some out):
   ∃x y ts,vals=[x]/\cz t a (.dm []) x aa=some (y,ts)/\out=⟨y,none,sh,ts⟩:=by
 rcases vals with _|⟨v,_|⟨_,_⟩⟩
 .simp[exec]at h
 .simp only[exec,zac]at h;obtain⟨⟨y,ts⟩,h1,rfl⟩:=h;exact⟨v,y,ts,rfl,h1,rfl⟩
 .simp[exec]at h
def lG(h:exec orc (.append t a) vals cells sh aa=some out):
   ∃s x y ts,vals=[s,x]/\cz t a s x aa=some (y,ts)/\out=⟨y,none,sh,ts⟩:=by
 rcases vals with _|⟨v,_|⟨u,_|⟨_,_⟩⟩⟩
 .simp[exec]at h
 .simp[exec]at h
 .simp only[exec,zac]at h;obtain⟨⟨y,ts⟩,h1,rfl⟩:=h;exact⟨v,u,y,ts,rfl,h1,rfl⟩
 .simp[exec]at h
def tw(h:exec orc (.iW t z) vals cells sh aa=some out):
   ∃x sh',vals=[x]/\pQ t z sh (vA t x)=some sh'/\out=⟨.rQ [],none,sh',aa⟩:=by
 rcases vals with _|⟨v,_|⟨u,_⟩⟩
 .simp[exec]at h
 .simp only[exec,zac]at h;obtain⟨sh',h1,rfl⟩:=h;exact⟨v,sh',rfl,h1,rfl⟩
 .simp[exec]at h
def mV(h:exec orc (.ei t a ag) vals cells sh aa=some out):
   ∃s x xs y sh',vals=[s,x]/\dG x=some xs/\bj t xs=true/\um t a ag s xs sh aa=some (y,sh')/\out=⟨y,none,sh',aa⟩:=by
 rcases vals with _|⟨v,_|⟨u,_|⟨_,_⟩⟩⟩
 .simp[exec]at h
 .simp[exec]at h
 .simp only[exec]at h;split at h
  .rename_i xs b;simp only[zab,zac]at h;obtain⟨h0,⟨y,sh'⟩,h1,rfl⟩:=h;exact⟨v,u,xs,y,sh',rfl,b,h0,h1,rfl⟩
  .simp at h
 .simp[exec]at h
end
section
variable {P:Program} {ns:Names} {G:Gh} {w:World}
def AK.calls:AK->Bool
 | .aJ _| .dt _| .bg ..| .vz _| .h_| .gE| .clone ..| .kI ..=>true
 |_=>false
variable{mem:List (Nat×List AV)}{sh:Sh}{aa:aH}
def gU(k:Option Nat):gG mem k none=mem:=by cases k<;>rfl
def tz{v:AV}{u:Value}(h:aD (num ns) G v u)(hl:(cP v).all a9=true):aA (num ns) G (cP v) u.cells.toList:=by
 cases v with
 |dm l=>exact aD.cells (x:=.dm l) h hl
 |own l τ=>exact aD.cells (x:=.own l τ) h hl
 |_=>
  simp only[cP]at hl⊢;split
  .rename_i p hp;simp only[hp]at hl;exact aD.cells (by simp only[aD];exact zR hp h) hl
  .rename_i hp;simp only[hp]at hl;exact h.cells hl
def dK{s:Sem Value}{s':Sem Next}{x:AV}{v:Value}{w':World}{G':Gh}(hs:s'=(do pure (.value (<-s))))(h1:s.run P w=.ok v w')(h2:aD (num ns) G' x v)
   (h3:Inv (num ns) G' w' mem sh aa) (h4:G.le G') (h5:bZ G w G' w'):Z' ns P G w mem sh aa s' x:=
 ⟨.value v,v,w',G',by rw[hs];simp only[zav,h1,zam,zaC],.inl rfl,h2,h3,h4,h5⟩
def tD{A:nA}{o:Oper}{k:AK}{args:List Operand}{orc:fQ}(F:cp P ns A o.dst o.op=some (k,args))(X:k.calls=false){a:Act}{vals:List AV}{out:Out}
      (hr:aA (num ns) G vals (args.map a.eval)) (hi:Inv (num ns) G w mem sh aa)
   (h:exec orc k vals (k.key.bind (look mem)) sh aa=some out):
   Z' ns P G w (gG mem k.key out.cells) out.sh out.aa (execOp a.eval o) out.val:=by
 obtain⟨dst,op,type,pos,after,guard⟩:=o;cases k with
 |v vo=>
  simp only[exec,zac]at h;obtain⟨x,h1,rfl⟩:=h;obtain⟨v,w',G',g1,g2,E,g4,g5⟩:=B_ F hr hi h1;exact⟨.value v,v,w',G',g1,.inl rfl,g2,by simpa[gU]using E,g4,g5⟩
 |aJ g=>simp[AK.calls]at X
 |dt g=>simp[AK.calls]at X
 |bg g own=>simp[AK.calls]at X
 |vz g=>simp[AK.calls]at X
 |h_=>simp[AK.calls]at X
 |gE=>simp[AK.calls]at X
 |clone sz W=>simp[AK.calls]at X
 |kI sz W ag=>simp[AK.calls]at X
 |cD key off sz ag=>
  obtain⟨t,tx,rfl,rfl,f,V⟩:=Cc F;obtain⟨cs,x,rfl,i,hx,rfl⟩:=jn h;simp only[AK.key,za8]at i;obtain⟨Z,e,h1⟩:=cC (by simpa using hr);cases e;simp only[aD]at h1;obtain⟨b,hp,T⟩:=h1;obtain⟨b',C,D,_⟩:=hi.dz _ _ i;rw[hp]at C;cases C;obtain⟨_,c,ty,Y,r⟩:=D;obtain⟨u,g1,g2⟩:=ki (w:=w) f V hx r (lQ Y);refine dK (s:=Instr.loadAt t (a.eval (.tmp tx))) (v:=u) (w':=w) rfl ?_ g2 (by simpa[gU]using hi) G.le_refl (bZ.refl G w);rw[T];simp[Instr.loadAt,Instr.sureAddr,g1]
 |ej sz ag=>
  obtain⟨t,tx,rfl,rfl,f,V⟩:=Cd F;obtain⟨p,x,rfl,rfl,ai⟩:=mT h;obtain⟨Z,e,h1⟩:=cC (by simpa using hr);cases e;rcases ai with⟨cs,rfl,hx⟩|⟨s,off,cs,rfl,i,hx⟩
  .simp only[aD]at h1;obtain⟨b,o,vs,T,ha,ac⟩:=h1;obtain⟨u,g1,g2⟩:=pE (ns:=ns) (w:=w) f V hx ac (fun j v hj=>hi.known _ _ _ (ha j v hj));refine dK (s:=Instr.loadAt t (a.eval (.tmp tx))) (v:=u) (w':=w) rfl ?_ g2 (by simpa[gU]using hi) G.le_refl (bZ.refl G w);rw[T];simp[Instr.loadAt,Instr.sureAddr,g1]
  .obtain⟨a4,hx⟩:=hx;simp only[aD]at h1;obtain⟨b,hp,T⟩:=h1;obtain⟨b',C,D,_⟩:=hi.eD _ _ i;rw[hp]at C;cases C;obtain⟨_,c,ty,vs,suf,Y,_,U,r⟩:=D.cells a4;obtain⟨u,g1,g2⟩:=ki (w:=w) f V hx r (qG Y U);refine dK (s:=Instr.loadAt t (a.eval (.tmp tx))) (v:=u) (w':=w) rfl ?_ g2 (by simpa[gU]using hi) G.le_refl (bZ.refl G w);rw[T];simp[Instr.loadAt,Instr.sureAddr,g1]
 |bN key off sz=>
  obtain⟨t,tx,v,rfl,rfl,f⟩:=zX F;obtain⟨cs,x,rfl,i,hl,q,aj,rfl⟩:=jM h;simp only[AK.key,za8]at i;obtain⟨x1,x2,e,h1,h2⟩:=e_ (by simpa using hr);cases e;simp only[aD]at h1;obtain⟨b,hp,T⟩:=h1;obtain⟨b',C,D,O⟩:=hi.dz _ _ i;rw[hp]at C;cases C;obtain⟨_,c,ty,Y,r⟩:=D;have d:=h2.cells q;have I:(a.eval v).cells.size=sz:=by have:=d.length;simp at this;omega
  have L:=r.length;simp at L;have M:=qJ (P:=P) (w:=w) f I Y (off:=off) (by omega) (mP d q)
  obtain⟨g1,g2⟩:=hi.Km (cells':=a_ cs off (bf x)) i hp (c':=(c.toList.take off++(a.eval v).cells.toList++c.toList.drop (off+(a.eval v).cells.toList.length)).toArray)
    (by simpa using iY off r d) (kj O q)
  refine⟨.skip,undef,_,G,?_,.inr ⟨rfl,rfl⟩,by simp[aD],g1,G.le_refl,g2⟩;simp[execOp,T,Instr.storeAt,Instr.sureAddr,M]
 |eX sz=>
  obtain⟨t,tx,v,rfl,rfl,f⟩:=zY F;obtain⟨s,off,x,cs,rfl,i,a4,hl,aj,q,N,rfl⟩:=jN h;obtain⟨x1,x2,e,h1,h2⟩:=e_ (by simpa using hr);cases e;simp only[aD]at h1;obtain⟨b,hp,T⟩:=h1;obtain⟨b',C,D,O,am⟩:=hi.eD _ _ i;rw[hp]at C;cases C;obtain⟨_,c,ty,vs,suf,Y,al,U,r⟩:=D.cells a4;have d:=tz h2 (mQ q);have I:(a.eval v).cells.size=sz:=by have:=d.length;simp at this;omega
  have L:=r.length;have an:c.size=vs.length+suf.length:=(by rw[<-Array.length_toList,U,zat]);have ao:(a.eval v).cells.toList.length=sz:=(by simpa using I);have M:=qJ (P:=P) (w:=w) f I Y (off:=off) (by omega) (mP d (mQ q))
  obtain⟨g1,g2⟩:=hi.vM (cells':=a_ cs off (cP x)) i hp Y (c':=(c.toList.take off++(a.eval v).cells.toList++c.toList.drop (off+(a.eval v).cells.toList.length)).toArray)
    (suf:=suf) (vs:=vs.take off++(a.eval v).cells.toList++vs.drop (off+(a.eval v).cells.toList.length))
    (by rw[<-al];simp;omega)
    (by
     show c.toList.take off++(a.eval v).cells.toList++c.toList.drop (off+(a.eval v).cells.toList.length)=_;rw[U,zbQ (by omega),zdb (by omega)];simp[zaF])
    (iY off r d) (kj O q) (kj am N)
  refine⟨.skip,undef,_,G,?_,.inr ⟨rfl,rfl⟩,by simp[aD],by simpa[AK.key,gG]using g1,G.le_refl,g2⟩;simp[execOp,T,Instr.storeAt,Instr.sureAddr,M]
 |alloc key z=>
  obtain⟨t,rfl,rfl,K,rfl⟩:=Ce F;obtain⟨rfl,i,rfl⟩:=kW h;simp only[AK.key,za8]at i;obtain⟨zv,a1,a0⟩:=jm (P:=P) (w:=w) K;obtain⟨zr,zl⟩:=jD (G:=G) (ρ:=num ns) a0;obtain⟨g1,g2,E⟩:=hi.yy (c:=zv.cells) t i zr zl;refine dK (s:=Instr.alloc t true (.tuple #[])) (v:=.pointer (some ⟨w.heap.size,0,none⟩)) rfl ?_ ?_ g1 g2 E
  .simp only[Instr.alloc,zav,a1,zam,kS,zaC]
  .simp only[aD];exact⟨_,by simp[Gh.dT],rfl⟩
 |box key sz=>
  obtain⟨t,y,rfl,rfl,f,rfl⟩:=Kv F;obtain⟨x,rfl,i,hl,q,rfl⟩:=nU h;simp only[AK.key,za8]at i;obtain⟨Z,e,h1⟩:=cC (by simpa using hr);cases e;have d:=h1.cells q;obtain⟨g1,g2,E⟩:=hi.yy (c:=(a.eval y).cells) t i d q;refine dK (s:=Instr.box t (a.eval y)) (v:=.pointer (some ⟨w.heap.size,0,none⟩)) rfl ?_ ?_ g1 g2 E
  .simp only[Instr.box,zav,kS,zam,zaC]
  .simp only[aD];exact⟨_,by simp[Gh.dT],rfl⟩
 |gD z=>
  obtain⟨t,rfl,rfl,K⟩:=zZ F;obtain⟨rfl,rfl⟩:=lF h;obtain⟨zv,a1,a0⟩:=jm (P:=P) (w:=w) K;obtain⟨zr,zl⟩:=jD (G:=G) (ρ:=num ns) a0;obtain⟨g1,g2,E⟩:=hi.qI (c:=zv.cells) t zr zl (Kt _ z);refine dK (s:=Instr.alloc t true (.tuple #[])) (v:=.pointer (some ⟨w.heap.size,0,none⟩)) rfl ?_ ?_ g1 g2 E
  .simp only[Instr.alloc,zav,a1,zam,kS,zaC]
  .simp only[aD];exact⟨(w.heap.size,zv.cells.size),by simp[Gh.dJ],rfl⟩
 |rV sz=>
  obtain⟨t,y,rfl,rfl,f⟩:=Fh F;obtain⟨x,rfl,hl,q,N,rfl⟩:=oN h;obtain⟨Z,e,h1⟩:=cC (by simpa using hr);cases e;have d:=tz h1 (mQ q);obtain⟨g1,g2,E⟩:=hi.qI (c:=(a.eval y).cells) t d q (ko (zbC _) N);refine dK (s:=Instr.box t (a.eval y)) (v:=.pointer (some ⟨w.heap.size,0,none⟩)) rfl ?_ ?_ g1 g2 E
  .simp only[Instr.box,zav,kS,zam,zaC]
  .simp only[aD];exact⟨(w.heap.size,(a.eval y).cells.size),by simp[Gh.dJ],rfl⟩
 |vw sz=>
  obtain⟨t,y,rfl,rfl,f⟩:=Fj F;obtain⟨x,rfl,hl,q,N,rfl⟩:=oO h;obtain⟨Z,e,h1⟩:=cC (by simpa using hr);cases e;have d:=h1.cells (mQ q);obtain⟨g1,g2,E⟩:=hi.qI (c:=(a.eval y).cells) t d q (ko (zbC _) N);refine dK (s:=Instr.box t (a.eval y)) (v:=.pointer (some ⟨w.heap.size,0,none⟩)) rfl ?_ ?_ g1 g2 E
  .simp only[Instr.box,zav,kS,zam,zaC]
  .simp only[aD];exact⟨(w.heap.size,(a.eval y).cells.size),by simp[Gh.dJ],rfl⟩
 |mc sz W ag z=>
  obtain⟨t,e,l,c,rfl,rfl,hu,f,Q,K,H,h0⟩:=Cf F;obtain⟨k,k',n,rfl,h1,h2,h3,_,rfl⟩:=mU h;obtain⟨x1,x2,e',r1,r2⟩:=e_ (by simpa using hr);cases e';obtain⟨v,w',G',g1,g2,E,g4,g5⟩:=Ca (k:=k) (k':=k') (ag:=ag) hu f Q K H h0 h1 h2 h3 hi;refine dK (s:=Instr.makeSlice t (a.eval l) (a.eval c)) rfl ?_ g2 E g4 g5;rw[tv r1,tv r2];exact g1
 |append sz W=>
  obtain⟨c,rfl⟩:=z7 F;obtain⟨x,y,t,e,t1,e1,z,B,m,rfl,h0,h1,hu,a2,f,Q,K,H,a3,a5⟩:=Fe F;obtain⟨s,Z,y',ts,rfl,R,rfl⟩:=lG h;obtain⟨x1,x2,e',r1,r2⟩:=e_ (by simpa using hr);cases e';obtain⟨v,w',G',g1,g2,E,g4,g5⟩:=zV (type:=type) h0 h1 hu a2 f Q K H a5 r1 r2 hi R;refine dK (s:=Builtin.append_ c.argTypes type #[a.eval x,a.eval y]) ?_ g1 g2 E g4 g5;obtain⟨callee,S,J⟩:=c;simp only at B m;subst B;subst m;simp[execOp,resolve,invoke,builtin]
 |ei sz W ag=>
  obtain⟨c,rfl⟩:=xZ F;obtain⟨x,y,t,e,t1,e1,z,B,m,rfl,h0,h1,hu,a2,f,Q,K,H,a3,a5⟩:=B' F;obtain⟨s,Z,xs,y',sh',rfl,ab,ak,R,rfl⟩:=mV h;obtain⟨x1,x2,e',r1,r2⟩:=e_ (by simpa using hr);cases e';obtain⟨v,w',G',g1,g2,E,g4,g5⟩:=xY (type:=type) h0 h1 hu a2 f Q K H a5 r1 r2 hi ab ak R;refine dK (s:=Builtin.append_ c.argTypes type #[a.eval x,a.eval y]) ?_ g1 g2 E g4 g5;obtain⟨callee,S,J⟩:=c;simp only at B m;subst B;subst m;simp[execOp,resolve,invoke,builtin]
 |iW sz z=>
  obtain⟨c,rfl⟩:=z8 F;obtain⟨x,t,e,B,m,rfl,h0,hu,f,K,H,a3⟩:=Fg F;obtain⟨Z,sh',rfl,O,rfl⟩:=tw h;obtain⟨x1,e',r1⟩:=cC (by simpa using hr);cases e';obtain⟨w',g1,g2,E⟩:=zW (type:=type) h0 hu K H a3 r1 hi O;refine dK (s:=Builtin.clear_ c.argTypes type #[a.eval x]) (v:=.tuple #[]) ?_ g1 (by simp only[aD];exact⟨[],rfl,by simp[aA]⟩) g2 G.le_refl E;obtain⟨callee,S,J⟩:=c;simp only at B m;subst B;subst m;simp[execOp,resolve,invoke,builtin]
 |_=>first|(simp[exec]at h;done)|(simp[exec]at e;done)|(simp[exec];done)
def KOk(K:bA)(w:World):Prop:=∀b o v,K b o=some v->w.cell? ⟨b,o,none⟩=some v
def aab(p:Nat->Option (Array Value))(w:World):Prop:=∀b c,p b=some c->∃t z,w.heap[b]?=some (.cells c t z)
def nV(K:bA)(rs:List PV)(v:Value):Prop:=
 match rs with
 |[r]=>Rel K r v
 |rs=>∃vs:List Value,v=.tuple vs.toArray/\mL K rs vs
def dU(ρ:bV)(G:Gh)(rs:List AV)(v:Value):Prop:=
 match rs with
 |[r]=>aD ρ G r v
 |rs=>∃vs:List Value,v=.tuple vs.toArray/\aA ρ G rs vs
def VO(P:Program)(ns:Names)(f:FuncId)(eE rs:List PV):Prop:=
 ∀(K:bA)(w:World)(vs:List Value),aab ns.py w->KOk K w->mL K eE vs->
   Calls P f vs.toArray w fun e w'=>∃v K',e=.returned v/\nV K' rs v/\K.le K'/\(∀b o u,b<w.heap.size->K' b o=some u->K b o=some u)/\KOk K' w'/\RowKit.Below w.heap.size w w'
def acb(P:Program)(ns:Names)(f:FuncId)(args:List AV)(ts:aH)(rs:List AV)(sh sh':Sh)(ts':aH):Prop:=
 ∀(G:Gh)(w:World)(vs:List Value),Inv (num ns) G w [] sh ts->aA (num ns) G args vs->
   Calls P f vs.toArray w fun e w'=>∃v G',e=.returned v/\dU (num ns) G' rs v/\Inv (num ns) G' w' [] sh' ts'/\bZ G w G' w'
def NT(P:Program)(ns:Names)(f sz bytes:Nat):Prop:=
 ∀(o:Option Bool)(G:Gh)(w:World)(mem:List (Nat×List AV))(sh sh':Sh)(aa toks':aH)(x y:AV)(v:Value),Inv (num ns) G w mem sh aa->aD (num ns) G x v->ij o sz bytes x sh aa=some (y,sh',toks')->
   Calls P f #[v] w fun e w'=>∃u G',e=.returned u/\aD (num ns) G' y u/\Inv (num ns) G' w' mem sh' toks'/\G.le G'/\bZ G w G' w'
structure lH(P:Program)(ns:Names)(orc:fQ):Prop where
 p:∀g f eE rs,ns.of f=some g->orc.p g eE=some rs->VO P ns f eE rs
 i:∀g f args ts rs sh sh' ts',ns.of f=some g->args.all bQ=true->orc.i g args sh ts=some (rs,sh',ts')->acb P ns f args ts rs sh sh' ts'/\rs.all bQ=true
 c:∀g sz bytes f,look ns.cl g=some (sz,bytes)->ns.of f=some g->NT P ns f sz bytes
def jo(P:Program) (ns:Names):Prop:=∀f g,ns.of f=some g→∃fn b,P.funcs[f]?=some fn∧fn.body=some b∧fn.name ≠ "runtime.NumGoroutine"
def mX{f:FuncId}{t:Nat}(a:jo P ns)(hf:ns.of f=some t)(args:Array Value):(callFunc f args).run P w=.ok (.enter f args) w:=by
 obtain⟨fn,b,h1,h2,h3⟩:=a f t hf;simp[callFunc,h1,h2,h3]
mutual
theorem oP{ρ:bV}{G':Gh}(hK:G.K.le G'.K)(hs:∀s b,G.sm s=some b->G'.sm s=some b):∀{x:AV}{v:Value},bU x=true->aD ρ G x v->aD ρ G' x v
 | .pv p,_,_,h=>by simp only[aD]at h⊢;exact h.mono hK
 | .aL s o,_,_,h=>by simp only[aD]at h⊢;obtain⟨b,e,r⟩:=h;exact⟨b,hs _ _ e,r⟩
 | .bl s _ n _,_,_,h=>by simp only[aD]at h⊢;obtain⟨b,c,e,r⟩:=h;exact⟨b,c,hs _ _ e,r⟩
 | .iN,_,_,h=>by simpa only[aD]using h
 | .kH s,_,_,h=>by simp only[aD]at h⊢;obtain⟨b,e,r⟩:=h;exact⟨b,hs _ _ e,r⟩
 | .rT ..,_,hp,_=>by simp[bU]at hp
 | .gA _,_,_,h=>by simp only[aD]at h
 | .fn g cap,_,hp,h=>by
  simp only[bU]at hp;simp only[aD]at h⊢;obtain⟨f,vs,e1,e2,r⟩:=h;exact⟨f,vs,e1,e2,sg hK hs hp r⟩
 | .un,_,hp,_=>by simp[bU]at hp
 | .dm _,_,_,h=>by simp only[aD]at h⊢;obtain⟨b,l,e,r⟩:=h;exact⟨b,l,e,r.mono hK⟩
 | .own _ _,_,hp,_=>by simp[bU]at hp
 | .agg _,_,hp,h=>by
  simp only[bU]at hp;simp only[aD]at h⊢;obtain⟨vs,e,r⟩:=h;exact⟨vs,e,sg hK hs hp r⟩
 | .rQ _,_,hp,_=>by simp[bU]at hp
 | .au _ _,_,hp,_=>by simp[bU]at hp
 | .et _,_,hp,_=>by simp[bU]at hp
theorem sg{ρ:bV}{G':Gh}(hK:G.K.le G'.K)(hs:∀s b,G.sm s=some b->G'.sm s=some b):∀{xs:List AV}{vs:List Value},bU.ji xs=true->aA ρ G xs vs->aA ρ G' xs vs
 |[],_,_,h=>by simpa only[aA]using h
 |x::xs,_,hp,h=>by
  simp only[bU.ji,zaj]at hp;simp only[aA]at h⊢;obtain⟨v,r,e,e1,e2⟩:=h;exact⟨v,r,e,oP hK hs hp.1 e1,sg hK hs hp.2 e2⟩
end
def Inv.pure{K':bA}{m:World}(hi:Inv (num ns) G w mem sh aa)(hK:G.K.le K')(a:∀b o u,b<w.heap.size->K' b o=some u->G.K b o=some u)
   (p:KOk K' m) (g:RowKit.Below w.heap.size w m):Inv (num ns) {G with K:=K'} m mem sh aa/\G.le {G with K:=K'}/\bZ G w {G with K:=K'} m:=by
 have l:G.le {G with K:=K'}:=⟨hK,fun _ _ h=>h,fun _ _ h=>h,fun _ t h=>⟨t,h,⟨zal _,t.jA⟩,fun _=>rfl⟩⟩
 have k:bZ G w {G with K:=K'} m:={
           size:=g.size,os:=g.os,tape:=g.tape,output:=g.output,K:=hK,sm:=fun _ _ h=>h,
           eM:=fun b h hr=>⟨hr,g.block b h⟩,kL:=fun b τ _ hr=>.inr ⟨τ,hr⟩,jK:=fun b o v h _ f=>a b o v h f}
 refine⟨⟨p,?_,?_,?_,hi.jJ,?_,hi.ix,?_,hi.iE,hi.kM k⟩,l,k⟩
 .intro b o v f;by_cases h:b<w.heap.size
  .exact hi.bn b o v (a b o v h f)
  .exact .inl (hi.fresh b (by omega))
 .intro b h;have:=g.size;exact hi.fresh b (by omega)
 .intro d cs hd;obtain⟨b,e1,e2,e3⟩:=hi.dz d cs hd;have e:b<w.heap.size:=by obtain⟨_,_,_,q,_⟩:=e2;exact dv q
  exact⟨b,e1,e2.mono l rfl (g.block b e),e3⟩
 .intro s cs hs;obtain⟨b,e1,e2,e3⟩:=hi.eD s cs hs;have e:b.1<w.heap.size:=e2.lt;exact⟨b,e1,e2.mono l rfl (g.block b.1 e),e3⟩
 .intro τ n hn;obtain⟨t,e1,e2,e3⟩:=hi.dO τ n hn;refine⟨t,e1,e2,e3.cap,e3.zero,fun e=>?_⟩;obtain⟨b,o,c,ty,f1,f2,f3,r,f5⟩:=e3.spare e;have i:=dv f3;exact⟨b,o,c,ty,f1,f2,(g.block b i).trans f3,r,fun j v f=>f5 j v (a b j v i f)⟩
end
end Go.Ab
