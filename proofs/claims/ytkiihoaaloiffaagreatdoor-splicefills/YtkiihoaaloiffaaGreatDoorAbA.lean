import GoSem.Core.Value
import GoSem.Core.Ast
import GoSem.Core.View
import Derived.Calls
import Derived.Laws.World
import Derived.Laws.Sem
import Derived.Orders
import Derived.Below
import Derived.Laws.Cells
import Derived.Laws.CopyRow
import Derived.Laws.Entries
import Derived.Laws.Strings
import Derived.Laws.IdiomStrings
import Derived.Laws.Tables
import Derived.RangeFuncRecord
/- The abstract machine, and that the code of the model does what its slim code says. -/
set_option linter.defProp false
set_option linter.unusedVariables false
set_option linter.unusedSimpArgs false
set_option linter.unnecessarySimpa false
set_option maxRecDepth 100000
set_option maxHeartbeats 8000000
namespace Go.Ab
def zbl:=@List.take_succ_cons
def zbb:=@List.cons_append
def zaI:=@Nat.add_mul
def zau:=@List.mem_cons
def zbn:=@List.getElem?_append
def zar:=@List.getElem?_append_left
def zaa:=@List.getElem?_eq_some_iff
def zaB:=@List.getElem?_append_right
def zaz:=@List.mem_append
def zbf:=@List.drop_succ_cons
def za3:=@List.take_zero
def zas:=@Nat.le_refl
def za9:=@Nat.le_trans
def zal:=@List.map_cons
def zb5:=@Nat.lt_of_lt_of_le
def zaW:=@Array.getElem?_eq_some_iff
def zay:=@Go.Sem.run_bind
def zaL:=@Go.run_underlying
def zam:=@Go.Result.andThen_ok
def zac:=@Option.map_eq_some_iff
def zci:=@or_false
def zde:=@Int.not_lt
def zai:=@if_neg
def zaG:=@Go.Sem.run_pure
def zbc:=@if_true
def za6:=@Bool.false_eq_true
def zbI:=@if_false
def zab:=@Option.ite_none_right_eq_some
def zb8:=@List.getElem?_drop
def zba:=@Nat.add_zero
def zbT:=@Go.run_loadCells_list
def zb7:=@List.getElem?_take
def zbN:=@Nat.add_assoc
def zag:=@Option.some.injEq
def zcO:=@List.mapM_cons
def zaQ:=@List.all_cons
def zcS:=@Bool.and_true
def zaS:=@List.foldl_cons
def zaq:=@List.all_eq_true
def zbd:=@List.mem_of_mem_take
def zbW:=@List.mem_of_mem_drop
def zcU:=@List.zip_cons_cons
def zdh:=@Array.mapM_eq_mapM_toList
def zcd:=@Nat.lt_or_ge
def zbi:=@Nat.zero_add
def zc5:=@List.flatMap_nil
def zax:=@List.append_nil
def zaf:=@List.take_of_length_le
def zbm:=@congrArg
def zad:=@List.length_append
def zbk:=@List.length_take
def zce:=@List.length_drop
def zae:=@List.length_cons
def zc3:=@List.range'_succ
def zav:=@List.flatMap_cons
def zaP:=@List.append_assoc
def zaV:=@List.take_append
def zah:=@Bool.and_eq_true
def zcH:=@beq_iff_eq
def zb0:=@Nat.add_sub_cancel_left
def zaF:=@Option.bind_eq_some_iff
def zan:=@if_pos
def zbP:=@Option.isSome_none
def zbV:=@Option.map_none
def zaT:=@Option.map_some
def zbH:=@List.cons.injEq
def zbO:=@Option.getD_none
def zak:=@List.length_map
def zbQ:=@Array.ext'
def zct:=@Array.toList_map
def zaD:=@Prod.mk.injEq
def zaA:=@List.getElem?_set
def zcR:=@Go.World.cell?_alloc_lt
def zb4:=@Ne.symm
def za4:=@List.getElem?_eq_none
def zaZ:=@Nat.mul_le_mul_right
def zcB:=@Array.getElem?_append_left
def zbp:=@List.eq_nil_of_length_eq_zero
def zc4:=@List.isEmpty_iff
def zcP:=@Eq.trans
def zcb:=@List.ext_getElem?
def zcm:=@Go.run_storeCells_at
def zbK:=@List.replicate_succ
def zbY:=@List.flatten_cons
def zat:=@List.mem_map
def zaK:=@List.getElem?_map
def zcV:=@Array.toList_range
def zcQ:=@List.getElem?_range
def zdc:=@Nat.mod_lt
def zbU:=@Array.getElem?_eq_getElem
def zb1:=@List.mem_flatten
def zbB:=@List.mem_replicate
def zcw:=@Nat.min_eq_left
def zcK:=@List.all_append
def zcC:=@List.size_toArray
def zbD:=@List.take_append_of_le_length
def zco:=@List.set_append_right
def zb3:=@List.drop_append_of_le_length
def zc2:=@Nat.min_eq_right
def zbg:=@Option.bind_some
def zb2:=@Nat.le_succ
end Go.Ab
namespace Go.Ab
inductive PV where
 |bool (b:Bool)
 |int (k:IntKind) (n:Int)
 |str (s:List UInt8)
 |agg (cs:List PV)
 |aq (els:List PV)
 deriving Inhabited
inductive AV where
 |un
 |pv (p:PV)
 |dr (els:List PV)
 |own (els:List PV) (tok:Nat)
 |agg (cs:List AV)
 |rf (vs:List AV)
 |au (d off:Nat)
 |aV (b off:Nat)
 |h_ (cs:List PV)
 |aP (b sz len:Nat) (ag:Bool)
 |fn (g:Nat) (cap:List AV)
 |ia
 |jL (s:Nat)
 |fH (kvs:List (PV×PV))
 |ri (b off n:Nat)
 |kF (d n:Nat)
 deriving Inhabited
abbrev Sh:=List (Option (List AV))
abbrev aF:=List Nat
inductive fp where
 |t (n:Nat)
 |c (v:AV)
 deriving Inhabited
inductive CK where
 |int|str|bool
 deriving Inhabited,DecidableEq
inductive Q2 where
 |mv|pick
 |bin (op:BinOp)
 |beq (neg:Bool)
 |un (op:UnOp)
 |conv (k:IntKind)
 |ext (i:Nat)
 |field (off sz:Nat) (ag:Bool)
 |iA (off:Nat)
 |eK (sz:Nat)
 |index
 |build (zero:List PV) (places:List (Nat×Nat))
 |ez (sz:Nat)
 |gj (sz:Nat) (ag:Bool)
 |slice (str:Bool) (sz:Nat) (lo hi mx:Bool)
 |len|Ee|rj
 |mn|mx
 |Jl (g:Nat)
 |veq (cs:List CK) (neg:Bool)
 |uB (sz:Nat) (lo hi:Bool)
 |b2s
 deriving Inhabited
inductive AK where
 |v (o:Q2)
 |cr (key off sz:Nat) (ag:Bool)
 |bH (key off sz:Nat)
 |alloc (key:Nat) (zero:List PV)
 |box (key sz:Nat)
 |eg (sz:Nat) (ag:Bool)
 |fK (sz:Nat)
 |MZ (sz:Nat)
 |p7 (sz:Nat)
 |X0 (sz:Nat)
 |jM (zero:List PV)
 |jN (sz bytes:Nat) (ag:Bool) (zero:List PV)
 |iU (key sz bytes:Nat) (zero:List PV)
 |append (sz bytes:Nat)
 |dk (sz bytes:Nat) (ag:Bool)
 |yR (sz bytes:Nat)
 |TO
 |A9 (c:CK) (ok:Bool) (zero:PV)
 |X6 (c:CK)
 |clone (sz bytes:Nat)
 |ie (sz bytes:Nat) (ag:Bool)
 |ig (sz:Nat) (zero:List PV)
 |kJ (sz:Nat)
 |aE (g:Nat)
 |d8 (g:Nat)
 |bB (g:Nat) (own:List Nat)
 |uD (g:Nat)
 |gk
 |fq
 deriving Inhabited
structure dM where
 dst:Option Nat
 guard:Option (Nat×Bool)
 args:List fp
 op:AK
 deriving Inhabited
inductive ah where
 |skip
 |jf (ops:List dM) (live:List Nat)
 |seq (a b:ah)
 |cond (c:fp) (a b:ah)
 |block (id:Nat) (b:ah)
 |loop (live:List Nat) (b:ah)
 |exit (id:Nat)
 |ret
 |back (f:fp) (gb pi px sz:Nat) (ag:Bool) (live:List Nat) (x y:ah)
 |gr (ts:List Nat)
 |TS (ds:List (Nat×Nat))
 |mV (ps:List (Nat×Nat×Bool))
 |m9 (ts:List Nat)
 |TT (ts:List Nat)
 deriving Inhabited
inductive rm where
 |t (n:Nat)
 |c (key sz:Nat) (ag:Bool)
 deriving Inhabited
structure Prim where
 f:(Nat->List PV->Option (List PV))->List PV->Option (List PV)
 fin:∀o x r,f o x=some r->∃l:List (Nat×List PV×List PV),(∀c∈l,o c.1 c.2.1=some c.2.2)/\∀o',(∀c∈l,o' c.1 c.2.1=some c.2.2)->f o' x=some r
def Prim.pure(f:List PV->Option (List PV)):Prim:=⟨fun _=>f,fun _ _ _ h=>⟨[],by simp,fun _ _=>h⟩⟩
def Prim.mono(p:Prim){a b:Nat->List PV->Option (List PV)}(h:∀g x r,a g x=some r->b g x=some r){x:List PV}{r:List PV}(e:p.f a x=some r):p.f b x=some r:=by
 obtain⟨l,h1,h2⟩:=p.fin a x r e;exact h2 b fun c hc=>h _ _ _ (h1 c hc)
structure aA where
 nparams:Nat
 ntmps:Nat
 results:List rm
 body:ah
 p8:Option Prim:=none
 ks:Bool:=false
 deriving Inhabited
def look{α:Type}:List (Nat×α)->Nat->Option α
 |[],_=>none
 |(k,v)::r,t=>if k=t then some v else look r t
def dF{α:Type}:List (Nat×α)->Nat->α->List (Nat×α)
 |[],t,u=>[(t,u)]
 |(k,v)::r,t,u=>if k=t then(k,u)::r else(k,v)::dF r t u
structure St where
 env:List (Nat×AV)
 mem:List (Nat×List AV)
 sh:Sh
 aa:aF
 deriving Inhabited
def aZ:PV->List PV
 | .agg cs=>cs
 |p=>[p]
def bq:AV->List AV
 | .agg cs=>cs
 | .pv (.agg cs)=>cs.map .pv
 |v=>[v]
def ca:AV->Bool
 | .pv _| .dr _| .aV ..| .aP ..| .ia| .jL _| .fH _=>true
 | .fn _ cap=>jq cap
 | .agg cs=>jq cs
 |_=>false
where jq:List AV->Bool
 |[]=>true
 |v::r=>ca v && jq r
def aY:AV->Bool
 | .pv (.agg _)=>false
 | .pv _| .dr _| .aV ..| .aP ..| .ia| .jL _| .fH _=>true
 | .fn g cap=>ca (.fn g cap)
 | .own ..=>true
 |_=>false
def da(v:AV):Bool:=aY v
def bI:AV->Bool
 | .own ..| .au ..| .kF ..=>false
 | .agg cs=>eL cs
 | .rf cs=>eL cs
 | .fn _ cap=>eL cap
 |_=>true
where eL:List AV->Bool
 |[]=>true
 |v::r=>bI v && eL r
def kK:AV->Bool
 | .own ..=>true
 |v=>bI v
def gv:List AV->Bool
 |[]=>true
 |v::r=>kK v && gv r
def l6:AV->Option PV
 | .pv p=>some p
 | .dr l=>some (.aq l)
 | .own l _=>some (.aq l)
 |_=>none
def dT:PV->Bool
 | .agg _=>false
 |_=>true
def chunk(sz:Nat):Nat->List PV->List (List PV)
 |0,_=>[]
 |n+1,l=>l.take sz::chunk sz n (l.drop sz)
def eX:List AV->Option (List PV)
 |[]=>some []
 |v::r=>match l6 v,eX r with
  |some p,some ps=>some (p::ps)
  |_,_=>none
def d9(sz:Nat)(ag:Bool)(n:Nat)(cells:List PV):Option (List PV):=
 if ag then some ((chunk sz n cells).map .agg)
 else if sz=1 then some cells else none
def bW:List AV->Bool
 | .fH _::_=>true
 |_=>false
def d4(sh:Sh):AV->Option PV
 | .aP b sz n ag=>match sh[b]? with
  |some (some cells)=>if cells.length=n*sz then((eX cells).bind (d9 sz ag n)).map .aq
    else if bW cells=false/\n*sz<=cells.length then((eX (cells.take (n*sz))).bind (d9 sz ag n)).map .aq else none
  |_=>none
 |v=>l6 v
def cz(sh:Sh):List AV->Option (List PV)
 |[]=>some []
 |v::r=>if aY v=true then
  match d4 sh v,cz sh r with
  |some p,some ps=>some (p::ps)
  |_,_=>none
   else none
def gr(sh:Sh):AV->Option PV
 | .agg cs=>(cz sh cs).map .agg
 |v=>d4 sh v
def dG(sh:Sh):List AV->Option (List PV)
 |[]=>some []
 |v::r=>match gr sh v,dG sh r with
  |some p,some ps=>some (p::ps)
  |_,_=>none
def eA:AV->List Nat
 | .aP b _ _ _=>[b]
 | .agg cs=>cs.flatMap fun| .aP b _ _ _=>[b]|_=>[]
 |_=>[]
def kill(sh:Sh)(l:List Nat):Sh:=l.foldl (fun s b=>s.set b none) sh
def cQ(sh:Sh)(vs:List AV):Sh:=kill sh (vs.flatMap eA)
def aJ(n:Nat):AV->Bool
 | .un| .pv _| .dr _| .own ..| .ia| .h_ _| .fH _=>true
 | .aV b _| .aP b _ _ _| .jL b=>decide (b<n)
 | .fn _ cap=>cI n cap
 | .agg cs=>cI n cs
 |_=>false
where cI (n:Nat):List AV->Bool
 |[]=>true
 |v::r=>aJ n v && cI n r
def M0:CK->PV->PV->Option Bool
 | .int,.int k a,.int k' b=>if k=k' then some (a == b)else none
 | .str,.str a,.str b=>some (a == b)
 | .bool,.bool a,.bool b=>some (a == b)
 |_,_,_=>none
def Q3:List CK->List PV->List PV->Option Bool
 |[],[],[]=>some true
 |c::cs,p::ps,q::a=>match M0 c p q with
  |some true=>Q3 cs ps a
  |some false=>if ps.length=cs.length/\a.length=cs.length then some false else none
  |none=>none
 |_,_,_=>none
def Ef(c:CK):List (PV×PV)->PV->Option (Option PV)
 |[],_=>some none
 |(k',v)::r,k=>match M0 c k k' with
  |some true=>some (some v)
  |some false=>Ef c r k
  |none=>none
def M1(c:CK):List (PV×PV)->PV->PV->Option (List (PV×PV))
 |[],k,p=>some [(k,p)]
 |(k',v)::r,k,p=>match M0 c k k' with
  |some true=>some ((k,p)::r)
  |some false=>(M1 c r k p).map ((k',v)::·)
  |none=>none
def yS(ok:Bool)(zero:PV)(r:Option PV):AV:=if ok then .rf [.pv (r.getD zero),.pv (.bool r.isSome)]else .pv (r.getD zero)
def cP(op:BinOp):AV->AV->Option AV
 | .pv (.int k a),.pv (.int k' b)=>
  if k=k'\/op=.shl\/op=.shr then
   match op with
   | .add=>some (.pv (.int k (k.wrap (a+b))))
   | .sub=>some (.pv (.int k (k.wrap (a-b))))
   | .mul=>some (.pv (.int k (k.wrap (a*b))))
   | .quo=>if b=0 then none else some (.pv (.int k (k.wrap (a.tdiv b))))
   | .rem=>if b=0 then none else some (.pv (.int k (a.tmod b)))
   | .eql=>some (.pv (.bool (a == b)))
   | .neq=>some (.pv (.bool (a != b)))
   | .lss=>some (.pv (.bool (decide (a<b))))
   | .leq=>some (.pv (.bool (decide (a<=b))))
   | .gtr=>some (.pv (.bool (decide (a > b))))
   | .geq=>some (.pv (.bool (decide (a>=b))))
   | .and=>some (.pv (.int k (k.wrap (BitVec.ofInt k.bits a &&& BitVec.ofInt k.bits b).toNat)))
   | .shl=>if b<0 then none else some (.pv (.int k (k.wrap (a*2 ^ (min b.toNat k.bits)))))
   | .shr=>if b<0 then none else some (.pv (.int k (a.fdiv (2 ^ (min b.toNat k.bits)))))
   |_=>none
  else none
 | .pv (.str a),.pv (.str b)=>
  match op with
  | .add=>if a.length+b.length<=9223372036854775807 then some (.pv (.str (a++b)))else none
  | .eql=>some (.pv (.bool (a == b)))
  | .neq=>some (.pv (.bool (!(a == b))))
  | .lss=>some (.pv (.bool (eJ a b)))
  | .gtr=>some (.pv (.bool (!(eJ a b || a == b))))
  | .leq=>some (.pv (.bool (eJ a b || a == b)))
  | .geq=>some (.pv (.bool (!eJ a b)))
  |_=>none
 |_,_=>none
where eJ:List UInt8->List UInt8->Bool
 |_,[]=>false
 |[],_::_=>true
 |a::x,b::y=>a<b || (a == b && eJ x y)
def X7(op:UnOp):AV->Option AV
 | .pv (.bool b)=>match op with| .not=>some (.pv (.bool !b))|_=>none
 | .pv (.int k n)=>match op with| .neg=>some (.pv (.int k (k.wrap (0-n))))|_=>none
 |_=>none
def cG:AV->Option (List PV)
 | .pv (.aq l)=>some l
 | .dr l=>some l
 | .own l _=>some l
 |_=>none
def bl(sz:Nat):List PV->Bool
 |[]=>true
 |p::_=>(aZ p).length == sz
def aS(cells:List AV)(off:Nat)(vs:List AV):List AV:=cells.take off++vs++cells.drop (off+vs.length)
def mO(cells:List AV):List (Nat×Nat)->List AV->Option (List AV)
 |[],[]=>some cells
 |(off,sz)::ps,v::vs=>
  if (bq v).length=sz/\off+sz<=cells.length/\(bq v).all aY=true then mO (aS cells off (bq v)) ps vs else none
 |_,_=>none
def cm(ag:Bool)(sz:Nat)(cs:List AV)(off:Nat):Option AV:=
 if off+sz<=cs.length then
  if ag then some (.agg ((cs.drop off).take sz))
  else if sz=1 then cs[off]? else none
 else none
def cR(ag:Bool)(sz:Nat)(cs:List PV):Option AV:=
 if sz<=cs.length then
  if ag then some (.pv (.agg (cs.take sz)))
  else if sz=1 then(cs[0]?).map .pv else none
 else none
def dw(lo hi mx:Bool)(n:Nat)(rest:List AV):Option (Int×Int×Option Int):=
 match lo,hi,mx,rest with
 |false,false,false,[]=>some (0,n,none)
 |true,false,false,[.pv (.int _ l)]=>some (l,n,none)
 |false,true,false,[.pv (.int _ h)]=>some (0,h,none)
 |true,true,false,[.pv (.int _ l),.pv (.int _ h)]=>some (l,h,none)
 |false,true,true,[.pv (.int _ h),.pv (.int _ m)]=>some (0,h,some m)
 |true,true,true,[.pv (.int _ l),.pv (.int _ h),.pv (.int _ m)]=>some (l,h,some m)
 |_,_,_,_=>none
def cx(str:Bool)(sz:Nat)(lo hi mx:Bool):List AV->Option AV
 |x::rest=>if str then
  match x with
  | .pv (.str s)=>match dw lo hi mx s.length rest with
   |some (l,h,none)=>if 0<=l/\l<=h/\h<=s.length then some (.pv (.str ((s.take h.toNat).drop l.toNat)))else none
   |_=>none
  |_=>none
   else match cG x with
    |some els=>match dw lo hi mx els.length rest with
     |some (l,h,m)=>if 0<=l/\l<=h/\h<=els.length/\(l=0\/bl sz els=true)then
      match m with
      |some m=>if m=h then some (.dr ((els.take h.toNat).drop l.toNat))else none
      |none=>some (.pv (.aq ((els.take h.toNat).drop l.toNat)))
       else none
     |none=>none
    |none=>none
 |[]=>none
def lI(sz:Nat)(lo hi:Bool):List AV->Option AV
 | .aP b z n ag::rest=>if z=sz then
  match dw lo hi false n rest with
  |some (l,h,none)=>if 0<=l/\l<=h/\h<=n then some (if l=0 then .aP b z h.toNat ag else .ri b (l.toNat*sz) (h.toNat-l.toNat))else none
  |_=>none
   else none
 |_=>none
def uE(sz:Nat):AV->Option (Nat×Nat×Nat)
 | .aP b z n _=>if z=sz then some (b,0,n)else none
 | .ri b off n=>some (b,off,n)
 |_=>none
def o_(sz:Nat)(zero:List PV)(sh:Sh):Option (Nat×Nat×Nat)->Option Sh
 |some (b,off,n)=>match sh[b]? with
  |some (some cells)=>if bW cells=false/\off+n*sz<=cells.length/\zero.length=sz then some (sh.set b (some (aS cells off (List.replicate n (zero.map .pv)).flatten)))else none
  |_=>none
 |none=>none
def p9(sz:Nat)(sh:Sh)(xs:List PV):AV->Option (Nat×Sh)
 | .aP b z n _=>match sh[b]? with
  |some (some cells)=>if z=sz/\bl sz xs=true/\bW cells=false/\n*sz<=cells.length then
   some (min xs.length n,sh.set b (some (aS cells 0 (((xs.take n).flatMap aZ).map .pv))))else none
  |_=>none
 |_=>none
def gw:List PV->Option (List UInt8)
 |[]=>some []
 | .int .u8 n::r=>if 0<=n/\n<256 then(gw r).map (UInt8.ofNat n.toNat::·)else none
 |_=>none
def bG:Q2->List AV->Option AV
 | .mv,[x]=>some x
 | .pick,[.pv (.bool c),a,b]=>some (if c then a else b)
 | .bin op,[a,b]=>cP op a b
 | .beq neg,[.pv (.bool a),.pv (.bool b)]=>some (.pv (.bool (if neg then !(a == b)else(a == b))))
 | .un op,[a]=>X7 op a
 | .conv k,[.pv (.int _ n)]=>some (.pv (.int k (k.wrap n)))
 | .ext i,[.rf vs]=>vs[i]?
 | .field off sz ag,[x]=>match x with
  | .agg cs=>cm ag sz cs off
  | .pv (.agg cs)=>cR ag sz (cs.drop off)
  |_=>none
 | .iA off,[x]=>match x with
  | .au d o=>some (.au d (o+off))
  | .aV b o=>some (.aV b (o+off))
  | .h_ cs=>some (.h_ (cs.drop off))
  |_=>none
 | .eK sz,[x,.pv (.int _ i)]=>
  if i<0 then none else
  match x with
  | .aP b sz' n _=>if sz=sz'/\i.toNat<n then some (.aV b (i.toNat*sz))else none
  |x=>match cG x with
   |some els=>match els[i.toNat]? with
    |some el=>if(aZ el).length=sz then some (.h_ (aZ el))else none
    |none=>none
   |none=>none
 | .index,[.pv (.str s),.pv (.int _ i)]=>if i<0 then none else(s[i.toNat]?).map fun b=>.pv (.int .u8 b.toNat)
 | .build zero places,vs=>(mO (zero.map zeroCell) places vs).map .agg
 | .ez sz,vs=>(dG [] vs).bind fun els=>if els.all (fun e=>(aZ e).length == sz)then some (.dr els)else none
 | .gj sz ag,[.h_ cs]=>cR ag sz cs
 | .slice str sz lo hi mx,vs=>cx str sz lo hi mx vs
 | .uB sz lo hi,vs=>lI sz lo hi vs
 | .Ee,[.pv (.str s)]=>some (.pv (.int .i64 s.length))
 | .len,[x]=>match x with
  | .aP _ _ n _=>some (.pv (.int .i64 n))
  |x=>(cG x).map fun l=>.pv (.int .i64 l.length)
 | .rj,[x]=>match x with
  | .au ..| .aV ..| .h_ _| .fn ..=>some x
  |_=>none
 | .mn,[.pv (.int k x),.pv (.int k' y)]=>if k=k' then some (.pv (.int k (if y<x then y else x)))else none
 | .mx,[.pv (.int k x),.pv (.int k' y)]=>if k=k' then some (.pv (.int k (if y > x then y else x)))else none
 | .Jl g,cap=>some (.fn g cap)
 | .b2s,[x]=>((cG x).bind gw).map fun s=>.pv (.str s)
 |_,_=>none
where zeroCell:PV->AV
 | .aq []=>.dr []
 |p=>.pv p
structure Out where
 val:AV
 cells:Option (List AV)
 sh:Sh
 aa:aF
structure eY where
 p:Nat->List PV->Option (List PV)
 i:Nat->List AV->Sh->aF->Option (List AV×Sh×aF)
def uF:List PV->AV
 |[r]=>.pv r
 |rs=>.rf (rs.map .pv)
def tH:List AV->AV
 |[r]=>r
 |rs=>.rf rs
def lJ(v:AV):AV:=match gr [] v with|some p=>.pv p|none=>v
def AK.key:AK->Option Nat
 | .cr k _ _ _| .bH k _ _| .alloc k _| .box k _| .iU k _ _ _=>some k
 |_=>none
def cp(sz bytes:Nat)(s x:AV)(aa:aF):Option (AV×aF):=
 match cG x with
 |none=>none
 |some xs=>if bl sz xs=true then
  match s with
  | .dr l=>if xs.isEmpty=true then some (.dr l,aa)else if bl sz l=true/\(l.length+xs.length)*bytes<=140737488355328 then
   some (.own (l++xs) aa.length,aa++[(l++xs).length])else none
  | .own l τ=>if aa[τ]?=some l.length/\bl sz l=true/\(l.length+xs.length)*bytes<=140737488355328 then
   some (.own (l++xs) τ,aa.set τ (l++xs).length)else none
  |_=>none
  else none
def A_:List PV->List PV->Bool
 |[],[]=>true
 | .str a::r,.str b::q=>(a == b) && A_ r q
 |_,_=>false
def aba(sz bytes:Nat)(xs:List PV)(s e:AV)(aa:aF):Option PV:=
 match s,e with
 | .own l τ,.own m σ=>if τ=σ/\aa[τ]?=some m.length/\m.length=l.length+xs.length/\bl 1 l=true/\bl 1 xs=true/\sz=1 /\
     A_ (m.drop l.length) xs=true/\xs.isEmpty=false/\m.length*bytes<=140737488355328 then some (.aq (l++xs))else none
 |_,_=>none
def tI(sz bytes:Nat)(ag:Bool)(s:AV)(xs:List PV)(sh:Sh):Option (AV×Sh):=
 if xs.isEmpty=true then some (s,sh)else if xs.length*bytes<=140737488355328 then some (.aP sh.length sz xs.length ag,sh++[some ((xs.flatMap aZ).map .pv)])else none
def tJ(sz bytes:Nat)(ag:Bool)(s:AV)(xs:List PV)(sh:Sh)(aa:aF):Option (AV×Sh):=
 match s with
 | .dr []=>tI sz bytes ag s xs sh
 | .own [] τ=>if aa[τ]?=some 0 then tI sz bytes ag s xs sh else none
 | .aP b z n g=>match sh[b]? with
  |some (some cells)=>if z=sz/\g=ag/\bW cells=false/\n*sz<=cells.length/\(n+xs.length)*bytes<=140737488355328 then
   if xs.isEmpty=true then some (.aP b sz n ag,sh)else some (.aP sh.length sz (n+xs.length) ag,sh.set b none++[some (cells.take (n*sz)++(xs.flatMap aZ).map .pv)])
    else none
  |_=>none
 |_=>none
def gA(o:Option Bool)(sz bytes:Nat)(x:AV)(sh:Sh)(aa:aF):Option (AV×Sh×aF):=match o with
 |none=>(cp sz bytes (.dr []) x aa).map fun(v,ts)=>(v,sh,ts)
 |some ag=>match cG x with
  |some xs=>if bl sz xs=true then(tI sz bytes ag (.dr []) xs sh).map fun(v,sh')=>(v,sh',aa)else none
  |none=>none
def eM(aH ts:aF):AV->AV×aF×aF
 | .own l τ=>if aH[τ]?=some l.length then(.own l ts.length,aH.set τ (l.length+1),ts++[l.length])else(.pv (.aq l),aH,ts)
 |v=>(v,aH,ts)
def cS(aH ts:aF):List AV->List AV×aF×aF
 |[]=>([],aH,ts)
 |v::r=>((eM aH ts v).1::(cS (eM aH ts v).2.1 (eM aH ts v).2.2 r).1,(cS (eM aH ts v).2.1 (eM aH ts v).2.2 r).2)
def bM(aH ts:aF):AV->AV×aF×aF
 | .own l τ=>if aH[τ]?=some l.length then(.own l ts.length,aH.set τ (l.length+1),ts++[l.length])else(.pv (.aq l),aH,ts)
 | .dr l=>(.own l ts.length,aH,ts++[l.length])
 | .agg cs=>if bI.eL cs=true then(.agg cs,aH,ts)else(.agg (cS aH ts cs).1,(cS aH ts cs).2.1,(cS aH ts cs).2.2)
 |v=>(v,aH,ts)
def br(aH ts:aF):List AV->List AV×aF×aF
 |[]=>([],aH,ts)
 |v::r=>((bM aH ts v).1::(br (bM aH ts v).2.1 (bM aH ts v).2.2 r).1,(br (bM aH ts v).2.1 (bM aH ts v).2.2 r).2)
def bg(aH ts:aF):Sh->Sh×aF×aF
 |[]=>([],aH,ts)
 |none::r=>(none::(bg aH ts r).1,(bg aH ts r).2)
 |some cs::r=>(some (br aH ts cs).1::(bg (br aH ts cs).2.1 (br aH ts cs).2.2 r).1,(bg (br aH ts cs).2.1 (br aH ts cs).2.2 r).2)
def de(aa:aF)(xs:List AV)(sh:Sh):List AV×Sh×aF×aF:=
 ((br aa [] xs).1,(bg (br aa [] xs).2.1 (br aa [] xs).2.2 sh).1,(bg (br aa [] xs).2.1 (br aa [] xs).2.2 sh).2.1,(bg (br aa [] xs).2.1 (br aa [] xs).2.2 sh).2.2)
def lK:AV->Bool
 | .own ..=>true
 |v=>ca v
def fM:List AV->Bool
 |[]=>true
 |v::r=>lK v && fM r
def bU:AV->Bool
 | .own ..=>true
 | .agg cs=>fM cs
 |v=>ca v
def jg(n:Nat):AV->AV
 | .own l τ=>.own l (τ+n)
 |v=>v
def cY(n:Nat):AV->AV
 | .own l τ=>.own l (τ+n)
 | .agg cs=>if bI.eL cs=true then .agg cs else .agg (cs.map (jg n))
 |v=>v
def dU(n:Nat)(sh:Sh):Sh:=sh.map fun o=>o.map fun cs=>cs.map (cY n)
def eB(own:List Nat):Nat->List AV->List AV
 |_,[]=>[]
 |i,v::r=>(if own.contains i then v else lJ v)::eB own (i+1) r
def ek(orc:eY)(g:Nat)(own:List Nat)(vals:List AV)(sh:Sh)(aa:aF):Option (AV×Sh×aF):=
 if (eB own 0 vals).all bU=true then
  (orc.i g (de aa (eB own 0 vals) sh).1 (de aa (eB own 0 vals) sh).2.1 (de aa (eB own 0 vals) sh).2.2.2).map fun(rs,sh',ts)=>
   (tH (rs.map (cY aa.length)),dU aa.length sh',(de aa (eB own 0 vals) sh).2.2.1++ts)
 else none
def cJ(v:AV):List AV:=match v with
 | .dr l=>[.dr l]
 | .own l τ=>[.own l τ]
 |v=>match gr [] v with|some p=>bq (.pv p)|none=>bq v
mutual
def oM:PV->PV->Bool
 | .bool a,.bool b=>a == b
 | .int k a,.int l b=>decide (k=l) && (a == b)
 | .str a,.str b=>a == b
 | .agg a,.agg b=>p_ a b
 | .aq a,.aq b=>p_ a b
 |_,_=>false
def p_:List PV->List PV->Bool
 |[],[]=>true
 |a::r,b::q=>oM a b && p_ r q
 |_,_=>false
end
def Xx:AV->AV->Bool
 | .pv a,.pv b=>oM a b
 |_,_=>false
def wT:List AV->List AV->Bool
 |[],[]=>true
 |a::r,b::q=>Xx a b && wT r q
 |_,_=>false
def oN:Sh->Sh->Bool
 |[],[]=>true
 |none::r,none::q=>oN r q
 |some a::r,some b::q=>wT a b && oN r q
 |_,_=>false
def roK(sh:Sh):AV×Sh×aF->Option Out
 |(v,sh',ts)=>if oN sh' sh=true then some ⟨v,none,sh,ts⟩else none
def exec(orc:eY)(op:AK)(vals:List AV)(cells:Option (List AV))(sh:Sh)(aa:aF):Option Out:=
 match op,vals with
 | .v o,vals=>(bG o vals).map fun x=>⟨x,none,sh,aa⟩
 | .cr key off sz ag,[.au d o]=>if d=key/\o=off then
  match cells with
  |some cs=>(cm ag sz cs off).map fun x=>⟨x,none,sh,aa⟩
  |none=>none
   else none
 | .bH key off sz,[.au d o,v]=>if d=key/\o=off/\(bq v).length=sz/\(bq v).all aY=true then
  match cells with
  |some cs=>if off+sz<=cs.length then some ⟨.un,some (aS cs off (bq v)),sh,aa⟩else none
  |none=>none
   else none
 | .alloc key zero,[]=>match cells with
  |none=>some ⟨.au key 0,some (zero.map bG.zeroCell),sh,aa⟩
  |some _=>none
 | .box key sz,[v]=>match cells with
  |none=>if(bq v).length=sz/\(bq v).all aY=true then some ⟨.au key 0,some (bq v),sh,aa⟩else none
  |some _=>none
 | .eg sz ag,[p]=>match p with
  | .h_ cs=>(cR ag sz cs).map fun x=>⟨x,none,sh,aa⟩
  | .aV b off=>match sh[b]? with
   |some (some cs)=>if bW cs=true then none else(cm ag sz cs off).map fun x=>⟨x,none,sh,aa⟩
   |_=>none
  |_=>none
 | .fK sz,[.aV b off,v]=>match sh[b]? with
  |some (some cs)=>
   let vs:=cJ v
   if bW cs=false/\vs.length=sz/\off+sz<=cs.length/\vs.all da=true/\vs.all (aJ (b+1))=true then
    some ⟨.un,none,sh.set b (some (aS cs off vs)),aa⟩else none
  |_=>none
 | .p7 sz,[v]=>
  let vs:=cJ v
  if vs.length=sz/\vs.all da=true/\vs.all (aJ sh.length)=true then
   some ⟨.aV sh.length 0,none,sh++[some vs],aa⟩else none
 | .jM zero,[]=>some ⟨.aV sh.length 0,none,sh++[some (zero.map bG.zeroCell)],aa⟩
 | .jN sz bytes ag zero,[.pv (.int _ n),.pv (.int _ n')]=>
  if n=n'/\0<=n/\n<=9223372036854775807/\n*bytes<=140737488355328/\zero.length=sz then
   some ⟨.aP sh.length sz n.toNat ag,none,sh++[some ((List.replicate n.toNat (zero.map .pv)).flatten)],aa⟩else none
 | .iU key sz bytes zero,[.pv (.int _ n),.pv (.int _ n')]=>match cells with
  |none=>if n=n'/\0<=n/\n<=9223372036854775807/\n*bytes<=140737488355328/\zero.length=sz then
   some ⟨.kF key n.toNat,some ((List.replicate n.toNat (zero.map .pv)).flatten),sh,aa⟩else none
  |some _=>none
 | .append sz bytes,[s,x]=>(cp sz bytes s x aa).map fun(v,ts)=>⟨v,none,sh,ts⟩
 | .dk sz bytes ag,[s,x]=>match cG x with
  |some xs=>if bl sz xs=true then(tJ sz bytes ag s xs sh aa).map fun(v,sh')=>⟨v,none,sh',aa⟩else none
  |none=>none
 | .clone sz bytes,[x]=>(cp sz bytes (.dr []) x aa).map fun(v,ts)=>⟨v,none,sh,ts⟩
 | .ie sz bytes ag,[x]=>(gA (some ag) sz bytes x sh aa).map fun(v,sh',ts)=>⟨v,none,sh',ts⟩
 | .ig sz zero,[x]=>(o_ sz zero sh (uE sz x)).map fun sh'=>⟨.rf [],none,sh',aa⟩
 | .kJ sz,[x,y]=>match cG y with
  |some xs=>(p9 sz sh xs x).map fun(k,sh')=>⟨.pv (.int .i64 (k:Int)),none,sh',aa⟩
  |none=>none
 | .aE g,vals=>match dG [] vals with
  |some dN=>(orc.p g dN).map fun rs=>⟨uF rs,none,sh,aa⟩
  |none=>none
 | .d8 g,vals=>match dG sh vals with
  |some dN=>(orc.p g dN).map fun rs=>⟨uF rs,none,cQ sh vals,aa⟩
  |none=>none
 | .bB g own,vals=>(ek orc g own vals sh aa).map fun(v,sh',ts)=>⟨v,none,sh',ts⟩
 | .fq,f::vals=>match f with
  | .fn g cap=>(ek orc g [] (vals++cap) sh aa).bind (roK sh)
  |_=>none
 | .gk,f::vals=>match f with
  | .fn g cap=>(ek orc g [] (vals++cap) sh aa).map fun(v,sh',ts)=>⟨v,none,sh',ts⟩
  |_=>none
 |_,_=>none
def iB(env:List (Nat×AV)):fp->Option AV
 | .t n=>look env n
 | .c v=>some v
def eC(env:List (Nat×AV)):List fp->Option (List AV)
 |[]=>some []
 |x::r=>match iB env x,eC env r with
  |some v,some vs=>some (v::vs)
  |_,_=>none
def ga(env:List (Nat×AV)):Option (Nat×Bool)->Option Bool
 |none=>some true
 |some (t,b)=>match look env t with
  |some (.pv (.bool c))=>some (c == b)
  |some .un=>some false
  |_=>none
def gB(env:List (Nat×AV)):Option Nat->AV->List (Nat×AV)
 |some d,v=>dF env d v
 |none,_=>env
def fQ(mem:List (Nat×List AV)):Option Nat->Option (List AV)->List (Nat×List AV)
 |some k,some cs=>dF mem k cs
 |_,_=>mem
def d_(orc:eY)(o:dM)(st:St):Option St:=
 match ga st.env o.guard with
 |none=>none
 |some false=>some {st with env:=gB st.env o.dst .un}
 |some true=>
  match eC st.env o.args with
  |none=>none
  |some vals=>
   match exec orc o.op vals (o.op.key.bind (look st.mem)) st.sh st.aa with
   |none=>none
   |some out=>some {env:=gB st.env o.dst out.val,mem:=fQ st.mem o.op.key out.cells,sh:=out.sh,aa:=out.aa}
def bC(orc:eY):List dM->St->Option St
 |[],st=>some st
 |o::r,st=>match d_ orc o st with
  |none=>none
  |some a=>bC orc r a
def en(live:List Nat):AV->Bool
 | .au d _=>live.contains d
 | .kF d _=>live.contains d
 | .own ..=>true
 | .agg cs=>gv cs
 |v=>bI v
def bJ(live:List Nat)(env:List (Nat×AV)):List Nat->List (Nat×AV)
 |[]=>[]
 |t::r=>match look env t with
  |some v=>if en live v=true then(t,v)::bJ live env r else bJ live env r
  |none=>bJ live env r
def bQ(mem:List (Nat×List AV)):List Nat->List (Nat×List AV)
 |[]=>[]
 |t::r=>match look mem t with
  |some v=>(t,v)::bQ mem r
  |none=>bQ mem r
def restrict(live:List Nat)(st:St):St:=
 {st with env:=bJ live st.env live,mem:=bQ st.mem live}
def dx(aH ts:aF):List (Nat×AV)->List (Nat×AV)×aF×aF
 |[]=>([],aH,ts)
 |(t,v)::r=>((t,(bM aH ts v).1)::(dx (bM aH ts v).2.1 (bM aH ts v).2.2 r).1,(dx (bM aH ts v).2.1 (bM aH ts v).2.2 r).2)
def fR(aH ts:aF):List (Nat×List AV)->List (Nat×List AV)×aF×aF
 |[]=>([],aH,ts)
 |(t,v)::r=>((t,(br aH ts v).1)::(fR (br aH ts v).2.1 (br aH ts v).2.2 r).1,(fR (br aH ts v).2.1 (br aH ts v).2.2 r).2)
def norm(st:St):St:=
 { env:=(dx st.aa [] st.env).1,
   mem:=(fR (dx st.aa [] st.env).2.1 (dx st.aa [] st.env).2.2 st.mem).1,
   sh:=(bg (fR (dx st.aa [] st.env).2.1 (dx st.aa [] st.env).2.2 st.mem).2.1 (fR (dx st.aa [] st.env).2.1 (dx st.aa [] st.env).2.2 st.mem).2.2 st.sh).1,
   aa:=(bg (fR (dx st.aa [] st.env).2.1 (dx st.aa [] st.env).2.2 st.mem).2.1 (fR (dx st.aa [] st.env).2.1 (dx st.aa [] st.env).2.2 st.mem).2.2 st.sh).2.2}
inductive bh where
 |normal|ret|exit (id:Nat)
 deriving Inhabited,DecidableEq
def fU(f:St->Option (bh×St))(a:St->St):Nat->St->Option (bh×St)
 |0,_=>none
 |n+1,st=>match f (a st)with
  |some (.normal,b)=>fU f a n b
  |r=>r
def Vm(sz:Nat)(ag:Bool)(el:PV):Option AV:=if(aZ el).length=sz then cR ag sz (aZ el)else none
def m_(f:St->Option (bh×St))(live:List Nat)(pi px sz:Nat)(ag:Bool)(env:List (Nat×AV)):List (PV×Nat)->St->Option (bh×St)
 |[],st=>some (.normal,{st with env:=env})
 |(el,i)::r,st=>match Vm sz ag el with
  |none=>none
  |some v=>match f (norm (restrict live {st with env:=dF (dF env pi (.pv (.int .i64 i))) px v}))with
   |some (.normal,a)=>m_ f live pi px sz ag env r a
   |some (e,a)=>some (e,{a with env:=env})
   |none=>none
def andThen(f g:St->Option (bh×St))(st:St):Option (bh×St):=match f st with
 |some (.normal,a)=>g a
 |_=>none
def Q4(live:List Nat)(env:List (Nat×AV)):List (Nat×AV):=(bJ live env live).filter fun p=>bI p.2
def nb(f:St->Option (bh×St))(v:Option AV)(gb pi px sz:Nat)(ag:Bool)(live:List Nat)(st:St):Option (bh×St):=
 match v with
 |some (.fn g [.aV s 0])=>if g=gb then
  match st.sh[s]? with
  |some (some [.pv (.aq l)])=>if l.length<4611686018427387904 then m_ f live pi px sz ag (Q4 live st.env) l.zipIdx.reverse {st with sh:=kill st.sh [s]}else none
  |_=>none
   else none
 |_=>none
def oR:AV->AV
 | .dr l=>.pv (.aq l)
 |v=>v
def Eg:AV->St->St
 | .aV b 0,st=>match st.sh[b]? with
  |some (some cs)=>{st with sh:=st.sh.set b (some ((cs.take (cs.length / 2)).map oR++cs.drop (cs.length / 2)))}
  |_=>st
 | .au d 0,st=>match look st.mem d with
  |some cs=>match cz st.sh cs with
   |some ps=>{st with mem:=dF st.mem d (ps.map .pv),sh:=cQ st.sh [.agg cs]}
   |none=>st
  |none=>st
 |_,st=>st
def oO:List Nat->St->St
 |[],st=>st
 |t::r,st=>match look st.env t with
  |some v=>match gr st.sh v with
   |some p=>oO r {st with env:=dF st.env t (.pv p),sh:=cQ st.sh [v]}
   |none=>oO r (Eg v st)
  |none=>oO r st
def apart:Option AV->Option AV->Bool
 |some (.aV b _),some (.aV b' _)=>b != b'
 |_,_=>false
def jh(env:List (Nat×AV)):List (Nat×Nat)->Bool
 |[]=>true
 |(a,b)::r=>apart (look env a) (look env b) && jh env r
def A'(d s sz n:Nat)(ag:Bool):AV->Option AV
 | .au a o=>some (if a=d then .aV s o else .au a o)
 | .kF a m=>if a=d then(if m*sz<=n then some (.aP s sz m ag)else none)else some (.kF a m)
 |v=>if en [] v=true then some v else none
def tK(d s sz n:Nat)(ag:Bool)(env:List (Nat×AV)):List Nat->List (Nat×AV)
 |[]=>[]
 |t::r=>match(look env t).bind (A' d s sz n ag)with
  |some v=>(t,v)::tK d s sz n ag env r
  |none=>tK d s sz n ag env r
def tL{α:Type}(d:Nat):List (Nat×α)->List (Nat×α)
 |[]=>[]
 |(k,v)::r=>if k=d then tL d r else(k,v)::tL d r
def Jm(d sz:Nat)(ag:Bool)(st:St):St:=match look st.mem d with
 |some cells=>if cells.all da=true/\cells.all (aJ (st.sh.length+1))=true then
  {st with env:=tK d st.sh.length sz cells.length ag st.env (st.env.map (·.1)),mem:=tL d st.mem,sh:=st.sh++[some cells]}else st
 |none=>st
def yT:List (Nat×Nat×Bool)->St->St
 |[],st=>st
 |(d,sz,ag)::r,st=>yT r (Jm d sz ag st)
def oP(b b':Nat):List Nat->List (Nat×AV)->List (Nat×AV)
 |[],env=>env
 |t::r,env=>match look env t with
  |some (.aP s z n ag)=>if s=b then oP b b' r (dF env t (.aP b' z n ag))else oP b b' r env
  |_=>oP b b' r env
def Eh:List Nat->St->St
 |[],st=>st
 |t::r,st=>match look st.env t with
  |some (.aP b _ _ _)=>match st.sh[b]? with
   |some (some cells)=>if bW cells=false then {st with env:=oP b st.sh.length (t::r) st.env,sh:=st.sh.set b none++[some cells]}else st
   |_=>st
  |_=>st
def jO:List Nat->St->St
 |[],st=>st
 |t::r,st=>match look st.env t with
  |some (.aP b _ _ _)=>match st.sh[b]? with
   |some (some cells)=>if bW cells=false/\(eA (.agg cells)).contains b=false then
    match cz st.sh cells with
    |some ps=>jO r {st with sh:=(cQ st.sh [.agg cells]).set b (some (ps.map .pv))}
    |none=>jO r st
     else jO r st
   |_=>jO r st
  |_=>jO r st
def c_(orc:eY)(k:Nat):ah->St->Option (bh×St)
 | .skip,st=>some (.normal,st)
 | .jf ops live,st=>match bC orc ops st with
  |some d=>some (.normal,restrict live d)
  |none=>none
 | .seq a b,st=>match c_ orc k a st with
  |some (.normal,d)=>c_ orc k b d
  |r=>r
 | .cond c a b,st=>match iB st.env c with
  |some (.pv (.bool t))=>if t then c_ orc k a st else c_ orc k b st
  |_=>none
 | .block id b,st=>match c_ orc k b st with
  |some (.exit e,d)=>if e=id then some (.normal,d)else some (.exit e,d)
  |r=>r
 | .loop live b,st=>fU (c_ orc k b) (fun s=>norm (restrict live s)) k st
 | .exit id,st=>some (.exit id,st)
 | .ret,st=>some (.ret,st)
 | .back c gb pi px sz ag live x y,st=>nb (andThen (c_ orc k x) (c_ orc k y)) (iB st.env c) gb pi px sz ag live st
 | .gr ts,st=>some (.normal,oO ts st)
 | .TS ds,st=>if jh st.env ds=true then some (.normal,st)else none
 | .mV ps,st=>some (.normal,yT ps st)
 | .m9 ts,st=>some (.normal,Eh ts st)
 | .TT ts,st=>some (.normal,jO ts st)
def cf:Nat->List AV->List (Nat×AV)
 |_,[]=>[]
 |i,v::r=>(i,v)::cf (i+1) r
def sF(st:St):rm->Option AV
 | .t n=>look st.env n
 | .c key sz ag=>match look st.env key with
  |some (.au d 0)=>match look st.mem key with
   |some cs=>if d=key then cm ag sz cs 0 else none
   |none=>none
  |some (.aV s 0)=>match st.sh[s]? with
   |some (some cs)=>if bW cs=true then none else cm ag sz cs 0
   |_=>none
  |_=>none
def eN(st:St):List rm->Option (List AV)
 |[]=>some []
 |r::rs=>match sF st r,eN st rs with
  |some v,some vs=>some (v::vs)
  |_,_=>none
def uG(sh:Sh)(v:AV):AV:=match gr sh v with|some p=>.pv p|none=>v
def tM(sh:Sh)(v:AV):AV:=match v with
 | .dr l=>.dr l
 |v=>if aY v=true then uG sh v else v
def uH(sh:Sh)(v:AV):AV:=match v with
 | .dr l=>.dr l
 | .own l τ=>.own l τ
 | .agg cs=>.agg (cs.map (tM sh))
 |v=>uG sh v
def cE(aW ks:Bool)(sh:Sh)(vs:List AV):List AV:=if aW then(if ks then vs else vs.map (uH sh))else vs.map (uG sh)
def fD(aW ks:Bool)(sh:Sh)(vs:List AV):Sh:=if aW && ks then sh else cQ sh vs
def ct(orc:eY)(k:Nat)(aW:Bool)(af:aA)(args:List AV)(sh:Sh)(ts:aF):Option (List AV×Sh×aF):=
 match c_ orc k af.body {env:=cf 0 args,mem:=[],sh,aa:=ts}with
 |some (e,st)=>
  if e=.ret\/e=.normal then
   match eN st af.results with
   |some vs=>
    let rs:=cE aW af.ks st.sh vs
    let sh':=if rs.all (aJ sh.length)=true then(fD aW af.ks st.sh vs).take sh.length else fD aW af.ks st.sh vs
    if rs.all bU=true then some ((de st.aa rs sh').1,(de st.aa rs sh').2.1,(de st.aa rs sh').2.2.2)else none
   |none=>none
  else none
 |none=>none
def gC:List AV->Option (List PV)
 |[]=>some []
 | .pv p::r=>(gC r).map (p::·)
 |_=>none
def run(AP:Nat->Option aA)(k:Nat):Nat->eY
 |0=>{p:=fun _ _=>none,i:=fun _ _ _ _=>none}
 |n+1=>
  { p:=fun g dN=>match AP g with
   |some af=>match af.p8 with
    |some f=>f.f (run AP k n).p dN
    |none=>if dN.length=af.nparams/\dN.length<=af.ntmps then
     match ct (run AP k n) k false af (dN.map .pv) [] []with
     |some (rs,_)=>gC rs
     |none=>none
      else none
   |none=>none,
    i:=fun g args sh ts=>match AP g with
     |some af=>if args.length<=af.ntmps then ct (run AP k n) k true af args sh ts else none
     |none=>none}
def Q5{a b c:Prop}(h:a\/b)(f:b->c):a\/c:=h.elim .inl fun x=>.inr (f x)
abbrev bt:=Nat->Nat->Option Value
def At(K:bt)(b o:Nat)(vs:List Value):Prop:=∀j v,vs[j]?=some v->K b (o+j)=some v
mutual
def R(K:bt)(top:Bool):PV->List Value->Prop
 | .bool b,vs=>vs=[.bool b]
 | .int k n,vs=>vs=[.int k n]
 | .str s,vs=>vs=[.string ⟨s.toArray⟩]
 | .agg cs,vs=>top=true/\dO K cs vs
 | .aq els,vs=>∃base len cap,vs=[.slice base len cap]/\len<=cap/\els.length=len/\(els=[]\/∃b o sz,base=some ⟨b,o,none⟩/\Row K b o sz els)
def dO(K:bt):List PV->List Value->Prop
 |[],vs=>vs=[]
 |c::cs,vs=>∃v r,vs=v::r/\R K false c [v]/\dO K cs r
def Row(K:bt)(b o sz:Nat):List PV->Prop
 |[]=>True
 |el::r=>(∃vs,vs.length=sz/\At K b o vs/\R K true el vs)/\Row K b (o+sz) sz r
end
def Rel(K:bt):PV->Value->Prop
 | .agg cs,v=>∃vs:List Value,v=.agg vs.toArray/\dO K cs vs
 |p,v=>R K false p [v]
def kG(K:bt):List PV->List Value->Prop
 |[],vs=>vs=[]
 |c::cs,vs=>∃v r,vs=v::r/\Rel K c v/\kG K cs r
def bt.le(K K':bt):Prop:=∀b o v,K b o=some v->K' b o=some v
def bt.le_refl(K:bt):K.le K:=fun _ _ _ h=>h
def bt.le_trans{a b c:bt}(h:a.le b)(k:b.le c):a.le c:=fun x y z w=>k x y z (h x y z w)
def At.mono{K K':bt}(h:K.le K'){b o:Nat}{vs:List Value}(a:At K b o vs):At K' b o vs:=fun j v hj=>h _ _ _ (a j v hj)
mutual
theorem R.mono{K K':bt}(h:K.le K'):∀(p:PV)(top:Bool)(vs:List Value),R K top p vs->R K' top p vs
 | .bool _,_,_,hr=>by simpa only[R]using hr
 | .int _ _,_,_,hr=>by simpa only[R]using hr
 | .str _,_,_,hr=>by simpa only[R]using hr
 | .agg cs,_,vs,hr=>by
  simp only[R]at hr⊢;exact⟨hr.1,dO.mono h cs vs hr.2⟩
 | .aq els,_,vs,hr=>by
  simp only[R]at hr⊢;obtain⟨base,len,cap,e1,e0,e2,e3⟩:=hr;refine⟨base,len,cap,e1,e0,e2,Q5 e3 ?_⟩
  rintro⟨b,o,sz,e4,e5⟩
  exact⟨b,o,sz,e4,Row.mono h els b o sz e5⟩
theorem dO.mono{K K':bt}(h:K.le K'):∀(cs:List PV)(vs:List Value),dO K cs vs->dO K' cs vs
 |[],_,hr=>by simpa only[dO]using hr
 |c::cs,vs,hr=>by
  simp only[dO]at hr⊢;obtain⟨v,r,e1,e2,e3⟩:=hr;exact⟨v,r,e1,R.mono h c false [v] e2,dO.mono h cs r e3⟩
theorem Row.mono{K K':bt}(h:K.le K'):∀(els:List PV)(b o sz:Nat),Row K b o sz els->Row K' b o sz els
 |[],_,_,_,_=>by simp only[Row]
 |el::r,b,o,sz,hr=>by
  simp only[Row]at hr⊢;obtain⟨⟨vs,e1,e2,e3⟩,e4⟩:=hr;exact⟨⟨vs,e1,e2.mono h,R.mono h el true vs e3⟩,Row.mono h r b (o+sz) sz e4⟩
end
def Rel.mono{K K':bt}(h:K.le K'){p:PV}{v:Value}(hr:Rel K p v):Rel K' p v:=by
 cases p with
 |agg cs=>obtain⟨vs,e1,e2⟩:=hr;exact⟨vs,e1,dO.mono h _ _ e2⟩
 |_=>exact R.mono h _ _ _ hr
def kG.mono{K K':bt}(h:K.le K'):∀{cs:List PV}{vs:List Value},kG K cs vs->kG K' cs vs
 |[],_,hr=>hr
 |_::_,_,⟨v,r,e1,e2,e3⟩=>⟨v,r,e1,e2.mono h,kG.mono h e3⟩
def dO.length{K:bt}:∀{cs:List PV}{vs:List Value},dO K cs vs->vs.length=cs.length
 |[],_,hr=>by simp only[dO]at hr;simp[hr]
 |_::cs,_,hr=>by
  simp only[dO]at hr;obtain⟨v,r,rfl,_,e3⟩:=hr;simp[dO.length e3]
def kG.length{K:bt}:∀{cs:List PV}{vs:List Value},kG K cs vs->vs.length=cs.length
 |[],_,hr=>by cases hr;rfl
 |_::_,_,⟨v,r,rfl,_,e3⟩=>by simp[kG.length e3]
def R.length{K:bt}{p:PV}{vs:List Value}(h:R K true p vs):vs.length=(aZ p).length:=by
 cases p with
 |agg cs=>simp only[R]at h;simp[aZ,h.2.length]
 |aq els=>simp only[R]at h;obtain⟨b,l,c,rfl,_⟩:=h;rfl
 |_=>simp only[R]at h;subst h;rfl
def R.cells{K:bt}{p:PV}{vs:List Value}(h:R K true p vs):dO K (aZ p) vs:=by
 cases p with
 |agg cs=>simp only[R]at h;exact h.2
 |aq els=>
  have h':=h;simp only[R]at h;obtain⟨b,l,c,rfl,e⟩:=h;simp only[aZ,dO];exact⟨_,[],rfl,by simp only[R];exact⟨b,l,c,rfl,e⟩,rfl⟩
 |_=>simp only[R]at h;subst h;simp[aZ,dO,R]
def R.top{K:bt}{p:PV}{vs:List Value}(h:R K false p vs):R K true p vs:=by
 cases p with
 |agg cs=>simp[R]at h
 |_=>simp only[R]at h⊢;exact h
def dO.get{K:bt}:∀{cs:List PV}{vs:List Value},dO K cs vs->∀{j:Nat}{c:PV},cs[j]?=some c->∃v,vs[j]?=some v/\R K false c [v]
 |[],_,_,j,c,hc=>by simp at hc
 |c0::cs,vs,h,j,c,hc=>by
  simp only[dO]at h;obtain⟨v,r,rfl,e2,e3⟩:=h;cases j with
  |zero=>simp at hc;subst hc;exact⟨v,by simp,e2⟩
  |succ j=>simpa using dO.get e3 (by simpa using hc)
def dO.drop{K:bt}:∀(n:Nat){cs:List PV}{vs:List Value},dO K cs vs->dO K (cs.drop n) (vs.drop n)
 |0,_,_,h=>by simpa using h
 |n+1,[],_,h=>by simp only[dO]at h;subst h;simp[dO]
 |n+1,_::cs,_,h=>by
  simp only[dO]at h;obtain⟨v,r,rfl,_,e3⟩:=h;simpa using dO.drop n e3
def dO.take{K:bt}:∀(n:Nat){cs:List PV}{vs:List Value},dO K cs vs->dO K (cs.take n) (vs.take n)
 |0,_,_,_=>by simp[dO]
 |n+1,[],_,h=>by simp only[dO]at h;subst h;simp[dO]
 |n+1,_::cs,_,h=>by
  simp only[dO]at h;obtain⟨v,r,rfl,e2,e3⟩:=h;simp only[zbl,dO];exact⟨v,_,rfl,e2,dO.take n e3⟩
def dO.append{K:bt}:∀{cs:List PV}{vs:List Value}{ds:List PV}{a:List Value},dO K cs vs->dO K ds a->dO K (cs++ds) (vs++a)
 |[],_,_,_,h,k=>by simp only[dO]at h;subst h;simpa using k
 |_::cs,_,_,_,h,k=>by
  simp only[dO]at h;obtain⟨v,r,rfl,e2,e3⟩:=h;simp only[zbb,dO];exact⟨v,_,rfl,e2,dO.append e3 k⟩
def Row.get{K:bt}:∀{els:List PV}{b o sz:Nat},Row K b o sz els->∀{i:Nat}{el:PV},els[i]?=some el->
   ∃vs,vs.length=sz/\At K b (o+i*sz) vs/\R K true el vs
 |[],_,_,_,_,i,el,h=>by simp at h
 |e0::r,b,o,sz,hr,i,el,h=>by
  simp only[Row]at hr;obtain⟨e1,e2⟩:=hr;cases i with
  |zero=>simp at h;subst h;simpa using e1
  |succ i=>
   obtain⟨vs,h1,h2,h3⟩:=Row.get e2 (i:=i) (by simpa using h);exact⟨vs,h1,by rw[show o+(i+1)*sz=o+sz+i*sz from by rw[zaI];omega];exact h2,h3⟩
def dO.one{K:bt}:∀{cs:List PV}{vs:List Value},dO K cs vs->∀u∈vs,u.oneCell'=true
 |[],_,h,u,hu=>by simp only[dO]at h;subst h;simp at hu
 |c::cs,_,h,u,hu=>by
  simp only[dO]at h;obtain⟨v,r,rfl,e2,e3⟩:=h;simp only[zau]at hu;rcases hu with rfl|hu
  .cases c with
   |agg _=>simp[R]at e2
   |aq _=>simp only[R]at e2;obtain⟨b,l,c,e,_⟩:=e2;simp at e;subst e;rfl
   |_=>simp[R]at e2;subst e2;rfl
  .exact dO.one e3 u hu
def Row.flat{K:bt}:∀{els:List PV}{b o sz:Nat},Row K b o sz els->
   ∃a:List Value,a.length=els.length*sz/\At K b o a/\(∀(K':bt)(b' o':Nat),K.le K'->At K' b' o' a->Row K' b' o' sz els)/\∀u∈a,u.oneCell'=true
 |[],b,o,sz,_=>⟨[],by simp,by intro j v h;simp at h,by intros;simp only[Row],by simp⟩
 |el::r,b,o,sz,hr=>by
  simp only[Row]at hr;obtain⟨⟨vs,h1,h2,h3⟩,h4⟩:=hr;obtain⟨a,g1,g2,e,g4⟩:=Row.flat h4;refine⟨vs++a,by simp[h1,g1,zaI];omega,?_,?_,?_⟩
  .intro j v hj;rw[zbn]at hj;split at hj
   .exact h2 j v hj
   .have:=g2 _ v hj;rw[h1]at this
    rwa [show o+sz+(j-sz)=o+j from by omega]at this
  .intro K' b' o' c d;simp only[Row];refine⟨⟨vs,h1,?_,R.mono c _ _ _ h3⟩,?_⟩
   .intro j v hj;exact d j v (by rw[zar];exact hj;exact(zaa.1 hj).1)
   .refine e K' b' (o'+sz) c ?_;intro j v hj;have:=d (sz+j) v (by rw[zaB (by omega),h1];simpa using hj)
    rwa [show o'+sz+j=o'+(sz+j) from by omega]
  .intro u hu;simp only[zaz]at hu;rcases hu with hu|hu
   .exact dO.one h3.cells u hu
   .exact g4 u hu
def Row.append{K:bt}:∀{els:List PV}{b o sz:Nat}{a:List PV},Row K b o sz els->Row K b (o+els.length*sz) sz a->Row K b o sz (els++a)
 |[],_,_,_,_,_,k=>by simpa using k
 |el::r,b,o,sz,a,h,k=>by
  simp only[Row,zbb]at h⊢;refine⟨h.1,Row.append h.2 ?_⟩;rw[show o+sz+r.length*sz=o+(el::r).length*sz from by simp[zaI];omega];exact k
def Row.drop{K:bt}:∀(n:Nat){els:List PV}{b o sz:Nat},Row K b o sz els->Row K b (o+n*sz) sz (els.drop n)
 |0,_,_,_,_,h=>by simpa using h
 |n+1,[],_,_,_,_=>by simp only[List.drop_nil,Row]
 |n+1,el::r,b,o,sz,h=>by
  simp only[Row]at h;simp only[zbf];rw[show o+(n+1)*sz=o+sz+n*sz from by rw[zaI];omega];exact Row.drop n h.2
def Row.take{K:bt}:∀(n:Nat){els:List PV}{b o sz:Nat},Row K b o sz els->Row K b o sz (els.take n)
 |0,_,_,_,_,_=>by simp only[za3,Row]
 |n+1,[],_,_,_,_=>by simp only[List.take_nil,Row]
 |n+1,el::r,b,o,sz,h=>by
  simp only[Row]at h;simp only[zbl,Row];exact⟨h.1,Row.take n h.2⟩
def Row.sz{K:bt}{els:List PV}{b o sz s:Nat}(h:Row K b o sz els)(hs:bl s els=true)(a:els≠[]):s=sz:=by
 cases els with
 |nil=>exact absurd rfl a
 |cons el r=>
  simp only[Row]at h;obtain⟨⟨vs,h1,_,h3⟩,_⟩:=h;have:=h3.length;simp[bl]at hs;omega
def TV(K:bt)(els:List PV)(base:Option Addr)(len:Nat):Prop:=
 els.length=len/\(els=[]\/∃b o sz,base=some ⟨b,o,none⟩/\Row K b o sz els)
def TV.mono{K K':bt}(h:K.le K'){els:List PV}{base:Option Addr}{len:Nat}(hr:TV K els base len):TV K' els base len:=
 ⟨hr.1,Q5 hr.2 fun⟨b,o,sz,e,r⟩=>⟨b,o,sz,e,Row.mono h _ _ _ _ r⟩⟩
def cq{K:bt}{els:List PV}{v:Value}:Rel K (.aq els) v<->∃base len cap,v=.slice base len cap/\len<=cap/\TV K els base len:=by
 simp only[Rel,R,TV];constructor
 .rintro⟨b,l,c,e,h⟩;exact⟨b,l,c,by simpa using e,h⟩
 .rintro⟨b,l,c,e,h⟩;exact⟨b,l,c,by simpa using e,h⟩
def M3{K:bt}{p:PV}{v:Value}(h:dT p=true):Rel K p v<->R K false p [v]:=by
 cases p with
 |agg cs=>simp[dT]at h
 |_=>exact Iff.rfl
def Rel.Xy{K:bt}{p:PV}{v:Value}(h:R K false p [v]):Rel K p v:=by
 cases p with
 |agg cs=>simp[R]at h
 |_=>exact h
structure lG where
 mW:List (Nat×Nat×Nat)
 TW:List Nat
 ps:List Nat
 live:List (Nat×List Nat)
 loops:List (Nat×List Nat)
 site:List Nat
 own:List (Nat×List Nat)
 M4:List (Nat×Nat):=[]
 ks:Bool:=false
 q:List Nat:=[]
 hot:List Nat:=[]
 fz:List (Nat×List Nat):=[]
 dup:List (Nat×Nat):=[]
 ro:List Nat:=[]
 far:List (Nat×List (Nat×Nat)):=[]
 mV:List (Nat×List (Nat×Nat×Bool)):=[]
 pr:List (Nat×List (Nat×Nat×Nat)):=[]
 cut:List (Nat×Nat×List Nat×List Nat):=[]
 fs:List (Nat×List Nat):=[]
 kp:List Nat:=[]
 zap:List Nat:=[]
def lG.at(A:lG)(id:Nat):lG:=match look A.pr id with
 |some l=>{A with mW:=l++A.mW}
 |none=>A
structure Names where
 g:List (Nat×Nat)
 shf:List Nat
 bk:List (Nat×Nat×Bool):=[]
 cl:List (Nat×Nat×Nat):=[]
 mP:Nat->Option (Array Value):=fun _=>none
def Names.of(ρ:Names)(f:Nat):Option Nat:=look ρ.g f
def cT(P:Program)(t:TypeId):Option Nat:=(P.info? t).map (·.size)
def fE(P:Program)(t:TypeId):Option Nat:=(P.info? t).map (·.bytes)
def iC(P:Program)(t:TypeId):Option Bool:=(P.underlying t).map fun| .struct _| .array ..=>true|_=>false
def dt:Value->Option PV
 | .bool b=>some (.bool b)
 | .int k n=>some (.int k n)
 | .string s=>some (.str s.data.toList)
 | .slice none 0 0=>some (.aq [])
 |_=>none
def cg{α a:Type}(f:α->Option a):List α->Option (List a)
 |[]=>some []
 |x::r=>match f x,cg f r with
  |some y,some b=>some (y::b)
  |_,_=>none
def Ei(v:Value):Option AV:=
 match v with
 | .slice none 0 0=>some (.dr [])
 | .pointer none=>some .ia
 | .nilFunc=>some .ia
 | .agg cs=>(cg dt cs.toList).map fun l=>.pv (.agg l)
 |v=>(dt v).map .pv
def cK(P:Program)(t:TypeId):Option (List PV):=
 match (P.info? t).bind (·.zero)with
 |some z=>cg dt z.cells.toList
 |none=>none
def js(ρ:Names):Operand->Option fp
 | .tmp t=>some (.t t)
 | .const v=>(Ei v).map .c
 | .func f=>(ρ.of f).map fun g=>.c (.fn g [])
 | .global _=>none
def fF(P:Program)(t:TypeId):Option TypeId:=match P.underlying t with|some (.slice e)=>some e|_=>none
def gJ(P:Program)(t:TypeId)(f:Nat):Option Field:=match P.underlying t with|some (.struct fs)=>fs[f]?|_=>none
def Ej(P:Program)(t:TypeId):Option CK:=if cT P t=some 1 then match P.underlying t with
 |some (.int _)=>some .int
 |some .string=>some .str
 |some .bool=>some .bool
 |_=>none
 else none
def Ek(P:Program):Nat->List Field->Option (List CK)
 |_,[]=>some []
 | i,f::r=>if f.name ≠ "_"∧f.offset=i then match Ej P f.type,Ek P (i+1) r with
  |some c,some cs=>some (c::cs)
  |_,_=>none
  else none
def zeroOf(P:Program)(t:TypeId):Option PV:=match(P.info? t).bind (·.zero)with
 |some (.agg cs)=>(cg dt cs.toList).map .agg
 |some v=>dt v
 |none=>none
def HS(P:Program)(op:BinOp)(t:TypeId):Option Q2:=
 match P.underlying t with
 |some (.int _)|some .string=>some (.bin op)
 |some .bool=>if op=.eql then some (.beq false)else if op=.neq then some (.beq true)else none
 |_=>none
def fieldsOf(P:Program)(t:TypeId):Option (List (Nat×Nat)):=
 match P.underlying t with
 |some (.struct fs)=>cg (fun f=>(cT P f.type).map fun s=>(f.offset,s)) fs.toList
 |_=>none
def placesOf(P:Program)(t:TypeId)(is:List Nat):Option (List (Nat×Nat)):=
 match fieldsOf P t with
 |some all=>cg (fun i=>all[i]?) is
 |none=>none
def tY:Nat->List (Nat×Operand)->Bool
 |_,[]=>true
 |i,(j,_)::r=>i == j && tY (i+1) r
def bR(P:Program)(ρ:Names)(A:lG)(dst:Option Nat):Op->Option (AK×List Operand)
 | .move x| .assign x=>some (.v .mv,[x])
 | .pick c a b=>some (.v .pick,[c,a,b])
 | .binOp op t x y _=>(HS P op t).map fun o=>(.v o,[x,y])
 | .unOp op _ x=>some (.v (.un op),[x])
 | .convert s d x=>match P.underlying s,P.underlying d with
  |some (.int _),some (.int k)=>some (.v (.conv k),[x])
  |some (.slice e),some .string=>match P.underlying e with
   |some (.int .u8)=>some (.v .b2s,[x])
   |_=>none
  |_,_=>none
 | .extract x i=>some (.v (.ext i),[x])
 | .field t x f=>match gJ P t f with
  |some j=>match cT P j.type,iC P j.type with
   |some sz,some ag=>some (.v (.field j.offset sz ag),[x])
   |_,_=>none
  |none=>none
 | .fieldAddr t x f=>match gJ P t f with
  |some j=>match cT P j.type with
   |some s=>if s=0 then none else some (.v (.iA j.offset),[x])
   |none=>none
  |none=>none
 | .indexAddr t x i=>match fF P t with
  |some e=>(cT P e).map fun sz=>(.v (.eK sz),[x,i])
  |none=>none
 | .index t x i=>match P.underlying t with
  |some .string=>some (.v .index,[x,i])
  |_=>none
 | .build t ps=>match P.underlying t with
  |some (.struct _)=>match cK P t,placesOf P t (ps.toList.map (·.1))with
   |some z,some p=>some (.v (.build z p),ps.toList.map (·.2))
   |_,_=>none
  |_=>none
 | .buildSlice t n ps=>match fF P t with
  |some e=>match cT P e,cK P e with
   |some sz,some _=>if ps.size=n/\tY 0 ps.toList=true/\0<sz/\n*sz<=16777216 then some (.v (.ez sz),ps.toList.map (·.2))else none
   |_,_=>none
  |none=>none
 | .load t x=>match cT P t,iC P t with
  |some sz,some ag=>match x with
   | .tmp tx=>match look A.mW tx with
    |some (k,o)=>some (.cr k o sz ag,[x])
    |none=>if A.TW.contains tx then some (.eg sz ag,[x])else some (.v (.gj sz ag),[x])
   |_=>none
  |_,_=>none
 | .store t x v=>match cT P t,x with
  |some sz,.tmp tx=>match look A.mW tx with
   |some (k,o)=>some (.bH k o sz,[x,v])
   |none=>if A.kp.contains tx=true then some (.MZ sz,[x,v])else some (.fK sz,[x,v])
  |_,_=>none
 | .alloc t=>match cK P t,dst with
  |some z,some d=>match look A.mW d with
   |some (k,0)=>if k=d then some (.alloc d z,[])else none
   |some _=>none
   |none=>some (.jM z,[])
  |_,_=>none
 | .box t x=>match cT P t,dst with
  |some sz,some d=>match look A.mW d with
   |some (k,0)=>if k=d then some (.box d sz,[x])else none
   |some _=>none
   |none=>if A.kp.contains d=true then some (.X0 sz,[x])else some (.p7 sz,[x])
  |_,_=>none
 | .makeMap _ r=>if r.isNone=true then some (.TO,[])else none
 | .lookup t x i ok=>match P.underlying t with
  |some (.map k e)=>match Ej P k,zeroOf P e with
   |some c,some z=>some (.A9 c ok z,[x,i])
   |_,_=>none
  |_=>none
 | .mapUpdate t m i x| .insert t m i x=>match P.underlying t with
  |some (.map k _)=>(Ej P k).map fun c=>(.X6 c,[m,i,x])
  |_=>none
 | .nilCheck x=>some (.v .rj,[x])
 | .makeFunc fn first cap=>match fn with
  | .func f=>if first.size=0 then(ρ.of f).map fun g=>(.v (.Jl g),cap.toList)else none
  |_=>none
 | .makeSlice t l c=>match fF P t with
  |some e=>match cT P e,fE P e,iC P e,cK P e with
   |some sz,some h,some ag,some z=>if z.length=sz/\0<sz then match dst.bind (look A.mW),dst with
    |some (k,0),some d=>if k=d then some (.iU d sz h z,[l,c])else none
    |some _,_=>none
    |none,_=>some (.jN sz h ag z,[l,c])
     else none
   |_,_,_,_=>none
  |none=>none
 | .slice t x lo hi mx=>match P.underlying t with
  |some (.slice e)=>if mx.isSome=false/\(dst.map (A.hot.contains ·)).getD false=true then(cT P e).map fun sz=>(.v (.uB sz lo.isSome hi.isSome),x::(lo.toList++hi.toList++mx.toList))
    else (cT P e).map fun sz=>(.v (.slice false sz lo.isSome hi.isSome mx.isSome),x::(lo.toList++hi.toList++mx.toList))
  |some .string=>if mx.isSome then none else some (.v (.slice true 0 lo.isSome hi.isSome false),x::(lo.toList++hi.toList++mx.toList))
  |_=>none
 | .call c=>match c.callee with
  | .builtin .len=>match c.args.toList,(c.argTypes[0]?).bind P.underlying with
   |[x],some (.slice _)=>some (.v .len,[x])
   |[x],some .string=>some (.v .Ee,[x])
   |_,_=>none
  | .builtin .min=>match c.args.toList with
   |[x,y]=>some (.v .mn,[x,y])
   |_=>none
  | .builtin .max=>match c.args.toList with
   |[x,y]=>some (.v .mx,[x,y])
   |_=>none
  | .builtin .append=>match c.args.toList,(c.argTypes[0]?).bind (fF P),(c.argTypes[1]?).bind (fF P)with
   |[x,y],some e,some _=>match cT P e,fE P e,cK P e with
    |some sz,some h,some z=>if z.length=sz/\0<sz/\0<h then
     if (dst.map (A.hot.contains ·)).getD false then(iC P e).map fun ag=>(.dk sz h ag,[x,y])else match dst.bind (look A.dup)with
      |some u=>some (.yR sz h,[x,y,.tmp u])
      |none=>some (.append sz h,[x,y])
      else none
    |_,_,_=>none
   |_,_,_=>none
  | .builtin .clear=>match c.args.toList,(c.argTypes[0]?).bind (fF P)with
   |[x],some e=>match cT P e,cK P e with
    |some sz,some z=>if z.length=sz/\0<sz then some (.ig sz z,[x])else none
    |_,_=>none
   |_,_=>none
  | .builtin .copy=>match c.args.toList,(c.argTypes[0]?).bind (fF P),(c.argTypes[1]?).bind (fF P)with
   |[x,y],some e,some _=>match cT P e with
    |some sz=>some (.kJ sz,[x,y])
    |none=>none
   |_,_,_=>none
  | .value (.func f)=>match ρ.of f with
   |some g=>match look ρ.cl g with
    |some (sz,h)=>if c.args.size=1 then
     (if(dst.map (A.hot.contains ·)).getD false=true then match(c.argTypes[0]?).bind (fF P)with
      |some e=>(iC P e).map fun ag=>(.ie sz h ag,c.args.toList)
      |none=>none
     else some (.clone sz h,c.args.toList))else none
    |none=>if(dst.map (A.q.contains ·)).getD false then some (.uD g,c.args.toList)
    else if ρ.shf.contains g || (dst.map (A.site.contains ·)).getD false then some (.bB g ((dst.bind (look A.own)).getD []),c.args.toList)
    else if(dst.map (A.ps.contains ·)).getD false then some (.d8 g,c.args.toList)else some (.aE g,c.args.toList)
   |none=>none
  | .value (.tmp t)=>if(dst.map (A.ro.contains ·)).getD false=true then some (.fq,.tmp t::c.args.toList)else some (.gk,.tmp t::c.args.toList)
  |_=>none
 |_=>none
def cA(P:Program)(ρ:Names)(A:lG)(N:Nat)(ops:Array Oper)(o:Oper):Option dM:=
 match bR P ρ A o.dst o.op with
 |some (k,args)=>match cg (js ρ) args with
  |some as=>
   if (o.dst.map (fun d=>decide (d<N))).getD true=true then
    match o.guard with
    |none=>some {dst:=o.dst,guard:=none,args:=as,op:=k}
    |some (j,b)=>match(ops[j]?).bind (·.dst)with
     |some t=>some {dst:=o.dst,guard:=some (t,b),args:=as,op:=k}
     |none=>none
   else none
  |none=>none
 |none=>none
def dM.looks(o:dM):List Nat:=
 (o.args.filterMap fun| .t n=>some n|_=>none)++(match o.guard with|some (t,_)=>[t]|none=>[])
def AK.ji:AK->Bool
 | .eg ..| .fK _| .MZ _| .p7 _| .X0 _| .jM _| .jN ..| .d8 _| .bB ..| .gk| .fq| .TO| .A9 ..| .X6 _| .dk ..| .ie ..| .ig ..| .kJ _=>true
 |_=>false
def AK.xq:AK->Bool
 | .eg ..| .A9 ..| .fq=>true
 |_=>false
def AK.gD:AK->Bool
 | .append ..| .dk ..| .yR ..| .clone ..| .bB ..| .uD _| .gk| .fq=>true
 |_=>false
def AK.iO:AK->Bool
 | .bH ..| .alloc ..| .box ..| .iU ..=>true
 |_=>false
def indep(x y:dM):Bool:=
 (match x.dst with|some d=>!(y.looks).contains d && y.dst != some d|none=>true) &&
 (match y.dst with|some d=>!(x.looks).contains d|none=>true) &&
 (!(x.op.ji && y.op.ji)|| (x.op.xq && y.op.xq)) && !(x.op.gD && y.op.gD) &&
 (match x.op.key,y.op.key with
  |some a,some b=>a != b || !(x.op.iO || y.op.iO)
  |_,_=>true)
def dM.addr(o:dM):Option Nat:=match o.op,o.args with
 | .eg ..,.t a::_| .fK _,.t a::_=>some a
 |_,_=>none
def Ba(ds:List (Nat×Nat))(x y:dM):Bool:=
 (match x.dst with|some d=>!(y.looks).contains d && y.dst != some d|none=>true) &&
 (match y.dst with|some d=>!(x.looks).contains d|none=>true) &&
 (match x.addr,y.addr with
  |some a,some b=>ds.contains (a,b)
  |_,_=>false)
def yU:List dM->Bool
 |[]=>true
 |x::r=>(match x.addr with|some a=>(x::r).all (fun o=>o.dst != some a)|none=>true) && yU r
def nc:List Oper->List Nat->List Nat
 |[],acc=>acc
 |o::r,acc=>nc r (acc++[o.after.toList.foldl (fun s e=>if Region.binds .any e then s ||| 2 ^ e.on ||| acc.getD e.on 0 else s) 0])
def tZ(ds:List (Nat×Nat))(a:List Nat)(i:Nat)(x:dM):Nat->List dM->Bool
 |_,[]=>true
 |j,y::r=>((a.getD j 0).testBit i || indep x y || Ba ds x y) && tZ ds a i x (j+1) r
def nf(ds:List (Nat×Nat))(a:List Nat):Nat->List dM->Bool
 |_,[]=>true
 |i,x::r=>tZ ds a i x (i+1) r && nf ds a (i+1) r
def iF:Nat->List Oper->Bool
 |_,[]=>true
 |i,o::r=>o.after.toList.all (fun e=>!Region.binds .any e || decide (e.on<i)) && iF (i+1) r
def yV(ds:List (Nat×Nat))(ops:List Oper)(as:List dM):Bool:=iF 0 ops && (nf ds (nc ops []) 0 as && yU as)
def lL:Code->Option Nat
 | .region id _ _=>some id
 | .seq a b| .cond _ a b=>match lL a with|some i=>some i|none=>lL b
 | .block _ c| .loop c| .scope c=>lL c
 |_=>none
def ah.gE:ah->Bool
 | .seq a b| .cond _ a b=>a.gE && b.gE
 | .block _ b| .loop _ b=>b.gE
 | .back ..=>false
 |_=>true
def kL(o:Option (List Nat))(c:ah):ah:=match o with
 |some ts=>.seq (.gr ts) c
 |none=>c
def t4(o:Option (List Nat))(c:ah):ah:=match o with
 |some ts=>.seq (.TT ts) c
 |none=>c
def Em(o:Option (Nat×List Nat×List Nat))(as:List dM)(live:List Nat):ah:=match o with
 |some (k,l,ts)=>.seq (.jf (as.take k) l) (.seq (.m9 ts) (.jf (as.drop k) live))
 |none=>.jf as live
def behind(ds:Option (List (Nat×Nat)))(ps:Option (List (Nat×Nat×Bool)))(c:ah):ah:=
 let c1:=match ds with
  |some ds=>.seq c (.TS ds)
  |none=>c
 match ps with
 |some ps=>.seq c1 (.mV ps)
 |none=>c1
def aa6(o:dM):Option (Nat×Nat×Nat×Bool):=match o.op,o.dst,o.guard,o.args with
 | .eg sz ag,some d,none,[.t a]=>some (d,a,sz,ag)
 |_,_,_,_=>none
def abb(o:dM):Option (Nat×Nat):=match o.op,o.dst,o.guard,o.args with
 | .v .len,some d,none,[.t a]=>some (d,a)
 |_,_,_,_=>none
def pBs(o:dM):Option (Nat×List PV×Nat):=match o.op,o.dst,o.guard,o.args with
 | .v (.ez sz),some d,none,[.c (.pv (.agg a))]=>some (d,a,sz)
 |_,_,_,_=>none
def abc(o:dM):Option (Nat×Nat×Nat×Nat×Nat):=match o.op,o.dst,o.guard,o.args with
 | .append sz a,some d,none,[.t s,.t z]=>some (d,s,z,sz,a)
 |_,_,_,_=>none
def pSt(o:dM):Option (Nat×Nat×Nat):=match o.op,o.dst,o.guard,o.args with
 | .fK sz,none,none,[.t c,.t v]=>some (c,v,sz)
 |_,_,_,_=>none
def abd(o:Oper):Option (Nat×Nat×Nat×Nat):=match o.op,o.dst,o.guard with
 | .indexAddr t (.tmp v) (.tmp l),some p,none=>some (p,t,v,l)
 |_,_,_=>none
def abe(o:Oper):Option (Nat×Nat×Nat):=match o.op,o.dst,o.guard with
 | .store a (.tmp p) (.tmp x),none,none=>some (a,p,x)
 |_,_,_=>none
def Vo:List Nat->Bool
 |[]=>true
 |x::r=>!r.contains x && Vo r
def gK(P:Program)(ρ:Names)(A:lG)(N:Nat):Code->Option ah
 | .skip=>some .skip
 | .region id ops d=>match cg (cA P ρ (A.at id) N ops) ops.toList with
  |some as=>if d then(if yV ((look A.far id).getD []) ops.toList as then some (kL (look A.fz id) (behind (look A.far id) (look A.mV id) (.jf as ((look A.live id).getD []))))else none)
    else match look A.cut id with
     |some q=>some (t4 (look A.fs id) (kL (look A.fz id) (Em (some q) as ((look A.live id).getD []))))
     |none=>some (t4 (look A.fs id) (kL (look A.fz id) (behind (look A.far id) (look A.mV id) (.jf as ((look A.live id).getD [])))))
  |none=>none
 | .seq a b=>match gK P ρ A N a,gK P ρ A N b with
  |some x,some y=>some (.seq x y)
  |_,_=>none
 | .cond c a b=>match js ρ c,gK P ρ A N a,gK P ρ A N b with
  |some c,some x,some y=>some (.cond c x y)
  |_,_,_=>none
 | .block id b=>(gK P ρ A N b).map (.block id)
 | .loop b=>(gK P ρ A N b).map (.loop (((lL b).bind (look A.loops)).getD []))
 | .exit id=>some (.exit id)
 | .ret=>some .ret
 |_=>none
def HT(P:Program):ResultVar->Option rm
 | .tmp t=>some (.t t)
 | .cell a t=>match cT P t,iC P t with
  |some sz,some ag=>some (.c a sz ag)
  |_,_=>none
def qc(P:Program)(ρ:Names)(A:lG)(fn:Func):Option aA:=
 match fn.body,cg (HT P) fn.results.toList with
 | some b,some rs=>if fn.params.size+fn.nfree≤fn.ntmps∧fn.name != "runtime.NumGoroutine" then
  (gK P ρ A fn.ntmps b).map fun c=>{nparams:=fn.params.size,ntmps:=fn.ntmps,results:=rs,body:=c,ks:=A.ks}else none
 |_,_=>none
inductive pc where
 |fe|mW (d:Nat)|shr (b:Nat)|tok (τ:Nat)
 deriving DecidableEq
structure Tk where
 base:Option Addr
 len:Nat
 cap:Nat
 sz:Nat
 own:Bool:=false
def Tk.val(t:Tk):Value:=.slice t.base t.len t.cap
def Tk.dead(t:Tk):Prop:=t.base=none/\0<t.len
def Tk.on(t t':Tk):Prop:=(t.dead->t'.dead)/\(t'.dead\/t.cap<t'.len\/(t'.base=t.base/\t'.cap=t.cap/\(t'=t\/t'.own=true)))
def Tk.XZ(t:Tk)(v:Value):Prop:=t.dead\/∃base len cap,v=.slice base len cap/\(cap<t.len\/(base=t.base/\cap=t.cap/\(len=t.len\/t.own=true)))
def Tk.iP(t:Tk):t.on t:=⟨id,.inr (.inr ⟨rfl,rfl,.inl rfl⟩)⟩
def Tk.M5{a b c:Tk}(h:a.on b)(k:b.on c)(hl:b.len<=c.len):a.on c:=by
 refine⟨fun d=>k.1 (h.1 d),?_⟩;rcases h.2 with d|hc|⟨e1,e2,e3⟩
 .exact .inl (k.1 d)
 .exact .inr (.inl (by omega))
 .rcases k.2 with d|hc|⟨f1,f2,f3⟩
  .exact .inl d
  .exact .inr (.inl (by omega))
  .refine .inr (.inr ⟨f1.trans e1,f2.trans e2,?_⟩);rcases f3 with rfl|f3
   .exact e3
   .exact .inr f3
def Tk.t5(t:Tk):t.XZ t.val:=.inr ⟨_,_,_,rfl,.inr ⟨rfl,rfl,.inl rfl⟩⟩
def Tk.Vq{t t':Tk}{v:Value}(h:t.XZ v)(k:t.on t')(hl:t.len<=t'.len):t'.XZ v:=by
 rcases h with d|⟨base,len,cap,e,h⟩
 .exact .inl (k.1 d)
 .rcases k.2 with d|hc|⟨e1,e2,e3⟩
  .exact .inl d
  .refine .inr ⟨base,len,cap,e,.inl ?_⟩;rcases h with h|⟨_,h,_⟩<;>omega
  .refine .inr ⟨base,len,cap,e,?_⟩;rcases h with h|⟨h1,h2,h3⟩
   .exact .inl (by omega)
   .refine .inr ⟨h1.trans e1.symm,h2.trans e2.symm,?_⟩;rcases e3 with rfl|e3
    .exact h3
    .exact .inr e3
structure Gh where
 K:bt
 role:Nat->pc
 pm:Nat->Option Nat
 sm:Nat->Option (Nat×Nat)
 tk:Nat->Option Tk
structure bX where
 r:Nat->Nat->Prop
 mP:Nat->Option (Array Value)
mutual
def aD(ρ:bX)(G:Gh):AV->Value->Prop
 | .un,v=>v=undef
 | .pv p,v=>Rel G.K p v
 | .dr els,v=>∃base len,v=.slice base len len/\TV G.K els base len
 | .own els τ,v=>∃t,G.tk τ=some t/\(els.length<=t.len/\t.XZ v)/\Rel G.K (.aq els) v /\
     (els.length=t.len->v=t.val/\(els=[]\/∃b o,t.base=some ⟨b,o,none⟩/\Row G.K b o t.sz els))
 | .agg cs,v=>∃vs:List Value,v=.agg vs.toArray/\aC ρ G cs vs
 | .rf cs,v=>∃vs:List Value,v=.tuple vs.toArray/\aC ρ G cs vs
 | .au d off,v=>∃b,G.pm d=some b/\v=.pointer (some ⟨b,off,none⟩)
 | .aV s off,v=>∃b,G.sm s=some b/\v=.pointer (some ⟨b.1,off,none⟩)
 | .h_ cs,v=>∃b o vs,v=.pointer (some ⟨b,o,none⟩)/\At G.K b o vs/\dO G.K cs vs
 | .aP s z n _,v=>∃b cap,G.sm s=some b/\v=.slice (some ⟨b.1,0,none⟩) n (n+cap)/\(n+cap)*z<=b.2
 | .fn g cap,v=>∃f vs,ρ.r g f/\v=.func (.func f) #[] (List.toArray vs)/\aC ρ G cap vs
 | .ia,v=>v=.pointer none\/v=.nilFunc
 | .jL s,v=>∃b,G.sm s=some b/\v=.map (some b.1)
 | .fH _,_=>False
 | .kF d n,v=>∃b,G.pm d=some b/\v=.slice (some ⟨b,0,none⟩) n n
 | .ri s off n,v=>∃b base cap,G.sm s=some b/\v=.slice base n cap/\(n=0\/base=some ⟨b.1,off,none⟩)
def aC(ρ:bX)(G:Gh):List AV->List Value->Prop
 |[],vs=>vs=[]
 |c::cs,vs=>∃v r,vs=v::r/\aD ρ G c v/\aC ρ G cs r
end
structure Gh.le(G G':Gh):Prop where
 K:G.K.le G'.K
 pm:∀d b,G.pm d=some b->G'.pm d=some b
 sm:∀d b,G.sm d=some b->G'.sm d=some b
 tk:∀τ t,G.tk τ=some t->∃t',G'.tk τ=some t'/\(t.len<=t'.len/\t.on t')/\(t.len=t'.len->t'=t)
def Gh.le_refl(G:Gh):G.le G:=⟨G.K.le_refl,fun _ _ h=>h,fun _ _ h=>h,fun _ t h=>⟨t,h,⟨zas _,t.iP⟩,fun _=>rfl⟩⟩
def Gh.le_trans{a b c:Gh}(h:a.le b)(k:b.le c):a.le c:=
 ⟨bt.le_trans h.K k.K,fun x y e=>k.pm _ _ (h.pm x y e),fun x y e=>k.sm _ _ (h.sm x y e),fun τ t e=>by
  obtain⟨t',e1,e2,e3⟩:=h.tk τ t e;obtain⟨d,f1,f2,f3⟩:=k.tk τ t' e1
  exact⟨d,f1,⟨za9 e2.1 f2.1,Tk.M5 e2.2 f2.2 f2.1⟩,fun hl=>by
   have h1:t.len=t'.len:=Nat.le_antisymm e2.1 (hl ▸ f2.1);have h2:t'.len=d.len:=h1 ▸ hl;rw[f3 h2,e3 h1]⟩⟩
section
variable {ρ:bX} {G G':Gh}
mutual
theorem aD.mono(h:G.le G'):∀{x:AV}{v:Value},aD ρ G x v->aD ρ G' x v
 | .un,_,hr=>by simpa only[aD]using hr
 | .pv p,_,hr=>by simp only[aD]at hr⊢;exact hr.mono h.K
 | .dr els,_,hr=>by
  simp only[aD]at hr⊢;obtain⟨b,l,e,r⟩:=hr;exact⟨b,l,e,r.mono h.K⟩
 | .own els τ,v,hr=>by
  simp only[aD]at hr⊢;obtain⟨t,e1,e2,e3,e4⟩:=hr;obtain⟨t',f1,f2,f3⟩:=h.tk τ t e1;refine⟨t',f1,⟨za9 e2.1 f2.1,Tk.Vq e2.2 f2.2 f2.1⟩,e3.mono h.K,fun hl=>?_⟩;have h1:els.length=t.len:=Nat.le_antisymm e2.1 (hl ▸ f2.1);have h2:=f3 (h1 ▸ hl);subst h2;obtain⟨g1,g2⟩:=e4 h1;exact⟨g1,Q5 g2 fun⟨b,o,e,r⟩=>⟨b,o,e,Row.mono h.K _ _ _ _ r⟩⟩
 | .agg cs,_,hr=>by
  simp only[aD]at hr⊢;obtain⟨vs,e,r⟩:=hr;exact⟨vs,e,aC.mono h r⟩
 | .rf cs,_,hr=>by
  simp only[aD]at hr⊢;obtain⟨vs,e,r⟩:=hr;exact⟨vs,e,aC.mono h r⟩
 | .au d off,_,hr=>by
  simp only[aD]at hr⊢;obtain⟨b,e,r⟩:=hr;exact⟨b,h.pm _ _ e,r⟩
 | .aV d off,_,hr=>by
  simp only[aD]at hr⊢;obtain⟨b,e,r⟩:=hr;exact⟨b,h.sm _ _ e,r⟩
 | .h_ cs,_,hr=>by
  simp only[aD]at hr⊢;obtain⟨b,o,vs,e,f,r⟩:=hr;exact⟨b,o,vs,e,f.mono h.K,dO.mono h.K _ _ r⟩
 | .aP s _ n _,_,hr=>by
  simp only[aD]at hr⊢;obtain⟨b,c,e,r⟩:=hr;exact⟨b,c,h.sm _ _ e,r⟩
 | .fn g cap,_,hr=>by
  simp only[aD]at hr⊢;obtain⟨f,vs,e1,e2,r⟩:=hr;exact⟨f,vs,e1,e2,aC.mono h r⟩
 | .ia,_,hr=>by simpa only[aD]using hr
 | .jL s,_,hr=>by
  simp only[aD]at hr⊢;obtain⟨b,e,r⟩:=hr;exact⟨b,h.sm _ _ e,r⟩
 | .fH _,_,hr=>by simp only[aD]at hr
 | .ri s _ _,_,hr=>by
  simp only[aD]at hr⊢;obtain⟨b,x,c,e,r⟩:=hr;exact⟨b,x,c,h.sm _ _ e,r⟩
 | .kF d _,_,hr=>by
  simp only[aD]at hr⊢;obtain⟨b,e,r⟩:=hr;exact⟨b,h.pm _ _ e,r⟩
theorem aC.mono(h:G.le G'):∀{xs:List AV}{vs:List Value},aC ρ G xs vs->aC ρ G' xs vs
 |[],_,hr=>by simpa only[aC]using hr
 |_::_,_,hr=>by
  simp only[aC]at hr⊢;obtain⟨v,r,e,e1,e2⟩:=hr;exact⟨v,r,e,aD.mono h e1,aC.mono h e2⟩
end
def aC.length:∀{xs:List AV}{vs:List Value},aC ρ G xs vs->vs.length=xs.length
 |[],_,hr=>by simp only[aC]at hr;simp[hr]
 |_::_,_,hr=>by
  simp only[aC]at hr;obtain⟨v,r,rfl,_,e2⟩:=hr;simp[aC.length e2]
def aC.get:∀{xs:List AV}{vs:List Value},aC ρ G xs vs->∀{j:Nat}{x:AV},xs[j]?=some x->∃v,vs[j]?=some v/\aD ρ G x v
 |[],_,_,j,x,hc=>by simp at hc
 |a::xs,_,hr,j,x,hc=>by
  simp only[aC]at hr;obtain⟨v,r,rfl,e1,e2⟩:=hr;cases j with
  |zero=>simp at hc;subst hc;exact⟨v,by simp,e1⟩
  |succ j=>simpa using aC.get e2 (by simpa using hc)
def aC.drop:∀(n:Nat){xs:List AV}{vs:List Value},aC ρ G xs vs->aC ρ G (xs.drop n) (vs.drop n)
 |0,_,_,h=>by simpa using h
 |n+1,[],_,h=>by simp only[aC]at h;subst h;simp[aC]
 |n+1,_::cs,_,h=>by
  simp only[aC]at h;obtain⟨v,r,rfl,_,e3⟩:=h;simpa using aC.drop n e3
def aC.take:∀(n:Nat){xs:List AV}{vs:List Value},aC ρ G xs vs->aC ρ G (xs.take n) (vs.take n)
 |0,_,_,_=>by simp[aC]
 |n+1,[],_,h=>by simp only[aC]at h;subst h;simp[aC]
 |n+1,_::cs,_,h=>by
  simp only[aC]at h;obtain⟨v,r,rfl,e2,e3⟩:=h;simp only[zbl,aC];exact⟨v,_,rfl,e2,aC.take n e3⟩
def aC.append:∀{xs:List AV}{vs:List Value}{a:List AV}{b:List Value},aC ρ G xs vs->aC ρ G a b->aC ρ G (xs++a) (vs++b)
 |[],_,_,_,h,k=>by simp only[aC]at h;subst h;simpa using k
 |_::cs,_,_,_,h,k=>by
  simp only[aC]at h;obtain⟨v,r,rfl,e2,e3⟩:=h;simp only[zbb,aC];exact⟨v,_,rfl,e2,aC.append e3 k⟩
def iV:∀{cs:List PV}{vs:List Value},dO G.K cs vs->aC ρ G (cs.map .pv) vs
 |[],_,h=>by simp only[dO]at h;subst h;simp[aC]
 |_::cs,_,h=>by
  simp only[dO]at h;obtain⟨v,r,rfl,e2,e3⟩:=h;simp only[zal,aC];exact⟨v,r,rfl,by simp only[aD];exact Rel.Xy e2,iV e3⟩
def iQ:∀{cs:List PV}{vs:List Value},kG G.K cs vs->aC ρ G (cs.map .pv) vs
 |[],_,h=>by cases h;simp[aC]
 |_::cs,_,⟨v,r,e1,e2,e3⟩=>by
  subst e1;simp only[zal,aC];exact⟨v,r,rfl,by simp only[aD];exact e2,iQ e3⟩
def aD.cells{x:AV}{v:Value}(h:aD ρ G x v)(hx:(bq x).all aY=true):aC ρ G (bq x) v.cells.toList:=by
 cases x with
 |agg cs=>simp only[aD]at h;obtain⟨vs,rfl,r⟩:=h;simpa[bq,Value.cells]using r
 |pv p=>
  cases p with
  |agg cs=>
   simp only[aD,Rel]at h;obtain⟨vs,rfl,r⟩:=h;simpa[bq,Value.cells]using iV r
  |bool b=>have h':=h;simp only[aD,Rel,R]at h;simp at h;subst h;simp only[bq,Value.cells,aC];exact⟨_,[],rfl,h',rfl⟩
  |int k n=>have h':=h;simp only[aD,Rel,R]at h;simp at h;subst h;simp only[bq,Value.cells,aC];exact⟨_,[],rfl,h',rfl⟩
  |str s=>have h':=h;simp only[aD,Rel,R]at h;simp at h;subst h;simp only[bq,Value.cells,aC];exact⟨_,[],rfl,h',rfl⟩
  |aq els=>
   have h':=h;simp only[aD]at h;obtain⟨b,l,c,rfl,_⟩:=cq.1 h;simp only[bq,Value.cells,aC];exact⟨_,[],rfl,h',rfl⟩
 |dr els=>
  have h':=h;simp only[aD]at h;obtain⟨b,l,rfl,_⟩:=h;simp only[bq,Value.cells,aC];exact⟨_,[],rfl,h',rfl⟩
 |own els τ=>
  have h':=h;simp only[aD]at h;obtain⟨t,_,_,h3,_⟩:=h;obtain⟨b,l,c,rfl,_⟩:=cq.1 h3;simp only[bq,Value.cells,aC];exact⟨_,[],rfl,h',rfl⟩
 |aV s o=>
  have h':=h;simp only[aD]at h;obtain⟨b,_,rfl⟩:=h;simp only[bq,Value.cells,aC];exact⟨_,[],rfl,h',rfl⟩
 |aP s z n ag=>
  have h':=h;simp only[aD]at h;obtain⟨b,c,_,rfl,_⟩:=h;simp only[bq,Value.cells,aC];exact⟨_,[],rfl,h',rfl⟩
 |fn g cap=>
  have h':=h;simp only[aD]at h;obtain⟨f,vs,_,rfl,_⟩:=h;simp only[bq,Value.cells,aC];exact⟨_,[],rfl,h',rfl⟩
 |ia=>
  have h':=h;simp only[aD]at h;rcases h with rfl|rfl
  .simp only[bq,Value.cells,aC];exact⟨_,[],rfl,h',rfl⟩
  .simp only[bq,Value.cells,aC];exact⟨_,[],rfl,h',rfl⟩
 |jL s=>
  have h':=h;simp only[aD]at h;obtain⟨b,_,rfl⟩:=h;simp only[bq,Value.cells,aC];exact⟨_,[],rfl,h',rfl⟩
 |fH kvs=>simp only[aD]at h
 |_=>simp[bq,aY]at hx
end
structure Blk(ρ:bX)(G:Gh)(w:World)(b:Nat)(r:pc)(cells:List AV):Prop where
 role:G.role b=r
 at_:∃c t,w.heap[b]?=some (.cells c t (0,0))/\aC ρ G cells c.toList
def rq(K:bt):List (PV×PV)->List MapEntry->Prop
 |[],es=>es=[]
 |(k,p)::r,es=>∃e a,es=e::a/\Rel K k e.key/\Rel K p e.val/\rq K r a
def rq.mono{K K':bt}(h:K.le K'):∀{kvs:List (PV×PV)}{es:List MapEntry},rq K kvs es->rq K' kvs es
 |[],_,hr=>hr
 |(_,_)::_,_,⟨e,a,e1,e3,e4,e5⟩=>⟨e,a,e1,e3.mono h,e4.mono h,rq.mono h e5⟩
def Holds(ρ:bX)(G:Gh)(o:Obj)(n:Nat)(cells:List AV):Prop:=
 (∃c t vs suf,o=.cells c t (0,0)/\c.size=n/\c.toList=vs++suf/\aC ρ G cells vs)\/∃es a kvs,o=.map es a/\cells=[.fH kvs]/\rq G.K kvs es.toList
def Holds.full{ρ:bX}{G:Gh}{c:Array Value}{t:TypeId}{cells:List AV}(h:aC ρ G cells c.toList):Holds ρ G (.cells c t (0,0)) c.size cells:=
 .inl ⟨c,t,c.toList,[],rfl,rfl,by simp,h⟩
structure yW(ρ:bX)(G:Gh)(w:World)(b:Nat×Nat)(r:pc)(cells:List AV):Prop where
 role:G.role b.1=r
 at_:∃o,w.heap[b.1]?=some o/\Holds ρ G o b.2 cells
def Holds.to{ρ:bX}{G G':Gh}{o:Obj}{n:Nat}{cells cells':List AV}(h:Holds ρ G o n cells)(hK:G.K.le G'.K)(hm:∀kvs,cells=[.fH kvs]->cells'=[.fH kvs])
   (hc:∀vs,aC ρ G cells vs->aC ρ G' cells' vs):Holds ρ G' o n cells':=by
 rcases h with⟨c,t,vs,suf,e,e3,e4,r⟩|⟨es,cl,kvs,e,e2,r⟩
 .exact .inl ⟨c,t,vs,suf,e,e3,e4,hc _ r⟩
 .exact .inr ⟨es,cl,kvs,e,hm kvs e2,r.mono hK⟩
def Holds.mono{ρ:bX}{G G':Gh}{o:Obj}{n:Nat}{cells:List AV}(h:G.le G')(a:Holds ρ G o n cells):Holds ρ G' o n cells:=
 a.to h.K (fun _ e=>e) (fun _ r=>r.mono h)
structure X8(ρ:bX)(G:Gh)(w:World)(b:Nat×Nat)(r:pc)(cells:List AV):Prop where
 role:G.role b.1=r
 at_:∃c t vs suf,w.heap[b.1]?=some (.cells c t (0,0))/\c.size=b.2/\c.toList=vs++suf/\aC ρ G cells vs
def yW.cells{ρ:bX}{G:Gh}{w:World}{b:Nat×Nat}{r:pc}{cells:List AV}(h:yW ρ G w b r cells)(hm:bW cells=false):X8 ρ G w b r cells:=by
 obtain⟨h1,o,h2,h3⟩:=h;rcases h3 with⟨c,t,vs,suf,rfl,h4,h5,h6⟩|⟨es,cl,kvs,rfl,rfl,_⟩
 .exact⟨h1,c,t,vs,suf,h2,h4,h5,h6⟩
 .simp[bW]at hm
theorem Vr{ρ:bX}{G:Gh}{cells:List AV}{vs:List Value}(h:aC ρ G cells vs):bW cells=false:=by
 cases cells with
 |nil=>rfl
 |cons c r=>
  cases c with
  |fH kvs=>simp[aC,aD]at h
  |_=>rfl
structure X9(G:Gh)(w:World)(τ:Nat)(t:Tk):Prop where
 cap:t.len<=t.cap
 zero:t.len=0->t.cap=0
 spare:t.len<t.cap\/t.own=true->∃b o c ty,t.base=some ⟨b,o,none⟩/\G.role b=.tok τ/\w.heap[b]?=some (.cells c ty (0,0))/\
   o+t.cap*t.sz<=c.size/\∀j v,G.K b j=some v->j<o+t.len*t.sz
structure Inv(ρ:bX)(G:Gh)(w:World)(mem:List (Nat×List AV))(sh:Sh)(aa:aF):Prop where
 known:∀b o v,G.K b o=some v->w.cell? ⟨b,o,none⟩=some v
 bm:∀b o v,G.K b o=some v->G.role b=.fe\/∃τ,G.role b=.tok τ
 fresh:∀b,w.heap.size<=b->G.role b=.fe
 di:∀d cells,look mem d=some cells->∃b,G.pm d=some b/\Blk ρ G w b (.mW d) cells/\cells.all aY=true
 iu:∀d b,G.pm d=some b->(look mem d).isSome=true
 dH:∀s cells,sh[s]?=some (some cells)->∃b,G.sm s=some b/\yW ρ G w b (.shr s) cells/\cells.all da=true/\cells.all (aJ (s+1))=true
 fu:∀s b,G.sm s=some b->s<sh.length
 dV:∀τ n,aa[τ]?=some n->∃t,G.tk τ=some t/\t.len=n/\X9 G w τ t
 gF:∀τ t,G.tk τ=some t->aa[τ]?=some t.len
 mP:∀b c,ρ.mP b=some c->G.role b=.fe/\∃t z,w.heap[b]?=some (.cells c t z)
structure ng(ρ:bX)(G:Gh)(N:Nat)(env:List (Nat×AV))(a:Act):Prop where
 size:a.tmps.size=N
 env:∀t x,look env t=some x->∃v,a.tmps[t]?=some v/\aD ρ G x v
def Marks(n0:Nat)(G:Gh)(a:Act)(w:World):Prop:=
 n0<=w.heap.size/\∃Ds:List Nat,a.defers=Ds.map (fun D=>{target:=.collected D,args:=#[]})/\Ds.Nodup /\
   ∀D∈Ds,n0<=D/\D<w.heap.size/\G.role D=.fe/\w.heap[D]?=some (.deferred (some []))
structure iv(ρ:bX)(n0 N:Nat)(G:Gh)(st:St)(a:Act)(w:World):Prop where
 env:ng ρ G N st.env a
 inv:Inv ρ G w st.mem st.sh st.aa
 marks:Marks n0 G a w
structure bY(G:Gh)(w:World)(G':Gh)(w':World):Prop where
 size:w.heap.size<=w'.heap.size
 os:w'.os=w.os
 tape:w'.tape=w.tape
 output:w'.output=w.output
 K:G.K.le G'.K
 sm:∀s b,G.sm s=some b->G'.sm s=some b
 fe:∀b,b<w.heap.size->G.role b=.fe->G'.role b=.fe/\w'.heap[b]?=w.heap[b]?
 jt:∀b τ,b<w.heap.size->G.role b=.tok τ->G'.role b=.fe\/∃τ',G'.role b=.tok τ'
 iG:∀b o v,b<w.heap.size->G.role b=.fe->G'.K b o=some v->G.K b o=some v
def bY.refl(G:Gh)(w:World):bY G w G w:=
 ⟨zas _,rfl,rfl,rfl,G.K.le_refl,fun _ _ h=>h,fun _ _ h=>⟨h,rfl⟩,fun _ τ _ h=>.inr ⟨τ,h⟩,fun _ _ _ _ _ h=>h⟩
def bY.trans{j i g:Gh}{f d c:World}(h:bY j f i d)(k:bY i d g c):bY j f g c where
 size:=za9 h.size k.size
 os:=k.os.trans h.os
 tape:=k.tape.trans h.tape
 output:=k.output.trans h.output
 K:=bt.le_trans h.K k.K
 sm:=fun s b e=>k.sm _ _ (h.sm s b e)
 fe:=fun b a hr=>by
  obtain⟨h1,h2⟩:=h.fe b a hr;obtain⟨k1,k2⟩:=k.fe b (zb5 a h.size) h1;exact⟨k1,k2.trans h2⟩
 jt:=fun b τ a hr=>by
  rcases h.jt b τ a hr with h1|⟨τ',h1⟩
  .exact .inl (k.fe b (zb5 a h.size) h1).1
  .exact k.jt b τ' (zb5 a h.size) h1
 iG:=fun b o v a hr l=>h.iG b o v a hr (k.iG b o v (zb5 a h.size) (h.fe b a hr).1 l)
def Marks.wQ{n0:Nat}{G G':Gh}{a c:Act}{w w':World}(h:Marks n0 G a w)(b:bY G w G' w')(hd:c.defers=a.defers):Marks n0 G' c w':=by
 obtain⟨e0,e,e1,e2,e3⟩:=h;refine⟨za9 e0 b.size,e,hd.trans e1,e2,fun D d=>?_⟩;obtain⟨f0,f1,f2,f3⟩:=e3 D d;obtain⟨g1,g2⟩:=b.fe D f1 f2;exact⟨f0,zb5 f1 b.size,g1,g2.trans f3⟩
def Inv.jj{ρ:bX}{G G':Gh}{w w':World}{mem:List (Nat×List AV)}{sh:Sh}{aa:aF}(h:Inv ρ G w mem sh aa)(a:bY G w G' w'):
   ∀b c,ρ.mP b=some c->G'.role b=.fe/\∃t z,w'.heap[b]?=some (.cells c t z):=fun b c d=>by
 obtain⟨h1,t,z,h2⟩:=h.mP b c d;obtain⟨k1,k2⟩:=a.fe b (zaW.1 h2).1 h1;exact⟨k1,t,z,k2.trans h2⟩
def bY.drew(G:Gh)(w:World):bY G w G w.drew:=
 ⟨zas _,rfl,rfl,rfl,G.K.le_refl,fun _ _ h=>h,fun _ _ h=>⟨h,rfl⟩,fun _ τ _ h=>.inr ⟨τ,h⟩,fun _ _ _ _ _ h=>h⟩
def Inv.drew{ρ:bX}{G:Gh}{w:World}{mem:List (Nat×List AV)}{sh:Sh}{aa:aF}(h:Inv ρ G w mem sh aa):Inv ρ G w.drew mem sh aa where
 known:=h.known
 bm:=h.bm
 fresh:=h.fresh
 di:=fun d cells e=>by obtain⟨b,e1,e2,e3⟩:=h.di d cells e;exact⟨b,e1,⟨e2.role,e2.at_⟩,e3⟩
 iu:=h.iu
 dH:=fun d cells e=>by obtain⟨b,e1,e2,e3⟩:=h.dH d cells e;exact⟨b,e1,⟨e2.role,e2.at_⟩,e3⟩
 fu:=h.fu
 dV:=fun τ n e=>by obtain⟨t,e1,e2,e3⟩:=h.dV τ n e;exact⟨t,e1,e2,⟨e3.cap,e3.zero,e3.spare⟩⟩
 gF:=h.gF
 mP:=h.mP
end Go.Ab
namespace Go.Ab
section
variable {P:Program} {ns:Names} {G:Gh} {w:World}
abbrev num(ns:Names):bX:=⟨fun g f=>ns.of f=some g,ns.mP⟩
def dy{t n:Nat}(h:cT P t=some n)(w:World):(sizeOf t).run P w=.ok n w:=by
 unfold cT at h;cases hi:P.info? t with
 |none=>simp[hi]at h
 |some i=>simp[hi]at h;simp[sizeOf,typeInfo,hi,h]
def nh{t n:Nat}(h:fE P t=some n)(w:World):∃i,P.info? t=some i/\i.bytes=n/\(typeInfo t).run P w=.ok i w:=by
 unfold fE at h;cases hi:P.info? t with
 |none=>simp[hi]at h
 |some i=>simp[hi]at h;exact⟨i,rfl,h,by simp[typeInfo,hi]⟩
def jH{t:Nat}{b:Bool}(h:iC P t=some b)(w:World):(isAgg t).run P w=.ok b w:=by
 unfold iC at h;cases hu:P.underlying t with
 |none=>simp[hu]at h
 |some d=>
  simp[hu]at h;simp only[isAgg,zay,zaL hu,zam];cases d<;>simp_all
def l7{K:bt}{v:Value}{p:PV}(h:dt v=some p):R K false p [v]/\dT p=true:=by
 cases v with
 |bool b=>simp[dt]at h;subst h;simp[R,dT]
 |int k n=>simp[dt]at h;subst h;simp[R,dT]
 |string s=>simp[dt]at h;subst h;simp[R,dT]
 |slice a l c=>
  cases a with
  |some a=>simp[dt]at h
  |none=>
   cases l with
   |succ l=>simp[dt]at h
   |zero=>
    cases c with
    |succ c=>simp[dt]at h
    |zero=>
     simp[dt]at h;subst h;refine⟨?_,rfl⟩;simp only[R];exact⟨none,0,0,rfl,zas _,rfl,by simp⟩
 |_=>simp[dt]at h
def xr{K:bt}:∀{l:List Value}{z:List PV},cg dt l=some z->dO K z l
 |[],_,h=>by simp[cg]at h;subst h;simp[dO]
 |v::l,z,h=>by
  simp only[cg]at h;split at h
  .rename_i y a h1 h2;cases h;simp only[dO];exact⟨v,l,rfl,(l7 h1).1,xr h2⟩
  .cases h
def Eo{v:Value}{x:AV}(h:Ei v=some x):aD (num ns) G x v:=by
 unfold Ei at h;split at h
 .simp at h;subst h;simp only[aD];exact⟨none,0,rfl,rfl,.inl rfl⟩
 .simp at h;subst h;simp[aD]
 .simp at h;subst h;simp[aD]
 .rename_i cs;simp only[zac]at h;obtain⟨ps,h1,rfl⟩:=h;simp only[aD];exact⟨cs.toList,by simp,xr h1⟩
 .cases hc:dt v with
  |none=>simp[hc]at h
  |some p=>simp[hc]at h;subst h;simp only[aD];exact Rel.Xy (l7 hc).1
def HU{N:Nat}{env:List (Nat×AV)}{a:Act}(e:ng (num ns) G N env a){x:Operand}{b:fp}{v:AV}
   (hc:js ns x=some b) (hv:iB env b=some v):aD (num ns) G v (a.eval x):=by
 cases x with
 |tmp t=>
  simp[js]at hc;subst hc;obtain⟨d,h1,h2⟩:=e.env t v (by simpa[iB]using hv);have:a.eval (.tmp t)=d:=by simp[Act.eval,h1]
  rw[this];exact h2
 |const c=>
  simp only[js,zac]at hc;obtain⟨x,h1,rfl⟩:=hc;simp[iB]at hv;subst hv;exact Eo h1
 |func f=>
  simp only[js,zac]at hc;obtain⟨g,h1,rfl⟩:=hc;simp[iB]at hv;subst hv;simp only[aD];exact⟨f,[],h1,rfl,by simp[aC]⟩
 |global g=>simp[js]at hc
def Bb{N:Nat}{env:List (Nat×AV)}{a:Act}(b:ng (num ns) G N env a):∀{xs:List Operand}{as:List fp}{vs:List AV},
   cg (js ns) xs=some as->eC env as=some vs->aC (num ns) G vs (xs.map a.eval)
 |[],as,vs,hc,hv=>by
  simp[cg]at hc;subst hc;simp[eC]at hv;subst hv;simp[aC]
 |x::xs,as,vs,hc,hv=>by
  simp only[cg]at hc;split at hc
  .rename_i e d h1 h2;simp at hc;subst hc;simp only[eC]at hv;split at hv
   .rename_i v c g1 g2;simp at hv;subst hv;simp only[zal,aC];exact⟨_,_,rfl,HU b h1 g1,Bb b h2 g2⟩
   .simp at hv
  .simp at hc
def toList_mk(l:List UInt8):(ByteArray.mk l.toArray).toList=l:=by
 rw[ByteArray.toList_eq]
def uI:∀(a b:List UInt8),cP.eJ a b=Op.bytesLess a b
 |_,[]=>by simp[cP.eJ,Op.bytesLess]
 |[],_::_=>by simp[cP.eJ,Op.bytesLess]
 |a::x,b::y=>by simp[cP.eJ,Op.bytesLess,uI x y]
def dm{K:bt}{k:IntKind}{n:Int}{v:Value}:Rel K (.int k n) v<->v=.int k n:=by simp[Rel,R]
def jP{K:bt}{b:Bool}{v:Value}:Rel K (.bool b) v<->v=.bool b:=by simp[Rel,R]
def nZ{K:bt}{s:List UInt8}{v:Value}:Rel K (.str s) v<->v=.string ⟨s.toArray⟩:=by simp[Rel,R]
def dz{ρ:bX}{k:IntKind}{n:Int}:aD ρ G (.pv (.int k n)) (.int k n):=by simp only[aD];exact dm.2 rfl
def n_{ρ:bX}{b:Bool}:aD ρ G (.pv (.bool b)) (.bool b):=by simp only[aD];exact jP.2 rfl
def uJ{ρ:bX}{s:List UInt8}:aD ρ G (.pv (.str s)) (.string ⟨s.toArray⟩):=by simp only[aD];exact nZ.2 rfl
def sG{op:BinOp}{t:TypeId}{x y z:AV}{e d:Value}(hx:aD (num ns) G x e)(hy:aD (num ns) G y d)
   (h:cP op x y=some z) (g f:Operand):∃v,(do eqGuard op t g f e d;binOp op t e d:Sem Value).run P w=.ok v w/\aD (num ns) G z v:=by
 unfold cP at h;split at h
 .rename_i k a k' b;simp only[aD,dm]at hx hy;subst hx;subst hy;have i:(eqGuard op t g f (.int k a) (.int k' b)).run P w=.ok () w:=by cases op<;>simp[eqGuard]
  simp only[zay,i,zam];split at h
  .rename_i c;cases op<;>simp only[reduceCtorEq,zci,or_self,or_true]at c<;>simp at h;case add=>subst c;subst h;exact⟨_,by simp[binOp,Op.intArith],dz⟩
   case sub=>subst c;subst h;exact⟨_,by simp[binOp,Op.intArith],dz⟩
   case mul=>subst c;subst h;exact⟨_,by simp[binOp,Op.intArith],dz⟩
   case quo=>subst c;obtain⟨h1,h⟩:=h;subst h;exact⟨_,by simp[binOp,Op.intDiv,h1],dz⟩
   case rem=>subst c;obtain⟨h1,h⟩:=h;subst h;exact⟨_,by simp[binOp,Op.intDiv,h1],dz⟩
   case and=>subst c;subst h;exact⟨_,by simp[binOp,Op.intBits],dz⟩
   case shl=>obtain⟨h1,h⟩:=h;subst h;exact⟨_,by simp[binOp,Op.shift,zde.2 h1],dz⟩
   case shr=>obtain⟨h1,h⟩:=h;subst h;exact⟨_,by simp[binOp,Op.shift,zde.2 h1],dz⟩
   all_goals (subst c;subst h;exact⟨_,by simp[binOp,Op.intCmp],n_⟩)
  .simp at h
 .rename_i a b;simp only[aD,nZ]at hx hy;subst hx;subst hy;have i:(eqGuard op t g f (.string ⟨a.toArray⟩) (.string ⟨b.toArray⟩)).run P w=.ok () w:=by cases op<;>simp[eqGuard]
  simp only[zay,i,zam];cases op<;>simp at h
  case add=>
   obtain⟨h1,h⟩:=h;subst h
   have h2:¬((((ByteArray.mk a.toArray).size+(ByteArray.mk b.toArray).size:Nat):Int)> IntKind.i64.max):=by
    have e1:(ByteArray.mk a.toArray).size=a.length:=(by simp[ByteArray.size]);have e2:(ByteArray.mk b.toArray).size=b.length:=(by simp[ByteArray.size]);rw[e1,e2];have:IntKind.i64.max=9223372036854775807:=(by decide);rw[this];omega
   have h3:(ByteArray.mk a.toArray)++(ByteArray.mk b.toArray)=ByteArray.mk (a++b).toArray:=by
    apply ByteArray.ext;simp
   exact⟨_,by simp only[binOp,Op.stringOp,zai h2,h3];rfl,uJ⟩
  all_goals (subst h;exact⟨_,by simp only[binOp,Op.stringOp,toList_mk,<-uI,zaG,Bool.not_or],n_⟩)
 .simp at h
def run_equalIn_bool(d:Nat){t:TypeId}(hu:P.underlying t=some .bool)(a b:Bool):(Op.equalIn (d+1) t (.bool a) (.bool b)).run P w=.ok (a == b) w:=by
 simp only[Op.equalIn,zay,zaL hu,zam,zaG]
def run_equal_bool{t:TypeId}(hu:P.underlying t=some .bool)(a b:Bool):(Op.equal t (.bool a) (.bool b)).run P w=.ok (a == b) w:=
 run_equalIn_bool 9999 hu a b
def Bc{op:BinOp}{t:TypeId}{neg:Bool}(hu:P.underlying t=some .bool)(e:(op=.eql/\neg=false)\/(op=.neq/\neg=true))(a b:Bool)(d c:Operand):
   (do eqGuard op t d c (.bool a) (.bool b);binOp op t (.bool a) (.bool b):Sem Value).run P w=.ok (.bool (if neg then !(a == b)else(a == b))) w:=by
 rcases e with⟨rfl,rfl⟩|⟨rfl,rfl⟩
 .have f:(eqGuard .eql t d c (.bool a) (.bool b)).run P w=.ok () w:=(by simp[eqGuard]);simp only[zay,f,zam,binOp,run_equal_bool hu,zaG];rfl
 .have f:(eqGuard .neq t d c (.bool a) (.bool b)).run P w=.ok () w:=(by simp[eqGuard]);simp only[zay,f,zam,binOp,run_equal_bool hu,zaG];rfl
end
end Go.Ab
namespace Go.Ab
section
variable {P:Program} {ns:Names} {G:Gh} {w:World}
def Addr.eO(b o n:Nat):(⟨b,o,none⟩:Addr).add n=⟨b,o+n,none⟩:=by unfold Addr.add;split<;>simp_all
def sH(vs:List Value)(off sz:Nat):vs.toArray.extract off (off+sz)=((vs.drop off).take sz).toArray:=by
 simp[List.extract_toArray]
def Ep{t off sz:Nat}{ag:Bool}{cs:List AV}{vs:List Value}{x:AV}(b:cT P t=some sz)(a:iC P t=some ag)
   (h:cm ag sz cs off=some x) (hr:aC (num ns) G cs vs):
   ∃v,(part t vs.toArray off).run P w=.ok v w/\aD (num ns) G x v:=by
 unfold cm at h;split at h
 .rename_i c;cases ag with
  |true=>
   simp at h;subst h;refine⟨.agg (vs.toArray.extract off (off+sz)),?_,?_⟩
   .simp only[part,zay,jH a,zam,zbc,dy b,zaG]
   .simp only[aD];exact⟨(vs.drop off).take sz,by rw[sH],(hr.drop off).take sz⟩
  |false=>
   simp at h;obtain⟨_,h⟩:=h;obtain⟨v,h1,h2⟩:=hr.get h;refine⟨v,?_,h2⟩;simp only[part,zay,jH a,zam,za6,zbI];simp[h1]
 .simp at h
def Be{t off sz:Nat}{ag:Bool}{cs:List PV}{vs:List Value}{x:AV}(b:cT P t=some sz)(a:iC P t=some ag)
   (h:cR ag sz (cs.drop off)=some x) (hr:dO G.K cs vs):
   ∃v,(part t vs.toArray off).run P w=.ok v w/\aD (num ns) G x v:=by
 unfold cR at h;split at h
 .rename_i d;cases ag with
  |true=>
   simp at h;subst h;refine⟨.agg (vs.toArray.extract off (off+sz)),?_,?_⟩
   .simp only[part,zay,jH a,zam,zbc,dy b,zaG]
   .simp only[aD,Rel];exact⟨(vs.drop off).take sz,by rw[sH],dO.take sz (dO.drop off hr)⟩
  |false=>
   simp only[za6,zbI,zab,zac]at h;obtain⟨_,c,h,rfl⟩:=h;rw[zb8]at h;obtain⟨v,h1,h2⟩:=hr.get h;simp only[zba]at h1;refine⟨v,?_,by simp only[aD];exact Rel.Xy h2⟩;simp only[part,zay,jH a,zam,za6,zbI];simp[h1]
 .simp at h
def kM{t sz:Nat}{ag:Bool}{b o:Nat}{vs:List Value}(d:cT P t=some sz)(c:iC P t=some ag)
   (hc:∀j v,vs[j]?=some v->w.cell? ⟨b,o+j,none⟩=some v) (hl:sz<=vs.length) (h1:ag=false->sz=1):
   (loadVar t ⟨b,o,none⟩).run P w=.ok (if ag then .agg (vs.take sz).toArray else vs.getD 0 undef) w:=by
 cases ag with
 |true=>
  have a:(vs.take sz).length=sz:=by simp;omega
  have:=zbT (P:=P) w ⟨b,o,none⟩ (vs.take sz) (fun j v hj=>by
   rw[Addr.eO];rw[zb7]at hj;split at hj
   .exact hc j v hj
   .simp at hj)
  rw[a]at this;simp only[loadVar,zay,jH c,zam,zbc,dy d,this,zaG]
 |false=>
  have:=h1 rfl;subst this;cases vs with
  |nil=>simp at hl
  |cons v r=>
   have:=hc 0 v rfl;simp only[zba]at this;simp only[loadVar,zay,jH c,zam,za6,zbI,run_load,this];simp
def oS{t sz:Nat}{ag:Bool}{b o:Nat}{vs:List Value}{cs:List PV}{x:AV}(a:cT P t=some sz)(d:iC P t=some ag)
   (h:cR ag sz cs=some x) (hr:dO G.K cs vs) (hc:∀j v,vs[j]?=some v->w.cell? ⟨b,o+j,none⟩=some v):
   ∃v,(loadVar t ⟨b,o,none⟩).run P w=.ok v w/\aD (num ns) G x v:=by
 have e:=hr.length;unfold cR at h;split at h
 .rename_i f;cases ag with
  |true=>
   simp at h;subst h;refine⟨_,kM a d hc (by omega) (by simp),?_⟩;simp only[zbc,aD,Rel];exact⟨_,rfl,dO.take sz hr⟩
  |false=>
   simp only[za6,zbI,zab,zac]at h;obtain⟨h1,c,h,rfl⟩:=h;obtain⟨v,h3,h4⟩:=hr.get h;refine⟨_,kM a d hc (by omega) (fun _=>h1),?_⟩;simp only[za6,zbI,aD];have:vs.getD 0 undef=v:=by simp[List.getD,h3]
   rw[this];exact Rel.Xy h4
 .simp at h
def gf{t sz:Nat}{ag:Bool}{b off:Nat}{vs:List Value}{cs:List AV}{x:AV}(a:cT P t=some sz)(d:iC P t=some ag)
   (h:cm ag sz cs off=some x) (hr:aC (num ns) G cs vs) (hc:∀j v,vs[j]?=some v->w.cell? ⟨b,j,none⟩=some v):
   ∃v,(loadVar t ⟨b,off,none⟩).run P w=.ok v w/\aD (num ns) G x v:=by
 have e:=hr.length
 have c:∀j v,(vs.drop off)[j]?=some v->w.cell? ⟨b,off+j,none⟩=some v:=fun j v hj=>by
  rw[zb8]at hj;exact hc _ v hj
 unfold cm at h;split at h
 .rename_i f;cases ag with
  |true=>
   simp at h;subst h;refine⟨_,kM a d c (by simp;omega) (by simp),?_⟩;simp only[zbc,aD];exact⟨_,rfl,aC.take sz (aC.drop off hr)⟩
  |false=>
   simp at h;obtain⟨h1,h⟩:=h;obtain⟨v,h3,h4⟩:=hr.get h;refine⟨_,kM a d c (by simp;omega) (fun _=>h1),?_⟩;simp only[za6,zbI];have:(vs.drop off).getD 0 undef=v:=by simp[List.getD,zb8,h3]
   rw[this];exact h4
 .simp at h
def gL{b:Nat}{c:Array Value}{t:TypeId}{a:Nat×Nat}(h:w.heap[b]?=some (.cells c t a)):∀j v,c.toList[j]?=some v->w.cell? ⟨b,j,none⟩=some v:=by
 intro j v hj;simp[World.cell?,h];simpa using hj
def qd{b:Nat}{c:Array Value}{t:TypeId}{a:Nat×Nat}{vs suf:List Value}(h:w.heap[b]?=some (.cells c t a))(hs:c.toList=vs++suf):∀j v,vs[j]?=some v->w.cell? ⟨b,j,none⟩=some v:=by
 intro j v hj;refine gL h j v ?_;rw[hs,zar (zaa.1 hj).1];exact hj
def sI{t f:Nat}{a:Field}(h:gJ P t f=some a):∃fs,P.underlying t=some (.struct fs)/\fs[f]?=some a:=by
 unfold gJ at h;split at h
 .rename_i fs hu;exact⟨fs,hu,h⟩
 .simp at h
def dW{t e:Nat}(h:fF P t=some e):P.underlying t=some (.slice e):=by
 unfold fF at h;split at h
 .rename_i hu;simp at h;subst h;exact hu
 .simp at h
def Bf{t f sz:Nat}{ag:Bool}{c:Field}{x y:AV}{v:Value}(hf:gJ P t f=some c)(a:cT P c.type=some sz)(b:iC P c.type=some ag)
   (h:bG (.field c.offset sz ag) [x]=some y) (hr:aD (num ns) G x v):∃u,(Instr.field t v f).run P w=.ok u w/\aD (num ns) G y u:=by
 obtain⟨fs,hu,d⟩:=sI hf;simp only[bG]at h;split at h
 .rename_i cs;simp only[aD]at hr;obtain⟨vs,rfl,hr⟩:=hr;obtain⟨u,h1,h2⟩:=Ep (w:=w) a b h hr;refine⟨u,?_,h2⟩;simp only[Instr.field,zay,zaL hu,zam,d,asAgg,zaG,h1]
 .rename_i cs;simp only[aD,Rel]at hr;obtain⟨vs,rfl,hr⟩:=hr;obtain⟨u,h1,h2⟩:=Be (ns:=ns) (w:=w) a b h hr;refine⟨u,?_,h2⟩;simp only[Instr.field,zay,zaL hu,zam,d,asAgg,zaG,h1]
 .simp at h
def iW{t f s:Nat}{c:Field}(hf:gJ P t f=some c)(a:cT P c.type=some s)(hs:s≠0)(b o:Nat):
   (Instr.fieldAt t (.pointer (some ⟨b,o,none⟩)) f).run P w=.ok (.pointer (some ⟨b,o+c.offset,none⟩)) w:=by
 obtain⟨fs,hu,d⟩:=sI hf;simp only[Instr.fieldAt,zay,zaL hu,zam,d,Instr.sureAddr,zaG,fieldPlace,dy a,hs,zbI,Addr.eO]
def Bg{t f s:Nat}{c:Field}{x y:AV}{v:Value}(hf:gJ P t f=some c)(a:cT P c.type=some s)(hs:s≠0)
   (h:bG (.iA c.offset) [x]=some y) (hr:aD (num ns) G x v):∃u,(Instr.fieldAt t v f).run P w=.ok u w/\aD (num ns) G y u:=by
 simp only[bG]at h;split at h
 .simp at h;subst h;simp only[aD]at hr;obtain⟨b,e,rfl⟩:=hr;exact⟨_,iW hf a hs _ _,by simp only[aD];exact⟨b,e,rfl⟩⟩
 .simp at h;subst h;simp only[aD]at hr;obtain⟨b,e,rfl⟩:=hr;exact⟨_,iW hf a hs _ _,by simp only[aD];exact⟨b,e,rfl⟩⟩
 .simp at h;subst h;simp only[aD]at hr;obtain⟨b,o,vs,rfl,h1,h2⟩:=hr;refine⟨_,iW hf a hs _ _,?_⟩;simp only[aD];refine⟨b,_,vs.drop c.offset,rfl,?_,dO.drop _ h2⟩;intro j u hj;rw[zb8]at hj;have:=h1 _ u hj
  rwa [zbN]
 .simp at h
def sJ{t e sz:Nat}{k:IntKind}{i:Int}{b o len cap:Nat}(c:fF P t=some e)(a:cT P e=some sz)(h0:0<=i)(hi:i.toNat<len):
   (Instr.indexAt t (.slice (some ⟨b,o,none⟩) len cap) (.int k i)).run P w=.ok (.pointer (some ⟨b,o+i.toNat*sz,none⟩)) w:=by
 have hu:=dW c;have:(0<=i/\i<(len:Int)):=⟨h0,by omega⟩;simp only[Instr.indexAt,zay,asIntOf,zaG,zam,zaL hu];simp[this,dy a,Addr.eO]
def eP{x:AV}{v:Value}{els:List PV}(h:cG x=some els)(hr:aD (num ns) G x v):Rel G.K (.aq els) v:=by
 unfold cG at h;split at h
 .simp at h;subst h;simpa only[aD]using hr
 .simp at h;subst h;simp only[aD]at hr;obtain⟨b,l,rfl,hr⟩:=hr;exact cq.2 ⟨b,l,l,rfl,zas _,hr⟩
 .simp at h;subst h;simp only[aD]at hr;obtain⟨t,_,_,hr,_⟩:=hr;exact hr
 .simp at h
def Bh{t e sz:Nat}{k:IntKind}{i:Int}{x y:AV}{v:Value}(r:fF P t=some e)(f:cT P e=some sz)
   (h:bG (.eK sz) [x,.pv (.int k i)]=some y) (hr:aD (num ns) G x v):
   ∃u,(Instr.indexAt t v (.int k i)).run P w=.ok u w/\aD (num ns) G y u:=by
 simp only[bG]at h;split at h
 .simp at h
 .rename_i h0;split at h
  .rename_i s d n ag;simp only[aD]at hr;obtain⟨b,c,e1,rfl,_⟩:=hr;simp only[zab,zag]at h;obtain⟨⟨h1,h2⟩,rfl⟩:=h;refine⟨_,sJ r f (by omega) h2,?_⟩;simp only[aD];exact⟨b,e1,by simp⟩
  .rename_i A _;split at h
   .rename_i els j;have m:=eP j hr;obtain⟨base,len,cap,rfl,_,q,a⟩:=cq.1 m;split at h
    .rename_i el l;simp only[zab,zag]at h;obtain⟨hl,rfl⟩:=h;have p:i.toNat<els.length:=(zaa.1 l).1;rcases a with g|⟨b,o,d,rfl,a⟩
     .subst g;simp at p
     .obtain⟨vs,g1,g2,z⟩:=a.get l;have:sz=d:=by rw[<-hl,<-z.length,g1]
      subst this;refine⟨_,sJ r f (by omega) (by omega),?_⟩;simp only[aD];exact⟨b,_,vs,rfl,g2,z.cells⟩
    .simp at h
   .simp at h
def Bi{t:Nat}{k:IntKind}{i:Int}{s:List UInt8}{y:AV}(hu:P.underlying t=some .string)
   (h:bG .index [.pv (.str s),.pv (.int k i)]=some y):
   ∃u,(Instr.index t (.string ⟨s.toArray⟩) (.int k i)).run P w=.ok u w/\aD (num ns) G y u:=by
 simp only[bG]at h;split at h
 .simp at h
 .rename_i h0;simp only[zac]at h;obtain⟨b,h1,rfl⟩:=h;refine⟨_,?_,dz⟩
  have h2:(ByteArray.mk s.toArray)[i.toNat]?=some b:=by
   have a:=(zaa.1 h1).1;rw[getElem?_pos (ByteArray.mk s.toArray) i.toNat (by simpa[ByteArray.size]using a)];have:=(zaa.1 h1).2;simp only[zag];rw[<-this];rfl
  simp only[Instr.index,zay,asIntOf,zaG,zam,zaL hu];have h3:0<=i:=by omega
  simp only[h3,zbc,h2,zaG]
end
end Go.Ab
namespace Go.Ab
section
variable {P:Program} {ns:Names} {G:Gh} {w:World}
def gW{α a:Type}{f:α->Option a}:∀{l:List α}{r:List a},cg f l=some r->r.length=l.length
 |[],_,h=>by simp[cg]at h;subst h;rfl
 |x::l,r,h=>by
  simp only[cg]at h;split at h
  .rename_i y b h1 h2;simp at h;subst h;simp[gW h2]
  .simp at h
def Bj{α b:Type}{f:α->Option b}:∀{l:List α}{r:List b},cg f l=some r->∀{i:Nat}{x:α},l[i]?=some x->∃y,r[i]?=some y/\f x=some y
 |[],_,_,i,x,hx=>by simp at hx
 |a::l,r,h,i,x,hx=>by
  simp only[cg]at h;split at h
  .rename_i y c h1 h2;simp at h;subst h;cases i with
   |zero=>simp at hx;subst hx;exact⟨y,by simp,h1⟩
   |succ i=>simpa using Bj h2 (by simpa using hx)
  .simp at h
def Bk{α a:Type}{f:α->Sem a}{g:α->Option a}(hf:∀x y,g x=some y->(f x).run P w=.ok y w):∀{l:List α}{r:List a},
   cg g l=some r->(l.mapM f).run P w=.ok r w
 |[],_,h=>by simp[cg]at h;subst h;simp
 |x::l,r,h=>by
  simp only[cg]at h;split at h
  .rename_i y b h1 h2;simp at h;subst h;simp only[zcO,zay,hf x y h1,zam,Bk hf h2,zaG]
  .simp at h
def gX{t:Nat}{z:List PV}(h:cK P t=some z):∃a,(zeroValue t).run P w=.ok a w/\cg dt a.cells.toList=some z:=by
 unfold cK at h;split at h
 .rename_i a hz;cases hi:P.info? t with
  |none=>simp[hi]at hz
  |some i=>
   simp[hi]at hz;exact⟨a,by simp[zeroValue,typeInfo,hi,hz],h⟩
 .simp at h
def yX{ρ:bX}{v:Value}{p:PV}(h:dt v=some p):aD ρ G (bG.zeroCell p) v/\aY (bG.zeroCell p)=true:=by
 obtain⟨h1,h2⟩:=l7 (K:=G.K) h;unfold bG.zeroCell;split
 .refine⟨?_,rfl⟩;cases v with
  |slice a l c=>
   cases a with
   |some a=>simp[dt]at h
   |none=>
    cases l with
    |succ l=>simp[dt]at h
    |zero=>
     cases c with
     |succ c=>simp[dt]at h
     |zero=>simp only[aD];exact⟨none,0,rfl,rfl,.inl rfl⟩
  |_=>simp[dt]at h
 .refine⟨by simp only[aD];exact Rel.Xy h1,?_⟩;cases p<;>simp_all[aY,dT]
def iR{ρ:bX}:∀{l:List Value}{z:List PV},cg dt l=some z->aC ρ G (z.map bG.zeroCell) l/\(z.map bG.zeroCell).all aY=true
 |[],_,h=>by simp[cg]at h;subst h;simp[aC]
 |v::l,z,h=>by
  simp only[cg]at h;split at h
  .rename_i y b h1 h2;simp at h;subst h;obtain⟨g1,g2⟩:=iR (ρ:=ρ) h2;obtain⟨a,g4⟩:=yX (G:=G) (ρ:=ρ) h1;simp only[zal,aC,zaQ,g4,g2,zcS,and_true];exact⟨v,l,rfl,a,g1⟩
  .simp at h
def ru(off:Nat):∀(l:List Value)(k:Nat)(cs:Array Value),off+k+l.length<=cs.size->
   ((l.zipIdx k).foldl (fun cs (x:Value×Nat)=>cs.setIfInBounds (off+x.2) x.1) cs).toList=cs.toList.take (off+k)++l++cs.toList.drop (off+k+l.length)
 |[],k,cs,_=>by simp
 |v::l,k,cs,h=>by
  simp only[List.zipIdx_cons,zaS];have h':off+(k+1)+l.length<=(cs.setIfInBounds (off+k) v).size:=by simp at h⊢;omega
  rw[ru off l (k+1) _ h'];have:=list_seg_step cs.toList (off+k) v l (by simp at h⊢;omega);simpa[Array.toList_setIfInBounds,zbN]using this
def fW{ρ:bX}{cs:List AV}{l:List Value}(off:Nat){a:List AV}{vs:List Value}(h:aC ρ G cs l)(k:aC ρ G a vs):
   aC ρ G (aS cs off a) (l.take off++vs++l.drop (off+vs.length)):=by
 unfold aS;rw[<-k.length];exact aC.append (aC.append (h.take off) k) (h.drop _)
def jv{B:AV->Bool}{cs a:List AV}{off:Nat}(h:cs.all B=true)(k:a.all B=true):(aS cs off a).all B=true:=by
 unfold aS;rw[zaq]at*;intro x hx;simp only[zaz]at hx;rcases hx with(hx|hx)|hx
 .exact h x (zbd hx)
 .exact k x hx
 .exact h x (zbW hx)
def uK{place:Nat->Option (Nat×Nat)}:∀{is:List Nat}{j:List (Nat×Nat)}{vals:List AV}{a:List Value}{cells:List AV}{rc:Array Value}{cs:List AV},
   cg place is=some j->aC (num ns) G vals a->aC (num ns) G cells rc.toList->cells.all aY=true->is.length=a.length->mO cells j vals=some cs->
   ∃e,Instr.fill place rc (is.zip a)=some e/\aC (num ns) G cs e.toList/\cs.all aY=true
 |[],j,vals,a,cells,rc,cs,hp,hv,hc,l,hl,h=>by
  simp[cg]at hp;subst hp;have:a=[]:=by cases a<;>simp_all
  subst this;have:=hv.length;have:vals=[]:=by cases vals<;>simp_all
  subst this;simp[mO]at h;subst h;exact⟨rc,by simp[Instr.fill],hc,l⟩
 |i::is,j,vals,a,cells,rc,cs,hp,hv,hc,l,hl,h=>by
  simp only[cg]at hp;split at hp
  .rename_i y o h1 h2;simp at hp;subst hp;obtain⟨off,sz⟩:=y;cases vals with
   |nil=>simp[mO]at h
   |cons v vals=>
    simp only[aC]at hv;obtain⟨c,p,rfl,e1,e2⟩:=hv;simp only[mO,zab]at h;obtain⟨⟨g1,g2,m⟩,h⟩:=h;have b:=e1.cells m;have g:=b.length;have f:c.cells.size=sz:=by rw[<-g1,<-g];simp
    have n:rc.size=cells.length:=by have:=hc.length;simpa using this
    simp only[zcU,Instr.fill,h1]
    have k:(decide (c.cells.size≠sz)|| decide (off+c.cells.size > rc.size))=false:=by
     simp[f];omega
    have d:(c.cells.zipIdx.foldl (fun cs (x:Value×Nat)=>cs.setIfInBounds (off+x.2) x.1) rc).toList=rc.toList.take off++c.cells.toList++rc.toList.drop (off+c.cells.toList.length):=by
     have:=ru off c.cells.toList 0 rc (by simp;omega);rw[<-Array.foldl_toList];simpa using this
    rw[zai (by simp[f];omega)];refine uK (is:=is) h2 e2 (cells:=aS cells off (bq v)) ?_ (jv l m) (by simpa using hl) h;rw[d];exact fW off hc b
  .simp at hp
def yY{t:Nat}{all:List (Nat×Nat)}(h:fieldsOf P t=some all):∃fs,P.underlying t=some (.struct fs)/\
   (fs.mapM fun f=>(do pure (f.offset,<-sizeOf f.type):Sem (Nat×Nat))).run P w=.ok all.toArray w:=by
 unfold fieldsOf at h;split at h
 .rename_i fs hu;refine⟨fs,hu,?_⟩;rw[zdh];simp only[Sem.run_map];rw[Bk (g:=fun f=>(cT P f.type).map fun s=>(f.offset,s)) ?_ h]
  .rfl
  .intro f y hy;simp only[zac]at hy;obtain⟨s,h1,rfl⟩:=hy;simp only[zay,dy h1,zam,zaG]
 .simp at h
def Bl{t:Nat}{z:List PV}{is:List Nat}{e:List (Nat×Nat)}{vals:List AV}{a:List Value}{x:AV}
   (hz:cK P t=some z) (hp:placesOf P t is=some e) (hr:aC (num ns) G vals a) (hl:is.length=a.length) (h:bG (.build z e) vals=some x):
   ∃v,(Instr.build t (is.zip a).toArray).run P w=.ok v w/\aD (num ns) G x v:=by
 obtain⟨f,d,c⟩:=gX (w:=w) hz;unfold placesOf at hp;split at hp
 .rename_i all b;obtain⟨fs,hu,hm⟩:=yY (w:=w) b;simp only[bG,zac]at h;obtain⟨cs,h1,rfl⟩:=h;obtain⟨g1,g2⟩:=iR (G:=G) (ρ:=num ns) c;obtain⟨rc,e1,e2,_⟩:=uK (place:=(all.toArray[·]?)) (rc:=f.cells) (by simpa using hp) hr g1 g2 hl h1;refine⟨.agg rc,?_,?_⟩
  .simp only[Instr.build,zay,d,zam,zaL hu,hm];simp only[e1,zaG]
  .simp only[aD];exact⟨rc.toList,by simp,e2⟩
 .simp at hp
def Rel.toR{K:bt}{p:PV}{v:Value}(h:Rel K p v):R K true p v.cells.toList:=by
 cases p with
 |agg cs=>obtain⟨vs,rfl,h⟩:=h;simp only[R,Value.cells];exact⟨trivial,by simpa using h⟩
 |bool b=>have h':=h;simp only[Rel,R]at h';simp at h';subst h';simpa[Value.cells]using R.top h
 |int k n=>have h':=h;simp only[Rel,R]at h';simp at h';subst h';simpa[Value.cells]using R.top h
 |str s=>have h':=h;simp only[Rel,R]at h';simp at h';subst h';simpa[Value.cells]using R.top h
 |aq els=>
  have h':=h;obtain⟨b,l,c,rfl,_⟩:=cq.1 h';simpa[Value.cells]using R.top h
def qe{x:AV}{p:PV}{v:Value}(h:l6 x=some p)(hr:aD (num ns) G x v):Rel G.K p v:=by
 unfold l6 at h;split at h<;>simp at h<;>subst h
 .simpa only[aD]using hr
 .exact eP (x:=.dr _) rfl hr
 .exact eP (x:=.own _ _) rfl hr
def sK{x:AV}:d4 [] x=l6 x:=by
 cases x<;>simp[d4,l6]
def ry{x:AV}{p:PV}(h:l6 x=some p)(hl:aY x=true):dT p=true:=by
 cases x with
 |pv q=>simp[l6]at h;subst h;cases q<;>simp_all[aY,dT]
 |dr _=>simp[l6]at h;subst h;rfl
 |own _ _=>simp[l6]at h;subst h;rfl
 |_=>simp[l6]at h
def Rel.M6{K:bt}{p:PV}{v:Value}(h:Rel K p v)(hl:dT p=true):R K false p [v]:=(M3 hl).1 h
def xt:∀{cs:List AV}{ps:List PV}{vs:List Value},cz [] cs=some ps->aC (num ns) G cs vs->dO G.K ps vs
 |[],ps,vs,h,hr=>by simp[cz]at h;subst h;simp only[aC]at hr;simp[dO,hr]
 |c::cs,ps,vs,h,hr=>by
  simp only[cz,sK,zab]at h;obtain⟨hl,h⟩:=h;split at h
  .rename_i p a h1 h2;simp at h;subst h;simp only[aC]at hr;obtain⟨v,r,rfl,e1,e2⟩:=hr;simp only[dO];exact⟨v,r,rfl,(qe h1 e1).M6 (ry h1 hl),xt h2 e2⟩
  .simp at h
def yZ{x:AV}{p:PV}{v:Value}(h:gr [] x=some p)(hr:aD (num ns) G x v):Rel G.K p v:=by
 cases x with
 |agg cs=>
  simp only[gr,zac]at h;obtain⟨ps,h1,rfl⟩:=h;simp only[aD]at hr;obtain⟨vs,rfl,hr⟩:=hr;simp only[Rel];exact⟨vs,rfl,xt h1 hr⟩
 |_=>simp only[gr,sK]at h;exact qe h hr
def pe:∀{xs:List AV}{ps:List PV}{vs:List Value},dG [] xs=some ps->aC (num ns) G xs vs->kG G.K ps vs
 |[],ps,vs,h,hr=>by simp[dG]at h;subst h;simp only[aC]at hr;exact hr
 |c::cs,ps,vs,h,hr=>by
  simp only[dG]at h;split at h
  .rename_i p a h1 h2;simp at h;subst h;simp only[aC]at hr;obtain⟨v,r,rfl,e1,e2⟩:=hr;exact⟨v,r,rfl,yZ h1 e1,pe h2 e2⟩
  .simp at h
def Gh.l8(G:Gh)(b:Nat)(c:Array Value):Gh:={G with K:=fun b' o=>if b'=b then c[o]? else G.K b' o}
def Inv.jQ{ρ:bX}{mem:List (Nat×List AV)}{sh:Sh}{aa:aF}(h:Inv ρ G w mem sh aa){b o:Nat}{v:Value}(a:G.K b o=some v):b<w.heap.size:=
 World.block_lt_of_cell? _ _ (h.known b o v a)
def Gh.t6{ρ:bX}{mem:List (Nat×List AV)}{sh:Sh}{aa:aF}(h:Inv ρ G w mem sh aa)(c:Array Value):G.le (G.l8 w.heap.size c) where
 K:=fun b o v a=>by
  have:=h.jQ a;simp only[Gh.l8];rw[zai (by omega)];exact a
 pm:=fun _ _ h=>h
 sm:=fun _ _ h=>h
 tk:=fun _ t h=>⟨t,h,⟨zas _,t.iP⟩,fun _=>rfl⟩
def bz{o:Obj}{b:Nat}(h:b<w.heap.size):(w.alloc o).heap[b]?=w.heap[b]?:=RowKit.Below.heap_alloc w o b h
def heap_alloc_new{o:Obj}:(w.alloc o).heap[w.heap.size]?=some o:=by
 show (w.heap.push o)[w.heap.size]?=some o;simp
def db{b:Nat}{o:Obj}(h:w.heap[b]?=some o):b<w.heap.size:=by
 rcases zcd b w.heap.size with h'|h'
 .exact h'
 .simp[Array.getElem?_eq_none h']at h
def Blk.mono{ρ:bX}{G':Gh}{w':World}{b:Nat}{r:pc}{cells:List AV}(h:Blk ρ G w b r cells)(a:G.le G')(hr:G'.role b=G.role b)(d:w'.heap[b]?=w.heap[b]?):Blk ρ G' w' b r cells:=by
 obtain⟨h1,c,t,h2,h3⟩:=h;exact⟨hr.trans h1,c,t,d.trans h2,aC.mono a h3⟩
def yW.mono{ρ:bX}{G':Gh}{w':World}{b:Nat×Nat}{r:pc}{cells:List AV}(h:yW ρ G w b r cells)(a:G.le G')(hr:G'.role b.1=G.role b.1)(c:w'.heap[b.1]?=w.heap[b.1]?):yW ρ G' w' b r cells:=by
 obtain⟨h1,o,h2,h3⟩:=h;exact⟨hr.trans h1,o,c.trans h2,h3.mono a⟩
def yW.lt{ρ:bX}{b:Nat×Nat}{r:pc}{cells:List AV}(h:yW ρ G w b r cells):b.1<w.heap.size:=by
 obtain⟨_,o,h2,_⟩:=h;exact db h2
def Inv.uL{ρ:bX}{mem:List (Nat×List AV)}{sh:Sh}{aa:aF}(h:Inv ρ G w mem sh aa)(c:Array Value)(t:TypeId):
   Inv ρ (G.l8 w.heap.size c) (w.alloc (.cells c t)) mem sh aa:=by
 have f:=Gh.t6 h c;constructor
 .intro b o v e;simp only[Gh.l8]at e;split at e
  .rename_i a;subst a;simp[e]
  .rw[World.cell?_alloc_old]
   .exact h.known b o v e
   .simpa using ‹¬b=w.heap.size›
 .intro b o v e;simp only[Gh.l8]at e;split at e
  .rename_i a;subst a;exact .inl (h.fresh _ (zas _))
  .exact h.bm b o v e
 .intro b a;simp at a;exact h.fresh b (by omega)
 .intro d cells hd;obtain⟨b,e1,e2,e3⟩:=h.di d cells hd;have a:b<w.heap.size:=by obtain⟨c,t,i,_⟩:=e2.at_;exact db i
  exact⟨b,e1,e2.mono f rfl (bz a),e3⟩
 .exact h.iu
 .intro d cells hd;obtain⟨b,e1,e2,e3⟩:=h.dH d cells hd;have a:b.1<w.heap.size:=e2.lt;exact⟨b,e1,e2.mono f rfl (bz a),e3⟩
 .exact h.fu
 .intro τ n hn;obtain⟨tk,e1,e2,e3⟩:=h.dV τ n hn;refine⟨tk,e1,e2,e3.cap,e3.zero,fun g=>?_⟩;obtain⟨b,o,m,ty,f1,f2,f3,l,k⟩:=e3.spare g;have a:=db f3;refine⟨b,o,m,ty,f1,f2,(bz a).trans f3,l,fun j v e=>k j v ?_⟩;simp only[Gh.l8]at e
  rwa [zai (by omega)]at e
 .exact h.gF
 .intro b c' a;obtain⟨h1,t',z,h2⟩:=h.mP b c' a;exact⟨h1,t',z,(bz (zaW.1 h2).1).trans h2⟩
def bY.uL{ρ:bX}{mem:List (Nat×List AV)}{sh:Sh}{aa:aF}(h:Inv ρ G w mem sh aa)(c:Array Value)(t:TypeId):
   bY G w (G.l8 w.heap.size c) (w.alloc (.cells c t)) where
 size:=by simp
 os:=rfl
 tape:=rfl
 output:=rfl
 K:=(Gh.t6 h c).K
 sm:=fun _ _ h=>h
 fe:=fun b d hr=>⟨hr,bz d⟩
 jt:=fun b τ _ hr=>.inr ⟨τ,hr⟩
 iG:=fun b o v d _ a=>by
  simp only[Gh.l8]at a
  rwa [zai (by omega)]at a
def Q6{b:Nat}{l:List Value}:At (G.l8 b l.toArray).K b 0 l:=by
 intro j v hj;simp only[Gh.l8,zbc,zbi];simpa using hj
end
end Go.Ab
namespace Go.Ab
section
variable {P:Program} {ns:Names} {G:Gh} {w:World}
def sL(sz:Nat):∀(a:List Value)(k:Nat)(rc:Array Value),rc.size=(k+a.length)*sz->(∀v∈a,v.cells.size=sz)->
   ∃c,Instr.fill (fun i=>some (i*sz,sz)) rc ((List.range' k a.length).zip a)=some c/\c.toList=rc.toList.take (k*sz)++a.flatMap (fun v=>v.cells.toList)
 |[],k,rc,h,_=>⟨rc,by simp[Instr.fill],by simp at h;simp only[zc5,zax];rw[zaf];simp;omega⟩
 |v::a,k,rc,h,hs=>by
  have hv:=hs v (by simp);have e:rc.size=k*sz+(a.length+1)*sz:=(by rw[h,zaI];simp);have f:k*sz+sz<=rc.size:=by rw[e,zaI];omega
  have b:(v.cells.zipIdx.foldl (fun cs (x:Value×Nat)=>cs.setIfInBounds (k*sz+x.2) x.1) rc).toList=rc.toList.take (k*sz)++v.cells.toList++rc.toList.drop (k*sz+sz):=by
   have:=ru (k*sz) v.cells.toList 0 rc (by simp[hv];omega);rw[<-Array.foldl_toList];simpa[hv]using this
  have d:(v.cells.zipIdx.foldl (fun cs (x:Value×Nat)=>cs.setIfInBounds (k*sz+x.2) x.1) rc).size=rc.size:=by
   have hl:=zbm List.length b;rw[zad,zad,zbk,zce]at hl;simp only[Array.length_toList,hv]at hl;omega
  obtain⟨c,e1,e2⟩:=sL sz a (k+1) _ (by rw[d,h];congr 1;simp;omega) (fun u hu=>hs u (by simp[hu]));refine⟨c,?_,?_⟩
  .simp only[zae,zc3,zcU,Instr.fill];rw[zai (by simp[hv];omega)];exact e1
  .rw[e2,b];simp only[zav];rw[zaP,zaV];have h1:(rc.toList.take (k*sz)).length=k*sz:=by simp;omega
   rw[h1];have h2:(k+1)*sz-k*sz=sz:=by rw[zaI];omega
   rw[h2,zaf (by rw[h1,zaI];omega),zaV];simp[hv,zaP];exact zaf (by simp[hv])
def sM(f:Operand->Value):∀(l:List (Nat×Operand))(k:Nat),tY k l=true->
   l.map (fun x=>(x.1,f x.2))=(List.range' k ((l.map (·.2)).map f).length).zip ((l.map (·.2)).map f)
 |[],k,_=>by simp
 |(i,x)::l,k,h=>by
  simp only[tY,zah,zcH]at h;obtain⟨rfl,h⟩:=h;simp only[zal,zae,zc3,zcU];rw[sM f l _ h]
def sN(f:Operand->Value):∀(l:List (Nat×Operand)),l.map (fun x=>(x.1,f x.2))=(l.map (·.1)).zip ((l.map (·.2)).map f)
 |[]=>by simp
 |x::l=>by simp[sN f l]
def Bm{K:bt}{b sz:Nat}:∀{els:List PV}{vs:List Value}{o:Nat},kG K els vs->els.all (fun e=>(aZ e).length == sz)=true->
   At K b o (vs.flatMap fun v=>v.cells.toList)->Row K b o sz els
 |[],_,_,_,_,_=>by simp only[Row]
 |e::els,vs,o,⟨v,r,e1,e2,e3⟩,hs,c=>by
  subst e1;simp only[zaQ,zah,zcH]at hs;have d:=e2.toR;have a:v.cells.toList.length=sz:=by rw[d.length,hs.1]
  simp only[Row];refine⟨⟨v.cells.toList,a,?_,d⟩,Bm e3 hs.2 ?_⟩
  .intro j u hj;exact c j u (by simp only[zav];rw[zar (zaa.1 hj).1];exact hj)
  .intro j u hj;have:=c (sz+j) u (by simp only[zav];rw[zaB (by omega),a,zb0];exact hj)
   rwa [<-zbN]at this
def uM{K:bt}{sz:Nat}:∀{els:List PV}{vs:List Value},kG K els vs->els.all (fun e=>(aZ e).length == sz)=true->∀v∈vs,v.cells.size=sz
 |[],vs,h,_,v,hv=>by cases h;simp at hv
 |e::els,vs,⟨u,r,e1,e2,e3⟩,hs,v,hv=>by
  subst e1;simp only[zaQ,zah,zcH]at hs;simp only[zau]at hv;rcases hv with rfl|hv
  .have:=e2.toR.length;simp at this;rw[this,hs.1]
  .exact uM e3 hs.2 v hv
def y1{ρ:bX}{mem:List (Nat×List AV)}{sh:Sh}{aa:aF}{t e sz n:Nat}{z:List PV}{vals:List AV}{d:List Value}{x:AV}
   (A:fF P t=some e) (o:cT P e=some sz) (hz:cK P e=some z) (hn:d.length=n) (h0:0<sz) (B:n*sz<=16777216)
   (hr:aC (num ns) G vals d) (hi:Inv ρ G w mem sh aa) (h:bG (.ez sz) vals=some x):
   ∃v c,(Instr.buildSlice t n ((List.range' 0 d.length).zip d).toArray).run P w=.ok v (w.alloc (.cells c e))/\
     aD (num ns) (G.l8 w.heap.size c) x v:=by
 have hu:=dW A;simp only[bG,zaF,zab,zag]at h;obtain⟨els,h1,h2,rfl⟩:=h;have i:=pe h1 hr;have s:=i.length;obtain⟨r,m,u⟩:=gX (w:=w) hz;have y:¬(n*sz=0/\0<n):=by rintro⟨a,b⟩;have:=Nat.mul_pos b h0;omega
 let z0:Array Value:=if n*sz=0 then #[]else r.cells
 have j:((Array.range (n*sz)).map (z0[· % z0.size]!)).size=(0+d.length)*sz:=by simp[hn]
 obtain⟨rc,g1,g2⟩:=sL sz d 0 _ j (uM i h2);have q:rc.toList=d.flatMap (fun v=>v.cells.toList):=by simpa using g2
 refine⟨.slice (some ⟨w.heap.size,0,none⟩) n n,rc,?_,?_⟩
 .simp only[Instr.buildSlice,zay,zaL hu,zam,dy o];rw[zai (by omega)];by_cases f:n*sz=0
  .have g:z0=#[]:=zan f;rw[g]at g1;rw[zan f];simp only[zay,zaG,zam,g1];rfl
  .have g:z0=r.cells:=zai f;rw[g]at g1;rw[zai f];simp only[zay,zaG,m,zam,g1];rfl
 .simp only[aD];refine⟨_,n,rfl,by omega,?_⟩;by_cases k:els=[]
  .exact .inl k
  .refine .inr ⟨w.heap.size,0,sz,rfl,?_⟩;have p:=(Gh.t6 hi rc).K;refine Bm (kG.mono p i) h2 ?_;rw[<-q];have:=Q6 (G:=G) (b:=w.heap.size) (l:=rc.toList);simpa using this
end
end Go.Ab
namespace Go.Ab
section
variable {P:Program} {ns:Names} {G:Gh} {w:World}
def cU{k:IntKind}{i:Int}{y:Nat}{code:BoundsCode}(h0:0<=i)(hy:i<=y):(Instr.sliceBound (.int k i) y code).run P w=.ok i.toNat w:=by
 simp only[Instr.sliceBound,zay,asIntOf,zaG,zam];rw[zan ⟨h0,hy⟩];rfl
def pg{lo hi mx:Option Operand}{f:Operand->Value}{rest:List AV}{n cap:Nat}{l h:Int}{m:Option Int}{b:Bool}
   (hr:aC (num ns) G rest ((lo.toList++hi.toList++mx.toList).map f)) (e:dw lo.isSome hi.isSome mx.isSome n rest=some (l,h,m))
   (h0:0<=l) (h1:l<=h) (h2:h<=n) (h3:n<=cap) (hm:∀x,m=some x->x=h):
   (Instr.sliceBounds b n cap (lo.map f) (hi.map f) (mx.map f)).run P w=.ok (l.toNat,h.toNat,(m.map Int.toNat).getD cap) w:=by
 cases lo<;>cases hi<;>cases mx<;>simp only[zbP,Option.isSome_some,dw]at e <;>
   (try (split at e<;>first|(simp at e;done)|skip))<;>(try (simp at e;done))
 all_goals simp at e
 all_goals obtain⟨rfl,rfl,rfl⟩:=e
 all_goals (try contradiction)
 all_goals simp[aC,aD,Rel,R]at hr
 .simp only[Instr.sliceBounds,zbV,zay,zaG,zam];simp
 .rename_i k h _ _ _;have e1:=cU (P:=P) (w:=w) (k:=k) (i:=h) (y:=cap) (code:=if b then .sliceAcap else .sliceAlen) (by omega) (by omega);simp only[Instr.sliceBounds,zbV,zaT,hr,zay,zaG,zam,e1];simp
 .rename_i k h k' m _ _ _;obtain⟨c,a⟩:=hr;have d:=hm m rfl;subst d;have e1:=cU (P:=P) (w:=w) (k:=k') (i:=m) (y:=cap) (code:=if b then .slice3Acap else .slice3Alen) (by omega) (by omega);have e2:=cU (P:=P) (w:=w) (k:=k) (i:=m) (y:=m.toNat) (code:=.slice3B) (by omega) (by omega);simp only[Instr.sliceBounds,zbV,zaT,c,a,zay,zaG,zam,e1,e2];simp
 .rename_i k l _ _ _;have e1:=cU (P:=P) (w:=w) (k:=k) (i:=l) (y:=n) (code:=.sliceB) (by omega) (by omega);simp only[Instr.sliceBounds,zbV,zaT,hr,zay,zaG,zam,zbP,za6,zbI,e1];simp
 .rename_i k l k' h _ _ _;obtain⟨c,a⟩:=hr;have e1:=cU (P:=P) (w:=w) (k:=k') (i:=h) (y:=cap) (code:=if b then .sliceAcap else .sliceAlen) (by omega) (by omega);have e2:=cU (P:=P) (w:=w) (k:=k) (i:=l) (y:=h.toNat) (code:=.sliceB) (by omega) (by omega);simp only[Instr.sliceBounds,zbV,zaT,c,a,zay,zaG,zam,e1,zbP,za6,zbI,e2];simp
 .rename_i k l k' h g m _ _ _;obtain⟨c,a,j⟩:=hr;have d:=hm m rfl;subst d;have e1:=cU (P:=P) (w:=w) (k:=g) (i:=m) (y:=cap) (code:=if b then .slice3Acap else .slice3Alen) (by omega) (by omega);have e2:=cU (P:=P) (w:=w) (k:=k') (i:=m) (y:=m.toNat) (code:=.slice3B) (by omega) (by omega);have e3:=cU (P:=P) (w:=w) (k:=k) (i:=l) (y:=m.toNat) (code:=.slice3C) (by omega) (by omega);simp only[Instr.sliceBounds,zaT,c,a,j,zay,zaG,zam,e1,e2,Option.isSome_some,zbc,e3];simp
def Q7{K:bt}{els:List PV}{b o sz l h:Nat}(hr:Row K b o sz els):Row K b (o+l*sz) sz ((els.take h).drop l):=Row.drop l (Row.take h hr)
def Bn{t e sz:Nat}{lo hi mx:Option Operand}{f:Operand->Value}{x y:AV}{v:Value}{rest:List AV}(hu:P.underlying t=some (.slice e))(q:cT P e=some sz)
   (hr:aC (num ns) G rest ((lo.toList++hi.toList++mx.toList).map f)) (hx:aD (num ns) G x v)
   (h:cx false sz lo.isSome hi.isSome mx.isSome (x::rest)=some y):
   ∃u,(Instr.sliceAt t v (lo.map f) (hi.map f) (mx.map f)).run P w=.ok u w/\aD (num ns) G y u:=by
 simp only[cx,za6,zbI]at h;split at h
 .rename_i els p;obtain⟨base,len,cap,rfl,s,n,a⟩:=cq.1 (eP p hx);split at h
  .rename_i l d m z;simp only[zab]at h;obtain⟨⟨h0,h1,h2,h3⟩,h⟩:=h
   have hm:∀x,m=some x->x=d:=by
    intro x hx;subst hx;simp only[zab]at h;exact h.1
   rw[n]at z h2;have k:=pg (P:=P) (w:=w) (b:=true) hr z h0 h1 h2 (by omega:len<=cap) hm
   have jk:(Instr.sliceAt t (.slice base len cap) (lo.map f) (hi.map f) (mx.map f)).run P w =
       .ok (.slice (if(m.map Int.toNat).getD cap=l.toNat then base else base.map (·.add (l.toNat*sz))) (d.toNat-l.toNat) ((m.map Int.toNat).getD cap-l.toNat)) w:=by
     simp only[Instr.sliceAt,zay,zaL hu,zam,Instr.slice,k,dy q,zaG]
   refine⟨_,jk,?_⟩
   have j:TV G.K ((els.take d.toNat).drop l.toNat) (if(m.map Int.toNat).getD cap=l.toNat then base else base.map (·.add (l.toNat*sz))) (d.toNat-l.toNat):=by
    refine⟨by simp;omega,?_⟩;by_cases c:(els.take d.toNat).drop l.toNat=[]
    .exact .inl c
    .refine .inr ?_
     have A:l.toNat<d.toNat:=by
      rcases zcd l.toNat d.toNat with h'|h'
      .exact h'
      .exfalso;apply c;apply List.drop_of_length_le;simp;omega
     rcases a with hn|⟨b,o,i,rfl,a⟩
     .subst hn;simp at c
     .have r:(m.map Int.toNat).getD cap≠l.toNat:=by
       cases m with
       |none=>simp;omega
       |some x=>have:=hm x rfl;subst this;simp;omega
      rw[zai r];have g:els≠[]:=by intro e;subst e;simp at c
      refine⟨b,o+l.toNat*i,i,?_,Q7 a⟩;rcases h3 with h3|h3
      .subst h3;simp[Addr.add]
      .have:=a.sz h3 g;subst this;simp[Addr.eO]
   cases m with
   |none=>
    simp at h;subst h;simp only[aD];exact cq.2 ⟨_,_,_,rfl,by simp;omega,j⟩
   |some x=>
    have:=hm x rfl;subst this;simp at h;subst h;simp only[aD];exact⟨_,_,rfl,j⟩
  .simp at h
 .simp at h
def y3{t e sz:Nat}{lo hi mx:Option Operand}{f:Operand->Value}{x y:AV}{v:Value}{rest:List AV}(hu:P.underlying t=some (.slice e))(m:cT P e=some sz)(o:mx.isSome=false)
   (hr:aC (num ns) G rest ((lo.toList++hi.toList++mx.toList).map f)) (hx:aD (num ns) G x v)
   (h:lI sz lo.isSome hi.isSome (x::rest)=some y):
   ∃u,(Instr.sliceAt t v (lo.map f) (hi.map f) (mx.map f)).run P w=.ok u w/\aD (num ns) G y u:=by
 unfold lI at h;split at h
 .rename_i b z n ag k j;simp only[zbH]at j;obtain⟨rfl,rfl⟩:=j;rw[zab]at h;obtain⟨rfl,h⟩:=h;split at h
  .rename_i l d p;simp only[zab,zag]at h;obtain⟨⟨h0,h1,h2⟩,rfl⟩:=h;simp only[aD]at hx;obtain⟨a,cap,g,rfl,c⟩:=hx;rw[<-o]at p;have i:=pg (P:=P) (w:=w) (b:=true) (cap:=n+cap) hr p h0 h1 h2 (by omega) (by simp)
   have jk:(Instr.sliceAt t (.slice (some ⟨a.1,0,none⟩) n (n+cap)) (lo.map f) (hi.map f) (mx.map f)).run P w =
       .ok (.slice (if n+cap=l.toNat then some ⟨a.1,0,none⟩else(some ⟨a.1,0,none⟩:Option Addr).map (·.add (l.toNat*z))) (d.toNat-l.toNat) (n+cap-l.toNat)) w:=by
     simp only[Instr.sliceAt,zay,zaL hu,zam,Instr.slice,i,dy m,zaG,zbV,zbO]
   refine⟨_,jk,?_⟩;by_cases hl:l=0
   .subst hl;simp only[zbc,aD];refine⟨a,n+cap-d.toNat,g,?_,?_⟩
    .have e1:d.toNat+(n+cap-d.toNat)=n+cap:=(by omega);rw[e1];simp[Addr.add]
    .have e1:d.toNat+(n+cap-d.toNat)=n+cap:=(by omega);rw[e1];exact c
   .rw[zai hl];simp only[aD];refine⟨a,_,_,g,rfl,?_⟩;by_cases hz:d.toNat-l.toNat=0
    .exact .inl hz
    .right;rw[zai (by omega)];simp[Addr.add];exact fun e=>e.symm
  .simp at h
 .simp at h
def tN{t:Nat}{lo hi mx:Option Operand}{f:Operand->Value}{x y:AV}{v:Value}{rest:List AV}(hu:P.underlying t=some .string)(e:mx.isSome=false)
   (hr:aC (num ns) G rest ((lo.toList++hi.toList++mx.toList).map f)) (hx:aD (num ns) G x v)
   (h:cx true 0 lo.isSome hi.isSome false (x::rest)=some y):
   ∃u,(Instr.sliceAt t v (lo.map f) (hi.map f) (mx.map f)).run P w=.ok u w/\aD (num ns) G y u:=by
 simp only[cx,zbc]at h;split at h
 .rename_i s;simp only[aD,nZ]at hx;subst hx;split at h
  .rename_i l g i;simp only[zab,zag]at h;obtain⟨⟨h0,h1,h2⟩,rfl⟩:=h;rw[<-e]at i;have a:=pg (P:=P) (w:=w) (b:=false) hr i h0 h1 h2 (zas _) (by simp);have d:mx=none:=by cases mx<;>simp_all
   subst d;have c:(ByteArray.mk s.toArray).size=s.length:=by simp[ByteArray.size]
   refine⟨.string ((ByteArray.mk s.toArray).extract l.toNat g.toNat),?_,?_⟩
   .simp only[Instr.sliceAt,zay,zaL hu,zam,Instr.slice,zbV,zbP,za6,zbI,c];simp only[zbV]at a;simp[a]
   .have:(ByteArray.mk s.toArray).extract l.toNat g.toNat=⟨((s.take g.toNat).drop l.toNat).toArray⟩:=by
     apply ByteArray.ext;simp[ByteArray.data_extract];rw[List.drop_take]
    rw[this];exact uJ
  .simp at h
 .simp at h
end
end Go.Ab
namespace Go.Ab
section
variable {P:Program} {ns:Names} {G:Gh} {w:World}
def HV(ns:Names)(P:Program)(G:Gh)(w:World)(mem:List (Nat×List AV))(sh:Sh)(aa:aF)(s:Sem Value)(x:AV):Prop:=
 ∃v w' G',s.run P w=.ok v w'/\aD (num ns) G' x v/\Inv (num ns) G' w' mem sh aa/\G.le G'/\bY G w G' w'
def HV.stay{mem:List (Nat×List AV)}{sh:Sh}{aa:aF}(hi:Inv (num ns) G w mem sh aa){s:Sem Value}{x:AV}{v:Value}(h:s.run P w=.ok v w)(hr:aD (num ns) G x v):
   HV ns P G w mem sh aa s x:=⟨v,w,G,h,hr,hi,G.le_refl,bY.refl G w⟩
def cy{ρ:bX}{vals:List AV}{v:Value}(h:aC ρ G vals [v]):∃x,vals=[x]/\aD ρ G x v:=by
 cases vals with
 |nil=>simp[aC]at h
 |cons x r=>
  simp only[aC]at h;obtain⟨u,a,e,h1,h2⟩:=h;cases e;cases r with
  |nil=>exact⟨x,rfl,h1⟩
  |cons _ _=>simp[aC]at h2
def dP{ρ:bX}{vals:List AV}{u v:Value}(h:aC ρ G vals [u,v]):∃x y,vals=[x,y]/\aD ρ G x u/\aD ρ G y v:=by
 cases vals with
 |nil=>simp[aC]at h
 |cons x r=>
  simp only[aC]at h;obtain⟨a,b,e,h1,h2⟩:=h;cases e;obtain⟨y,rfl,h3⟩:=cy h2;exact⟨x,y,rfl,h1,h3⟩
def Bo{ρ:bX}{vals:List AV}{u v t:Value}(h:aC ρ G vals [u,v,t]):∃x y z,vals=[x,y,z]/\aD ρ G x u/\aD ρ G y v/\aD ρ G z t:=by
 cases vals with
 |nil=>simp[aC]at h
 |cons x r=>
  simp only[aC]at h;obtain⟨a,b,e,h1,h2⟩:=h;cases e;obtain⟨y,z,rfl,h3,h4⟩:=dP h2;exact⟨x,y,z,rfl,h1,h3,h4⟩
def M7{x1 b a x:AV}(h:bG .pick [x1,b,a]=some x):∃c,x1=.pv (.bool c)/\x=if c then b else a:=by
 cases x1 with
 |pv p=>cases p with
  |bool c=>exact⟨c,rfl,by simpa[bG]using h.symm⟩
  |_=>simp[bG]at h
 |_=>simp[bG]at h
def Q8{neg:Bool}{x1 a x:AV}(h:bG (.beq neg) [x1,a]=some x):∃p q,x1=.pv (.bool p)/\a=.pv (.bool q)/\x=.pv (.bool (if neg then !(p == q)else(p == q))):=by
 cases x1 with
 |pv p=>cases p with
  |bool c=>cases a with
   |pv q=>cases q with
    |bool d=>exact⟨c,d,rfl,rfl,by simpa[bG]using h.symm⟩
    |_=>simp[bG]at h
   |_=>simp[bG]at h
  |_=>simp[bG]at h
 |_=>simp[bG]at h
def M8{k:IntKind}{x1 x:AV}(h:bG (.conv k) [x1]=some x):∃k' n,x1=.pv (.int k' n)/\x=.pv (.int k (k.wrap n)):=by
 cases x1 with
 |pv p=>cases p with
  |int k' n=>exact⟨k',n,rfl,by simpa[bG]using h.symm⟩
  |_=>simp[bG]at h
 |_=>simp[bG]at h
def Jn{sz:Nat}{x1 a x:AV}(h:bG (.eK sz) [x1,a]=some x):∃k i,a=.pv (.int k i):=by
 cases a with
 |pv p=>cases p with
  |int k n=>exact⟨k,n,rfl⟩
  |_=>simp[bG]at h
 |_=>simp[bG]at h
def Jo{x1 a x:AV}(h:bG .index [x1,a]=some x):∃s k i,x1=.pv (.str s)/\a=.pv (.int k i):=by
 cases x1 with
 |pv q=>cases q with
  |str s=>cases a with
   |pv p=>cases p with
    |int k n=>exact⟨s,k,n,rfl,rfl⟩
    |_=>simp[bG]at h
   |_=>simp[bG]at h
  |_=>simp[bG]at h
 |_=>simp[bG]at h
def uN:∀{els:List PV}{s:List UInt8},gw els=some s->els=s.map fun b=>.int .u8 (b.toNat:Int)
 |[],s,h=>by simp[gw]at h;subst h;rfl
 | .int .u8 n::r,s,h=>by
  simp only[gw,zab,zac]at h;obtain⟨⟨h0,h1⟩,q,h2,rfl⟩:=h
  have:((UInt8.ofNat n.toNat).toNat:Int)=n:=by
   simp;omega
  simp only[zal,this,<-uN h2]
 | .int .i64 _::_,_,h=>by simp[gw]at h
 | .int .i32 _::_,_,h=>by simp[gw]at h
 | .int .i16 _::_,_,h=>by simp[gw]at h
 | .int .i8 _::_,_,h=>by simp[gw]at h
 | .int .u64 _::_,_,h=>by simp[gw]at h
 | .int .u32 _::_,_,h=>by simp[gw]at h
 | .int .u16 _::_,_,h=>by simp[gw]at h
 | .bool _::_,_,h=>by simp[gw]at h
 | .str _::_,_,h=>by simp[gw]at h
 | .agg _::_,_,h=>by simp[gw]at h
 | .aq _::_,_,h=>by simp[gw]at h
def b2s_inv{x1 x:AV}(h:bG .b2s [x1]=some x):∃s:List UInt8,cG x1=some (s.map fun b=>.int .u8 (b.toNat:Int))/\x=.pv (.str s):=by
 simp only[bG,zac,zaF]at h;obtain⟨s,⟨els,h1,h2⟩,rfl⟩:=h;exact⟨s,by rw[h1,uN h2],rfl⟩
def b2s_run{s d e:TypeId}{l:List UInt8}{x:AV}{v:Value}(hs:P.underlying s=some (.slice e))(g:P.underlying e=some (.int .u8))(hd:P.underlying d=some .string)
   (hi:∀b o u,G.K b o=some u->w.cell? ⟨b,o,none⟩=some u) (hx:cG x=some (l.map fun b=>.int .u8 (b.toNat:Int))) (hr:aD (num ns) G x v):
   (convert s d v).run P w=.ok (.string ⟨l.toArray⟩) w:=by
 obtain⟨base,len,cap,rfl,_,f,c⟩:=cq.1 (eP hx hr);simp only[zak]at f;subst f;cases base with
 |none=>
  have h0:l=[]:=by
   rcases c with h|⟨b,o,sz,e,_⟩
   .simpa using h
   .cases e
  subst h0;show(convert s d (.slice none 0 cap)).run P w=_;rw[run_convert_bytes_string w s d e none 0 cap hs g hd];simp[Conv.bytesToString];rfl
 |some a=>
  refine run_convert_bytes_back w s d e a cap l hs g hd fun j hj=>?_;rcases c with h|⟨b,o,sz,e,c⟩
  .simp at h;subst h;simp at hj
  .cases e
   obtain⟨vs,g1,g2,k⟩:=c.get (i:=j) (el:=.int .u8 (l[j].toNat:Int)) (by simp[hj]);simp only[R]at k;subst k;simp at g1;subst g1;rw[Addr.eO];have:=g2 0 _ rfl;simp at this;exact hi _ _ _ this
def Q9{i:Nat}{x1 x:AV}(h:bG (.ext i) [x1]=some x):∃vs,x1=.rf vs/\vs[i]?=some x:=by
 cases x1 with
 |rf vs=>exact⟨vs,rfl,by simpa[bG]using h⟩
 |_=>simp[bG]at h
def Jp{sz:Nat}{ag:Bool}{x1 x:AV}(h:bG (.gj sz ag) [x1]=some x):∃cs,x1=.h_ cs/\cR ag sz cs=some x:=by
 cases x1 with
 |h_ vs=>exact⟨vs,rfl,by simpa[bG]using h⟩
 |_=>simp[bG]at h
def M9{x1 x:AV}(h:bG .Ee [x1]=some x):∃s,x1=.pv (.str s)/\x=.pv (.int .i64 (s.length:Int)):=by
 cases x1 with
 |pv q=>cases q with
  |str s=>exact⟨s,rfl,by simpa[bG]using h.symm⟩
  |_=>simp[bG]at h
 |_=>simp[bG]at h
def Vs{x1 a x:AV}(h:bG .mn [x1,a]=some x):∃k p q,x1=.pv (.int k p)/\a=.pv (.int k q)/\x=.pv (.int k (if q<p then q else p)):=by
 cases x1 with
 |pv q=>cases q with
  |int k s=>cases a with
   |pv p=>cases p with
    |int k' n=>
     simp only[bG,zab,zag]at h;obtain⟨rfl,rfl⟩:=h;exact⟨k,s,n,rfl,rfl,rfl⟩
    |_=>simp[bG]at h
   |_=>simp[bG]at h
  |_=>simp[bG]at h
 |_=>simp[bG]at h
def Vt{x1 a x:AV}(h:bG .mx [x1,a]=some x):∃k p q,x1=.pv (.int k p)/\a=.pv (.int k q)/\x=.pv (.int k (if q > p then q else p)):=by
 cases x1 with
 |pv q=>cases q with
  |int k s=>cases a with
   |pv p=>cases p with
    |int k' n=>
     simp only[bG,zab,zag]at h;obtain⟨rfl,rfl⟩:=h;exact⟨k,s,n,rfl,rfl,rfl⟩
    |_=>simp[bG]at h
   |_=>simp[bG]at h
  |_=>simp[bG]at h
 |_=>simp[bG]at h
def Bp{A:lG}{o:Oper}{vo:Q2}{args:List Operand}(hc:bR P ns A o.dst o.op=some (.v vo,args)){a:Act}{vals:List AV}{x:AV}
   {mem:List (Nat×List AV)} {sh:Sh} {aa:aF} (hr:aC (num ns) G vals (args.map a.eval)) (hi:Inv (num ns) G w mem sh aa) (h:bG vo vals=some x):
   ∃v w' G',(execOp a.eval o).run P w=.ok (.value v) w'/\aD (num ns) G' x v/\Inv (num ns) G' w' mem sh aa/\G.le G'/\bY G w G' w':=by
 obtain⟨dst,op,type,pos,after,guard⟩:=o
 have B:∀{s:Sem Value},HV ns P G w mem sh aa s x->(execOp a.eval ⟨dst,op,type,pos,after,guard⟩=(do pure (.value (<-s)):Sem Next))->
     ∃v w' G',(execOp a.eval ⟨dst,op,type,pos,after,guard⟩).run P w=.ok (.value v) w'/\aD (num ns) G' x v/\Inv (num ns) G' w' mem sh aa/\G.le G'/\bY G w G' w':=by
   rintro s ⟨v,w',G',h1,h2,h3,h4,h5⟩ L
   exact⟨v,w',G',by rw[L];simp only[zay,h1,zam,zaG],h2,h3,h4,h5⟩
 cases op<;>simp only[bR]at hc
 case move y=>
  simp at hc;obtain⟨rfl,rfl⟩:=hc;obtain⟨J,rfl,h1⟩:=cy (by simpa using hr);simp[bG]at h;subst h;exact⟨_,w,G,by simp[execOp],h1,hi,G.le_refl,bY.refl G w⟩
 case assign y=>
  simp at hc;obtain⟨rfl,rfl⟩:=hc;obtain⟨J,rfl,h1⟩:=cy (by simpa using hr);simp[bG]at h;subst h;exact⟨_,w,G,by simp[execOp],h1,hi,G.le_refl,bY.refl G w⟩
 case pick c y z=>
  simp at hc;obtain⟨rfl,rfl⟩:=hc;obtain⟨x1,U,x3,rfl,h1,h2,h3⟩:=Bo (by simpa using hr);obtain⟨b,rfl,rfl⟩:=M7 h;simp only[aD,jP]at h1;refine⟨if b then a.eval y else a.eval z,w,G,by simp[execOp,h1,asBool],?_,hi,G.le_refl,bY.refl G w⟩;cases b<;>simp[h2,h3]
 case binOp op t y z ty=>
  simp only[zac]at hc;obtain⟨Z,h0,L⟩:=hc;simp at L;obtain⟨rfl,rfl⟩:=L;obtain⟨x1,U,rfl,h1,h2⟩:=dP (by simpa using hr);unfold HS at h0;refine B (s:=do eqGuard op t y z (a.eval y) (a.eval z);binOp op t (a.eval y) (a.eval z)) ?_ rfl;split at h0
  .simp at h0;subst h0;simp only[bG]at h;obtain⟨v,g1,g2⟩:=sG (P:=P) (w:=w) (t:=t) h1 h2 h y z;exact .stay hi g1 g2
  .simp at h0;subst h0;simp only[bG]at h;obtain⟨v,g1,g2⟩:=sG (P:=P) (w:=w) (t:=t) h1 h2 h y z;exact .stay hi g1 g2
  .rename_i hu
   have key:∀neg,Z=.beq neg->((op=.eql/\neg=false)\/(op=.neq/\neg=true))->HV ns P G w mem sh aa (do eqGuard op t y z (a.eval y) (a.eval z);binOp op t (a.eval y) (a.eval z)) x:=by
    intro neg M a2;subst M;obtain⟨p,q,rfl,rfl,rfl⟩:=Q8 h;simp only[aD,jP]at h1 h2;rw[h1,h2];exact .stay hi (Bc hu a2 p q y z) n_
   split at h0
   .simp at h0;exact key false h0.symm (.inl ⟨‹_›,rfl⟩)
   .split at h0
    .simp at h0;exact key true h0.symm (.inr ⟨‹_›,rfl⟩)
    .simp at h0
  .simp at h0
 case unOp op t y=>
  simp at hc;obtain⟨rfl,rfl⟩:=hc;obtain⟨J,rfl,h1⟩:=cy (by simpa using hr);refine B (s:=Op.unary op (a.eval y)) ?_ rfl;simp only[bG]at h;unfold X7 at h;split at h
  .split at h<;>simp at h
   subst h;simp only[aD,jP]at h1;rw[h1];exact .stay hi (by simp[Op.unary]) n_
  .split at h<;>simp at h
   subst h;simp only[aD,dm]at h1;rw[h1];exact .stay hi (by simp[Op.unary,Op.intArith]) dz
  .simp at h
 case convert s d y=>
  split at hc
  .rename_i k1 k2 hs hd;simp at hc;obtain⟨rfl,rfl⟩:=hc;obtain⟨J,rfl,h1⟩:=cy (by simpa using hr);obtain⟨k',n,rfl,rfl⟩:=M8 h;simp only[aD,dm]at h1;refine B (s:=convert s d (a.eval y)) ?_ rfl;rw[h1];exact .stay hi (by simp[convert,zaL hs,zaL hd,Conv.intToInt]) dz
  .rename_i e hs hd;split at hc
   .rename_i L;simp at hc;obtain⟨rfl,rfl⟩:=hc;obtain⟨J,rfl,h1⟩:=cy (by simpa using hr);obtain⟨l,hl,rfl⟩:=b2s_inv h;refine B (s:=convert s d (a.eval y)) ?_ rfl;exact .stay hi (b2s_run hs L hd hi.known hl h1) uJ
   .simp at hc
  .simp at hc
 case extract y i=>
  simp at hc;obtain⟨rfl,rfl⟩:=hc;obtain⟨J,rfl,h1⟩:=cy (by simpa using hr);obtain⟨vs,rfl,h2⟩:=Q9 h;simp only[aD]at h1;obtain⟨us,h3,h4⟩:=h1;obtain⟨u,h5,h6⟩:=h4.get h2;refine B (s:=Instr.extract (a.eval y) i) ?_ rfl;rw[h3];exact .stay hi (by simp[Instr.extract,h5]) h6
 case field t y f=>
  split at hc
  .rename_i fd hf;split at hc
   .rename_i sz ag E T;simp at hc;obtain⟨rfl,rfl⟩:=hc;obtain⟨J,rfl,h1⟩:=cy (by simpa using hr);obtain⟨u,g1,g2⟩:=Bf (w:=w) hf E T h h1;exact B (s:=Instr.field t (a.eval y) f) (.stay hi g1 g2) rfl
   .simp at hc
  .simp at hc
 case fieldAddr t y f=>
  split at hc
  .rename_i fd hf;split at hc
   .rename_i sz E;split at hc
    .simp at hc
    .rename_i a0;simp at hc;obtain⟨rfl,rfl⟩:=hc;obtain⟨J,rfl,h1⟩:=cy (by simpa using hr);obtain⟨u,g1,g2⟩:=Bg (w:=w) hf E a0 h h1;exact B (s:=Instr.fieldAt t (a.eval y) f) (.stay hi g1 g2) rfl
   .simp at hc
  .simp at hc
 case indexAddr t y i=>
  split at hc
  .rename_i e L;simp only[zac]at hc;obtain⟨sz,E,hc⟩:=hc;simp at hc;obtain⟨rfl,rfl⟩:=hc;obtain⟨x1,U,rfl,h1,h2⟩:=dP (by simpa using hr);obtain⟨k,i',rfl⟩:=Jn h;obtain⟨u,g1,g2⟩:=Bh (w:=w) L E h h1;simp only[aD,dm]at h2;refine B (s:=Instr.indexAt t (a.eval y) (a.eval i)) ?_ rfl;rw[h2];exact .stay hi g1 g2
  .simp at hc
 case index t y i=>
  split at hc
  .rename_i hu;simp at hc;obtain⟨rfl,rfl⟩:=hc;obtain⟨x1,U,rfl,h1,h2⟩:=dP (by simpa using hr);obtain⟨s,k,i',rfl,rfl⟩:=Jo h;obtain⟨u,g1,g2⟩:=Bi (ns:=ns) (G:=G) (w:=w) hu h;simp only[aD,dm,nZ]at h1 h2;refine B (s:=Instr.index t (a.eval y) (a.eval i)) ?_ rfl;rw[h1,h2];exact .stay hi g1 g2
  .simp at hc
 case build t ps=>
  split at hc
  .rename_i fs hu;split at hc
   .rename_i z pl hz hp;simp at hc;obtain⟨rfl,rfl⟩:=hc
    have K:(ps.map fun(i,x)=>(i,a.eval x))=((ps.toList.map (·.1)).zip ((ps.toList.map (·.2)).map a.eval)).toArray:=by
     apply zbQ;rw[zct];exact sN a.eval ps.toList
    refine B (s:=Instr.build t (ps.map fun(i,x)=>(i,a.eval x))) ?_ rfl;rw[K];obtain⟨u,g1,g2⟩:=Bl (w:=w) hz hp hr (by simp) h;exact .stay hi g1 g2
   .simp at hc
  .simp at hc
 case buildSlice t n ps=>
  split at hc
  .rename_i e L;split at hc
   .rename_i sz z E hz;simp only[zab,zag,zaD]at hc;obtain⟨⟨hn,V,h0,hb⟩,M,rfl⟩:=hc;simp at M;subst M
    have K:(ps.map fun(i,x)=>(i,a.eval x))=((List.range' 0 ((ps.toList.map (·.2)).map a.eval).length).zip ((ps.toList.map (·.2)).map a.eval)).toArray:=by
     apply zbQ;rw[zct];exact sM a.eval ps.toList 0 V
    refine B (s:=Instr.buildSlice t n (ps.map fun(i,x)=>(i,a.eval x))) ?_ rfl;rw[K];obtain⟨u,c,g1,g2⟩:=y1 L E hz (by simp[hn]) h0 hb hr hi h;exact⟨u,_,_,g1,g2,hi.uL c e,Gh.t6 hi c,bY.uL hi c e⟩
   .simp at hc
  .simp at hc
 case load t y=>
  split at hc
  .rename_i sz ag E T;split at hc
   .rename_i tx;split at hc
    .simp at hc
    .split at hc
     .simp at hc
     .simp at hc;obtain⟨rfl,rfl⟩:=hc;obtain⟨J,rfl,h1⟩:=cy (by simpa using hr);obtain⟨cs,rfl,h2⟩:=Jp h;simp only[aD]at h1;obtain⟨b,o,vs,e,ha,a1⟩:=h1;refine B (s:=Instr.loadAt t (a.eval (.tmp tx))) ?_ rfl;rw[e];obtain⟨u,g1,g2⟩:=oS (ns:=ns) (w:=w) E T h2 a1 (fun j v hj=>hi.known _ _ _ (ha j v hj));exact .stay hi (by simp[Instr.loadAt,Instr.sureAddr,g1]) g2
   .simp at hc
  .simp at hc
 case nilCheck y=>
  simp at hc;obtain⟨rfl,rfl⟩:=hc;obtain⟨J,rfl,h1⟩:=cy (by simpa using hr);simp only[bG]at h;split at h
  .simp at h;subst h;have I:=h1;simp only[aD]at h1;obtain⟨b,e,hv⟩:=h1;exact⟨a.eval y,w,G,by simp[execOp,hv],I,hi,G.le_refl,bY.refl G w⟩
  .simp at h;subst h;have I:=h1;simp only[aD]at h1;obtain⟨b,e,hv⟩:=h1;exact⟨a.eval y,w,G,by simp[execOp,hv],I,hi,G.le_refl,bY.refl G w⟩
  .simp at h;subst h;have I:=h1;simp only[aD]at h1;obtain⟨b,o,vs,hv,_⟩:=h1;exact⟨a.eval y,w,G,by simp[execOp,hv],I,hi,G.le_refl,bY.refl G w⟩
  .simp at h;subst h;have I:=h1;simp only[aD]at h1;obtain⟨f,vs,_,hv,_⟩:=h1;exact⟨a.eval y,w,G,by simp[execOp,hv],I,hi,G.le_refl,bY.refl G w⟩
  .simp at h
 case makeFunc fn first cap=>
  split at hc
  .rename_i f;split at hc
   .rename_i hf;simp only[zac]at hc;obtain⟨g,hg,hc⟩:=hc;simp at hc;obtain⟨rfl,rfl⟩:=hc;simp[bG]at h;subst h;refine B (s:=Instr.makeFunc (.func f) (first.map a.eval) (cap.map a.eval)) ?_ rfl;have N:first=#[]:=by simpa using hf
    subst N;refine .stay (v:=.func (.func f) #[] (cap.map a.eval)) hi (by simp[Instr.makeFunc]) ?_;simp only[aD];exact⟨f,cap.toList.map a.eval,hg,by congr 1;apply zbQ;simp,hr⟩
   .simp at hc
  .simp at hc
 case slice t y lo S mx=>
  split at hc
  .rename_i e hu;split at hc
   .rename_i X;simp only[zac]at hc;obtain⟨sz,E,hc⟩:=hc;simp only[zaD,AK.v.injEq]at hc;obtain⟨rfl,rfl⟩:=hc;cases vals with
    |nil=>simp[aC]at hr
    |cons Y rest=>
     simp only[zal,aC]at hr;obtain⟨v,r,e1,h1,h2⟩:=hr;simp only[zbH]at e1;obtain⟨rfl,rfl⟩:=e1;simp only[bG]at h;obtain⟨u,g1,g2⟩:=y3 (w:=w) hu E X.1 h2 h1 h;exact B (s:=Instr.sliceAt t (a.eval y) (lo.map a.eval) (S.map a.eval) (mx.map a.eval)) (.stay hi g1 g2) rfl
   .simp only[zac]at hc;obtain⟨sz,E,hc⟩:=hc;simp only[zaD,AK.v.injEq]at hc;obtain⟨rfl,rfl⟩:=hc;cases vals with
    |nil=>simp[aC]at hr
    |cons Y rest=>
     simp only[zal,aC]at hr;obtain⟨v,r,e1,h1,h2⟩:=hr;simp only[zbH]at e1;obtain⟨rfl,rfl⟩:=e1;simp only[bG]at h;obtain⟨u,g1,g2⟩:=Bn (w:=w) hu E h2 h1 h;exact B (s:=Instr.sliceAt t (a.eval y) (lo.map a.eval) (S.map a.eval) (mx.map a.eval)) (.stay hi g1 g2) rfl
  .rename_i hu;split at hc
   .simp at hc
   .rename_i a3;simp only[zag,zaD,AK.v.injEq]at hc;obtain⟨rfl,rfl⟩:=hc;cases vals with
    |nil=>simp[aC]at hr
    |cons Y rest=>
     simp only[zal,aC]at hr;obtain⟨v,r,e1,h1,h2⟩:=hr;simp only[zbH]at e1;obtain⟨rfl,rfl⟩:=e1;simp only[bG]at h;obtain⟨u,g1,g2⟩:=tN (w:=w) hu (by simpa using a3) h2 h1 h;exact B (s:=Instr.sliceAt t (a.eval y) (lo.map a.eval) (S.map a.eval) (mx.map a.eval)) (.stay hi g1 g2) rfl
  .simp at hc
 case call c=>
  obtain⟨callee,F,D⟩:=c;simp only at hc;split at hc
  .-- len
   split at hc
   .rename_i y e C ht;simp only[zag,zaD,AK.v.injEq]at hc;obtain⟨rfl,rfl⟩:=hc;simp only[zaF]at ht;obtain⟨t,R,Q⟩:=ht;obtain⟨J,rfl,h1⟩:=cy (by simpa using hr);have H:F=#[y]:=by apply zbQ;simpa using C
    subst H
    have O:∀base n c,(Builtin.len_ D type #[.slice base n c]).run P w=.ok (goInt n) w:=by
     intro base n c;simp[Builtin.len_,R,zaL Q]
    refine B (s:=Builtin.len_ D type #[a.eval y]) ?_ ?_
    .simp only[bG]at h;split at h
     .simp at h;subst h;simp only[aD]at h1;obtain⟨b,cap,_,hv,_⟩:=h1;rw[hv];exact .stay hi (O _ _ _) dz
     .rename_i Y _;simp only[zac]at h;obtain⟨l,hl,rfl⟩:=h;obtain⟨b,len,cap,hv,_,W,_⟩:=cq.1 (eP hl h1);rw[hv];refine .stay hi (O _ _ _) ?_;rw[W];exact dz
    .simp[execOp,resolve,invoke,builtin]
   .rename_i y C ht;simp only[zag,zaD,AK.v.injEq]at hc;obtain⟨rfl,rfl⟩:=hc;simp only[zaF]at ht;obtain⟨t,R,Q⟩:=ht;obtain⟨J,rfl,h1⟩:=cy (by simpa using hr);have H:F=#[y]:=by apply zbQ;simpa using C
    subst H;obtain⟨s,rfl,rfl⟩:=M9 h;simp only[aD,nZ]at h1;refine B (s:=Builtin.len_ D type #[a.eval y]) ?_ ?_
    .rw[h1];refine .stay (v:=goInt (ByteArray.mk s.toArray).size) hi (by simp[Builtin.len_,R,zaL Q]) ?_;have:(ByteArray.mk s.toArray).size=s.length:=by simp[ByteArray.size]
     rw[this];exact dz
    .simp[execOp,resolve,invoke,builtin]
   .simp at hc
  .split at hc
   .rename_i y z C;simp only[zag,zaD,AK.v.injEq]at hc;obtain⟨rfl,rfl⟩:=hc;have H:F=#[y,z]:=by apply zbQ;simpa using C
    subst H;obtain⟨x1,U,rfl,h1,h2⟩:=dP (by simpa using hr);obtain⟨k,p,q,rfl,rfl,rfl⟩:=Vs h;simp only[aD,dm]at h1 h2;refine B (s:=Builtin.min_ D type #[a.eval y,a.eval z]) ?_ ?_
    .rw[h1,h2];exact .stay hi (by simp[Builtin.min_,Builtin.min2]) dz
    .simp[execOp,resolve,invoke,builtin]
   .simp at hc
  .split at hc
   .rename_i y z C;simp only[zag,zaD,AK.v.injEq]at hc;obtain⟨rfl,rfl⟩:=hc;have H:F=#[y,z]:=by apply zbQ;simpa using C
    subst H;obtain⟨x1,U,rfl,h1,h2⟩:=dP (by simpa using hr);obtain⟨k,p,q,rfl,rfl,rfl⟩:=Vt h;simp only[aD,dm]at h1 h2;refine B (s:=Builtin.max_ D type #[a.eval y,a.eval z]) ?_ ?_
    .rw[h1,h2];exact .stay hi (by simp[Builtin.max_,Builtin.max2]) dz
    .simp[execOp,resolve,invoke,builtin]
   .simp at hc
  .split at hc
   .split at hc
    .split at hc
     .split at hc
      .simp at hc
      .split at hc<;>simp at hc
     .simp at hc
    .simp at hc
   .simp at hc
  .split at hc
   .split at hc
    .split at hc<;>simp at hc
    .simp at hc
   .simp at hc
  .split at hc
   .split at hc<;>simp at hc
   .simp at hc
  .split at hc
   .split at hc
    .rw[zab]at hc;obtain⟨_,hc⟩:=hc;split at hc
     .split at hc
      .simp at hc
      .simp at hc
     .simp at hc
    .split at hc
     .simp at hc
     .split at hc
      .simp at hc
      .split at hc<;>simp at hc
   .simp at hc
  .split at hc<;>simp at hc
  .simp at hc
 case store t y v=>
  split at hc
  .split at hc
   .simp at hc
   .split at hc<;>simp at hc
  .simp at hc
 case alloc t=>
  split at hc
  .split at hc
   .split at hc<;>simp at hc
   .simp at hc
   .simp at hc
  .simp at hc
 case box t y=>
  split at hc
  .split at hc
   .split at hc<;>simp at hc
   .simp at hc
   .split at hc<;>simp at hc
  .simp at hc
 case makeSlice t l c=>
  split at hc
  .split at hc
   .split at hc
    .split at hc
     .split at hc<;>simp at hc
     .simp at hc
     .simp at hc
    .simp at hc
   .simp at hc
  .simp at hc
 case makeMap t r=>split at hc<;>simp at hc
 case lookup t y i ok=>
  split at hc
  .split at hc<;>simp at hc
  .simp at hc
 case mapUpdate t m i y=>
  split at hc<;>simp at hc
 case insert t m i y=>
  split at hc<;>simp at hc
 all_goals simp at hc
end
end Go.Ab
namespace Go.Ab
section
variable {P:Program} {ns:Names} {G:Gh} {w:World}
def bN{α:Type}:∀(l:List (Nat×α))(k:Nat)(v:α),look (dF l k v) k=some v
 |[],k,v=>by simp[dF,look]
 |(k',u)::r,k,v=>by
  simp only[dF];split
  .rename_i h;simp[look,h]
  .rename_i h;simp[look,h,bN r k v]
def bZ{α:Type}:∀(l:List (Nat×α))(k k':Nat)(v:α),k≠k'->look (dF l k v) k'=look l k'
 |[],k,k',v,h=>by simp[dF,look,h]
 |(k0,u)::r,k,k',v,h=>by
  simp only[dF];split
  .rename_i h0;subst h0;simp[look,h]
  .simp only[look];split
   .rfl
   .exact bZ r k k' v h
structure mQ(G:Gh)(w w':World)(b:Nat):Prop where
 size:w'.heap.size=w.heap.size
 other:∀k,k≠b->w'.heap[k]?=w.heap[k]?
 os:w'.os=w.os
 tape:w'.tape=w.tape
 output:w'.output=w.output
def mQ.setRow(b:Nat)(c:Array Value):mQ G w (w.setRow b c) b:=
 ⟨setRow_size _ _ _,fun k h=>setRow_other _ _ _ _ h,rfl,rfl,rfl⟩
def mQ.wQ{w':World}{b:Nat}(h:mQ G w w' b)(c:G.role b≠.fe):bY G w G w' where
 size:=by rw[h.size];exact zas _
 os:=h.os
 tape:=h.tape
 output:=h.output
 K:=G.K.le_refl
 sm:=fun _ _ h=>h
 fe:=fun _ _ hr=>⟨hr,h.other _ (fun e=>c (e ▸ hr))⟩
 jt:=fun _ τ _ hr=>.inr ⟨τ,hr⟩
 iG:=fun _ _ _ _ _ a=>a
def mQ.known{ρ:bX}{mem:List (Nat×List AV)}{sh:Sh}{aa:aF}(hi:Inv ρ G w mem sh aa){w':World}{b:Nat}(h:mQ G w w' b)
   (e:G.role b≠.fe) (c:∀τ,G.role b≠.tok τ):∀b' o v,G.K b' o=some v->w'.cell? ⟨b',o,none⟩=some v:=by
 intro b' o v d
 have a:b'≠b:=by
  rintro rfl
  rcases hi.bm _ _ _ d with h1|⟨τ,h1⟩
  .exact e h1
  .exact c τ h1
 have:=hi.known b' o v d;unfold World.cell? at this⊢;simp only at this⊢;rw[h.other b' a];exact this
def mQ.tok{ρ:bX}{mem:List (Nat×List AV)}{sh:Sh}{aa:aF}(hi:Inv ρ G w mem sh aa){w':World}{b:Nat}(h:mQ G w w' b)
   (d:∀τ,G.role b≠.tok τ):∀τ n,aa[τ]?=some n->∃t,G.tk τ=some t/\t.len=n/\X9 G w' τ t:=by
 intro τ n hn;obtain⟨t,e1,e2,e3⟩:=hi.dV τ n hn;refine⟨t,e1,e2,e3.cap,e3.zero,fun a=>?_⟩;obtain⟨b',o,c,ty,f1,f2,f3,g,f⟩:=e3.spare a;exact⟨b',o,c,ty,f1,f2,by rw[h.other b' (fun e=>d τ (e ▸ f2))];exact f3,g,f⟩
def Inv.Jq{ρ:bX}{mem:List (Nat×List AV)}{sh:Sh}{aa:aF}(hi:Inv ρ G w mem sh aa){d b:Nat}{cells cells':List AV}{c':Array Value}
   (hl:look mem d=some cells) (hp:G.pm d=some b) (hr:aC ρ G cells' c'.toList) (q:cells'.all aY=true):
   Inv ρ G (w.setRow b c') (dF mem d cells') sh aa/\bY G w G (w.setRow b c'):=by
 obtain⟨b0,e1,e2,e3⟩:=hi.di d cells hl;have:b0=b:=by rw[hp]at e1;simpa using e1.symm
 subst this;obtain⟨a,c,t,o,_⟩:=e2;have h:G.role b0≠.fe:=by rw[a];simp
 have j:∀τ,G.role b0≠.tok τ:=by intro τ;rw[a];simp
 have hA:=mQ.setRow (G:=G) (w:=w) b0 c';refine⟨⟨hA.known hi h j,hi.bm,?_,?_,?_,?_,hi.fu,hA.tok hi j,hi.gF,hi.jj (hA.wQ h)⟩,hA.wQ h⟩
 .intro k n;rw[hA.size]at n;exact hi.fresh k n
 .intro l cs e;by_cases f:d=l
  .subst f;rw[bN]at e;simp at e;subst e;exact⟨b0,hp,⟨a,c',t,setRow_heap _ _ _ _ _ _ o,hr⟩,q⟩
  .rw[bZ _ _ _ _ f]at e;obtain⟨b',g1,g2,m⟩:=hi.di l cs e;refine⟨b',g1,⟨g2.role,?_⟩,m⟩;obtain⟨c2,t2,i,g⟩:=g2.at_;refine⟨c2,t2,?_,g⟩;rw[hA.other b']
   .exact i
   .rintro rfl
    have:=g2.role;rw[a]at this;simp at this;exact f this
 .intro l b' e;by_cases f:d=l
  .subst f;rw[bN];rfl
  .rw[bZ _ _ _ _ f];exact hi.iu l b' e
 .intro s cs hs;obtain⟨b',g1,g2,m⟩:=hi.dH s cs hs;refine⟨b',g1,⟨g2.role,?_⟩,m⟩;obtain⟨o2,i,g⟩:=g2.at_;refine⟨o2,?_,g⟩;rw[hA.other b'.1]
  .exact i
  .intro p;have:=g2.role;rw[p,a]at this;simp at this
def Inv.Jr{ρ:bX}{mem:List (Nat×List AV)}{sh:Sh}{aa:aF}(hi:Inv ρ G w mem sh aa){s:Nat}{b:Nat×Nat}{cells cells':List AV}{w':World}{o':Obj}
   (hl:sh[s]?=some (some cells)) (hp:G.sm s=some b) (hA:mQ G w w' b.1) (n:w'.heap[b.1]?=some o') (hr:Holds ρ G o' b.2 cells') (o:cells'.all da=true) (hf:cells'.all (aJ (s+1))=true):
   Inv ρ G w' mem (sh.set s (some cells')) aa/\bY G w G w':=by
 obtain⟨b0,e1,e2,e3⟩:=hi.dH s cells hl;have:b0=b:=by rw[hp]at e1;simpa using e1.symm
 subst this;have a:=e2.role;have d:G.role b0.1≠.fe:=by rw[a];simp
 have f:∀τ,G.role b0.1≠.tok τ:=by intro τ;rw[a];simp
 refine⟨⟨hA.known hi d f,hi.bm,?_,?_,hi.iu,?_,?_,hA.tok hi f,hi.gF,hi.jj (hA.wQ d)⟩,hA.wQ d⟩
 .intro k m;rw[hA.size]at m;exact hi.fresh k m
 .intro p cs j;obtain⟨b',g1,g2,l⟩:=hi.di p cs j;refine⟨b',g1,⟨g2.role,?_⟩,l⟩;obtain⟨c2,t2,e,c⟩:=g2.at_;refine⟨c2,t2,?_,c⟩;rw[hA.other b']
  .exact e
  .rintro rfl
   have:=g2.role;rw[a]at this;simp at this
 .intro s' cs hs;rw[zaA]at hs;split at hs
  .rename_i i;subst i;split at hs
   .simp at hs;subst hs;exact⟨b0,hp,⟨a,o',n,hr⟩,o,hf⟩
   .simp at hs
  .rename_i g;obtain⟨b',g1,g2,l⟩:=hi.dH s' cs hs;refine⟨b',g1,⟨g2.role,?_⟩,l⟩;obtain⟨o2,e,c⟩:=g2.at_;refine⟨o2,?_,c⟩;rw[hA.other b'.1]
   .exact e
   .intro i;have:=g2.role;rw[i,a]at this;simp at this;exact g this
 .intro s' b' h;simpa using hi.fu s' b' h
def Inv.qf{ρ:bX}{mem:List (Nat×List AV)}{sh:Sh}{aa:aF}(hi:Inv ρ G w mem sh aa){s:Nat}{b:Nat×Nat}{cells cells':List AV}{c c':Array Value}{t:TypeId}{vs suf:List Value}
   (hl:sh[s]?=some (some cells)) (hp:G.sm s=some b) (e:w.heap[b.1]?=some (.cells c t (0,0))) (a:c'.size=b.2) (d:c'.toList=vs++suf) (hr:aC ρ G cells' vs) (f:cells'.all da=true) (hf:cells'.all (aJ (s+1))=true):
   Inv ρ G (w.setRow b.1 c') mem (sh.set s (some cells')) aa/\bY G w G (w.setRow b.1 c'):=
 hi.Jr hl hp (mQ.setRow b.1 c') (setRow_heap _ _ _ _ _ _ e) (.inl ⟨c',t,vs,suf,rfl,a,d,hr⟩) f hf
def Gh.dq(G:Gh)(d b:Nat):Gh:={G with role:=fun k=>if k=b then .mW d else G.role k,pm:=fun k=>if k=d then some b else G.pm k}
def Gh.dI(G:Gh)(s b n:Nat):Gh:={G with role:=fun k=>if k=b then .shr s else G.role k,sm:=fun k=>if k=s then some (b,n)else G.sm k}
theorem Inv.rz{ρ:bX}{mem:List (Nat×List AV)}{sh:Sh}{aa:aF}(hi:Inv ρ G w mem sh aa){d:Nat}{cells:List AV}{c:Array Value}(t:TypeId)
   (hl:look mem d=none) (hr:aC ρ G cells c.toList) (m:cells.all aY=true):
   Inv ρ (G.dq d w.heap.size) (w.alloc (.cells c t)) (dF mem d cells) sh aa/\G.le (G.dq d w.heap.size)/\bY G w (G.dq d w.heap.size) (w.alloc (.cells c t)):=by
 have q:G.pm d=none:=by
  cases h:G.pm d with
  |none=>rfl
  |some b=>have:=hi.iu d b h;rw[hl]at this;simp at this
 have i:G.le (G.dq d w.heap.size):=⟨G.K.le_refl,fun k b h=>by
  simp only[Gh.dq];split
  .rename_i e;subst e;rw[q]at h;simp at h
  .exact h,fun _ _ h=>h,fun _ t h=>⟨t,h,⟨zas _,t.iP⟩,fun _=>rfl⟩⟩
 have j:bY G w (G.dq d w.heap.size) (w.alloc (.cells c t)):={
           size:=by simp,os:=rfl,tape:=rfl,output:=rfl,K:=G.K.le_refl,sm:=fun _ _ h=>h,
           fe:=fun b m hr=>⟨by simp only[Gh.dq];rw[zai (by omega)];exact hr,bz m⟩
           jt:=fun b τ m hr=>.inr ⟨τ,by simp only[Gh.dq];rw[zai (by omega)];exact hr⟩
           iG:=fun _ _ _ _ _ l=>l}
 refine⟨⟨?_,?_,?_,?_,?_,?_,hi.fu,?_,hi.gF,hi.jj j⟩,i,j⟩
 .intro b o v l;have f:b<w.heap.size:=hi.jQ (o:=o) (v:=v) l;rw[zcR _ _ ⟨b,o,none⟩ f];exact hi.known b o v l
 .intro b o v l;have:=hi.jQ (o:=o) (v:=v) l;simp only[Gh.dq];rw[zai (by omega)];exact hi.bm b o v l
 .intro b r;simp at r;simp only[Gh.dq];rw[zai (by omega)];exact hi.fresh b (by omega)
 .intro p cs a;by_cases g:d=p
  .subst g;rw[bN]at a;simp at a;subst a;exact⟨w.heap.size,by simp[Gh.dq],⟨by simp[Gh.dq],c,t,heap_alloc_new,aC.mono i hr⟩,m⟩
  .rw[bZ _ _ _ _ g]at a;obtain⟨b',g1,g2,u⟩:=hi.di p cs a;have f:b'<w.heap.size:=by obtain⟨_,_,x,_⟩:=g2.at_;exact db x
   exact⟨b',by simp only[Gh.dq];rw[zai (zb4 g)];exact g1,g2.mono i (by simp only[Gh.dq];rw[zai (by omega)]) (bz f),u⟩
 .intro p b' a;by_cases g:d=p
  .subst g;rw[bN];rfl
  .rw[bZ _ _ _ _ g];simp only[Gh.dq]at a;rw[zai (zb4 g)]at a;exact hi.iu p b' a
 .intro s cs hs;obtain⟨b',g1,g2,u⟩:=hi.dH s cs hs;have f:b'.1<w.heap.size:=g2.lt;exact⟨b',g1,g2.mono i (by simp only[Gh.dq];rw[zai (by omega)]) (bz f),u⟩
 .intro τ n hn;obtain⟨tk,e1,e2,e3⟩:=hi.dV τ n hn;refine⟨tk,e1,e2,e3.cap,e3.zero,fun f=>?_⟩;obtain⟨b,o,A,ty,f1,f2,f3,z,y⟩:=e3.spare f;have m:=db f3;exact⟨b,o,A,ty,f1,by simp only[Gh.dq];rw[zai (by omega)];exact f2,(bz m).trans f3,z,y⟩
theorem Inv.Er{ρ:bX}{mem:List (Nat×List AV)}{sh:Sh}{aa:aF}(hi:Inv ρ G w mem sh aa){cells:List AV}{o':Obj}{N:Nat}
   (hr:Holds ρ G o' N cells) (g:cells.all da=true) (hf:cells.all (aJ (sh.length+1))=true):
   Inv ρ (G.dI sh.length w.heap.size N) (w.alloc o') mem (sh++[some cells]) aa/\G.le (G.dI sh.length w.heap.size N)/\bY G w (G.dI sh.length w.heap.size N) (w.alloc o'):=by
 have i:G.sm sh.length=none:=by
  cases h:G.sm sh.length with
  |none=>rfl
  |some b=>have:=hi.fu _ b h;omega
 have c:G.le (G.dI sh.length w.heap.size N):=⟨G.K.le_refl,fun _ _ h=>h,fun k b h=>by
  simp only[Gh.dI];split
  .rename_i e;subst e;rw[i]at h;simp at h
  .exact h,fun _ t h=>⟨t,h,⟨zas _,t.iP⟩,fun _=>rfl⟩⟩
 have d:bY G w (G.dI sh.length w.heap.size N) (w.alloc o'):={
           size:=by simp,os:=rfl,tape:=rfl,output:=rfl,K:=G.K.le_refl,sm:=c.sm,
           fe:=fun b g hr=>⟨by simp only[Gh.dI];rw[zai (by omega)];exact hr,bz g⟩
           jt:=fun b τ g hr=>.inr ⟨τ,by simp only[Gh.dI];rw[zai (by omega)];exact hr⟩
           iG:=fun _ _ _ _ _ f=>f}
 refine⟨⟨?_,?_,?_,?_,hi.iu,?_,?_,?_,hi.gF,hi.jj d⟩,c,d⟩
 .intro b o v f;have a:b<w.heap.size:=hi.jQ (o:=o) (v:=v) f;rw[zcR _ _ ⟨b,o,none⟩ a];exact hi.known b o v f
 .intro b o v f;have:=hi.jQ (o:=o) (v:=v) f;simp only[Gh.dI];rw[zai (by omega)];exact hi.bm b o v f
 .intro b m;simp at m;simp only[Gh.dI];rw[zai (by omega)];exact hi.fresh b (by omega)
 .intro y cs l;obtain⟨b',g1,g2,p⟩:=hi.di y cs l;have a:b'<w.heap.size:=by obtain⟨_,_,q,_⟩:=g2.at_;exact db q
  exact⟨b',g1,g2.mono c (by simp only[Gh.dI];rw[zai (by omega)]) (bz a),p⟩
 .intro s cs hs;rw[zbn]at hs;split at hs
  .obtain⟨b',g1,g2,p⟩:=hi.dH s cs hs;have a:b'.1<w.heap.size:=g2.lt;exact⟨b',c.sm _ _ g1,g2.mono c (by simp only[Gh.dI];rw[zai (by omega)]) (bz a),p⟩
  .rename_i r
   have j:s=sh.length:=by
    rcases zcd (s-sh.length) 1 with h|h
    .omega
    .rw[za4 (by simpa using h)]at hs;simp at hs
   subst j;simp at hs;subst hs;exact⟨(w.heap.size,N),by simp[Gh.dI],⟨by simp[Gh.dI],o',heap_alloc_new,hr.mono c⟩,g,hf⟩
 .intro s b h;simp only[Gh.dI]at h;split at h
  .rename_i e;subst e;simp
  .have:=hi.fu s b h;simp;omega
 .intro τ n hn;obtain⟨tk,e1,e2,e3⟩:=hi.dV τ n hn;refine⟨tk,e1,e2,e3.cap,e3.zero,fun a=>?_⟩;obtain⟨b,o,z,ty,f1,f2,f3,x,u⟩:=e3.spare a;have g:=db f3;exact⟨b,o,z,ty,f1,by simp only[Gh.dI];rw[zai (by omega)];exact f2,(bz g).trans f3,x,u⟩
def Inv.uO{ρ:bX}{mem:List (Nat×List AV)}{sh:Sh}{aa:aF}(hi:Inv ρ G w mem sh aa){cells:List AV}{c:Array Value}(t:TypeId)
   (hr:aC ρ G cells c.toList) (a:cells.all da=true) (hf:cells.all (aJ (sh.length+1))=true):
   Inv ρ (G.dI sh.length w.heap.size c.size) (w.alloc (.cells c t)) mem (sh++[some cells]) aa/\G.le (G.dI sh.length w.heap.size c.size)/\bY G w (G.dI sh.length w.heap.size c.size) (w.alloc (.cells c t)):=
 hi.Er (Holds.full hr) a hf
end
end Go.Ab
namespace Go.Ab
section
variable {P:Program} {ns:Names} {G:Gh} {w:World}
structure ph(G:Gh)(aa toks':aF)(τ n:Nat):Prop where
 at_:toks'[τ]?=some n
 other:∀σ,σ≠τ->toks'[σ]?=aa[σ]?
 aH:∀t,G.tk τ=some t->t.len<n
def Gh.bE(G:Gh)(τ:Nat)(t:Tk)(role:Nat->pc)(K:bt):Gh:=
 {G with K,role,tk:=fun σ=>if σ=τ then some t else G.tk σ}
def Gh.rB{τ:Nat}{t:Tk}{role:Nat->pc}{K:bt}(hK:G.K.le K)(c:∀a,G.tk τ=some a->(a.len<=t.len/\a.on t)/\(a.len=t.len->t=a)):G.le (G.bE τ t role K) where
 K:=hK
 pm:=fun _ _ h=>h
 sm:=fun _ _ h=>h
 tk:=fun σ a h=>by
  simp only[Gh.bE];by_cases b:σ=τ
  .subst b;simp only[zbc];obtain⟨h1,h2⟩:=c a h;exact⟨t,rfl,h1,h2⟩
  .rw[zai b];exact⟨a,h,⟨zas _,Tk.iP _⟩,fun _=>rfl⟩
def ff(G:Gh)(b τ:Nat):Nat->pc:=fun k=>if k=b then .tok τ else if G.role k=.tok τ then .fe else G.role k
def jR(G:Gh)(b m:Nat)(c:Array Value):bt:=fun k o=>if k=b then(if o<m then c[o]? else none)else G.K k o
def Inv.grow{ρ:bX}{mem:List (Nat×List AV)}{sh:Sh}{aa toks':aF}(hi:Inv ρ G w mem sh aa){τ:Nat}{t:Tk}{c:Array Value}(ty:TypeId)
   (q:t.base=some ⟨w.heap.size,0,none⟩) (hc:t.cap*t.sz<=c.size) (hl:t.len<=t.cap) (h0:0<t.len) (hu:ph G aa toks' τ t.len) (y:∀i,G.tk τ=some i->¬i.dead/\i.cap<t.len):
   Inv ρ (G.bE τ t (ff G w.heap.size τ) (jR G w.heap.size (t.len*t.sz) c)) (w.alloc (.cells c ty)) mem sh toks' /\
   G.le (G.bE τ t (ff G w.heap.size τ) (jR G w.heap.size (t.len*t.sz) c))/\
   bY G w (G.bE τ t (ff G w.heap.size τ) (jR G w.heap.size (t.len*t.sz) c)) (w.alloc (.cells c ty)):=by
 have hK:G.K.le (jR G w.heap.size (t.len*t.sz) c):=fun b o v a=>by
  have:=hi.jQ a;simp only[jR];rw[zai (by omega)];exact a
 have m:G.le (G.bE τ t (ff G w.heap.size τ) (jR G w.heap.size (t.len*t.sz) c)):=
   Gh.rB hK fun i h=>by have:=hu.aH i h;exact⟨⟨by omega,fun d=>absurd d (y i h).1,.inr (.inl (y i h).2)⟩,by omega⟩
 have g:∀b r,b<w.heap.size->G.role b=r->(∀σ,r≠.tok σ)->ff G w.heap.size τ b=r:=by
  intro b r q hr hn;simp only[ff];rw[zai (by omega),zai (by rw[hr];exact hn τ),hr]
 have l:bY G w (G.bE τ t (ff G w.heap.size τ) (jR G w.heap.size (t.len*t.sz) c)) (w.alloc (.cells c ty)):={
           size:=by simp,os:=rfl,tape:=rfl,output:=rfl,K:=hK,sm:=fun _ _ h=>h,
           fe:=fun b q hr=>⟨g b _ q hr (by simp),bz q⟩
           jt:=fun b σ q hr=>by
            simp only[Gh.bE,ff];rw[zai (by omega)];split
            .exact .inl rfl
            .exact .inr ⟨σ,hr⟩
           iG:=fun b o v q _ a=>by
            simp only[Gh.bE,jR]at a
            rwa [zai (by omega)]at a}
 refine⟨⟨?_,?_,?_,?_,hi.iu,?_,hi.fu,?_,?_,hi.jj l⟩,m,l⟩
 .intro b o v a;simp only[Gh.bE,jR]at a;split at a
  .rename_i e;subst e;split at a
   .simp[a]
   .simp at a
  .have f:b<w.heap.size:=hi.jQ (o:=o) (v:=v) a;rw[zcR _ _ ⟨b,o,none⟩ f];exact hi.known b o v a
 .intro b o v a;simp only[Gh.bE,jR]at a;simp only[Gh.bE,ff];split at a
  .rename_i e;subst e;exact .inr ⟨τ,by simp⟩
  .rename_i e;rw[zai e];split
   .exact .inl rfl
   .exact hi.bm b o v a
 .intro b p;simp at p;simp only[Gh.bE,ff];rw[zai (by omega)];have:=hi.fresh b (by omega);rw[this];simp
 .intro d cs hd;obtain⟨b',g1,g2,x⟩:=hi.di d cs hd;have f:b'<w.heap.size:=by obtain⟨_,_,z,_⟩:=g2.at_;exact db z
  exact⟨b',g1,g2.mono m ((g b' _ f g2.role (by simp)).trans g2.role.symm) (bz f),x⟩
 .intro s cs hs;obtain⟨b',g1,g2,x⟩:=hi.dH s cs hs;have f:b'.1<w.heap.size:=g2.lt;exact⟨b',g1,g2.mono m ((g b'.1 _ f g2.role (by simp)).trans g2.role.symm) (bz f),x⟩
 .intro σ n hn;by_cases k:σ=τ
  .subst k;rw[hu.at_]at hn;simp at hn;refine⟨t,by simp[Gh.bE],hn,hl,fun h=>by omega,fun f=>⟨w.heap.size,0,c,ty,q,by simp[Gh.bE,ff],heap_alloc_new,by omega,fun j v a=>?_⟩⟩;simp only[Gh.bE,jR,zbc]at a;split at a
   .omega
   .simp at a
  .rw[hu.other σ k]at hn;obtain⟨i,e1,e2,e3⟩:=hi.dV σ n hn;refine⟨i,by simp only[Gh.bE];rw[zai k];exact e1,e2,e3.cap,e3.zero,fun f=>?_⟩;obtain⟨b',o,C,u,f1,f2,f3,B,A⟩:=e3.spare f;have p:=db f3;refine⟨b',o,C,u,f1,?_,(bz p).trans f3,B,fun j v a=>A j v ?_⟩
   .simp only[Gh.bE,ff];rw[zai (by omega),zai (by rw[f2];simp;exact k)];exact f2
   .simp only[Gh.bE,jR]at a
    rwa [zai (by omega)]at a
 .intro σ i h;simp only[Gh.bE]at h;split at h
  .rename_i e;subst e;simp at h;subst h;exact hu.at_
  .rename_i e;rw[hu.other σ e];exact hi.gF σ i h
def Inv.Q_{ρ:bX}{mem:List (Nat×List AV)}{sh:Sh}{aa toks':aF}(hi:Inv ρ G w mem sh aa){τ:Nat}{t:Tk}
   (hl:t.cap=t.len) (i:t.own=false) (hn:G.tk τ=none) (h1:toks'[τ]?=some t.len) (h2:∀σ,σ≠τ->toks'[σ]?=aa[σ]?):
   Inv ρ (G.bE τ t G.role G.K) w mem sh toks'/\G.le (G.bE τ t G.role G.K)/\bY G w (G.bE τ t G.role G.K) w:=by
 have g:G.le (G.bE τ t G.role G.K):=Gh.rB G.K.le_refl fun j h=>by rw[hn]at h;simp at h
 have c:bY G w (G.bE τ t G.role G.K) w:={
           size:=zas _,os:=rfl,tape:=rfl,output:=rfl,K:=G.K.le_refl,sm:=fun _ _ h=>h,
           fe:=fun b m hr=>⟨hr,rfl⟩,jt:=fun b σ m hr=>.inr ⟨σ,hr⟩,iG:=fun _ _ _ _ _ l=>l}
 refine⟨⟨hi.known,hi.bm,hi.fresh,?_,hi.iu,?_,hi.fu,?_,?_,hi.jj c⟩,g,c⟩
 .intro d cs hd;obtain⟨b',g1,g2,k⟩:=hi.di d cs hd;exact⟨b',g1,g2.mono g rfl rfl,k⟩
 .intro d cs hd;obtain⟨b',g1,g2,k⟩:=hi.dH d cs hd;exact⟨b',g1,g2.mono g rfl rfl,k⟩
 .intro σ n a;by_cases f:σ=τ
  .subst f;rw[h1]at a;simp at a;exact⟨t,by simp[Gh.bE],a,by omega,fun _=>by omega,fun h=>h.elim (fun h=>by omega) (fun h=>by rw[i]at h;cases h)⟩
  .rw[h2 σ f]at a;obtain⟨j,e1,e2,e3⟩:=hi.dV σ n a;exact⟨j,by simp only[Gh.bE];rw[zai f];exact e1,e2,e3.cap,e3.zero,e3.spare⟩
 .intro σ j h;simp only[Gh.bE]at h;split at h
  .rename_i e;subst e;simp at h;subst h;exact h1
  .rename_i e;rw[h2 σ e];exact hi.gF σ j h
def jS(G:Gh)(b o:Nat)(l:List Value):bt:=fun k j=>if k=b/\o<=j/\j<o+l.length then l[j-o]? else G.K k j
def Inv.fill{ρ:bX}{mem:List (Nat×List AV)}{sh:Sh}{aa toks':aF}(hi:Inv ρ G w mem sh aa){τ b o n:Nat}{t:Tk}{c c':Array Value}{ty:TypeId}{l:List Value}
   (ht:G.tk τ=some t) (N:t.base=some ⟨b,o,none⟩) (a:G.role b=.tok τ) (M:w.heap[b]?=some (.cells c ty (0,0))) (D:o+t.cap*t.sz<=c.size)
   (i:∀j v,G.K b j=some v->j<o+t.len*t.sz) (hl:l.length=n*t.sz) (hn:0<n) (s:t.len+n<=t.cap)
   (y:c'=(c.toList.take (o+t.len*t.sz)++l++c.toList.drop (o+t.len*t.sz+l.length)).toArray) (hu:ph G aa toks' τ (t.len+n)):
   Inv ρ (G.bE τ {t with len:=t.len+n,own:=true} G.role (jS G b (o+t.len*t.sz) l)) (w.setRow b c') mem sh toks' /\
   G.le (G.bE τ {t with len:=t.len+n,own:=true} G.role (jS G b (o+t.len*t.sz) l))/\
   bY G w (G.bE τ {t with len:=t.len+n,own:=true} G.role (jS G b (o+t.len*t.sz) l)) (w.setRow b c'):=by
 have z:G.role b≠.fe:=by rw[a];simp
 have r:(t.len+n)*t.sz=t.len*t.sz+n*t.sz:=zaI _ _ _;have J:(t.len+n)*t.sz<=t.cap*t.sz:=zaZ _ s
 have I:c'.size=c.size:=by
  subst y;simp;omega
 have hK:G.K.le (jS G b (o+t.len*t.sz) l):=fun k j v f=>by
  simp only[jS];rw[zai]
  .exact f
  .rintro⟨rfl,h1,_⟩
   have:=i j v f;omega
 have x:G.le (G.bE τ {t with len:=t.len+n,own:=true} G.role (jS G b (o+t.len*t.sz) l)):=
   Gh.rB hK fun F h=>by rw[ht]at h;simp at h;subst h;exact⟨⟨by simp,fun d=>(by rw[Tk.dead,N]at d;simp at d),.inr (.inr ⟨rfl,rfl,.inr rfl⟩)⟩,by simp;omega⟩
 have hA:=mQ.setRow (G:=G) (w:=w) b c';have p:(w.setRow b c').heap[b]?=some (.cells c' ty (0,0)):=setRow_heap _ _ _ _ _ _ M
 have u:bY G w (G.bE τ {t with len:=t.len+n,own:=true} G.role (jS G b (o+t.len*t.sz) l)) (w.setRow b c'):={
           size:=by rw[hA.size];exact zas _,os:=rfl,tape:=rfl,output:=rfl,K:=hK,sm:=fun _ _ h=>h,
           fe:=fun k f hr=>⟨hr,hA.other k (fun e=>z (e ▸ hr))⟩
           jt:=fun k σ f hr=>.inr ⟨σ,hr⟩
           iG:=fun k j v f hr B=>by
            simp only[Gh.bE,jS]at B
            rwa [zai (by rintro⟨e,_⟩;subst e;exact z hr)]at B}
 refine⟨⟨?_,?_,?_,?_,hi.iu,?_,hi.fu,?_,?_,hi.jj u⟩,x,u⟩
 .intro k j v f;simp only[Gh.bE,jS]at f;split at f
  .rename_i e;obtain⟨rfl,e1,e2⟩:=e;simp only[World.cell?,p];subst y;simp only[zbP,za6,zbI,List.getElem?_toArray];rw[zar (by simp;omega),zaB (by simp;omega)];have:(c.toList.take (o+t.len*t.sz)).length=o+t.len*t.sz:=by simp;omega
   rw[this];exact f
  .rename_i e;by_cases C:k=b
   .subst C;have hj:=i j v f;have g:=hi.known k j v f;simp only[World.cell?,M,zbP,za6,zbI]at g;simp only[World.cell?,p];subst y;simp only[zbP,za6,zbI,List.getElem?_toArray];rw[zar (by simp;omega),zar (by simp;omega),zb7,zan hj];simpa using g
   .have g:=hi.known k j v f;unfold World.cell? at g⊢;simp only at g⊢;rw[hA.other k C];exact g
 .intro k j v f;simp only[Gh.bE,jS]at f;split at f
  .rename_i e;obtain⟨rfl,_⟩:=e;exact .inr ⟨τ,a⟩
  .exact hi.bm k j v f
 .intro k f;rw[hA.size]at f;exact hi.fresh k f
 .intro d cs hd;obtain⟨b',g1,g2,L⟩:=hi.di d cs hd;refine⟨b',g1,g2.mono x rfl (hA.other b' ?_),L⟩
  rintro rfl
  have:=g2.role;rw[a]at this;simp at this
 .intro d cs hd;obtain⟨b',g1,g2,L⟩:=hi.dH d cs hd;refine⟨b',g1,g2.mono x rfl (hA.other b'.1 ?_),L⟩;intro O;have:=g2.role;rw[O,a]at this;simp at this
 .intro σ m hm;by_cases q:σ=τ
  .subst q;rw[hu.at_]at hm;simp at hm;refine⟨{t with len:=t.len+n,own:=true},by simp[Gh.bE],hm,s,fun h=>by simp at h;omega,fun A=>⟨b,o,c',ty,N,a,p,by rw[I];exact D,fun j v f=>?_⟩⟩;simp only[Gh.bE,jS]at f;show j<o+(t.len+n)*t.sz;split at f
   .rename_i e;rw[r];omega
   .have:=i j v f;rw[r];omega
  .rw[hu.other σ q]at hm;obtain⟨F,e1,e2,e3⟩:=hi.dV σ m hm;refine⟨F,by simp only[Gh.bE];rw[zai q];exact e1,e2,e3.cap,e3.zero,fun A=>?_⟩;obtain⟨b',o',R,H,f1,f2,f3,Q,P⟩:=e3.spare A;have E:b'≠b:=by rintro rfl;rw[a]at f2;simp at f2;exact q f2.symm
   refine⟨b',o',R,H,f1,f2,(hA.other b' E).trans f3,Q,fun j v f=>P j v ?_⟩;simp only[Gh.bE,jS]at f
   rwa [zai (by rintro⟨e,_⟩;exact E e)]at f
 .intro σ F h;simp only[Gh.bE]at h;split at h
  .rename_i e;subst e;simp at h;subst h;exact hu.at_
  .rename_i e;rw[hu.other σ e];exact hi.gF σ F h
end
end Go.Ab
namespace Go.Ab
section
variable {P:Program} {ns:Names} {G:Gh} {w:World}
def xu(n:Nat):∀(r c:Nat),c<=2*n->256<=c->Builtin.growBy n r c<=2*n
 |0,c,h,_=>h
 |r+1,c,h,h2=>by
  simp only[Builtin.growBy];split
  .exact h
  .exact xu n r _ (by omega) (by omega)
def nextslicecap_le(n c:Nat)(h:c<n):Builtin.nextslicecap n c<=2*n:=by
 unfold Builtin.nextslicecap;split
 .omega
 .split
  .omega
  .exact xu n 4 c (by omega) (by omega)
def jT{els:List PV}{v:Value}{sz n:Nat}(i:∀b o u,G.K b o=some u->w.cell? ⟨b,o,none⟩=some u)(hr:Rel G.K (.aq els) v)(hs:bl sz els=true)(hn:els.length=n):
   ∃c:List Value,(Builtin.firstCells sz n v).run P w=.ok c.toArray w/\c.length=n*sz /\
     (∀(K':bt)(b' o':Nat),G.K.le K'->At K' b' o' c->Row K' b' o' sz els)/\(∀u∈c,u.oneCell'=true):=by
 obtain⟨base,len,cap,rfl,_,g,f⟩:=cq.1 hr;by_cases d:els=[]
 .subst d;simp at hn;subst hn;refine⟨[],?_,by simp,fun _ _ _ _ _=>by simp only[Row],by simp⟩;cases base with
  |none=>simp[Builtin.firstCells]
  |some a=>simp[Builtin.firstCells,loadCells,loadCellsFrom]
 .obtain⟨b,o,h,rfl,e⟩:=f.resolve_left d;have:=e.sz hs d;subst this;obtain⟨c,g1,g2,k,g4⟩:=e.flat;refine⟨c,?_,by rw[g1,hn],k,g4⟩;have hl:=zbT (P:=P) w ⟨b,o,none⟩ c (fun j u hj=>by rw[Addr.eO];exact i _ _ _ (g2 j u hj));rw[g1,hn]at hl;simpa[Builtin.firstCells]using hl
def fY{argTypes:Array TypeId}{type t e e1 t1 sz:Nat}{base:Option Addr}{len cap n:Nat}{x:Value}{new:Array Value}{xb:Option Addr}{xc:Nat}(h0:argTypes[0]?=some t)(h1:argTypes[1]?=some t1)
   (hu:P.underlying t=some (.slice e)) (d:P.underlying t1=some (.slice e1)) (f:cT P e=some sz) (hx:x=.slice xb n xc)
   (b:(Builtin.firstCells sz n x).run P w=.ok new w) (c:len+n<=cap):
   (Builtin.append_ argTypes type #[.slice base len cap,x]).run P w =
     match base with
     |some a=>((storeCells (a.add (len*sz)) new.toList).run P w).andThen fun _ w'=>.ok (.slice base (len+n) cap) w'
     |none=>.ok (.slice base (len+n) cap) w:=by
 subst hx;cases base with
 |none=>simp[Builtin.append_,h0,h1,zaL hu,zaL d,dy f,Builtin.lenOf,c,b]
 |some a=>simp[Builtin.append_,h0,h1,zaL hu,zaL d,dy f,Builtin.lenOf,c,b]
def l9{argTypes:Array TypeId}{type t e e1 t1 sz b:Nat}{base:Option Addr}{len cap n:Nat}{x:Value}{aH new:Array Value}{xb:Option Addr}{xc:Nat}{z:List PV}(h0:argTypes[0]?=some t)(h1:argTypes[1]?=some t1)
   (hu:P.underlying t=some (.slice e)) (m:P.underlying t1=some (.slice e1)) (o:cT P e=some sz) (v:fE P e=some b) (hz:cK P e=some z) (A:z.length=sz) (hx:x=.slice xb n xc)
   (d:∀w',w'=w.drew->(Builtin.firstCells sz len (.slice base len cap)).run P w'=.ok aH w') (f:∀w',w'=w.drew->(Builtin.firstCells sz n x).run P w'=.ok new w')
   (c:cap<len+n) (C:0<b) (h:(len+n)*b<=140737488355328):
   ∃(rest:Array Value)(a:Nat),len+n<=a/\rest.size=(a-(len+n))*sz /\
     (Builtin.append_ argTypes type #[.slice base len cap,x]).run P w =
       .ok (.slice (some ⟨w.heap.size,0,none⟩) (len+n) a) (w.drew.alloc (.cells (aH++new++rest) e)):=by
 subst hx;obtain⟨i,hi,s,q⟩:=nh v w
 have g:¬Builtin.nextslicecap (len+n) cap*i.bytes > 2 ^ 48:=by
  have h1:=nextslicecap_le (len+n) cap c;have h2:Builtin.nextslicecap (len+n) cap*i.bytes<=2*(len+n)*i.bytes:=zaZ _ h1;have h3:2*(len+n)*i.bytes=2*((len+n)*b):=(by rw[s,Nat.mul_assoc]);rw[h3]at h2;have:(2:Nat)^48=281474976710656:=(by decide);omega
 have p:(Question.appendCap (len+n) cap e).forced=false:=rfl;have r:∀w',(typeInfo e).run P w'=.ok i w':=fun w'=>by simp[typeInfo,hi]
 obtain⟨y,j,l⟩:=gX (P:=P) (w:=w.drew) hz;have k:y.cells.size=sz:=by have:=gW l;simp at this;omega
 refine⟨Builtin.zeroCells y.cells ((Question.appendCap (len+n) cap e).cut (w.tape w.drawn (.appendCap (len+n) cap e))-(len+n)),(Question.appendCap (len+n) cap e).cut (w.tape w.drawn (.appendCap (len+n) cap e)),?_,?_,?_⟩
 .simp only[Question.cut];omega
 .simp[Builtin.zeroCells,k]
 .have B:=d w.drew rfl;have hn:=f w.drew rfl;have u:i.bytes≠0:=(by omega);simp[Builtin.append_,h0,h1,zaL hu,zaL m,dy o,Builtin.lenOf,Nat.not_le.2 c,r,u,g,p];simp only[B,hn,j,zam];rfl
def kN{x:AV}{v:Value}{els:List PV}(h:cG x=some els)(hr:aD (num ns) G x v):∃xb xc,v=.slice xb els.length xc:=by
 obtain⟨b,l,c,rfl,_,hl,_⟩:=cq.1 (eP h hr);exact⟨b,c,by rw[hl]⟩
def Es{c:Call}{A:lG}{dst:Option Nat}{args:List Operand}{sz b:Nat}(h:bR P ns A dst (.call c)=some (.append sz b,args)):
   ∃x y t e t1 e1 z,c.callee=.builtin .append/\c.args=#[x,y]/\args=[x,y]/\c.argTypes[0]?=some t/\c.argTypes[1]?=some t1/\P.underlying t=some (.slice e)/\
     P.underlying t1=some (.slice e1)/\cT P e=some sz/\fE P e=some b/\cK P e=some z/\z.length=sz/\0<sz/\0<b:=by
 obtain⟨callee,i,f⟩:=c;simp only[bR]at h;split at h
 .split at h<;>simp at h
 .split at h<;>simp at h
 .split at h<;>simp at h
 .rename_i j;split at h
  .rename_i x y e e1 m ht a;split at h
   .rename_i k n z hs l hz;rw[zab]at h;obtain⟨⟨h1,h2,h3⟩,h⟩:=h;split at h
    .simp at h
    split at h
    .simp at h
    simp only[zag,zaD,AK.append.injEq]at h;obtain⟨⟨rfl,rfl⟩,rfl⟩:=h;simp only[zaF]at ht a;obtain⟨t,ht,g⟩:=ht;obtain⟨t1,a,d⟩:=a;exact⟨x,y,t,e,t1,e1,z,rfl,by apply zbQ;simpa using m,rfl,ht,a,dW g,dW d,hs,l,hz,h1,h2,h3⟩
   .simp at h
  .simp at h
 .split at h
  .split at h
   .split at h<;>simp at h
   .simp at h
  .simp at h
 .split at h
  .split at h<;>simp at h
  .simp at h
 .split at h
  .split at h
   ·(repeat' (split at h))<;>simp at h
   .split at h
    .simp at h
    .split at h
     .simp at h
     .split at h<;>simp at h
  .simp at h
 .split at h<;>simp at h
 .simp at h
def Bq{c:Call}{A:lG}{dst:Option Nat}{args:List Operand}{sz b:Nat}{ag:Bool}(h:bR P ns A dst (.call c)=some (.dk sz b ag,args)):
   ∃x y t e t1 e1 z,c.callee=.builtin .append/\c.args=#[x,y]/\args=[x,y]/\c.argTypes[0]?=some t/\c.argTypes[1]?=some t1/\P.underlying t=some (.slice e)/\
     P.underlying t1=some (.slice e1)/\cT P e=some sz/\fE P e=some b/\cK P e=some z/\z.length=sz/\0<sz/\0<b:=by
 obtain⟨callee,i,f⟩:=c;simp only[bR]at h;split at h
 .split at h<;>simp at h
 .split at h<;>simp at h
 .split at h<;>simp at h
 .rename_i j;split at h
  .rename_i x y e e1 n ht a;split at h
   .rename_i k o z hs l hz;rw[zab]at h;obtain⟨⟨h1,h2,h3⟩,h⟩:=h;split at h
    .simp only[zac,zaD,AK.dk.injEq]at h;obtain⟨p,m,⟨rfl,rfl,rfl⟩,rfl⟩:=h;simp only[zaF]at ht a;obtain⟨t,ht,g⟩:=ht;obtain⟨t1,a,d⟩:=a;exact⟨x,y,t,e,t1,e1,z,rfl,by apply zbQ;simpa using n,rfl,ht,a,dW g,dW d,hs,l,hz,h1,h2,h3⟩
    .split at h<;>simp at h
   .simp at h
  .simp at h
 .split at h
  .split at h
   .split at h<;>simp at h
   .simp at h
  .simp at h
 .split at h
  .split at h<;>simp at h
  .simp at h
 .split at h
  .split at h
   ·(repeat' (split at h))<;>simp at h
   .split at h
    .simp at h
    .split at h
     .simp at h
     .split at h<;>simp at h
  .simp at h
 .split at h<;>simp at h
 .simp at h
def Q'{K:bt}{els:List PV}{base:Option Addr}{len sz:Nat}(h:TV K els base len)(hs:bl sz els=true):els=[]\/∃b o,base=some ⟨b,o,none⟩/\Row K b o sz els:=by
 rcases h.2 with h1|⟨b,o,a,e,hr⟩
 .exact .inl h1
 .by_cases hn:els=[]
  .exact .inl hn
  .have:=hr.sz hs hn;subst this;exact .inr ⟨b,o,e,hr⟩
def Js{mem:List (Nat×List AV)}{sh:Sh}{aa toks':aF}(hi:Inv (num ns) G w mem sh aa){τ:Nat}{l xs:List PV}{sz a:Nat}{aH new:List Value}{rest:Array Value}(e:TypeId)
   (h:aH.length=l.length*sz) (hn:new.length=xs.length*sz) (m:∀(K':bt)(b' o':Nat),G.K.le K'->At K' b' o' aH->Row K' b' o' sz l)
   (n:∀(K':bt)(b' o':Nat),G.K.le K'->At K' b' o' new->Row K' b' o' sz xs) (d:l.length+xs.length<=a) (hr:rest.size=(a-(l.length+xs.length))*sz) (h0:0<xs.length)
   (hu:ph G aa toks' τ (l.length+xs.length)) (o:∀i,G.tk τ=some i->¬i.dead/\i.cap<l.length+xs.length):
   ∃G',aD (num ns) G' (.own (l++xs) τ) (.slice (some ⟨w.heap.size,0,none⟩) (l.length+xs.length) a)/\
     Inv (num ns) G' (w.alloc (.cells (aH.toArray++new.toArray++rest) e)) mem sh toks'/\G.le G'/\bY G w G' (w.alloc (.cells (aH.toArray++new.toArray++rest) e)):=by
 let t:Tk:={base:=some ⟨w.heap.size,0,none⟩,len:=l.length+xs.length,cap:=a,sz:=sz,own:=true}
 have k:(aH.toArray++new.toArray++rest).size=a*sz:=by
  simp[h,hn,hr];have:a=(l.length+xs.length)+(a-(l.length+xs.length)):=by omega
  conv=>rhs;rw[this,zaI,zaI]
 obtain⟨h1,h2,h3⟩:=hi.grow (t:=t) (c:=aH.toArray++new.toArray++rest) e rfl (by rw[k];exact zas _) d (by show 0<l.length+xs.length;omega) hu o;refine⟨_,?_,h1,h2,h3⟩
 have g:At (jR G w.heap.size (t.len*t.sz) (aH.toArray++new.toArray++rest)) w.heap.size 0 (aH++new):=by
  intro j v hj;have f:=(zaa.1 hj).1;simp only[zad,h,hn]at f;simp only[jR,zbc,zbi];rw[zan (by show j<(l.length+xs.length)*sz;rw[zaI];exact f)];rw[zcB (by simp[h,hn];exact f)];simpa using hj
 have b:Row (jR G w.heap.size (t.len*t.sz) (aH.toArray++new.toArray++rest)) w.heap.size 0 sz (l++xs):=by
  refine Row.append (m _ _ _ h2.K fun j v hj=>g j v ?_) (n _ _ _ h2.K fun j v hj=>?_)
  .rw[zar (zaa.1 hj).1];exact hj
  .have:=g (l.length*sz+j) v (by rw[zaB (by omega),h,zb0];exact hj)
   rwa [zbi,<-zbi (l.length*sz+j),<-zbN]at this
 simp only[aD];refine⟨t,by simp[Gh.bE],⟨by simp[t],t.t5⟩,cq.2 ⟨_,_,_,rfl,d,by simp,.inr ⟨_,_,_,rfl,b⟩⟩,fun _=>⟨rfl,.inr ⟨_,_,rfl,b⟩⟩⟩
def Et{ρ:bX}{mem:List (Nat×List AV)}{sh:Sh}{aa:aF}(hi:Inv ρ G w mem sh aa)(n:Nat):ph G aa (aa++[n]) aa.length n:=by
 refine⟨by simp,fun σ a=>?_,fun t h=>?_⟩
 .rcases zcd σ aa.length with h|h
  .rw[zar h]
  .rw[za4 (by simp;omega),za4 h]
 .have:=hi.gF _ t h;rw[za4 (zas _)]at this;simp at this
theorem y4{argTypes:Array TypeId}{type t e e1 t1 sz R:Nat}{z:List PV}{s x y:AV}{vs vx:Value}{mem:List (Nat×List AV)}{sh:Sh}{aa toks':aF}
   (h0:argTypes[0]?=some t) (h1:argTypes[1]?=some t1)
   (hu:P.underlying t=some (.slice e)) (H:P.underlying t1=some (.slice e1)) (I:cT P e=some sz) (ax:fE P e=some R) (hz:cK P e=some z) (ao:z.length=sz) (ay:0<R)
   (hs:aD (num ns) G s vs) (hx:aD (num ns) G x vx) (hi:Inv (num ns) G w mem sh aa) (h:cp sz R s x aa=some (y,toks')):
   ∃v w' G',(Builtin.append_ argTypes type #[vs,vx]).run P w=.ok v w'/\aD (num ns) G' y v/\Inv (num ns) G' w' mem sh toks'/\G.le G'/\bY G w G' w':=by
 unfold cp at h;split at h
 .simp at h
 .rename_i xs a7;simp only[zab]at h;obtain⟨Y,h⟩:=h;obtain⟨xb,xc,rfl⟩:=kN a7 hx;have W:=eP a7 hx;have D:∀w',w'=w.drew->∀b o u,G.K b o=some u->w'.cell? ⟨b,o,none⟩=some u:=fun w' e b o u hk=>by subst e;exact hi.known b o u hk
  obtain⟨new,T,n2,n3,n4⟩:=jT (P:=P) hi.known W Y rfl
  have am:∀w',w'=w.drew->(Builtin.firstCells sz xs.length (.slice xb xs.length xc)).run P w'=.ok new.toArray w':=by
   intro w' e;obtain⟨F,U,_,_⟩:=jT (P:=P) (D w' e) W Y rfl;have V:(Builtin.firstCells sz xs.length (.slice xb xs.length xc)).run P w'=.ok F.toArray w':=U
   have:F=new:=by
    subst e;obtain⟨base,len,cap,e1,_,f,m⟩:=cq.1 W;cases e1;by_cases L:xs=[]
    .subst L;have a1:new=[]:=by apply zbp;simpa using n2
     have a2:F=[]:=by
      cases xb with
      |none=>simpa[Builtin.firstCells]using U.symm
      |some a=>simpa[Builtin.firstCells,loadCells,loadCellsFrom]using U.symm
     rw[a1,a2]
    .obtain⟨b,o,b8,e2,i⟩:=m.resolve_left L;cases e2;have:=i.sz Y L;subst this;obtain⟨a0,g1,g2,_,_⟩:=i.flat;have l1:=zbT (P:=P) w ⟨b,o,none⟩ a0 (fun j u hj=>by rw[Addr.eO];exact hi.known _ _ _ (g2 j u hj));have l2:=zbT (P:=P) w.drew ⟨b,o,none⟩ a0 (fun j u hj=>by rw[Addr.eO];exact hi.known _ _ _ (g2 j u hj));rw[g1]at l1 l2;simp only[Builtin.firstCells]at T U;rw[l1]at T;rw[l2]at U;simp at T U;rw[<-T,<-U]
   rw[V,this]
  have N:∀(l:List PV)(base:Option Addr)(cap τ:Nat),Rel G.K (.aq l) (.slice base l.length cap)->bl sz l=true->cap<l.length+xs.length->(l.length+xs.length)*R<=140737488355328->
      ph G aa toks' τ (l.length+xs.length)->(∀S,G.tk τ=some S->¬S.dead/\S.cap<l.length+xs.length)->y=.own (l++xs) τ->
      ∃v w' G',(Builtin.append_ argTypes type #[.slice base l.length cap,.slice xb xs.length xc]).run P w=.ok v w'/\aD (num ns) G' y v/\Inv (num ns) G' w' mem sh toks'/\G.le G'/\bY G w G' w':=by
    intro l base cap τ ab C d g q hg hy;obtain⟨aH,o1,o2,o3,o4⟩:=jT (P:=P) (w:=w.drew) (D _ rfl) ab C rfl
    obtain⟨rest,ak,p1,p2,p3⟩:=l9 (type:=type) (aH:=aH.toArray) (new:=new.toArray) h0 h1 hu H I ax hz ao (base:=base) (len:=l.length) (cap:=cap) (n:=xs.length) (xb:=xb) (xc:=xc) rfl
      (fun w' e=>by subst e;exact o1) am d ay g
    have J:0<xs.length:=by
     rcases Nat.eq_zero_or_pos xs.length with a6|a6
     .have:=(cq.1 ab);obtain⟨b',l',c',e',ba,f,_⟩:=this;cases e';omega
     .exact a6
    obtain⟨G',q1,q2,q3,q4⟩:=Js (ns:=ns) (w:=w.drew) hi.drew e o2 n2 o3 n3 p1 p2 J q hg;exact⟨_,_,G',p3,by rw[hy];exact q1,q2,q3,(bY.drew G w).trans q4⟩
  split at h
  .-- a slice Z a4 to spare
   rename_i l;split at h
   .rename_i aj;have p:xs=[]:=zc4.1 aj;subst p;simp only[zag,zaD]at h;obtain⟨rfl,rfl⟩:=h;have O:=hs;simp only[aD]at hs;obtain⟨base,len,rfl,E⟩:=hs;have f:=E.1;subst f;have A:new=[]:=by apply zbp;simpa using n2
    subst A;have k:=fY (type:=type) h0 h1 hu H I (base:=base) (len:=l.length) (cap:=l.length) (n:=0) (xb:=xb) (xc:=xc) rfl T (by omega);refine⟨.slice base l.length l.length,w,G,?_,O,hi,G.le_refl,bY.refl G w⟩;refine zcP k ?_;cases base<;>simp[storeCells]
   simp only[zab,zag,zaD]at h;obtain⟨⟨C,g⟩,rfl,rfl⟩:=h;have O:=hs;simp only[aD]at hs;obtain⟨base,len,rfl,E⟩:=hs;have f:=E.1;subst f;have B:(l++xs).length=l.length+xs.length:=by simp
   have q:ph G aa (aa++[(l++xs).length]) aa.length (l.length+xs.length):=by
    rw[B];exact Et hi (l.length+xs.length)
   have a8:G.tk aa.length=none:=by
    cases hh:G.tk aa.length with
    |none=>rfl
    |some S=>have:=hi.gF _ S hh;rw[za4 (zas _)]at this;simp at this
   by_cases X:xs.length=0
   .have p:xs=[]:=by cases xs with|nil=>rfl|cons _ _=>simp at X
    subst p;have A:new=[]:=by apply zbp;simpa using n2
    subst A;have k:=fY (type:=type) h0 h1 hu H I (base:=base) (len:=l.length) (cap:=l.length) (n:=0) (xb:=xb) (xc:=xc) rfl T (by omega);let tk:Tk:={base,len:=l.length,cap:=l.length,sz};obtain⟨g1,g2,g3⟩:=hi.Q_ (τ:=aa.length) (t:=tk) (toks':=aa++[(l++[]).length]) rfl rfl a8 q.at_ q.other;refine⟨.slice base l.length l.length,w,_,?_,?_,g1,g2,g3⟩
    .refine zcP k ?_;cases base<;>simp[storeCells]
    .simp only[aD];refine⟨tk,by simp[Gh.bE],⟨by simp[tk],tk.t5⟩,?_,fun _=>⟨rfl,?_⟩⟩
     .simp only[zax];exact cq.2 ⟨_,_,_,rfl,zas _,E⟩
     .simp only[zax];exact Q' E C
   .exact N l base l.length aa.length (cq.2 ⟨_,_,_,rfl,zas _,E⟩) C (by omega) g q (fun S h=>by rw[a8]at h;cases h) rfl
  .-- a slice b5 bb b9 a4 to spare to itself
   rename_i l τ;simp only[zab,zag,zaD]at h;obtain⟨⟨r,C,g⟩,rfl,rfl⟩:=h;have O:=hs;simp only[aD]at hs;obtain⟨tk,e1,e2,e3,e4⟩:=hs
   have f:l.length=tk.len:=by
    have:=hi.gF τ tk e1;rw[r]at this;simpa using this
   obtain⟨hv,i⟩:=e4 f;obtain⟨b7,f1,f2,f3⟩:=hi.dV τ _ r;rw[e1]at f1;cases f1;have B:(l++xs).length=l.length+xs.length:=by simp
   obtain⟨base,b4,cap,b6,a3⟩:=tk;simp only[Tk.val]at hv f f2 f3;subst hv;subst f;by_cases X:xs.length=0
   .have p:xs=[]:=by cases xs with|nil=>rfl|cons _ _=>simp at X
    subst p;have A:new=[]:=by apply zbp;simpa using n2
    subst A;have k:=fY (type:=type) h0 h1 hu H I (base:=base) (len:=l.length) (cap:=cap) (n:=0) (xb:=xb) (xc:=xc) rfl T (by have:=f3.cap;simpa using this)
    have a9:aa.set τ (l++([]:List PV)).length=aa:=by
     apply zcb
     intro j;rw[zaA];split
     .rename_i e;subst e;have:=(zaa.1 r);obtain⟨Q,_⟩:=this;rw[zan Q,r];simp
     .rfl
    rw[a9];refine⟨.slice base l.length cap,w,G,?_,?_,hi,G.le_refl,bY.refl G w⟩
    .refine zcP k ?_;cases base<;>simp[storeCells]
    .simpa using O
   .have J:0<xs.length:=by omega
    have q:ph G aa (aa.set τ (l++xs).length) τ (l.length+xs.length):=by
     rw[B];have Q:=(zaa.1 r).1;refine⟨by rw[zaA];simp[Q],fun σ an=>by rw[zaA,zai (zb4 an)],fun S h=>?_⟩;rw[e1]at h;cases h;simp;omega
    rcases zcd cap (l.length+xs.length)with d|d
    .refine N l base cap τ e3 C d g q (fun S h=>?_) rfl;rw[e1]at h;cases h;refine⟨?_,d⟩
     rintro⟨d1,d2⟩
     rcases i with rfl|⟨b,o,e,_⟩
     .simp at d2
     .rw[d1]at e;cases e
    .have ai:l≠[]:=by
      rintro rfl
      have:=f3.zero rfl;simp at this d;omega
     obtain⟨b,o,M,i⟩:=i.resolve_left ai;simp only at M;subst M;have:=i.sz C ai;subst this;obtain⟨b',o',c,ty,p1,p2,p3,p4,p5⟩:=f3.spare (.inl (by simp;omega));simp only[zag,Addr.mk.injEq]at p1;obtain⟨rfl,rfl,_⟩:=p1;simp only at p4 p5;have ac:(l.length+xs.length)*sz<=cap*sz:=zaZ _ d;rw[zaI]at ac;have t7:=zcm (P:=P) b (o+l.length*sz) ty new 0 c w p3 (by rw[n2];omega) n4;have k:=fY (type:=type) h0 h1 hu H I (base:=some ⟨b,o,none⟩) (len:=l.length) (cap:=cap) (n:=xs.length) (xb:=xb) (xc:=xc) rfl T d;simp only[zba]at t7;obtain⟨g1,g2,g3⟩:=hi.fill (t:=⟨some ⟨b,o,none⟩,l.length,cap,sz,a3⟩) (n:=xs.length) e1 rfl p2 p3 p4 p5 n2 J d rfl q;refine⟨.slice (some ⟨b,o,none⟩) (l.length+xs.length) cap,_,_,?_,?_,g1,g2,g3⟩
     .refine zcP k ?_;simp only[Addr.eO,t7,zam]
     .have aO:At (jS G b (o+l.length*sz) new) b (o+l.length*sz) new:=by
       intro j v hj;have Q:=(zaa.1 hj).1;simp only[jS];rw[zan ⟨trivial,by omega,by omega⟩,zb0];exact hj
      have m:Row (jS G b (o+l.length*sz) new) b o sz (l++xs):=Row.append (Row.mono g2.K _ _ _ _ i) (n3 _ _ _ g2.K aO);simp only[aD];exact⟨⟨some ⟨b,o,none⟩,l.length+xs.length,cap,sz,true⟩,by simp[Gh.bE],⟨by simp,Tk.t5 _⟩,cq.2 ⟨_,_,_,rfl,d,by simp,.inr ⟨_,_,_,rfl,m⟩⟩,fun _=>⟨rfl,.inr ⟨_,_,rfl,m⟩⟩⟩
  .simp at h
end
end Go.Ab
namespace Go.Ab
section
variable {P:Program} {ns:Names} {G:Gh} {w:World}
def Jt{ρ:bX}{x:AV}{v:Value}(h:aD ρ G x v)(hl:aY x=true):v.oneCell'=true:=by
 cases x with
 |pv p=>
  simp only[aD]at h;cases p with
  |agg _=>simp[aY]at hl
  |aq _=>obtain⟨b,l,c,rfl,_⟩:=cq.1 h;rfl
  |bool _=>rw[jP]at h;subst h;rfl
  |int _ _=>rw[dm]at h;subst h;rfl
  |str _=>rw[nZ]at h;subst h;rfl
 |dr _=>simp only[aD]at h;obtain⟨_,_,rfl,_⟩:=h;rfl
 |own _ _=>simp only[aD]at h;obtain⟨_,_,_,h,_⟩:=h;obtain⟨b,l,c,rfl,_⟩:=cq.1 h;rfl
 |aV _ _=>simp only[aD]at h;obtain⟨_,_,rfl⟩:=h;rfl
 |aP _ _ _ _=>simp only[aD]at h;obtain⟨_,_,_,rfl,_⟩:=h;rfl
 |fn _ _=>simp only[aD]at h;obtain⟨_,_,_,rfl,_⟩:=h;rfl
 |ia=>simp only[aD]at h;rcases h with rfl|rfl<;>rfl
 |jL _=>simp only[aD]at h;obtain⟨_,_,rfl⟩:=h;rfl
 |fH _=>simp only[aD]at h
 |_=>simp[aY]at hl
def l_{ρ:bX}:∀{xs:List AV}{vs:List Value},aC ρ G xs vs->xs.all aY=true->∀u∈vs,u.oneCell'=true
 |[],_,h,_,u,hu=>by simp only[aC]at h;subst h;simp at hu
 |x::xs,_,h,hl,u,hu=>by
  simp only[aC]at h;obtain⟨v,r,rfl,e1,e2⟩:=h;simp only[zaQ,zah]at hl;simp only[zau]at hu;rcases hu with rfl|hu
  .exact Jt e1 hl.1
  .exact l_ e2 hl.2 u hu
def jw{xs:List AV}(h:xs.all da=true):xs.all aY=true:=by
 rw[zaq]at*;intro x hx;have:=h x hx;cases x<;>simp_all[da,aY,ca]
def X_(ns:Names)(P:Program)(G:Gh)(w:World)(mem:List (Nat×List AV))(sh:Sh)(aa:aF)(s:Sem Next)(x:AV):Prop:=
 ∃n v w' G',s.run P w=.ok n w'/\(n=.value v\/(n=.skip/\v=undef))/\aD (num ns) G' x v/\Inv (num ns) G' w' mem sh aa/\G.le G'/\bY G w G' w'
def qg{t sz b off:Nat}{v:Value}{c:Array Value}{ty:TypeId}(a:cT P t=some sz)(hv:v.cells.size=sz)(d:w.heap[b]?=some (.cells c ty (0,0)))
   (hl:off+sz<=c.size) (h1:∀u∈v.cells.toList,u.oneCell'=true):
   (storeVar t ⟨b,off,none⟩ v).run P w=.ok () (w.setRow b (c.toList.take off++v.cells.toList++c.toList.drop (off+v.cells.toList.length)).toArray):=by
 have:=zcm (P:=P) b off ty v.cells.toList 0 c w d (by simp[hv];omega) h1;simp only[zba]at this;simp only[storeVar,zay,dy a,zam];rw[zai (by simp[hv])];simpa using this
theorem iH{t:TypeId}{v:Value}:(newVar t v).run P w=.ok ⟨w.heap.size,0,none⟩ (w.alloc (.cells v.cells t)):=rfl
def jz{ρ:bX}:∀{xs:List AV}{vs:List Value},vs.length=xs.length->(∀(j:Nat)(x:AV)(v:Value),xs[j]?=some x->vs[j]?=some v->aD ρ G x v)->aC ρ G xs vs
 |[],vs,hl,_=>by
  have:vs=[]:=by cases vs<;>simp_all
  subst this;simp[aC]
 |x::xs,[],hl,_=>by simp at hl
 |x::xs,v::vs,hl,h=>by
  simp only[aC];exact⟨v,vs,rfl,h 0 x v rfl rfl,jz (by simpa using hl) fun j y u hy hu=>h (j+1) y u (by simpa using hy) (by simpa using hu)⟩
def d5{α:Type}(l:List α):∀(n j:Nat),j<n*l.length->(List.replicate n l).flatten[j]?=l[j % l.length]?
 |0,j,h=>by simp at h
 |n+1,j,h=>by
  rw[zbK,zbY];by_cases hj:j<l.length
  .rw[zar hj,Nat.mod_eq_of_lt hj]
  .rw[zaB (by omega),d5 l n (j-l.length) (by rw[zaI]at h;omega)];congr 1;exact(Nat.mod_eq_sub_mod (by omega)).symm
def xx{n:Int}(h0:0<=n)(h1:n<=9223372036854775807):IntKind.i64.wrap n=n:=by
 unfold IntKind.wrap;have e1:(2:Int) ^ IntKind.i64.bits=18446744073709551616:=by decide
 have e2:(2:Int) ^ (IntKind.i64.bits-1)=9223372036854775808:=by decide
 have e3:IntKind.i64.signed=true:=rfl;simp only[e1,e2,e3];have:n % 18446744073709551616=n:=Int.emod_eq_of_lt h0 (by omega);simp only[this];rw[zai];simp;omega
def mc{ρ:bX}:∀{l:List Value}{z:List PV},cg dt l=some z->aC ρ G (z.map .pv) l/\(z.map AV.pv).all da=true
 |[],_,h=>by simp[cg]at h;subst h;simp[aC]
 |v::l,z,h=>by
  simp only[cg]at h;split at h
  .rename_i y b h1 h2;simp at h;subst h;obtain⟨g1,g2⟩:=mc (ρ:=ρ) h2;obtain⟨a,g4⟩:=l7 (K:=G.K) h1;have g5:da (.pv y)=true:=by cases y<;>simp_all[da,aY,dT]
   simp only[zal,aC,zaQ,g5,g2,zcS,and_true];exact⟨v,l,rfl,by simp only[aD];exact Rel.Xy a,g1⟩
  .simp at h
def y5(n:Nat)(z:List PV):(z.map AV.pv).all (aJ n)=true:=by
 rw[zaq];intro x hx;simp only[zat]at hx;obtain⟨p,_,rfl⟩:=hx;simp[aJ]
def Ju(n:Nat)(z:List PV):(z.map bG.zeroCell).all (aJ n)=true:=by
 rw[zaq];intro x hx;simp only[zat]at hx;obtain⟨p,_,rfl⟩:=hx;unfold bG.zeroCell;split<;>simp[aJ]
end
mutual
theorem sO{n m:Nat}(h:n<=m):∀{x:AV},aJ n x=true->aJ m x=true
 | .un,_=>by simp[aJ]
 | .pv _,_=>by simp[aJ]
 | .dr _,_=>by simp[aJ]
 | .own ..,_=>by simp[aJ]
 | .ia,_=>by simp[aJ]
 | .h_ _,_=>by simp[aJ]
 | .aV b _,hx=>by simp[aJ]at hx⊢;omega
 | .aP b _ _ _,hx=>by simp[aJ]at hx⊢;omega
 | .fn _ cap,hx=>by simp only[aJ]at hx⊢;exact me h hx
 | .agg cs,hx=>by simp only[aJ]at hx⊢;exact me h hx
 | .au ..,hx=>by simp[aJ]at hx
 | .rf _,hx=>by simp[aJ]at hx
 | .jL b,hx=>by simp[aJ]at hx⊢;omega
 | .fH _,_=>by simp[aJ]
 | .ri ..,hx=>by simp[aJ]at hx
theorem me{n m:Nat}(h:n<=m):∀{xs:List AV},aJ.cI n xs=true->aJ.cI m xs=true
 |[],_=>by simp[aJ.cI]
 |x::xs,hx=>by
  simp only[aJ.cI,zah]at hx⊢;exact⟨sO h hx.1,me h hx.2⟩
end
def mf{n m:Nat}(h:n<=m){xs:List AV}(hx:xs.all (aJ n)=true):xs.all (aJ m)=true:=by
 rw[zaq]at*;exact fun x hm=>sO h (hx x hm)
section
variable {P:Program} {ns:Names} {G:Gh} {w:World}
def kO{ρ:bX}{k:IntKind}{n:Int}{v:Value}(h:aD ρ G (.pv (.int k n)) v):v=.int k n:=by
 simp only[aD]at h;exact dm.1 h
def Bs{t e sz y:Nat}{ag:Bool}{z:List PV}{k k':IntKind}{n:Int}{mem:List (Nat×List AV)}{sh:Sh}{aa:aF}(hu:P.underlying t=some (.slice e))(C:cT P e=some sz)
   (K:fE P e=some y) (hz:cK P e=some z) (b:z.length=sz) (D:0<sz) (h0:0<=n) (h1:n<=9223372036854775807) (h2:n*y<=140737488355328) (hi:Inv (num ns) G w mem sh aa):
   ∃v w' G',(Instr.makeSlice t (.int k n) (.int k' n)).run P w=.ok v w'/\aD (num ns) G' (.aP sh.length sz n.toNat ag) v /\
     Inv (num ns) G' w' mem (sh++[some ((List.replicate n.toNat (z.map .pv)).flatten)]) aa/\G.le G'/\bY G w G' w':=by
 obtain⟨i,I,J,F⟩:=nh K w;obtain⟨f,B,o⟩:=gX (P:=P) (w:=w) hz;have m:f.cells.size=sz:=by have:=gW o;simp at this;omega
 obtain⟨zr,zl⟩:=mc (G:=G) (ρ:=num ns) o;let z0:Array Value:=if n.toNat*sz=0 then #[]else f.cells;let c:Array Value:=(Array.range (n.toNat*sz)).map (z0[· % z0.size]!);have hw:IntKind.i64.wrap n=n:=xx h0 h1;have A:(i.bytes:Int)*n<=281474976710656:=by rw[J,Int.mul_comm];omega
 have M:((List.replicate n.toNat (z.map AV.pv)).flatten).length=n.toNat*sz:=by simp[b]
 have p:aC (num ns) G ((List.replicate n.toNat (z.map .pv)).flatten) c.toList:=by
  refine jz (by simp[c,b]) fun j x v hx hv=>?_;have r:j<n.toNat*sz:=by have:=(zaa.1 hx).1;omega
  rw[d5 _ _ _ (by simpa[b]using r)]at hx;have E:¬n.toNat*sz=0:=by omega
  have a:z0=f.cells:=zai E;obtain⟨L,g1,g2⟩:=zr.get hx
  have:v=L:=by
   simp only[c,a,zct,zaK,zcV,zac]at hv;obtain⟨O,s,hv⟩:=hv;rw[zcQ r]at s;cases s;simp only[zak,b]at g1;rw[m]at hv;have hm:j % sz<f.cells.size:=by rw[m];exact zdc _ D
   rw[getElem!_pos f.cells (j % sz) hm]at hv;have h:f.cells[j % sz]?=some L:=by simpa using g1
   rw[zbU hm]at h;simp at h;rw[<-hv,h]
  subst this;exact g2
 have u:((List.replicate n.toNat (z.map AV.pv)).flatten).all da=true:=by
  rw[zaq]at*;intro x hx;simp only[zb1,zbB]at hx;obtain⟨l,⟨_,rfl⟩,hx⟩:=hx;exact zl x hx
 have q:((List.replicate n.toNat (z.map AV.pv)).flatten).all (aJ (sh.length+1))=true:=by
  have:=y5 (sh.length+1) z;rw[zaq]at*;intro x hx;simp only[zb1,zbB]at hx;obtain⟨l,⟨_,rfl⟩,hx⟩:=hx;exact this x hx
 obtain⟨g1,g2,N⟩:=hi.uO (cells:=(List.replicate n.toNat (z.map .pv)).flatten) (c:=c) e p u q;refine⟨.slice (some ⟨w.heap.size,0,none⟩) n.toNat n.toNat,_,_,?_,?_,g1,g2,N⟩
 .have hp:(2:Int) ^ 48=281474976710656:=by decide
  have ht:(decide (n<0)|| decide ((i.bytes:Int)*n > 2 ^ 48))=false:=by
   rw[hp];simp;omega
  have H:∀w',(typeInfo e).run P w'=.ok i w':=fun w'=>by simp[typeInfo,I]
  have g:¬((decide (n<0)|| decide ((i.bytes:Int)*n > 2 ^ 48))|| decide (n<0)|| decide (n > n))=true:=by
   rw[ht];simp;omega
  simp only[Instr.makeSlice,zay,zaL hu,zam,asInt,asIntOf,zaG,H,hw];rw[zai g];simp only[zay,run_askRoom,zam,dy C];by_cases d:n.toNat*sz=0
  .rw[zan d];simp only[zay,zaG,zam];have a:z0=#[]:=zan d;simp only[c,a];rfl
  .rw[zai d];simp only[zay,zaG,B,zam];have a:z0=f.cells:=zai d;simp only[c,a];rfl
 .simp only[aD];exact⟨(w.heap.size,c.size),0,by simp[Gh.dI],rfl,by simp[c]⟩
def Bt{t e sz y d:Nat}{z:List PV}{k k':IntKind}{n:Int}{mem:List (Nat×List AV)}{sh:Sh}{aa:aF}(hu:P.underlying t=some (.slice e))(C:cT P e=some sz)
   (K:fE P e=some y) (hz:cK P e=some z) (b:z.length=sz) (D:0<sz) (h0:0<=n) (h1:n<=9223372036854775807) (h2:n*y<=140737488355328) (hi:Inv (num ns) G w mem sh aa) (hl:look mem d=none):
   ∃v w' G',(Instr.makeSlice t (.int k n) (.int k' n)).run P w=.ok v w'/\aD (num ns) G' (.kF d n.toNat) v /\
     Inv (num ns) G' w' (dF mem d ((List.replicate n.toNat (z.map .pv)).flatten)) sh aa/\G.le G'/\bY G w G' w':=by
 obtain⟨i,I,J,F⟩:=nh K w;obtain⟨g,B,p⟩:=gX (P:=P) (w:=w) hz;have o:g.cells.size=sz:=by have:=gW p;simp at this;omega
 obtain⟨zr,zl⟩:=mc (G:=G) (ρ:=num ns) p;let z0:Array Value:=if n.toNat*sz=0 then #[]else g.cells;let c:Array Value:=(Array.range (n.toNat*sz)).map (z0[· % z0.size]!);have hw:IntKind.i64.wrap n=n:=xx h0 h1;have A:(i.bytes:Int)*n<=281474976710656:=by rw[J,Int.mul_comm];omega
 have M:((List.replicate n.toNat (z.map AV.pv)).flatten).length=n.toNat*sz:=by simp[b]
 have q:aC (num ns) G ((List.replicate n.toNat (z.map .pv)).flatten) c.toList:=by
  refine jz (by simp[c,b]) fun j x v hx hv=>?_;have r:j<n.toNat*sz:=by have:=(zaa.1 hx).1;omega
  rw[d5 _ _ _ (by simpa[b]using r)]at hx;have E:¬n.toNat*sz=0:=by omega
  have a:z0=g.cells:=zai E;obtain⟨L,g1,g2⟩:=zr.get hx
  have:v=L:=by
   simp only[c,a,zct,zaK,zcV,zac]at hv;obtain⟨O,s,hv⟩:=hv;rw[zcQ r]at s;cases s;simp only[zak,b]at g1;rw[o]at hv;have hm:j % sz<g.cells.size:=by rw[o];exact zdc _ D
   rw[getElem!_pos g.cells (j % sz) hm]at hv;have m:g.cells[j % sz]?=some L:=by simpa using g1
   rw[zbU hm]at m;simp at m;rw[<-hv,m]
  subst this;exact g2
 have u:((List.replicate n.toNat (z.map AV.pv)).flatten).all da=true:=by
  rw[zaq]at*;intro x hx;simp only[zb1,zbB]at hx;obtain⟨l,⟨_,rfl⟩,hx⟩:=hx;exact zl x hx
 obtain⟨g1,g2,N⟩:=hi.rz (d:=d) (cells:=(List.replicate n.toNat (z.map .pv)).flatten) (c:=c) e hl q (jw u);refine⟨.slice (some ⟨w.heap.size,0,none⟩) n.toNat n.toNat,_,_,?_,?_,g1,g2,N⟩
 .have hp:(2:Int) ^ 48=281474976710656:=by decide
  have ht:(decide (n<0)|| decide ((i.bytes:Int)*n > 2 ^ 48))=false:=by
   rw[hp];simp;omega
  have H:∀w',(typeInfo e).run P w'=.ok i w':=fun w'=>by simp[typeInfo,I]
  have h:¬((decide (n<0)|| decide ((i.bytes:Int)*n > 2 ^ 48))|| decide (n<0)|| decide (n > n))=true:=by
   rw[ht];simp;omega
  simp only[Instr.makeSlice,zay,zaL hu,zam,asInt,asIntOf,zaG,H,hw];rw[zai h];simp only[zay,run_askRoom,zam,dy C];by_cases f:n.toNat*sz=0
  .rw[zan f];simp only[zay,zaG,zam];have a:z0=#[]:=zan f;simp only[c,a];rfl
  .rw[zai f];simp only[zay,zaG,B,zam];have a:z0=g.cells:=zai f;simp only[c,a];rfl
 .simp only[aD];exact⟨w.heap.size,by simp[Gh.dq],rfl⟩
end
end Go.Ab
namespace Go.Ab
section
variable {P:Program} {ns:Names} {G:Gh} {w:World}
theorem lM{K:bt}:∀{cs:List PV}{vs:List Value},dO K cs vs->∀p∈cs,dT p=true
 |[],_,_,p,hp=>by simp at hp
 |c::cs,_,h,p,hp=>by
  simp only[dO]at h;obtain⟨v,r,rfl,e2,e3⟩:=h;simp only[zau]at hp;rcases hp with rfl|hp
  .cases p with
   |agg _=>simp[R]at e2
   |_=>rfl
  .exact lM e3 p hp
def Row.uP{K:bt}:∀{els:List PV}{b o sz:Nat},Row K b o sz els->
   ∃a:List Value,a.length=els.length*sz/\At K b o a/\dO K (els.flatMap aZ) a/\∀u∈a,u.oneCell'=true
 |[],b,o,sz,_=>⟨[],by simp,by intro j v h;simp at h,by simp[dO],by simp⟩
 |el::r,b,o,sz,hr=>by
  simp only[Row]at hr;obtain⟨⟨vs,h1,h2,h3⟩,h4⟩:=hr;obtain⟨a,g1,g2,c,g4⟩:=Row.uP h4;refine⟨vs++a,by simp[h1,g1,zaI];omega,?_,by rw[zav];exact dO.append h3.cells c,?_⟩
  .intro j v hj;rw[zbn]at hj;split at hj
   .exact h2 j v hj
   .have:=g2 _ v hj;rw[h1]at this
    rwa [show o+sz+(j-sz)=o+j from by omega]at this
  .intro u hu;simp only[zaz]at hu;rcases hu with hu|hu
   .exact dO.one h3.cells u hu
   .exact g4 u hu
def rC{els:List PV}{base:Option Addr}{cap:Nat}{sz:Nat}(hr:Rel G.K (.aq els) (.slice base els.length cap))(hs:bl sz els=true):
   ∃c:List Value,c.length=els.length*sz/\dO G.K (els.flatMap aZ) c/\(∀u∈c,u.oneCell'=true)/\
     ∀w:World,(∀b o u,G.K b o=some u->w.cell? ⟨b,o,none⟩=some u)->(Builtin.firstCells sz els.length (.slice base els.length cap)).run P w=.ok c.toArray w:=by
 obtain⟨h,len,k,e,_,i,g⟩:=cq.1 hr;cases e;by_cases d:els=[]
 .subst d;refine⟨[],by simp,by simp[dO],by simp,fun w _=>?_⟩;cases base with
  |none=>simp[Builtin.firstCells]
  |some a=>simp[Builtin.firstCells,loadCells,loadCellsFrom]
 .obtain⟨b,o,l,rfl,f⟩:=g.resolve_left d;have:=f.sz hs d;subst this;obtain⟨c,g1,g2,n,g4⟩:=f.uP;refine⟨c,g1,n,g4,fun w m=>?_⟩;have hl:=zbT (P:=P) w ⟨b,o,none⟩ c (fun j u hj=>by rw[Addr.eO];exact m _ _ _ (g2 j u hj));rw[g1]at hl;simpa[Builtin.firstCells]using hl
def uQ{b n cap sz:Nat}{c:Array Value}{t:TypeId}{vs suf:List Value}(d:w.heap[b]?=some (.cells c t (0,0)))(a:c.toList=vs++suf)(hn:n*sz<=vs.length):
   (Builtin.firstCells sz n (.slice (some ⟨b,0,none⟩) n cap)).run P w=.ok (vs.take (n*sz)).toArray w:=by
 have hl:=zbT (P:=P) w ⟨b,0,none⟩ (vs.take (n*sz)) (fun j u hj=>by
  rw[Addr.eO,zbi];rw[zb7]at hj;split at hj
  .have:c.toList[j]?=some u:=by rw[a,zar (zaa.1 hj).1];exact hj
   simp only[World.cell?,d];simpa using this
  .simp at hj)
 rw[zbk,zcw hn]at hl;simpa[Builtin.firstCells]using hl
def Inv.Ya{ρ:bX}{mem:List (Nat×List AV)}{sh:Sh}{aa:aF}(hi:Inv ρ G w mem sh aa)(s:Nat):Inv ρ G w mem (sh.set s none) aa:=
 { hi with
  dH:=fun s' cs a=>by
   rw[zaA]at a;split at a
   .split at a<;>simp at a
   .exact hi.dH s' cs a
  fu:=fun s' b h=>by simpa using hi.fu s' b h}
def Gh.iX(G:Gh)(s':Nat)(b:Nat×Nat):Gh:={G with role:=fun k=>if k=b.1 then .shr s' else G.role k,sm:=fun k=>if k=s' then some b else G.sm k}
theorem Inv.iX{ρ:bX}{mem:List (Nat×List AV)}{sh:Sh}{aa:aF}(hi:Inv ρ G w mem sh aa){s:Nat}{b:Nat×Nat}{cells:List AV}(hs:sh[s]?=some (some cells))(z:G.sm s=some b):
   Inv ρ (G.iX sh.length b) w mem (sh.set s none++[some cells]) aa/\G.le (G.iX sh.length b)/\bY G w (G.iX sh.length b) w:=by
 obtain⟨b0,e1,e2,e3,e4⟩:=hi.dH s cells hs;rw[z]at e1;cases e1;have hr:G.role b.1=.shr s:=e2.role
 have m:G.sm sh.length=none:=by
  cases h:G.sm sh.length with
  |none=>rfl
  |some b=>have:=hi.fu _ b h;omega
 have f:G.le (G.iX sh.length b):=⟨G.K.le_refl,fun _ _ h=>h,fun k b h=>by
  simp only[Gh.iX];split
  .rename_i e;subst e;rw[m]at h;simp at h
  .exact h,fun _ t h=>⟨t,h,⟨zas _,t.iP⟩,fun _=>rfl⟩⟩
 have a:∀k r,G.role k=r->r≠.shr s->(G.iX sh.length b).role k=r:=by
  intro k r g hn;simp only[Gh.iX];rw[zai]
  .exact g
  .rintro rfl;exact hn (g.symm.trans hr)
 have x:s<sh.length:=(zaa.1 hs).1
 have i:bY G w (G.iX sh.length b) w:={
           size:=zas _,os:=rfl,tape:=rfl,output:=rfl,K:=G.K.le_refl,sm:=f.sm,
           fe:=fun k _ g=>⟨a k _ g (by simp),rfl⟩
           jt:=fun k τ _ g=>.inr ⟨τ,a k _ g (by simp)⟩
           iG:=fun _ _ _ _ _ h=>h}
 refine⟨⟨hi.known,?_,?_,?_,hi.iu,?_,?_,?_,hi.gF,hi.jj i⟩,f,i⟩
 .intro k o v g;rcases hi.bm k o v g with h|⟨τ,h⟩
  .exact .inl (a k _ h (by simp))
  .exact .inr ⟨τ,a k _ h (by simp)⟩
 .intro k g;exact a k _ (hi.fresh k g) (by simp)
 .intro d cs hd;obtain⟨b',e1,e2,e3⟩:=hi.di d cs hd;exact⟨b',e1,e2.mono f ((a b' _ e2.role (by simp)).trans e2.role.symm) rfl,e3⟩
 .intro s' cs c;rw[zbn]at c;split at c
  .rw[zaA]at c;split at c
   .simp at c
   .rename_i p;obtain⟨b',f1,f2,f3⟩:=hi.dH s' cs c;exact⟨b',f.sm _ _ f1,f2.mono f ((a b'.1 _ f2.role (by simp;exact fun h=>p h.symm)).trans f2.role.symm) rfl,f3⟩
  .rename_i u
   have j:s'=sh.length:=by
    rcases Nat.eq_or_lt_of_le (Nat.le_of_not_lt u)with h|h
    .simpa using h.symm
    .rw[za4 (by simp at h⊢;omega)]at c;simp at c
   subst j;simp at c;subst c;obtain⟨_,o,y,l⟩:=e2;exact⟨b,by simp[Gh.iX],⟨by simp[Gh.iX],o,y,l.mono f⟩,e3,mf (by omega) e4⟩
 .intro s' b' h;simp only[Gh.iX]at h;split at h
  .rename_i e;subst e;simp
  .have:=hi.fu s' b' h;simp;omega
 .intro τ n hn;obtain⟨tk,e1,e2,e3⟩:=hi.dV τ n hn;refine⟨tk,e1,e2,e3.cap,e3.zero,fun q=>?_⟩;obtain⟨b',o,C,ty,f1,f2,f3,B,A⟩:=e3.spare q;exact⟨b',o,C,ty,f1,a b' _ f2 (by simp),f3,B,A⟩
def Bu{cs:List PV}(h:∀p∈cs,dT p=true):(cs.map AV.pv).all da=true:=by
 rw[zaq];intro x hx;obtain⟨p,hp,rfl⟩:=zat.1 hx;have:=h p hp;cases p<;>simp_all[da,aY,dT]
def wU{argTypes:Array TypeId}{type t e e1 t1 sz M:Nat}{ag:Bool}{z:List PV}{s x y:AV}{xs:List PV}{vs vx:Value}{mem:List (Nat×List AV)}{sh sh':Sh}{aa:aF}
   (h0:argTypes[0]?=some t) (h1:argTypes[1]?=some t1)
   (hu:P.underlying t=some (.slice e)) (E:P.underlying t1=some (.slice e1)) (F:cT P e=some sz) (ak:fE P e=some M) (hz:cK P e=some z) (Y:z.length=sz) (an:0<M)
   (hs:aD (num ns) G s vs) (hx:aD (num ns) G x vx) (hi:Inv (num ns) G w mem sh aa) (Z:cG x=some xs) (b5:bl sz xs=true) (h:tJ sz M ag s xs sh aa=some (y,sh')):
   ∃v w' G',(Builtin.append_ argTypes type #[vs,vx]).run P w=.ok v w'/\aD (num ns) G' y v/\Inv (num ns) G' w' mem sh' aa/\G.le G'/\bY G w G' w':=by
 obtain⟨xb,xc,rfl⟩:=kN Z hx;have ay:=eP Z hx;have A:∀w',w'=w.drew->∀b o u,G.K b o=some u->w'.cell? ⟨b,o,none⟩=some u:=fun w' e b o u hk=>by subst e;exact hi.known b o u hk
 obtain⟨new,V,n2,n3,X⟩:=rC (P:=P) ay b5;have L:((xs.flatMap aZ).map AV.pv).all da=true:=Bu (lM n2)
 have I:∀k,((xs.flatMap aZ).map AV.pv).all (aJ k)=true:=by
  intro k;rw[zaq];intro x hx;obtain⟨p,_,rfl⟩:=zat.1 hx;rfl
 have O:∀base,vs=.slice base 0 0->tI sz M ag s xs sh=some (y,sh')->
     ∃v w' G',(Builtin.append_ argTypes type #[vs,.slice xb xs.length xc]).run P w=.ok v w'/\aD (num ns) G' y v/\Inv (num ns) G' w' mem sh' aa/\G.le G'/\bY G w G' w':=by
   rintro base rfl W
   unfold tI at W;split at W
   .rename_i j;have D:xs=[]:=zc4.1 j;subst D;simp only[zag,zaD]at W;obtain⟨rfl,rfl⟩:=W;have J:new=[]:=by apply zbp;simpa using V
    subst J;have q:=fY (type:=type) h0 h1 hu E F (base:=base) (len:=0) (cap:=0) (n:=0) (xb:=xb) (xc:=xc) rfl (X w hi.known) (by omega);refine⟨.slice base 0 0,w,G,?_,hs,hi,G.le_refl,bY.refl G w⟩;refine zcP q ?_;cases base<;>simp[storeCells]
   .rename_i j;simp only[zab,zag,zaD]at W;obtain⟨m,rfl,rfl⟩:=W
    have a7:0<xs.length:=by
     cases xs with
     |nil=>simp at j
     |cons _ _=>simp
    obtain⟨rest,d,p1,p2,p3⟩:=l9 (type:=type) (aH:=#[]) (new:=new.toArray) h0 h1 hu E F ak hz Y (base:=base) (len:=0) (cap:=0) (n:=xs.length) (xb:=xb) (xc:=xc) rfl
      (fun w' e=>by cases base<;>simp[Builtin.firstCells,loadCells,loadCellsFrom]) (fun w' e=>X w' (A w' e)) (by omega) an (by simpa using m)
    have l:aC (num ns) G ((xs.flatMap aZ).map .pv) new:=iV n2
    obtain⟨g1,g2,g3⟩:=hi.drew.Er (o':=.cells (#[]++new.toArray++rest) e) (N:=(#[]++new.toArray++rest).size) (cells:=(xs.flatMap aZ).map .pv)
      (.inl ⟨_,e,new,rest.toList,rfl,rfl,by simp,l⟩) L (I _)
    refine⟨_,_,_,p3,?_,g1,g2,(bY.drew G w).trans g3⟩;simp only[aD];refine⟨(w.drew.heap.size,(#[]++new.toArray++rest).size),d-xs.length,by simp[Gh.dI],?_,?_⟩
    .have:xs.length+(d-xs.length)=d:=by omega
     show Value.slice (some ⟨w.heap.size,0,none⟩) (0+xs.length) d=Value.slice (some ⟨w.heap.size,0,none⟩) xs.length (xs.length+(d-xs.length));simp[this]
    .have:xs.length+(d-xs.length)=d:=by omega
     rw[this];simp[V,p2];have:d=xs.length+(d-xs.length):=by omega
     conv=>lhs;rw[this,zaI]
     omega
 unfold tJ at h;split at h
 .have a3:=hs;simp only[aD]at hs;obtain⟨base,len,rfl,ax⟩:=hs;have i:len=0:=by have:=ax.1;simpa using this.symm
  subst i;exact O base rfl h
 .rename_i τ;simp only[zab]at h;obtain⟨Q,h⟩:=h;simp only[aD]at hs;obtain⟨tk,e1,e2,e3,e4⟩:=hs
  have i:([]:List PV).length=tk.len:=by
   have:=hi.gF τ tk e1;rw[Q]at this;simpa using this
  obtain⟨hv,_⟩:=e4 i;obtain⟨ba,f1,f2,f3⟩:=hi.dV τ _ Q;rw[e1]at f1;cases f1;have aj:=f3.zero (by simpa using i.symm);refine O tk.base ?_ h;rw[hv];simp only[Tk.val];rw[aj,<-i];rfl
 .rename_i b f n g;split at h
  .rename_i cells U;simp only[zab]at h;obtain⟨⟨rfl,rfl,aO,be,m⟩,h⟩:=h;have a3:=hs;simp only[aD]at hs;obtain⟨r,cap,a1,rfl,T⟩:=hs;obtain⟨b9,a8,am,ac,a6⟩:=hi.dH _ _ U;rw[a1]at a8;cases a8;obtain⟨_,c,ty,C,suf,hh,bi,a0,l⟩:=am.cells aO;have bc:C.length=cells.length:=l.length;split at h
   .rename_i j;have D:xs=[]:=zc4.1 j;subst D;simp only[zag,zaD]at h;obtain⟨rfl,rfl⟩:=h;have J:new=[]:=by apply zbp;simpa using V
    subst J;have q:=fY (type:=type) h0 h1 hu E F (base:=some ⟨r.1,0,none⟩) (len:=n) (cap:=n+cap) (n:=0) (xb:=xb) (xc:=xc) rfl (X w hi.known) (by omega);refine⟨.slice (some ⟨r.1,0,none⟩) n (n+cap),w,G,?_,a3,hi,G.le_refl,bY.refl G w⟩;refine zcP q ?_;simp[storeCells]
   .rename_i j;simp only[zag,zaD]at h;obtain⟨rfl,rfl⟩:=h
    have a7:0<xs.length:=by
     cases xs with
     |nil=>simp at j
     |cons _ _=>simp
    have H:aC (num ns) G (cells.take (n*f)) (C.take (n*f)):=l.take _
    have ab:(cells.take (n*f)).all da=true:=by
     rw[zaq]at ac⊢;exact fun x hx=>ac x (zbd hx)
    have a4:(cells.take (n*f)).all (aJ (b+1))=true:=by
     rw[zaq]at a6⊢;exact fun x hx=>a6 x (zbd hx)
    have b8:b<sh.length:=(zaa.1 U).1
    have S:(cells.take (n*f)++(xs.flatMap aZ).map AV.pv).all da=true:=by
     rw[zcK,ab,L];rfl
    have R:(cells.take (n*f)++(xs.flatMap aZ).map AV.pv).all (aJ (sh.length+1))=true:=by
     rw[zcK,mf (by omega) a4,I];rfl
    have ao:(C.take (n*f)).length=n*f:=(by rw[zbk];omega);rcases zcd (n+cap) (n+xs.length)with B|B
    .-- a new block
     obtain⟨rest,d,p1,p2,p3⟩:=l9 (type:=type) (aH:=(C.take (n*f)).toArray) (new:=new.toArray) h0 h1 hu E F ak hz Y (base:=some ⟨r.1,0,none⟩) (len:=n) (cap:=n+cap) (n:=xs.length) (xb:=xb) (xc:=xc) rfl
       (fun w' e=>by subst e;exact uQ (w:=w.drew) hh a0 (by omega)) (fun w' e=>X w' (A w' e)) B an m
     have l:aC (num ns) G (cells.take (n*f)++(xs.flatMap aZ).map .pv) (C.take (n*f)++new):=H.append (iV n2);have b4:=hi.drew.Ya b;have i:(sh.set b none).length=sh.length:=by simp
     obtain⟨g1,g2,g3⟩:=b4.Er (o':=.cells ((C.take (n*f)).toArray++new.toArray++rest) e) (N:=((C.take (n*f)).toArray++new.toArray++rest).size) (cells:=cells.take (n*f)++(xs.flatMap aZ).map .pv)
       (.inl ⟨_,e,C.take (n*f)++new,rest.toList,rfl,rfl,by simp,l⟩) S (by rw[i];exact R)
     rw[i]at g1 g2 g3;refine⟨_,_,_,p3,?_,g1,g2,(bY.drew G w).trans g3⟩;simp only[aD];refine⟨(w.drew.heap.size,((C.take (n*f)).toArray++new.toArray++rest).size),d-(n+xs.length),by simp[Gh.dI],?_,?_⟩
     .have:n+xs.length+(d-(n+xs.length))=d:=by omega
      show Value.slice (some ⟨w.heap.size,0,none⟩) (n+xs.length) d=Value.slice (some ⟨w.heap.size,0,none⟩) (n+xs.length) (n+xs.length+(d-(n+xs.length)));simp[this]
     .have:n+xs.length+(d-(n+xs.length))=d:=by omega
      rw[this];simp only[Array.size_append,zcC,ao,V,p2];have:d=n+xs.length+(d-(n+xs.length)):=by omega
      conv=>lhs;rw[this,zaI,zaI]
      omega
    .-- in bb place
     have a9:(n+xs.length)*f<=(n+cap)*f:=zaZ _ B;rw[zaI]at a9;have b7:n*f+xs.length*f<=c.size:=(by omega);obtain⟨m1,m2,m3⟩:=hi.iX U a1;have t7:=zcm (P:=P) r.1 (n*f) ty new 0 c w hh (by rw[V];omega) n3;have q:=fY (type:=type) h0 h1 hu E F (base:=some ⟨r.1,0,none⟩) (len:=n) (cap:=n+cap) (n:=xs.length) (xb:=xb) (xc:=xc) rfl (X w hi.known) B;simp only[zba]at t7
     have ai:(sh.set b none++[some cells])[sh.length]?=some (some cells):=by
      rw[zaB (by simp)];simp
     have b6:c.toList.take (n*f)=C.take (n*f):=by
      rw[a0,zbD (by omega)]
     obtain⟨g1,g2⟩:=m1.qf (cells':=cells.take (n*f)++(xs.flatMap aZ).map .pv) (c':=(c.toList.take (n*f)++new++c.toList.drop (n*f+new.length)).toArray) (vs:=C.take (n*f)++new) (suf:=c.toList.drop (n*f+new.length))
       ai (by simp[Gh.iX]) hh (by
        have:c.toList.length=c.size:=by simp
        simp only[zcC,zad,zbk,zce,V,this];omega)
       (by simp[b6]) (aC.mono m2 (H.append (iV n2))) S R
     have a2:(sh.set b none++[some cells]).set sh.length (some (cells.take (n*f)++(xs.flatMap aZ).map .pv))=sh.set b none++[some (cells.take (n*f)++(xs.flatMap aZ).map .pv)]:=by
      rw[zco _ _ (by simp)];simp
     rw[a2]at g1;refine⟨.slice (some ⟨r.1,0,none⟩) (n+xs.length) (n+cap),_,_,?_,?_,g1,m2,m3.trans g2⟩
     .refine zcP q ?_;simp only[Addr.eO,zbi,t7,zam]
     .simp only[aD];refine⟨r,cap-xs.length,by simp[Gh.iX],?_,?_⟩
      .have:n+xs.length+(cap-xs.length)=n+cap:=by omega
       rw[this]
      .have:n+xs.length+(cap-xs.length)=n+cap:=by omega
       rw[this];exact T
  .simp at h
 .simp at h
def Eu{c:Call}{A:lG}{dst:Option Nat}{args:List Operand}{sz:Nat}{z:List PV}(h:bR P ns A dst (.call c)=some (.ig sz z,args)):
   ∃x t e,c.callee=.builtin .clear/\c.args=#[x]/\args=[x]/\c.argTypes[0]?=some t/\P.underlying t=some (.slice e)/\cT P e=some sz/\cK P e=some z/\z.length=sz/\0<sz:=by
 obtain⟨callee,d,a⟩:=c;simp only[bR]at h;split at h
 .split at h<;>simp at h
 .split at h<;>simp at h
 .split at h<;>simp at h
 .split at h
  .split at h
   .rw[zab]at h;obtain⟨_,h⟩:=h;split at h
    .simp at h
    .split at h<;>simp at h
   .simp at h
  .simp at h
 .rename_i f;split at h
  .rename_i x e i ht;split at h
   .rename_i g j hs hz;simp only[zab,zag,zaD,AK.ig.injEq]at h;obtain⟨⟨h1,h2⟩,⟨rfl,rfl⟩,rfl⟩:=h;simp only[zaF]at ht;obtain⟨t,ht,b⟩:=ht;exact⟨x,t,e,rfl,by apply zbQ;simpa using i,rfl,ht,dW b,hs,hz,h1,h2⟩
   .simp at h
  .simp at h
 .split at h
  .split at h<;>simp at h
  .simp at h
 .split at h
  .split at h
   ·(repeat' (split at h))<;>simp at h
   .split at h
    .simp at h
    .split at h
     .simp at h
     .split at h<;>simp at h
  .simp at h
 .split at h<;>simp at h
 .simp at h
def Jv{l:Array Value}{z:List PV}{n:Nat}(hz:cg dt l.toList=some z)(e:0<z.length):
   aC (num ns) G ((List.replicate n (z.map AV.pv)).flatten) (Builtin.zeroCells l n).toList/\((List.replicate n (z.map AV.pv)).flatten).all da=true/\∀k,((List.replicate n (z.map AV.pv)).flatten).all (aJ k)=true:=by
 obtain⟨zr,zl⟩:=mc (G:=G) (ρ:=num ns) hz;have a:l.size=z.length:=by have:=gW hz;simp at this;omega
 refine⟨?_,?_,?_⟩
 .refine jz (by simp[Builtin.zeroCells,a]) fun j x v hx hv=>?_;have c:j<n*z.length:=by have:=(zaa.1 hx).1;simpa using this
  rw[d5 _ _ _ (by simpa using c)]at hx;obtain⟨f,g1,g2⟩:=zr.get hx
  have:v=f:=by
   simp only[Builtin.zeroCells,zct,zaK,zcV,zac]at hv;obtain⟨g,d,hv⟩:=hv;rw[zcQ (by rw[a];exact c)]at d;cases d;simp only[zak]at g1;rw[a]at hv;have hm:j % z.length<l.size:=by rw[a];exact zdc _ e
   rw[getElem!_pos l (j % z.length) hm]at hv;have b:l[j % z.length]?=some f:=by simpa using g1
   rw[zbU hm]at b;simp at b;rw[<-hv,b]
  subst this;exact g2
 .rw[zaq]at*;intro x hx;simp only[zb1,zbB]at hx;obtain⟨l,⟨_,rfl⟩,hx⟩:=hx;exact zl x hx
 .intro k;have:=y5 k z;rw[zaq]at*;intro x hx;simp only[zb1,zbB]at hx;obtain⟨l,⟨_,rfl⟩,hx⟩:=hx;exact this x hx
def y6{argTypes:Array TypeId}{type t e sz:Nat}{z:List PV}{x:AV}{v:Value}{mem:List (Nat×List AV)}{sh sh':Sh}{aa:aF}
   (h0:argTypes[0]?=some t) (hu:P.underlying t=some (.slice e)) (hz:cK P e=some z) (L:z.length=sz) (X:0<sz)
   (hx:aD (num ns) G x v) (hi:Inv (num ns) G w mem sh aa) (h:o_ sz z sh (uE sz x)=some sh'):
   ∃w',(Builtin.clear_ argTypes type #[v]).run P w=.ok (.tuple #[]) w'/\Inv (num ns) G w' mem sh' aa/\bY G w G w':=by
 cases a:uE sz x with
 |none=>rw[a]at h;simp[o_]at h
 |some q=>
  obtain⟨b,off,n⟩:=q;rw[a]at h
  have hv:∃d base cap,G.sm b=some d/\v=.slice base n cap/\(n=0\/base=some ⟨d.1,off,none⟩):=by
   unfold uE at a;split at a
   .simp only[zab,zag,zaD]at a;obtain⟨rfl,rfl,rfl,rfl⟩:=a;simp only[aD]at hx;obtain⟨d,cap,e1,e2,_⟩:=hx;exact⟨d,_,_,e1,e2,.inr rfl⟩
   .simp only[zag,zaD]at a;obtain⟨rfl,rfl,rfl⟩:=a;simpa only[aD]using hx
   .simp at a
  obtain⟨d,base,cap,A,rfl,s⟩:=hv;simp only[o_]at h;split at h
  .rename_i cells g;simp only[zab,zag]at h;obtain⟨⟨Q,Y,_⟩,rfl⟩:=h;by_cases hn:n=0
   .subst hn;have e1:aS cells off ((List.replicate 0 (z.map AV.pv)).flatten)=cells:=by simp[aS]
    have e2:sh.set b (some cells)=sh:=by
     apply zcb
     intro j;rw[zaA];split
     .rename_i e;subst e;split
      .exact g.symm
      .rename_i hj;rw[za4 (by omega)]at g;simp at g
     .rfl
    rw[e1,e2];refine⟨w,?_,hi,bY.refl G w⟩;cases base<;>simp[Builtin.clear_,h0,zaL hu]
   .have Z:=s.resolve_left hn;subst Z;obtain⟨U,C,J,E,B⟩:=hi.dH _ _ g;rw[A]at C;cases C;obtain⟨_,c,ty,i,suf,T,R,m,k⟩:=J.cells Q;have W:i.length=cells.length:=k.length;obtain⟨f,N,M⟩:=gX (P:=P) (w:=w) hz;have O:0<z.length:=(by omega);obtain⟨zr,zl,V⟩:=Jv (ns:=ns) (G:=G) (n:=n) M O;have D:∀u∈(Builtin.zeroCells f.cells n).toList,u.oneCell'=true:=l_ zr (jw zl);have l:(Builtin.zeroCells f.cells n).toList.length=n*sz:=(by rw[zr.length];simp[L]);have I:c.toList.length=i.length+suf.length:=(by rw[m];simp);have H:c.size=i.length+suf.length:=(by simpa using I);have t7:=zcm (P:=P) d.1 off ty (Builtin.zeroCells f.cells n).toList 0 c w T (by rw[l];omega) D;simp only[zba]at t7;have F:c.toList.take off=i.take off:=by rw[m,zbD (by omega)]
    have S:c.toList.drop (off+(Builtin.zeroCells f.cells n).toList.length)=i.drop (off+(Builtin.zeroCells f.cells n).toList.length)++suf:=by
     rw[m,zb3 (by rw[l];omega)]
    have r:(aS cells off ((List.replicate n (z.map AV.pv)).flatten)).all da=true:=by
     rw[zaq]at*;intro y hy;simp only[aS,zaz]at hy;rcases hy with(hy|hy)|hy
     .exact E y (zbd hy)
     .exact zl y hy
     .exact E y (zbW hy)
    have p:(aS cells off ((List.replicate n (z.map AV.pv)).flatten)).all (aJ (b+1))=true:=by
     have K:=V (b+1);rw[zaq]at*;intro y hy;simp only[aS,zaz]at hy;rcases hy with(hy|hy)|hy
     .exact B y (zbd hy)
     .exact K y hy
     .exact B y (zbW hy)
    have o:aC (num ns) G (aS cells off ((List.replicate n (z.map AV.pv)).flatten)) (i.take off++(Builtin.zeroCells f.cells n).toList++i.drop (off+(Builtin.zeroCells f.cells n).toList.length)):=fW off k zr
    obtain⟨g1,g2⟩:=hi.qf (cells':=aS cells off ((List.replicate n (z.map AV.pv)).flatten)) (c':=(c.toList.take off++(Builtin.zeroCells f.cells n).toList++c.toList.drop (off+(Builtin.zeroCells f.cells n).toList.length)).toArray)
      (vs:=i.take off++(Builtin.zeroCells f.cells n).toList++i.drop (off+(Builtin.zeroCells f.cells n).toList.length)) (suf:=suf) g A T (by
       simp only[zcC,zad,zbk,zce,l,I];rw[<-R,H];omega)
      (by simp only[F,S,zaP]) o r p
    refine⟨_,?_,g1,g2⟩;cases n with
    |zero=>exact absurd rfl hn
    |succ n=>
     simp only[Builtin.clear_,h0];simp[zaL hu,N,t7]
  .simp at h
end
end Go.Ab
namespace Go.Ab
section
variable {P:Program} {ns:Names} {G:Gh} {w:World} {A:lG}
def tO{els:List PV}{base:Option Addr}{len cap sz k:Nat}(hr:Rel G.K (.aq els) (.slice base len cap))(hs:bl sz els=true)(h:k<=els.length):
   ∃c:List Value,c.length=k*sz/\dO G.K ((els.take k).flatMap aZ) c/\(∀u∈c,u.oneCell'=true)/\
     ∀w:World,(∀b o u,G.K b o=some u->w.cell? ⟨b,o,none⟩=some u)->(Builtin.firstCells sz k (.slice base len cap)).run P w=.ok c.toArray w:=by
 obtain⟨i,l,n,e,_,m,g⟩:=cq.1 hr;cases e;by_cases d:els=[]
 .subst d;have:k=0:=by simpa using h
  subst this;refine⟨[],by simp,by simp[dO],by simp,fun w _=>?_⟩;cases base with
  |none=>simp[Builtin.firstCells]
  |some a=>simp[Builtin.firstCells,loadCells,loadCellsFrom]
 .obtain⟨b,o,p,rfl,f⟩:=g.resolve_left d;have:=f.sz hs d;subst this;obtain⟨c,g1,g2,q,g4⟩:=(f.take k).uP;rw[zbk,zcw h]at g1;refine⟨c,g1,q,g4,fun w h=>?_⟩;have hl:=zbT (P:=P) w ⟨b,o,none⟩ c (fun j u hj=>by rw[Addr.eO];exact h _ _ _ (g2 j u hj));rw[g1]at hl;simpa[Builtin.firstCells]using hl
def Bv{argTypes:Array TypeId}{type t e sz k:Nat}{xs:List PV}{x y:AV}{v u:Value}{mem:List (Nat×List AV)}{sh sh':Sh}{aa:aF}
   (h0:argTypes[0]?=some t) (hu:P.underlying t=some (.slice e)) (M:cT P e=some sz)
   (hx:aD (num ns) G x v) (hy:aD (num ns) G y u) (hi:Inv (num ns) G w mem sh aa) (o:cG y=some xs) (h:p9 sz sh xs x=some (k,sh')):
   ∃w',(Builtin.copy_ argTypes type #[v,u]).run P w=.ok (.int .i64 k) w'/\Inv (num ns) G w' mem sh' aa/\bY G w G w':=by
 obtain⟨xb,xc,rfl⟩:=kN o hy;have N:=eP o hy;unfold p9 at h;split at h
 .rename_i b z n _;split at h
  .rename_i cells E;simp only[zab,zag,zaD]at h;obtain⟨⟨rfl,S,O,a1⟩,rfl,rfl⟩:=h;simp only[aD]at hx;obtain⟨V,cap,r,rfl,_⟩:=hx;have Q:min xs.length n<=xs.length:=Nat.min_le_left _ _;have R:min xs.length n<=n:=Nat.min_le_right _ _;obtain⟨new,K,n2,Z,Y⟩:=tO (P:=P) N S Q
   have L:xs.take (min xs.length n)=xs.take n:=by
    rcases Nat.le_total xs.length n with h|h
    .rw[zcw h,zaf h,zaf (zas _)]
    .rw[zc2 h]
   rw[L]at n2;generalize hk:min xs.length n=k at*;have d:(((xs.take n).flatMap aZ).map AV.pv).all da=true:=Bu (lM n2)
   have a:∀k,(((xs.take n).flatMap aZ).map AV.pv).all (aJ k)=true:=by
    intro k;rw[zaq];intro x hx;obtain⟨p,_,rfl⟩:=zat.1 hx;rfl
   have i:aC (num ns) G (((xs.take n).flatMap aZ).map .pv) new:=iV n2;obtain⟨X,A,I,C,s⟩:=hi.dH _ _ E;rw[r]at A;cases A;obtain⟨_,c,ty,g,suf,W,T,q,f⟩:=I.cells O;have a0:g.length=cells.length:=f.length;have a2:k*z<=n*z:=zaZ z R;have H:c.toList.length=g.length+suf.length:=(by rw[q];simp);have F:c.size=g.length+suf.length:=(by simpa using H);have t7:=zcm (P:=P) V.1 0 ty new 0 c w W (by rw[K];omega) Z;simp only[zba]at t7;have D:c.toList.take 0=g.take 0:=by simp
   have U:c.toList.drop (0+new.length)=g.drop (0+new.length)++suf:=by
    rw[q,zb3 (by rw[K];omega)]
   have m:(aS cells 0 (((xs.take n).flatMap aZ).map AV.pv)).all da=true:=by
    rw[zaq]at*;intro y hy;simp only[aS,zaz]at hy;rcases hy with(hy|hy)|hy
    .exact C y (zbd hy)
    .exact d y hy
    .exact C y (zbW hy)
   have l:(aS cells 0 (((xs.take n).flatMap aZ).map AV.pv)).all (aJ (b+1))=true:=by
    have J:=a (b+1);rw[zaq]at*;intro y hy;simp only[aS,zaz]at hy;rcases hy with(hy|hy)|hy
    .exact s y (zbd hy)
    .exact J y hy
    .exact s y (zbW hy)
   have j:=fW 0 f i
   obtain⟨g1,g2⟩:=hi.qf (cells':=aS cells 0 (((xs.take n).flatMap aZ).map AV.pv)) (c':=(c.toList.take 0++new++c.toList.drop (0+new.length)).toArray)
     (vs:=g.take 0++new++g.drop (0+new.length)) (suf:=suf) E r W (by
      simp only[zcC,zad,zbk,zce,K,H];rw[<-T,F];omega)
     (by simp only[D,U,zaP]) j m l
   refine⟨_,?_,g1,g2⟩;have B:Nat.min xs.length n=k:=hk;have hl:=Y w hi.known;simp[Builtin.copy_,h0,zaL hu,Builtin.lenOf,B,dy M,hl,t7,goInt]
  .simp at h
 .simp at h
def Jw{c:Call}{dst:Option Nat}{args:List Operand}{sz:Nat}(h:bR P ns A dst (.call c)=some (.kJ sz,args)):
   ∃x y t e t1 e1,c.callee=.builtin .copy/\c.args=#[x,y]/\args=[x,y]/\c.argTypes[0]?=some t/\c.argTypes[1]?=some t1/\P.underlying t=some (.slice e)/\P.underlying t1=some (.slice e1)/\cT P e=some sz:=by
 obtain⟨callee,g,d⟩:=c;simp only[bR]at h
 repeat' (split at h)
 all_goals try (simp at h;done)
 rename_i x y e e1 j ht a _ i hs;simp only[zag,zaD,AK.kJ.injEq]at h;obtain⟨rfl,rfl⟩:=h;simp only[zaF]at ht a;obtain⟨t,ht,f⟩:=ht;obtain⟨t1,a,b⟩:=a;exact⟨x,y,t,e,t1,e1,rfl,by apply zbQ;simpa using j,rfl,ht,a,dW f,dW b,hs⟩
end
end Go.Ab
namespace Go.Ab
section
variable {P:Program} {ns:Names} {A:lG} {dst:Option Nat} {op:Op} {args:List Operand}
def Bw{k o sz:Nat}{ag:Bool}(h:bR P ns A dst op=some (.cr k o sz ag,args)):
   ∃t tx,op=.load t (.tmp tx)/\args=[.tmp tx]/\cT P t=some sz/\iC P t=some ag:=by
 cases op<;>simp only[bR]at h
 all_goals (repeat' (split at h))
 all_goals (try (simp at h;done))
 all_goals
   simp only[zag,zaD,AK.cr.injEq]at h;obtain⟨⟨rfl,rfl,rfl,rfl⟩,rfl⟩:=h;exact⟨_,_,rfl,rfl,by assumption,by assumption⟩
def Bx{sz:Nat}{ag:Bool}(h:bR P ns A dst op=some (.eg sz ag,args)):
   ∃t tx,op=.load t (.tmp tx)/\args=[.tmp tx]/\cT P t=some sz/\iC P t=some ag:=by
 cases op<;>simp only[bR]at h
 all_goals (repeat' (split at h))
 all_goals (try (simp at h;done))
 all_goals
   simp only[zag,zaD,AK.eg.injEq]at h;obtain⟨⟨rfl,rfl⟩,rfl⟩:=h;exact⟨_,_,rfl,rfl,by assumption,by assumption⟩
def y7{k o sz:Nat}(h:bR P ns A dst op=some (.bH k o sz,args)):
   ∃t tx v,op=.store t (.tmp tx) v/\args=[.tmp tx,v]/\cT P t=some sz:=by
 cases op<;>simp only[bR]at h
 all_goals (repeat' (split at h))
 all_goals (try (simp at h;done))
 all_goals
   simp only[zag,zaD,AK.bH.injEq]at h;obtain⟨⟨rfl,rfl,rfl⟩,rfl⟩:=h;exact⟨_,_,_,rfl,rfl,by assumption⟩
def y8{sz:Nat}(h:bR P ns A dst op=some (.fK sz,args)):
   ∃t tx v,op=.store t (.tmp tx) v/\args=[.tmp tx,v]/\cT P t=some sz:=by
 cases op<;>simp only[bR]at h
 all_goals (repeat' (split at h))
 all_goals (try (simp at h;done))
 all_goals
   simp only[zag,zaD,AK.fK.injEq]at h;obtain⟨rfl,rfl⟩:=h;exact⟨_,_,_,rfl,rfl,by assumption⟩
def By{k:Nat}{z:List PV}(h:bR P ns A dst op=some (.alloc k z,args)):
   ∃t,op=.alloc t/\args=[]/\cK P t=some z/\dst=some k:=by
 cases op<;>simp only[bR]at h
 all_goals (repeat' (split at h))
 all_goals (try (simp at h;done))
 all_goals
   simp only[zag,zaD,AK.alloc.injEq]at h;obtain⟨⟨rfl,rfl⟩,rfl⟩:=h;exact⟨_,rfl,rfl,by assumption,rfl⟩
def y9{z:List PV}(h:bR P ns A dst op=some (.jM z,args)):
   ∃t,op=.alloc t/\args=[]/\cK P t=some z:=by
 cases op<;>simp only[bR]at h
 all_goals (repeat' (split at h))
 all_goals (try (simp at h;done))
 all_goals
   simp only[zag,zaD,AK.jM.injEq]at h;obtain⟨rfl,rfl⟩:=h;exact⟨_,rfl,rfl,by assumption⟩
def Jx{k sz:Nat}(h:bR P ns A dst op=some (.box k sz,args)):
   ∃t x,op=.box t x/\args=[x]/\cT P t=some sz/\dst=some k:=by
 cases op<;>simp only[bR]at h
 all_goals (repeat' (split at h))
 all_goals (try (simp at h;done))
 all_goals
   simp only[zag,zaD,AK.box.injEq]at h;obtain⟨⟨rfl,rfl⟩,rfl⟩:=h;exact⟨_,_,rfl,rfl,by assumption,rfl⟩
def Ew{sz:Nat}(h:bR P ns A dst op=some (.p7 sz,args)):
   ∃t x,op=.box t x/\args=[x]/\cT P t=some sz:=by
 cases op<;>simp only[bR]at h
 all_goals (repeat' (split at h))
 all_goals (try (simp at h;done))
 all_goals
   simp only[zag,zaD,AK.p7.injEq]at h;obtain⟨rfl,rfl⟩:=h;exact⟨_,_,rfl,rfl,by assumption⟩
def uR{k:AK}(h:bR P ns A dst op=some (k,args))(b:(∃sz a ag z,k=.jN sz a ag z)\/∃d sz a z,k=.iU d sz a z):
   ∃t e l c sz a ag z,op=.makeSlice t l c/\args=[l,c]/\P.underlying t=some (.slice e)/\cT P e=some sz/\fE P e=some a/\cK P e=some z/\z.length=sz/\0<sz /\
     (k=.jN sz a ag z\/∃d,dst=some d/\k=.iU d sz a z):=by
 have g:∀{o:Q2},k≠.v o:=by rintro o rfl;rcases b with⟨_,_,_,_,e⟩|⟨_,_,_,_,e⟩<;>cases e
 cases op with
 |makeSlice t l c=>
  simp only[bR]at h;split at h
  .rename_i e f;split at h
   .rename_i sz a ag z h1 h2 h3 h4;rw[zab]at h;obtain⟨⟨h5,h6⟩,h⟩:=h;split at h
    .rename_i k' d hd;rw[zab]at h;obtain⟨_,h⟩:=h;simp only[zag,zaD]at h;exact⟨t,e,l,c,sz,a,ag,z,rfl,h.2.symm,dW f,h1,h2,h4,h5,h6,.inr ⟨d,rfl,h.1.symm⟩⟩
    .simp at h
    .simp only[zag,zaD]at h;exact⟨t,e,l,c,sz,a,ag,z,rfl,h.2.symm,dW f,h1,h2,h4,h5,h6,.inl h.1.symm⟩
   .simp at h
  .simp at h
 |_=>
  exfalso;simp only[bR]at h
  (repeat' (split at h))
  all_goals (try (simp at h;done))
  all_goals (try simp only[zag,zaD,zac,zab]at h)
  all_goals (rcases b with⟨_,_,_,_,rfl⟩|⟨_,_,_,_,rfl⟩<;>simp at h)
def Bz{sz a:Nat}{ag:Bool}{z:List PV}(h:bR P ns A dst op=some (.jN sz a ag z,args)):
   ∃t e l c,op=.makeSlice t l c/\args=[l,c]/\P.underlying t=some (.slice e)/\cT P e=some sz/\fE P e=some a/\cK P e=some z/\z.length=sz/\0<sz:=by
 obtain⟨t,e,l,c,f,g,i,j,h1,h2,h3,h4,h5,h6,h7,h8,b⟩:=uR h (.inl ⟨_,_,_,_,rfl⟩);rcases b with b|⟨d,_,b⟩<;>cases b;exact⟨t,e,l,c,h1,h2,h3,h4,h5,h6,h7,h8⟩
def BA{d sz a:Nat}{z:List PV}(h:bR P ns A dst op=some (.iU d sz a z,args)):
   ∃t e l c,op=.makeSlice t l c/\args=[l,c]/\P.underlying t=some (.slice e)/\cT P e=some sz/\fE P e=some a/\cK P e=some z/\z.length=sz/\0<sz/\dst=some d:=by
 obtain⟨t,e,l,c,f,g,i,j,h1,h2,h3,h4,h5,h6,h7,h8,b⟩:=uR h (.inr ⟨_,_,_,_,rfl⟩);rcases b with b|⟨k,h0,b⟩<;>cases b;exact⟨t,e,l,c,h1,h2,h3,h4,h5,h6,h7,h8,h0⟩
def y_{sz a:Nat}(h:bR P ns A dst op=some (.append sz a,args)):∃c,op=.call c:=by
 cases op<;>simp only[bR]at h
 all_goals (repeat' (split at h))
 all_goals (try (simp at h;done))
 all_goals exact⟨_,rfl⟩
def wV{sz a:Nat}{ag:Bool}(h:bR P ns A dst op=some (.dk sz a ag,args)):∃c,op=.call c:=by
 cases op<;>simp only[bR]at h
 all_goals (repeat' (split at h))
 all_goals (try (simp at h;done))
 all_goals exact⟨_,rfl⟩
def BB{sz:Nat}(h:bR P ns A dst op=some (.kJ sz,args)):∃c,op=.call c:=by
 cases op<;>simp only[bR]at h
 all_goals (repeat' (split at h))
 all_goals (try (simp at h;done))
 all_goals exact⟨_,rfl⟩
def za{sz:Nat}{z:List PV}(h:bR P ns A dst op=some (.ig sz z,args)):∃c,op=.call c:=by
 cases op<;>simp only[bR]at h
 all_goals (repeat' (split at h))
 all_goals (try (simp at h;done))
 all_goals exact⟨_,rfl⟩
def Ey{k:AK}(a:(match k with| .aE _| .d8 _| .bB ..| .uD _| .gk| .fq| .clone ..| .ie ..=>true|_=>false)=true)(h:bR P ns A dst op=some (k,args)):∃c,op=.call c:=by
 cases op<;>simp only[bR]at h
 all_goals (repeat' (split at h))
 all_goals (try (simp at h;done))
 all_goals (first|exact⟨_,rfl⟩|skip)
 all_goals (simp at h;first|(obtain⟨rfl,_⟩:=h;simp at a;done)|(obtain⟨_,_,rfl,_⟩:=h;simp at a;done))
end
section
variable {orc:eY} {vals:List AV} {cells:Option (List AV)} {sh:Sh} {aa:aF} {out:Out}
def iI{key off sz:Nat}{ag:Bool}(h:exec orc (.cr key off sz ag) vals cells sh aa=some out):
   ∃cs x,vals=[.au key off]/\cells=some cs/\cm ag sz cs off=some x/\out=⟨x,none,sh,aa⟩:=by
 rcases vals with _|⟨v,_|⟨u,r⟩⟩
 .simp[exec]at h
 .cases v with
  |au d o=>
   simp only[exec,zab]at h;obtain⟨⟨rfl,rfl⟩,h⟩:=h;cases cells with
   |none=>simp at h
   |some cs=>
    simp only[zac]at h;obtain⟨x,h1,rfl⟩:=h;exact⟨cs,x,rfl,rfl,h1,rfl⟩
  |_=>simp[exec]at h
 .cases v<;>simp[exec]at h
def iY{key off sz:Nat}(h:exec orc (.bH key off sz) vals cells sh aa=some out):
   ∃cs v,vals=[.au key off,v]/\cells=some cs/\(bq v).length=sz/\(bq v).all aY=true/\off+sz<=cs.length/\out=⟨.un,some (aS cs off (bq v)),sh,aa⟩:=by
 rcases vals with _|⟨v,_|⟨u,_|⟨_,_⟩⟩⟩
 .simp[exec]at h
 .cases v<;>simp[exec]at h
 .cases v with
  |au d o=>
   simp only[exec,zab]at h;obtain⟨⟨rfl,rfl,h1,h2⟩,h⟩:=h;cases cells with
   |none=>simp at h
   |some cs=>
    simp only[zab,zag]at h;obtain⟨h3,rfl⟩:=h;exact⟨cs,u,rfl,rfl,h1,h2,h3,rfl⟩
  |_=>simp[exec]at h
 .cases v<;>simp[exec]at h
def jU{key:Nat}{z:List PV}(h:exec orc (.alloc key z) vals cells sh aa=some out):
   vals=[]/\cells=none/\out=⟨.au key 0,some (z.map bG.zeroCell),sh,aa⟩:=by
 cases vals with
 |nil=>cases cells with
  |none=>simp[exec]at h;exact⟨rfl,rfl,h.symm⟩
  |some _=>simp[exec]at h
 |cons _ _=>simp[exec]at h
def ni{key sz:Nat}(h:exec orc (.box key sz) vals cells sh aa=some out):
   ∃v,vals=[v]/\cells=none/\(bq v).length=sz/\(bq v).all aY=true/\out=⟨.au key 0,some (bq v),sh,aa⟩:=by
 rcases vals with _|⟨v,_|⟨u,r⟩⟩
 .simp[exec]at h
 .cases cells with
  |none=>
   simp only[exec,zab,zag]at h;obtain⟨⟨h1,h2⟩,rfl⟩:=h;exact⟨v,rfl,rfl,h1,h2,rfl⟩
  |some _=>simp[exec]at h
 .simp[exec]at h
def mg{sz:Nat}{ag:Bool}(h:exec orc (.eg sz ag) vals cells sh aa=some out):
   ∃p x,vals=[p]/\out=⟨x,none,sh,aa⟩/\((∃cs,p=.h_ cs/\cR ag sz cs=some x)\/∃b off cs,p=.aV b off/\sh[b]?=some (some cs)/\bW cs=false/\cm ag sz cs off=some x):=by
 rcases vals with _|⟨v,_|⟨u,r⟩⟩
 .simp[exec]at h
 .simp only[exec]at h;split at h
  .rename_i cs;simp only[zac]at h;obtain⟨x,h1,rfl⟩:=h;exact⟨_,x,rfl,rfl,.inl ⟨cs,rfl,h1⟩⟩
  .rename_i b off;split at h
   .rename_i cs a;split at h
    .cases h
    .rename_i hm;simp only[zac]at h;obtain⟨x,h1,rfl⟩:=h;exact⟨_,x,rfl,rfl,.inr ⟨b,off,cs,rfl,a,by simpa using hm,h1⟩⟩
   .simp at h
  .simp at h
 .simp[exec]at h
def iZ{sz:Nat}(h:exec orc (.fK sz) vals cells sh aa=some out):
   ∃b off v cs,vals=[.aV b off,v]/\sh[b]?=some (some cs)/\bW cs=false/\(cJ v).length=sz/\off+sz<=cs.length/\(cJ v).all da=true/\(cJ v).all (aJ (b+1))=true /\
     out=⟨.un,none,sh.set b (some (aS cs off (cJ v))),aa⟩:=by
 rcases vals with _|⟨v,_|⟨u,_|⟨_,_⟩⟩⟩
 .simp[exec]at h
 .cases v<;>simp[exec]at h
 .cases v with
  |aV b off=>
   simp only[exec]at h;split at h
   .rename_i cs a;simp only[zab,zag]at h;obtain⟨⟨h0,h1,h2,h3,h4⟩,rfl⟩:=h;exact⟨b,off,u,cs,rfl,a,h0,h1,h2,h3,h4,rfl⟩
   .simp at h
  |_=>simp[exec]at h
 .cases v<;>simp[exec]at h
def oe{sz:Nat}(h:exec orc (.p7 sz) vals cells sh aa=some out):
   ∃v,vals=[v]/\(cJ v).length=sz/\(cJ v).all da=true/\(cJ v).all (aJ sh.length)=true/\out=⟨.aV sh.length 0,none,sh++[some (cJ v)],aa⟩:=by
 rcases vals with _|⟨v,_|⟨u,r⟩⟩
 .simp[exec]at h
 .simp only[exec,zab,zag]at h;obtain⟨⟨h1,h2,h3⟩,rfl⟩:=h;exact⟨v,rfl,h1,h2,h3,rfl⟩
 .simp[exec]at h
def kP{z:List PV}(h:exec orc (.jM z) vals cells sh aa=some out):vals=[]/\out=⟨.aV sh.length 0,none,sh++[some (z.map bG.zeroCell)],aa⟩:=by
 cases vals with
 |nil=>simp[exec]at h;exact⟨rfl,h.symm⟩
 |cons _ _=>simp[exec]at h
def mh{sz a:Nat}{ag:Bool}{z:List PV}(h:exec orc (.jN sz a ag z) vals cells sh aa=some out):
   ∃k k' n,vals=[.pv (.int k n),.pv (.int k' n)]/\0<=n/\n<=9223372036854775807/\n*a<=140737488355328/\z.length=sz /\
     out=⟨.aP sh.length sz n.toNat ag,none,sh++[some ((List.replicate n.toNat (z.map .pv)).flatten)],aa⟩:=by
 rcases vals with _|⟨v,_|⟨u,_|⟨_,_⟩⟩⟩
 .simp[exec]at h
 .simp[exec]at h
 .cases v with
  |pv p=>cases p with
   |int k n=>cases u with
    |pv q=>cases q with
     |int k' n'=>
      simp only[exec,zab,zag]at h;obtain⟨⟨rfl,h1,h2,h3,h4⟩,rfl⟩:=h;exact⟨k,k',n,rfl,h1,h2,h3,h4,rfl⟩
     |_=>simp[exec]at h
    |_=>simp[exec]at h
   |_=>simp[exec]at h
  |_=>simp[exec]at h
 .simp[exec]at h
def jV{d sz a:Nat}{z:List PV}(h:exec orc (.iU d sz a z) vals cells sh aa=some out):
   ∃k k' n,vals=[.pv (.int k n),.pv (.int k' n)]/\0<=n/\n<=9223372036854775807/\n*a<=140737488355328/\z.length=sz/\cells=none /\
     out=⟨.kF d n.toNat,some ((List.replicate n.toNat (z.map .pv)).flatten),sh,aa⟩:=by
 rcases vals with _|⟨v,_|⟨u,_|⟨_,_⟩⟩⟩
 .simp[exec]at h
 .simp[exec]at h
 .cases v with
  |pv p=>cases p with
   |int k n=>cases u with
    |pv q=>cases q with
     |int k' n'=>
      cases cells with
      |some _=>simp[exec]at h
      |none=>
      simp only[exec,zab,zag]at h;obtain⟨⟨rfl,h1,h2,h3,h4⟩,rfl⟩:=h;exact⟨k,k',n,rfl,h1,h2,h3,h4,rfl,rfl⟩
     |_=>simp[exec]at h
    |_=>simp[exec]at h
   |_=>simp[exec]at h
  |_=>simp[exec]at h
 .simp[exec]at h
def pj{sz a:Nat}(h:exec orc (.clone sz a) vals cells sh aa=some out):
   ∃x y ts,vals=[x]/\cp sz a (.dr []) x aa=some (y,ts)/\out=⟨y,none,sh,ts⟩:=by
 rcases vals with _|⟨v,_|⟨_,_⟩⟩
 .simp[exec]at h
 .simp only[exec,zac]at h;obtain⟨⟨y,ts⟩,h1,rfl⟩:=h;exact⟨v,y,ts,rfl,h1,rfl⟩
 .simp[exec]at h
def kQ{sz a:Nat}(h:exec orc (.append sz a) vals cells sh aa=some out):
   ∃s x y ts,vals=[s,x]/\cp sz a s x aa=some (y,ts)/\out=⟨y,none,sh,ts⟩:=by
 rcases vals with _|⟨v,_|⟨u,_|⟨_,_⟩⟩⟩
 .simp[exec]at h
 .simp[exec]at h
 .simp only[exec,zac]at h;obtain⟨⟨y,ts⟩,h1,rfl⟩:=h;exact⟨v,u,y,ts,rfl,h1,rfl⟩
 .simp[exec]at h
def mi{sz:Nat}(h:exec orc (.kJ sz) vals cells sh aa=some out):
   ∃x y xs k sh',vals=[x,y]/\cG y=some xs/\p9 sz sh xs x=some (k,sh')/\out=⟨.pv (.int .i64 (k:Int)),none,sh',aa⟩:=by
 rcases vals with _|⟨v,_|⟨u,_|⟨_,_⟩⟩⟩
 .simp[exec]at h
 .simp[exec]at h
 .simp only[exec]at h;cases hx:cG u with
  |none=>rw[hx]at h;simp at h
  |some xs=>
   rw[hx]at h;simp only[zac]at h;obtain⟨⟨k,sh'⟩,h1,rfl⟩:=h;exact⟨v,u,xs,k,sh',rfl,hx,h1,rfl⟩
 .simp[exec]at h
def sP{sz:Nat}{z:List PV}(h:exec orc (.ig sz z) vals cells sh aa=some out):
   ∃x sh',vals=[x]/\o_ sz z sh (uE sz x)=some sh'/\out=⟨.rf [],none,sh',aa⟩:=by
 rcases vals with _|⟨v,_|⟨u,_⟩⟩
 .simp[exec]at h
 .simp only[exec,zac]at h;obtain⟨sh',h1,rfl⟩:=h;exact⟨v,sh',rfl,h1,rfl⟩
 .simp[exec]at h
def mj{sz a:Nat}{ag:Bool}(h:exec orc (.dk sz a ag) vals cells sh aa=some out):
   ∃s x xs y sh',vals=[s,x]/\cG x=some xs/\bl sz xs=true/\tJ sz a ag s xs sh aa=some (y,sh')/\out=⟨y,none,sh',aa⟩:=by
 rcases vals with _|⟨v,_|⟨u,_|⟨_,_⟩⟩⟩
 .simp[exec]at h
 .simp[exec]at h
 .simp only[exec]at h;split at h
  .rename_i xs b;simp only[zab,zac]at h;obtain⟨h0,⟨y,sh'⟩,h1,rfl⟩:=h;exact⟨v,u,xs,y,sh',rfl,b,h0,h1,rfl⟩
  .simp at h
 .simp[exec]at h
end
end Go.Ab
namespace Go.Ab
section
variable {P:Program} {ns:Names} {G:Gh} {w:World}
def AK.calls:AK->Bool
 | .aE _| .d8 _| .bB ..| .uD _| .gk| .fq| .clone ..| .ie ..=>true
 |_=>false
def gg{mem:List (Nat×List AV)}(k:Option Nat):fQ mem k none=mem:=by cases k<;>rfl
def sQ{v:AV}{a:Value}(h:aD (num ns) G v a)(hl:(cJ v).all aY=true):aC (num ns) G (cJ v) a.cells.toList:=by
 cases v with
 |dr l=>exact aD.cells (x:=.dr l) h hl
 |own l τ=>exact aD.cells (x:=.own l τ) h hl
 |_=>
  simp only[cJ]at hl⊢;split
  .rename_i p hp;simp only[hp]at hl;exact aD.cells (by simp only[aD];exact yZ hp h) hl
  .rename_i hp;simp only[hp]at hl;exact h.cells hl
def dc{mem:List (Nat×List AV)}{sh:Sh}{aa:aF}{s:Sem Value}{s':Sem Next}{x:AV}{v:Value}{w':World}{G':Gh}(hs:s'=(do pure (.value (<-s))))(h1:s.run P w=.ok v w')(h2:aD (num ns) G' x v)
   (h3:Inv (num ns) G' w' mem sh aa) (h4:G.le G') (h5:bY G w G' w'):X_ ns P G w mem sh aa s' x:=
 ⟨.value v,v,w',G',by rw[hs];simp only[zay,h1,zam,zaG],.inl rfl,h2,h3,h4,h5⟩
def sR{A:lG}{o:Oper}{k:AK}{args:List Operand}{orc:eY}(hc:bR P ns A o.dst o.op=some (k,args))(W:k.calls=false){a:Act}{vals:List AV}{out:Out}
   {mem:List (Nat×List AV)} {sh:Sh} {aa:aF} (hr:aC (num ns) G vals (args.map a.eval)) (hi:Inv (num ns) G w mem sh aa)
   (h:exec orc k vals (k.key.bind (look mem)) sh aa=some out):
   X_ ns P G w (fQ mem k.key out.cells) out.sh out.aa (execOp a.eval o) out.val:=by
 obtain⟨dst,op,type,pos,after,guard⟩:=o;cases k with
 |v vo=>
  simp only[exec,zac]at h;obtain⟨x,h1,rfl⟩:=h;obtain⟨v,w',G',g1,g2,F,g4,g5⟩:=Bp hc hr hi h1;exact⟨.value v,v,w',G',g1,.inl rfl,g2,by simpa[gg]using F,g4,g5⟩
 |aE g=>simp[AK.calls]at W
 |d8 g=>simp[AK.calls]at W
 |bB g own=>simp[AK.calls]at W
 |uD g=>simp[AK.calls]at W
 |gk=>simp[AK.calls]at W
 |fq=>simp[AK.calls]at W
 |clone sz S=>simp[AK.calls]at W
 |ie sz S ag=>simp[AK.calls]at W
 |cr key off sz ag=>
  obtain⟨t,tx,rfl,rfl,m,V⟩:=Bw hc;obtain⟨cs,x,rfl,q,hx,rfl⟩:=iI h;simp only[AK.key,zbg]at q;obtain⟨Y,e,h1⟩:=cy (by simpa using hr);cases e;simp only[aD]at h1;obtain⟨b,hp,hv⟩:=h1;obtain⟨b',D,E,_⟩:=hi.di _ _ q;rw[hp]at D;cases D;obtain⟨_,c,ty,X,B⟩:=E;obtain⟨u,g1,g2⟩:=gf (w:=w) m V hx B (gL X);refine dc (s:=Instr.loadAt t (a.eval (.tmp tx))) (v:=u) (w':=w) rfl ?_ g2 (by simpa[gg]using hi) G.le_refl (bY.refl G w);rw[hv];simp[Instr.loadAt,Instr.sureAddr,g1]
 |eg sz ag=>
  obtain⟨t,tx,rfl,rfl,m,V⟩:=Bx hc;obtain⟨p,x,rfl,rfl,a8⟩:=mg h;obtain⟨Y,e,h1⟩:=cy (by simpa using hr);cases e;rcases a8 with⟨cs,rfl,hx⟩|⟨s,off,cs,rfl,q,hx⟩
  .simp only[aD]at h1;obtain⟨b,o,vs,hv,ha,a7⟩:=h1;obtain⟨u,g1,g2⟩:=oS (ns:=ns) (w:=w) m V hx a7 (fun j v hj=>hi.known _ _ _ (ha j v hj));refine dc (s:=Instr.loadAt t (a.eval (.tmp tx))) (v:=u) (w':=w) rfl ?_ g2 (by simpa[gg]using hi) G.le_refl (bY.refl G w);rw[hv];simp[Instr.loadAt,Instr.sureAddr,g1]
  .obtain⟨a4,hx⟩:=hx;simp only[aD]at h1;obtain⟨b,hp,hv⟩:=h1;obtain⟨b',D,E,_⟩:=hi.dH _ _ q;rw[hp]at D;cases D;obtain⟨_,c,ty,vs,suf,X,_,U,B⟩:=E.cells a4;obtain⟨u,g1,g2⟩:=gf (w:=w) m V hx B (qd X U);refine dc (s:=Instr.loadAt t (a.eval (.tmp tx))) (v:=u) (w':=w) rfl ?_ g2 (by simpa[gg]using hi) G.le_refl (bY.refl G w);rw[hv];simp[Instr.loadAt,Instr.sureAddr,g1]
 |bH key off sz=>
  obtain⟨t,tx,v,rfl,rfl,m⟩:=y7 hc;obtain⟨cs,x,rfl,q,hl,C,a9,rfl⟩:=iY h;simp only[AK.key,zbg]at q;obtain⟨x1,x2,e,h1,h2⟩:=dP (by simpa using hr);cases e;simp only[aD]at h1;obtain⟨b,hp,hv⟩:=h1;obtain⟨b',D,E,O⟩:=hi.di _ _ q;rw[hp]at D;cases D;obtain⟨_,c,ty,X,B⟩:=E;have f:=h2.cells C;have L:(a.eval v).cells.size=sz:=by have:=f.length;simp at this;omega
  have M:=B.length;simp at M;have N:=qg (P:=P) (w:=w) m L X (off:=off) (by omega) (l_ f C)
  obtain⟨g1,g2⟩:=hi.Jq (cells':=aS cs off (bq x)) q hp (c':=(c.toList.take off++(a.eval v).cells.toList++c.toList.drop (off+(a.eval v).cells.toList.length)).toArray)
    (by simpa using fW off B f) (jv O C)
  refine⟨.skip,undef,_,G,?_,.inr ⟨rfl,rfl⟩,by simp[aD],g1,G.le_refl,g2⟩;simp[execOp,hv,Instr.storeAt,Instr.sureAddr,N]
 |fK sz=>
  obtain⟨t,tx,v,rfl,rfl,m⟩:=y8 hc;obtain⟨s,off,x,cs,rfl,q,a4,hl,a9,C,a3,rfl⟩:=iZ h;obtain⟨x1,x2,e,h1,h2⟩:=dP (by simpa using hr);cases e;simp only[aD]at h1;obtain⟨b,hp,hv⟩:=h1;obtain⟨b',D,E,O,ai⟩:=hi.dH _ _ q;rw[hp]at D;cases D;obtain⟨_,c,ty,vs,suf,X,ac,U,B⟩:=E.cells a4;have f:=sQ h2 (jw C);have L:(a.eval v).cells.size=sz:=by have:=f.length;simp at this;omega
  have M:=B.length;have ak:c.size=vs.length+suf.length:=(by rw[<-Array.length_toList,U,zad]);have am:(a.eval v).cells.toList.length=sz:=(by simpa using L);have N:=qg (P:=P) (w:=w) m L X (off:=off) (by omega) (l_ f (jw C))
  obtain⟨g1,g2⟩:=hi.qf (cells':=aS cs off (cJ x)) q hp X (c':=(c.toList.take off++(a.eval v).cells.toList++c.toList.drop (off+(a.eval v).cells.toList.length)).toArray)
    (suf:=suf) (vs:=vs.take off++(a.eval v).cells.toList++vs.drop (off+(a.eval v).cells.toList.length))
    (by rw[<-ac];simp;omega)
    (by
     show c.toList.take off++(a.eval v).cells.toList++c.toList.drop (off+(a.eval v).cells.toList.length)=_;rw[U,zbD (by omega),zb3 (by omega)];simp[zaP])
    (fW off B f) (jv O C) (jv ai a3)
  refine⟨.skip,undef,_,G,?_,.inr ⟨rfl,rfl⟩,by simp[aD],by simpa[AK.key,fQ]using g1,G.le_refl,g2⟩;simp[execOp,hv,Instr.storeAt,Instr.sureAddr,N]
 |alloc key z=>
  obtain⟨t,rfl,rfl,hz,rfl⟩:=By hc;obtain⟨rfl,q,rfl⟩:=jU h;simp only[AK.key,zbg]at q;obtain⟨zv,a0,Z⟩:=gX (P:=P) (w:=w) hz;obtain⟨zr,zl⟩:=iR (G:=G) (ρ:=num ns) Z;obtain⟨g1,g2,F⟩:=hi.rz (c:=zv.cells) t q zr zl;refine dc (s:=Instr.alloc t true (.tuple #[])) (v:=.pointer (some ⟨w.heap.size,0,none⟩)) rfl ?_ ?_ g1 g2 F
  .simp only[Instr.alloc,zay,a0,zam,iH,zaG]
  .simp only[aD];exact⟨_,by simp[Gh.dq],rfl⟩
 |box key sz=>
  obtain⟨t,y,rfl,rfl,m,rfl⟩:=Jx hc;obtain⟨x,rfl,q,hl,C,rfl⟩:=ni h;simp only[AK.key,zbg]at q;obtain⟨Y,e,h1⟩:=cy (by simpa using hr);cases e;have f:=h1.cells C;obtain⟨g1,g2,F⟩:=hi.rz (c:=(a.eval y).cells) t q f C;refine dc (s:=Instr.box t (a.eval y)) (v:=.pointer (some ⟨w.heap.size,0,none⟩)) rfl ?_ ?_ g1 g2 F
  .simp only[Instr.box,zay,iH,zam,zaG]
  .simp only[aD];exact⟨_,by simp[Gh.dq],rfl⟩
 |jM z=>
  obtain⟨t,rfl,rfl,hz⟩:=y9 hc;obtain⟨rfl,rfl⟩:=kP h;obtain⟨zv,a0,Z⟩:=gX (P:=P) (w:=w) hz;obtain⟨zr,zl⟩:=iR (G:=G) (ρ:=num ns) Z;obtain⟨g1,g2,F⟩:=hi.uO (c:=zv.cells) t zr zl (Ju _ z);refine dc (s:=Instr.alloc t true (.tuple #[])) (v:=.pointer (some ⟨w.heap.size,0,none⟩)) rfl ?_ ?_ g1 g2 F
  .simp only[Instr.alloc,zay,a0,zam,iH,zaG]
  .simp only[aD];exact⟨(w.heap.size,zv.cells.size),by simp[Gh.dI],rfl⟩
 |p7 sz=>
  obtain⟨t,y,rfl,rfl,m⟩:=Ew hc;obtain⟨x,rfl,hl,C,a3,rfl⟩:=oe h;obtain⟨Y,e,h1⟩:=cy (by simpa using hr);cases e;have f:=sQ h1 (jw C);obtain⟨g1,g2,F⟩:=hi.uO (c:=(a.eval y).cells) t f C (mf (zb2 _) a3);refine dc (s:=Instr.box t (a.eval y)) (v:=.pointer (some ⟨w.heap.size,0,none⟩)) rfl ?_ ?_ g1 g2 F
  .simp only[Instr.box,zay,iH,zam,zaG]
  .simp only[aD];exact⟨(w.heap.size,(a.eval y).cells.size),by simp[Gh.dI],rfl⟩
 |jN sz S ag z=>
  obtain⟨t,e,l,c,rfl,rfl,hu,m,J,hz,H,h0⟩:=Bz hc;obtain⟨k,k',n,rfl,h1,h2,h3,_,rfl⟩:=mh h;obtain⟨x1,x2,R,r1,r2⟩:=dP (by simpa using hr);cases R;obtain⟨v,w',G',g1,g2,F,g4,g5⟩:=Bs (k:=k) (k':=k') (ag:=ag) hu m J hz H h0 h1 h2 h3 hi;refine dc (s:=Instr.makeSlice t (a.eval l) (a.eval c)) rfl ?_ g2 F g4 g5;rw[kO r1,kO r2];exact g1
 |iU d sz S z=>
  obtain⟨t,e,l,c,rfl,rfl,hu,m,J,hz,H,h0,rfl⟩:=BA hc;obtain⟨k,k',n,rfl,h1,h2,h3,_,q,rfl⟩:=jV h;simp only[AK.key,zbg]at q;obtain⟨x1,x2,R,r1,r2⟩:=dP (by simpa using hr);cases R;obtain⟨v,w',G',g1,g2,F,g4,g5⟩:=Bt (k:=k) (k':=k') hu m J hz H h0 h1 h2 h3 hi q;refine dc (s:=Instr.makeSlice t (a.eval l) (a.eval c)) rfl ?_ g2 F g4 g5;rw[kO r1,kO r2];exact g1
 |append sz S=>
  obtain⟨c,rfl⟩:=y_ hc;obtain⟨x,y,t,e,t1,e1,z,r,i,rfl,h0,h1,hu,T,m,J,hz,H,a2,a6⟩:=Es hc;obtain⟨s,Y,y',ts,rfl,Q,rfl⟩:=kQ h;obtain⟨x1,x2,R,r1,r2⟩:=dP (by simpa using hr);cases R;obtain⟨v,w',G',g1,g2,F,g4,g5⟩:=y4 (type:=type) h0 h1 hu T m J hz H a6 r1 r2 hi Q;refine dc (s:=Builtin.append_ c.argTypes type #[a.eval x,a.eval y]) ?_ g1 g2 F g4 g5;obtain⟨callee,K,I⟩:=c;simp only at r i;subst r;subst i;simp[execOp,resolve,invoke,builtin]
 |dk sz S ag=>
  obtain⟨c,rfl⟩:=wV hc;obtain⟨x,y,t,e,t1,e1,z,r,i,rfl,h0,h1,hu,T,m,J,hz,H,a2,a6⟩:=Bq hc;obtain⟨s,Y,xs,y',sh',rfl,a1,ab,Q,rfl⟩:=mj h;obtain⟨x1,x2,R,r1,r2⟩:=dP (by simpa using hr);cases R;obtain⟨v,w',G',g1,g2,F,g4,g5⟩:=wU (type:=type) h0 h1 hu T m J hz H a6 r1 r2 hi a1 ab Q;refine dc (s:=Builtin.append_ c.argTypes type #[a.eval x,a.eval y]) ?_ g1 g2 F g4 g5;obtain⟨callee,K,I⟩:=c;simp only at r i;subst r;subst i;simp[execOp,resolve,invoke,builtin]
 |kJ sz=>
  obtain⟨c,rfl⟩:=BB hc;obtain⟨x,y,t,e,t1,e1,r,i,rfl,h0,h1,hu,T,m⟩:=Jw hc;obtain⟨Y,y',xs,k,sh',rfl,a1,aj,rfl⟩:=mi h;obtain⟨x1,x2,R,r1,r2⟩:=dP (by simpa using hr);cases R;obtain⟨w',g1,g2,F⟩:=Bv (type:=type) h0 hu m r1 r2 hi a1 aj;refine dc (s:=Builtin.copy_ c.argTypes type #[a.eval x,a.eval y]) (v:=.int .i64 k) ?_ g1 (by simp only[aD];exact dm.2 rfl) g2 G.le_refl F;obtain⟨callee,K,I⟩:=c;simp only at r i;subst r;subst i;simp[execOp,resolve,invoke,builtin]
 |ig sz z=>
  obtain⟨c,rfl⟩:=za hc;obtain⟨x,t,e,r,i,rfl,h0,hu,m,hz,H,a2⟩:=Eu hc;obtain⟨Y,sh',rfl,O,rfl⟩:=sP h;obtain⟨x1,R,r1⟩:=cy (by simpa using hr);cases R;obtain⟨w',g1,g2,F⟩:=y6 (type:=type) h0 hu hz H a2 r1 hi O;refine dc (s:=Builtin.clear_ c.argTypes type #[a.eval x]) (v:=.tuple #[]) ?_ g1 (by simp only[aD];exact⟨[],rfl,by simp[aC]⟩) g2 G.le_refl F;obtain⟨callee,K,I⟩:=c;simp only at r i;subst r;subst i;simp[execOp,resolve,invoke,builtin]
 |_=>first|(simp[exec]at h;done)|(simp[exec]at e;done)|(simp[exec];done)
end
end Go.Ab
