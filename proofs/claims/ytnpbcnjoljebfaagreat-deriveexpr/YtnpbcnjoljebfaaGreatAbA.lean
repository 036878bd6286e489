import GoSem.Core.Value
import GoSem.Core.Ast
import GoSem.Core.View
import Derived.Calls
import Derived.Laws.World
import Derived.Laws.Sem
import Derived.Orders
import Derived.Below
import Derived.Laws.Cells
import Derived.Laws.CopyRow
import Derived.Laws.Entries
import Derived.Laws.Strings
import Derived.Laws.IdiomStrings
import Derived.Laws.Tables
import Derived.RangeFuncRecord
/- The abstract machine, and that the code of the model does what its slim code says. -/
set_option linter.unusedVariables false
set_option linter.defProp false
set_option linter.unusedSimpArgs false
set_option linter.unnecessarySimpa false
set_option maxRecDepth 100000
set_option maxHeartbeats 8000000
namespace Go.Ab
def zbT:=@List.take_succ_cons
def za5:=@List.cons_append
def zaD:=@Nat.add_mul
def zah:=@List.mem_cons
def zbx:=@List.getElem?_append
def zal:=@List.getElem?_append_left
def zaa:=@List.getElem?_eq_some_iff
def zaL:=@List.getElem?_append_right
def zai:=@List.mem_append
def zcF:=@List.drop_succ_cons
def zcX:=@List.take_zero
def zaj:=@Nat.le_refl
def zaR:=@Nat.le_trans
def zao:=@List.map_cons
def zbr:=@Nat.lt_of_lt_of_le
def zaE:=@Array.getElem?_eq_some_iff
def zau:=@Go.Sem.run_bind
def zaK:=@Go.run_underlying
def zag:=@Go.Result.andThen_ok
def zac:=@Option.map_eq_some_iff
def zcZ:=@Int.not_lt
def zad:=@if_neg
def zaB:=@Go.Sem.run_pure
def za0:=@if_true
def zaO:=@Bool.false_eq_true
def zbg:=@if_false
def zab:=@Option.ite_none_right_eq_some
def zbV:=@List.getElem?_drop
def zbN:=@Nat.add_zero
def zbH:=@Go.run_loadCells_list
def zbE:=@List.getElem?_take
def zbp:=@Nat.add_assoc
def zae:=@Option.some.injEq
def zcC:=@List.mapM_cons
def zaS:=@List.all_cons
def zcJ:=@Bool.and_true
def zaU:=@List.foldl_cons
def zaq:=@List.all_eq_true
def za7:=@List.mem_of_mem_take
def zbL:=@List.mem_of_mem_drop
def zcL:=@List.zip_cons_cons
def zc4:=@Array.mapM_eq_mapM_toList
def zbz:=@Go.RowKit.Below.heap_alloc
def zbv:=@Nat.lt_or_ge
def zcw:=@Array.getElem?_eq_none
def zbB:=@Nat.zero_add
def zb8:=@List.flatMap_nil
def zaM:=@List.append_nil
def zaw:=@List.take_of_length_le
def zcn:=@congrArg
def zan:=@List.length_append
def zbP:=@List.length_take
def zcr:=@List.length_drop
def zax:=@List.length_cons
def zcp:=@List.range'_succ
def zas:=@List.flatMap_cons
def zaQ:=@List.append_assoc
def zbO:=@List.take_append
def zaf:=@Bool.and_eq_true
def zcK:=@beq_iff_eq
def zco:=@Nat.add_sub_cancel_left
def zaz:=@Option.bind_eq_some_iff
def zak:=@if_pos
def zbq:=@Option.isSome_none
def zbu:=@Option.map_none
def zaY:=@Option.map_some
def zbm:=@List.cons.injEq
def zbj:=@Option.getD_none
def zaT:=@List.length_map
def zby:=@Array.ext'
def zcu:=@Array.toList_map
def zav:=@Prod.mk.injEq
def zaA:=@List.getElem?_set
def zcG:=@Go.World.cell?_alloc_lt
def zbK:=@Ne.symm
def zaV:=@List.getElem?_eq_none
def zaH:=@Nat.mul_le_mul_right
def zc1:=@Array.getElem?_append_left
def zbc:=@List.eq_nil_of_length_eq_zero
def zcP:=@List.isEmpty_iff
def zcD:=@Eq.trans
def zb1:=@List.ext_getElem?
def zcm:=@Go.run_storeCells_at
def zbn:=@List.replicate_succ
def zcN:=@List.flatten_cons
def zat:=@List.mem_map
def zbw:=@List.getElem?_map
def zbS:=@Array.getElem?_eq_getElem
def zb7:=@List.mem_flatten
def zbD:=@List.mem_replicate
def zcV:=@Nat.min_eq_left
def zcM:=@List.size_toArray
def zbA:=@List.take_append_of_le_length
def zcR:=@List.drop_append_of_le_length
def za3:=@Option.bind_some
def zbo:=@Nat.le_succ
end Go.Ab
namespace Go.Ab
inductive PV where
 |bool (b:Bool)
 |int (k:IntKind) (n:Int)
 |str (s:List UInt8)
 |agg (cs:List PV)
 |aq (els:List PV)
 deriving Inhabited
inductive AV where
 |un
 |pv (p:PV)
 |cQ (els:List PV)
 |own (els:List PV) (tok:Nat)
 |agg (cs:List AV)
 |qj (vs:List AV)
 |au (d off:Nat)
 |aI (b off:Nat)
 |dQ (cs:List PV)
 |bh (b sz len:Nat) (ag:Bool)
 |fn (g:Nat) (cap:List AV)
 |ic
 |jN (s:Nat)
 |fM (kvs:List (PV×PV))
 |ql (b off n:Nat)
 |sD (d n:Nat)
 deriving Inhabited
abbrev Sh:=List (Option (List AV))
abbrev aG:=List Nat
inductive eM where
 |t (n:Nat)
 |c (v:AV)
 deriving Inhabited
inductive CK where
 |int|str|bool
 deriving Inhabited,DecidableEq
inductive Pg where
 |mv|pick
 |bin (op:BinOp)
 |beq (neg:Bool)
 |un (op:UnOp)
 |conv (k:IntKind)
 |ext (i:Nat)
 |field (off sz:Nat) (ag:Bool)
 |iF (off:Nat)
 |eX (sz:Nat)
 |index
 |build (zero:List PV) (places:List (Nat×Nat))
 |dR (sz:Nat)
 |gC (sz:Nat) (ag:Bool)
 |slice (str:Bool) (sz:Nat) (lo hi mx:Bool)
 |len|CW|qm
 |mn|mx
 |sF (g:Nat)
 |veq (cs:List CK) (neg:Bool)
 |tF (sz:Nat) (lo hi:Bool)
 |b2s
 deriving Inhabited
inductive AK where
 |v (o:Pg)
 |cg (key off sz:Nat) (ag:Bool)
 |bB (key off sz:Nat)
 |alloc (key:Nat) (zero:List PV)
 |box (key sz:Nat)
 |dH (sz:Nat) (ag:Bool)
 |et (sz:Nat)
 |Lc (sz:Nat)
 |qn (sz:Nat)
 |sG (sz:Nat)
 |fR (zero:List PV)
 |lh (sz bytes:Nat) (ag:Bool) (zero:List PV)
 |re (key sz bytes:Nat) (zero:List PV)
 |append (sz bytes:Nat)
 |dN (sz bytes:Nat) (ag:Bool)
 |xH (sz bytes:Nat)
 |Rv
 |zV (c:CK) (ok:Bool) (zero:PV)
 |VC (c:CK)
 |clone (sz bytes:Nat)
 |jO (sz bytes:Nat) (ag:Bool)
 |im (sz:Nat) (zero:List PV)
 |Ld (sz:Nat)
 |aH (g:Nat)
 |dd (g:Nat)
 |aY (g:Nat) (own:List Nat)
 |tG (g:Nat)
 |gD
 |fU
 deriving Inhabited
structure dI where
 dst:Option Nat
 guard:Option (Nat×Bool)
 args:List eM
 op:AK
 deriving Inhabited
inductive ae where
 |skip
 |jt (ops:List dI) (live:List Nat)
 |seq (a b:ae)
 |cond (c:eM) (a b:ae)
 |block (id:Nat) (b:ae)
 |loop (live:List Nat) (b:ae)
 |exit (id:Nat)
 |ret
 |back (f:eM) (gb pi px sz:Nat) (ag:Bool) (live:List Nat) (x y:ae)
 |ej (ts:List Nat)
 |Rw (ds:List (Nat×Nat))
 |Le (ps:List (Nat×Nat×Bool))
 |nq (ts:List Nat)
 |Tf (ts:List Nat)
 deriving Inhabited
inductive qo where
 |t (n:Nat)
 |c (key sz:Nat) (ag:Bool)
 deriving Inhabited
structure Prim where
 f:(Nat->List PV->Option (List PV))->List PV->Option (List PV)
 fin:∀o x r,f o x=some r->∃l:List (Nat×List PV×List PV),(∀c∈l,o c.1 c.2.1=some c.2.2)∧∀o',(∀c∈l,o' c.1 c.2.1=some c.2.2)->f o' x=some r
def Prim.pure(f:List PV->Option (List PV)):Prim:=⟨fun _=>f,fun _ _ _ h=>⟨[],by simp,fun _ _=>h⟩⟩
theorem Prim.mono(p:Prim){a b:Nat->List PV->Option (List PV)}(h:∀g x r,a g x=some r->b g x=some r){x:List PV}{r:List PV}(e:p.f a x=some r):p.f b x=some r:=by
 obtain⟨l,h1,h2⟩:=p.fin a x r e;exact h2 b fun c d=>h _ _ _ (h1 c d)
structure aw where
 nparams:Nat
 ntmps:Nat
 results:List qo
 body:ae
 qp:Option Prim:=none
 ks:Bool:=false
 deriving Inhabited
def look{α:Type}:List (Nat×α)->Nat->Option α
 |[],_=>none
 |(k,v)::r,t=>if k=t then some v else look r t
def cN{α:Type}:List (Nat×α)->Nat->α->List (Nat×α)
 |[],t,u=>[(t,u)]
 |(k,v)::r,t,u=>if k=t then(k,u)::r else(k,v)::cN r t u
structure St where
 env:List (Nat×AV)
 mem:List (Nat×List AV)
 sh:Sh
 aa:aG
 deriving Inhabited
def a9:PV->List PV
 | .agg cs=>cs
 |p=>[p]
def a6:AV->List AV
 | .agg cs=>cs
 | .pv (.agg cs)=>cs.map .pv
 |v=>[v]
def bJ:AV->Bool
 | .pv _| .cQ _| .aI ..| .bh ..| .ic| .jN _| .fM _=>true
 | .fn _ cap=>iG cap
 | .agg cs=>iG cs
 |_=>false
where iG:List AV->Bool
 |[]=>true
 |v::r=>bJ v && iG r
def aZ:AV->Bool
 | .pv (.agg _)=>false
 | .pv _| .cQ _| .aI ..| .bh ..| .ic| .jN _| .fM _=>true
 | .fn g cap=>bJ (.fn g cap)
 | .own ..=>true
 |_=>false
def dO(v:AV):Bool:=aZ v
def bq:AV->Bool
 | .own ..| .au ..| .sD ..=>false
 | .agg cs=>dP cs
 | .qj cs=>dP cs
 | .fn _ cap=>dP cap
 |_=>true
where dP:List AV->Bool
 |[]=>true
 |v::r=>bq v && dP r
def oi:AV->Bool
 | .own ..=>true
 |v=>bq v
def gW:List AV->Bool
 |[]=>true
 |v::r=>oi v && gW r
def i5:AV->Option PV
 | .pv p=>some p
 | .cQ l=>some (.aq l)
 | .own l _=>some (.aq l)
 |_=>none
def i6:PV->Bool
 | .agg _=>false
 |_=>true
def chunk(sz:Nat):Nat->List PV->List (List PV)
 |0,_=>[]
 |n+1,l=>l.take sz::chunk sz n (l.drop sz)
def eY:List AV->Option (List PV)
 |[]=>some []
 |v::r=>match i5 v,eY r with
  |some p,some ps=>some (p::ps)
  |_,_=>none
def gG(sz:Nat)(ag:Bool)(n:Nat)(cells:List PV):Option (List PV):=
 if ag then some ((chunk sz n cells).map .agg)
 else if sz=1 then some cells else none
def dE:List AV->Bool
 | .fM _::_=>true
 |_=>false
def dX(sh:Sh):AV->Option PV
 | .bh b sz n ag=>match sh[b]? with
  |some (some cells)=>if cells.length=n*sz then((eY cells).bind (gG sz ag n)).map .aq
    else if dE cells=false∧n*sz<=cells.length then((eY (cells.take (n*sz))).bind (gG sz ag n)).map .aq else none
  |_=>none
 |v=>i5 v
def eA(sh:Sh):List AV->Option (List PV)
 |[]=>some []
 |v::r=>if aZ v=true then
  match dX sh v,eA sh r with
  |some p,some ps=>some (p::ps)
  |_,_=>none
   else none
def ej(sh:Sh):AV->Option PV
 | .agg cs=>(eA sh cs).map .agg
 |v=>dX sh v
def dx(sh:Sh):List AV->Option (List PV)
 |[]=>some []
 |v::r=>match ej sh v,dx sh r with
  |some p,some ps=>some (p::ps)
  |_,_=>none
def gN:AV->List Nat
 | .bh b _ _ _=>[b]
 | .agg cs=>cs.flatMap fun| .bh b _ _ _=>[b]|_=>[]
 |_=>[]
def kill(sh:Sh)(l:List Nat):Sh:=l.foldl (fun s b=>s.set b none) sh
def eN(sh:Sh)(vs:List AV):Sh:=kill sh (vs.flatMap gN)
def aK(n:Nat):AV->Bool
 | .un| .pv _| .cQ _| .own ..| .ic| .dQ _| .fM _=>true
 | .aI b _| .bh b _ _ _| .jN b=>decide (b<n)
 | .fn _ cap=>cz n cap
 | .agg cs=>cz n cs
 |_=>false
where cz (n:Nat):List AV->Bool
 |[]=>true
 |v::r=>aK n v && cz n r
def Lf:CK->PV->PV->Option Bool
 | .int,.int k a,.int k' b=>if k=k' then some (a == b)else none
 | .str,.str a,.str b=>some (a == b)
 | .bool,.bool a,.bool b=>some (a == b)
 |_,_,_=>none
def Ph:List CK->List PV->List PV->Option Bool
 |[],[],[]=>some true
 |c::cs,p::ps,q::a=>match Lf c p q with
  |some true=>Ph cs ps a
  |some false=>if ps.length=cs.length∧a.length=cs.length then some false else none
  |none=>none
 |_,_,_=>none
def CX(c:CK):List (PV×PV)->PV->Option (Option PV)
 |[],_=>some none
 |(k',v)::r,k=>match Lf c k k' with
  |some true=>some (some v)
  |some false=>CX c r k
  |none=>none
def Lg(c:CK):List (PV×PV)->PV->PV->Option (List (PV×PV))
 |[],k,p=>some [(k,p)]
 |(k',v)::r,k,p=>match Lf c k k' with
  |some true=>some ((k,p)::r)
  |some false=>(Lg c r k p).map ((k',v)::·)
  |none=>none
def xI(ok:Bool)(zero:PV)(r:Option PV):AV:=if ok then .qj [.pv (r.getD zero),.pv (.bool r.isSome)]else .pv (r.getD zero)
def cG(op:BinOp):AV->AV->Option AV
 | .pv (.int k a),.pv (.int k' b)=>
  if k=k'∨op=.shl∨op=.shr then
   match op with
   | .add=>some (.pv (.int k (k.wrap (a+b))))
   | .sub=>some (.pv (.int k (k.wrap (a-b))))
   | .mul=>some (.pv (.int k (k.wrap (a*b))))
   | .quo=>if b=0 then none else some (.pv (.int k (k.wrap (a.tdiv b))))
   | .rem=>if b=0 then none else some (.pv (.int k (a.tmod b)))
   | .eql=>some (.pv (.bool (a == b)))
   | .neq=>some (.pv (.bool (a != b)))
   | .lss=>some (.pv (.bool (decide (a<b))))
   | .leq=>some (.pv (.bool (decide (a<=b))))
   | .gtr=>some (.pv (.bool (decide (a > b))))
   | .geq=>some (.pv (.bool (decide (a>=b))))
   | .and=>some (.pv (.int k (k.wrap (BitVec.ofInt k.bits a &&& BitVec.ofInt k.bits b).toNat)))
   | .shl=>if b<0 then none else some (.pv (.int k (k.wrap (a*2 ^ (min b.toNat k.bits)))))
   | .shr=>if b<0 then none else some (.pv (.int k (a.fdiv (2 ^ (min b.toNat k.bits)))))
   |_=>none
  else none
 | .pv (.str a),.pv (.str b)=>
  match op with
  | .add=>if a.length+b.length<=9223372036854775807 then some (.pv (.str (a++b)))else none
  | .eql=>some (.pv (.bool (a == b)))
  | .neq=>some (.pv (.bool (!(a == b))))
  | .lss=>some (.pv (.bool (ep a b)))
  | .gtr=>some (.pv (.bool (!(ep a b || a == b))))
  | .leq=>some (.pv (.bool (ep a b || a == b)))
  | .geq=>some (.pv (.bool (!ep a b)))
  |_=>none
 |_,_=>none
where ep:List UInt8->List UInt8->Bool
 |_,[]=>false
 |[],_::_=>true
 |a::x,b::y=>a<b || (a == b && ep x y)
def VD(op:UnOp):AV->Option AV
 | .pv (.bool b)=>match op with| .not=>some (.pv (.bool !b))|_=>none
 | .pv (.int k n)=>match op with| .neg=>some (.pv (.int k (k.wrap (0-n))))|_=>none
 |_=>none
def db:AV->Option (List PV)
 | .pv (.aq l)=>some l
 | .cQ l=>some l
 | .own l _=>some l
 |_=>none
def a7(sz:Nat):List PV->Bool
 |[]=>true
 |p::_=>(a9 p).length == sz
def a0(cells:List AV)(off:Nat)(vs:List AV):List AV:=cells.take off++vs++cells.drop (off+vs.length)
def mz(cells:List AV):List (Nat×Nat)->List AV->Option (List AV)
 |[],[]=>some cells
 |(off,sz)::ps,v::vs=>
  if (a6 v).length=sz∧off+sz<=cells.length∧(a6 v).all aZ=true then mz (a0 cells off (a6 v)) ps vs else none
 |_,_=>none
def bY(ag:Bool)(sz:Nat)(cs:List AV)(off:Nat):Option AV:=
 if off+sz<=cs.length then
  if ag then some (.agg ((cs.drop off).take sz))
  else if sz=1 then cs[off]? else none
 else none
def cH(ag:Bool)(sz:Nat)(cs:List PV):Option AV:=
 if sz<=cs.length then
  if ag then some (.pv (.agg (cs.take sz)))
  else if sz=1 then(cs[0]?).map .pv else none
 else none
def dY(lo hi mx:Bool)(n:Nat)(rest:List AV):Option (Int×Int×Option Int):=
 match lo,hi,mx,rest with
 |false,false,false,[]=>some (0,n,none)
 |true,false,false,[.pv (.int _ l)]=>some (l,n,none)
 |false,true,false,[.pv (.int _ h)]=>some (0,h,none)
 |true,true,false,[.pv (.int _ l),.pv (.int _ h)]=>some (l,h,none)
 |false,true,true,[.pv (.int _ h),.pv (.int _ m)]=>some (0,h,some m)
 |true,true,true,[.pv (.int _ l),.pv (.int _ h),.pv (.int _ m)]=>some (l,h,some m)
 |_,_,_,_=>none
def cX(str:Bool)(sz:Nat)(lo hi mx:Bool):List AV->Option AV
 |x::rest=>if str then
  match x with
  | .pv (.str s)=>match dY lo hi mx s.length rest with
   |some (l,h,none)=>if 0<=l∧l<=h∧h<=s.length then some (.pv (.str ((s.take h.toNat).drop l.toNat)))else none
   |_=>none
  |_=>none
   else match db x with
    |some els=>match dY lo hi mx els.length rest with
     |some (l,h,m)=>if 0<=l∧l<=h∧h<=els.length∧(l=0∨a7 sz els=true)then
      match m with
      |some m=>if m=h then some (.cQ ((els.take h.toNat).drop l.toNat))else none
      |none=>some (.pv (.aq ((els.take h.toNat).drop l.toNat)))
       else none
     |none=>none
    |none=>none
 |[]=>none
def lj(sz:Nat)(lo hi:Bool):List AV->Option AV
 | .bh b z n ag::rest=>if z=sz then
  match dY lo hi false n rest with
  |some (l,h,none)=>if 0<=l∧l<=h∧h<=n then some (if l=0 then .bh b z h.toNat ag else .ql b (l.toNat*sz) (h.toNat-l.toNat))else none
  |_=>none
   else none
 |_=>none
def tH(sz:Nat):AV->Option (Nat×Nat×Nat)
 | .bh b z n _=>if z=sz then some (b,0,n)else none
 | .ql b off n=>some (b,off,n)
 |_=>none
def oD(sz:Nat)(zero:List PV)(sh:Sh):Option (Nat×Nat×Nat)->Option Sh
 |some (b,off,n)=>match sh[b]? with
  |some (some cells)=>if dE cells=false∧off+n*sz<=cells.length∧zero.length=sz then some (sh.set b (some (a0 cells off (List.replicate n (zero.map .pv)).flatten)))else none
  |_=>none
 |none=>none
def Zf(sz:Nat)(sh:Sh)(xs:List PV):AV->Option (Nat×Sh)
 | .bh b z n _=>match sh[b]? with
  |some (some cells)=>if z=sz∧a7 sz xs=true∧dE cells=false∧n*sz<=cells.length then
   some (min xs.length n,sh.set b (some (a0 cells 0 (((xs.take n).flatMap a9).map .pv))))else none
  |_=>none
 |_=>none
def gH:List PV->Option (List UInt8)
 |[]=>some []
 | .int .u8 n::r=>if 0<=n∧n<256 then(gH r).map (UInt8.ofNat n.toNat::·)else none
 |_=>none
def bw:Pg->List AV->Option AV
 | .mv,[x]=>some x
 | .pick,[.pv (.bool c),a,b]=>some (if c then a else b)
 | .bin op,[a,b]=>cG op a b
 | .beq neg,[.pv (.bool a),.pv (.bool b)]=>some (.pv (.bool (if neg then !(a == b)else(a == b))))
 | .un op,[a]=>VD op a
 | .conv k,[.pv (.int _ n)]=>some (.pv (.int k (k.wrap n)))
 | .ext i,[.qj vs]=>vs[i]?
 | .field off sz ag,[x]=>match x with
  | .agg cs=>bY ag sz cs off
  | .pv (.agg cs)=>cH ag sz (cs.drop off)
  |_=>none
 | .iF off,[x]=>match x with
  | .au d o=>some (.au d (o+off))
  | .aI b o=>some (.aI b (o+off))
  | .dQ cs=>some (.dQ (cs.drop off))
  |_=>none
 | .eX sz,[x,.pv (.int _ i)]=>
  if i<0 then none else
  match x with
  | .bh b sz' n _=>if sz=sz'∧i.toNat<n then some (.aI b (i.toNat*sz))else none
  |x=>match db x with
   |some els=>match els[i.toNat]? with
    |some el=>if(a9 el).length=sz then some (.dQ (a9 el))else none
    |none=>none
   |none=>none
 | .index,[.pv (.str s),.pv (.int _ i)]=>if i<0 then none else(s[i.toNat]?).map fun b=>.pv (.int .u8 b.toNat)
 | .build zero places,vs=>(mz (zero.map zeroCell) places vs).map .agg
 | .dR sz,vs=>(dx [] vs).bind fun els=>if els.all (fun e=>(a9 e).length == sz)then some (.cQ els)else none
 | .gC sz ag,[.dQ cs]=>cH ag sz cs
 | .slice str sz lo hi mx,vs=>cX str sz lo hi mx vs
 | .tF sz lo hi,vs=>lj sz lo hi vs
 | .CW,[.pv (.str s)]=>some (.pv (.int .i64 s.length))
 | .len,[x]=>match x with
  | .bh _ _ n _=>some (.pv (.int .i64 n))
  |x=>(db x).map fun l=>.pv (.int .i64 l.length)
 | .qm,[x]=>match x with
  | .au ..| .aI ..| .dQ _| .fn ..=>some x
  |_=>none
 | .mn,[.pv (.int k x),.pv (.int k' y)]=>if k=k' then some (.pv (.int k (if y<x then y else x)))else none
 | .mx,[.pv (.int k x),.pv (.int k' y)]=>if k=k' then some (.pv (.int k (if y > x then y else x)))else none
 | .sF g,cap=>some (.fn g cap)
 | .b2s,[x]=>((db x).bind gH).map fun s=>.pv (.str s)
 |_,_=>none
where zeroCell:PV->AV
 | .aq []=>.cQ []
 |p=>.pv p
structure Out where
 val:AV
 cells:Option (List AV)
 sh:Sh
 aa:aG
structure eZ where
 p:Nat->List PV->Option (List PV)
 i:Nat->List AV->Sh->aG->Option (List AV×Sh×aG)
def tI:List PV->AV
 |[r]=>.pv r
 |rs=>.qj (rs.map .pv)
def sH:List AV->AV
 |[r]=>r
 |rs=>.qj rs
def lp(v:AV):AV:=match ej [] v with|some p=>.pv p|none=>v
def AK.key:AK->Option Nat
 | .cg k _ _ _| .bB k _ _| .alloc k _| .box k _| .re k _ _ _=>some k
 |_=>none
def bZ(sz bytes:Nat)(s x:AV)(aa:aG):Option (AV×aG):=
 match db x with
 |none=>none
 |some xs=>if a7 sz xs=true then
  match s with
  | .cQ l=>if xs.isEmpty=true then some (.cQ l,aa)else if a7 sz l=true∧(l.length+xs.length)*bytes<=140737488355328 then
   some (.own (l++xs) aa.length,aa++[(l++xs).length])else none
  | .own l τ=>if aa[τ]?=some l.length∧a7 sz l=true∧(l.length+xs.length)*bytes<=140737488355328 then
   some (.own (l++xs) τ,aa.set τ (l++xs).length)else none
  |_=>none
  else none
def zW:List PV->List PV->Bool
 |[],[]=>true
 | .str a::r,.str b::q=>(a == b) && zW r q
 |_,_=>false
def ZL(sz bytes:Nat)(xs:List PV)(s e:AV)(aa:aG):Option PV:=
 match s,e with
 | .own l τ,.own m σ=>if τ=σ∧aa[τ]?=some m.length∧m.length=l.length+xs.length∧a7 1 l=true∧a7 1 xs=true∧sz=1 ∧
     zW (m.drop l.length) xs=true∧xs.isEmpty=false∧m.length*bytes<=140737488355328 then some (.aq (l++xs))else none
 |_,_=>none
def sI(sz bytes:Nat)(ag:Bool)(s:AV)(xs:List PV)(sh:Sh):Option (AV×Sh):=
 if xs.isEmpty=true then some (s,sh)else if xs.length*bytes<=140737488355328 then some (.bh sh.length sz xs.length ag,sh++[some ((xs.flatMap a9).map .pv)])else none
def sJ(sz bytes:Nat)(ag:Bool)(s:AV)(xs:List PV)(sh:Sh)(aa:aG):Option (AV×Sh):=
 match s with
 | .cQ []=>sI sz bytes ag s xs sh
 | .own [] τ=>if aa[τ]?=some 0 then sI sz bytes ag s xs sh else none
 | .bh b z n g=>match sh[b]? with
  |some (some cells)=>if z=sz∧g=ag∧dE cells=false∧n*sz<=cells.length∧(n+xs.length)*bytes<=140737488355328 then
   if xs.isEmpty=true then some (.bh b sz n ag,sh)else some (.bh sh.length sz (n+xs.length) ag,sh.set b none++[some (cells.take (n*sz)++(xs.flatMap a9).map .pv)])
    else none
  |_=>none
 |_=>none
def gI(o:Option Bool)(sz bytes:Nat)(x:AV)(sh:Sh)(aa:aG):Option (AV×Sh×aG):=match o with
 |none=>(bZ sz bytes (.cQ []) x aa).map fun(v,ts)=>(v,sh,ts)
 |some ag=>match db x with
  |some xs=>if a7 sz xs=true then(sI sz bytes ag (.cQ []) xs sh).map fun(v,sh')=>(v,sh',aa)else none
  |none=>none
def eB(aL ts:aG):AV->AV×aG×aG
 | .own l τ=>if aL[τ]?=some l.length then(.own l ts.length,aL.set τ (l.length+1),ts++[l.length])else(.pv (.aq l),aL,ts)
 |v=>(v,aL,ts)
def cI(aL ts:aG):List AV->List AV×aG×aG
 |[]=>([],aL,ts)
 |v::r=>((eB aL ts v).1::(cI (eB aL ts v).2.1 (eB aL ts v).2.2 r).1,(cI (eB aL ts v).2.1 (eB aL ts v).2.2 r).2)
def bn(aL ts:aG):AV->AV×aG×aG
 | .own l τ=>if aL[τ]?=some l.length then(.own l ts.length,aL.set τ (l.length+1),ts++[l.length])else(.pv (.aq l),aL,ts)
 | .cQ l=>(.own l ts.length,aL,ts++[l.length])
 | .agg cs=>if bq.dP cs=true then(.agg cs,aL,ts)else(.agg (cI aL ts cs).1,(cI aL ts cs).2.1,(cI aL ts cs).2.2)
 |v=>(v,aL,ts)
def bf(aL ts:aG):List AV->List AV×aG×aG
 |[]=>([],aL,ts)
 |v::r=>((bn aL ts v).1::(bf (bn aL ts v).2.1 (bn aL ts v).2.2 r).1,(bf (bn aL ts v).2.1 (bn aL ts v).2.2 r).2)
def bl(aL ts:aG):Sh->Sh×aG×aG
 |[]=>([],aL,ts)
 |none::r=>(none::(bl aL ts r).1,(bl aL ts r).2)
 |some cs::r=>(some (bf aL ts cs).1::(bl (bf aL ts cs).2.1 (bf aL ts cs).2.2 r).1,(bl (bf aL ts cs).2.1 (bf aL ts cs).2.2 r).2)
def ct(aa:aG)(xs:List AV)(sh:Sh):List AV×Sh×aG×aG:=
 ((bf aa [] xs).1,(bl (bf aa [] xs).2.1 (bf aa [] xs).2.2 sh).1,(bl (bf aa [] xs).2.1 (bf aa [] xs).2.2 sh).2.1,(bl (bf aa [] xs).2.1 (bf aa [] xs).2.2 sh).2.2)
def lq:AV->Bool
 | .own ..=>true
 |v=>bJ v
def fW:List AV->Bool
 |[]=>true
 |v::r=>lq v && fW r
def bE:AV->Bool
 | .own ..=>true
 | .agg cs=>fW cs
 |v=>bJ v
def jk(n:Nat):AV->AV
 | .own l τ=>.own l (τ+n)
 |v=>v
def cP(n:Nat):AV->AV
 | .own l τ=>.own l (τ+n)
 | .agg cs=>if bq.dP cs=true then .agg cs else .agg (cs.map (jk n))
 |v=>v
def eP(n:Nat)(sh:Sh):Sh:=sh.map fun o=>o.map fun cs=>cs.map (cP n)
def dS(own:List Nat):Nat->List AV->List AV
 |_,[]=>[]
 |i,v::r=>(if own.contains i then v else lp v)::dS own (i+1) r
def dZ(orc:eZ)(g:Nat)(own:List Nat)(vals:List AV)(sh:Sh)(aa:aG):Option (AV×Sh×aG):=
 if (dS own 0 vals).all bE=true then
  (orc.i g (ct aa (dS own 0 vals) sh).1 (ct aa (dS own 0 vals) sh).2.1 (ct aa (dS own 0 vals) sh).2.2.2).map fun(rs,sh',ts)=>
   (sH (rs.map (cP aa.length)),eP aa.length sh',(ct aa (dS own 0 vals) sh).2.2.1++ts)
 else none
def cA(v:AV):List AV:=match v with
 | .cQ l=>[.cQ l]
 | .own l τ=>[.own l τ]
 |v=>match ej [] v with|some p=>a6 (.pv p)|none=>a6 v
mutual
def vW:PV->PV->Bool
 | .bool a,.bool b=>a == b
 | .int k a,.int l b=>decide (k=l) && (a == b)
 | .str a,.str b=>a == b
 | .agg a,.agg b=>tJ a b
 | .aq a,.aq b=>tJ a b
 |_,_=>false
def tJ:List PV->List PV->Bool
 |[],[]=>true
 |a::r,b::q=>vW a b && tJ r q
 |_,_=>false
end
def VE:AV->AV->Bool
 | .pv a,.pv b=>vW a b
 |_,_=>false
def vX:List AV->List AV->Bool
 |[],[]=>true
 |a::r,b::q=>VE a b && vX r q
 |_,_=>false
def nX:Sh->Sh->Bool
 |[],[]=>true
 |none::r,none::q=>nX r q
 |some a::r,some b::q=>vX a b && nX r q
 |_,_=>false
def YC(sh:Sh):AV×Sh×aG->Option Out
 |(v,sh',ts)=>if nX sh' sh=true then some ⟨v,none,sh,ts⟩else none
def exec(orc:eZ)(op:AK)(vals:List AV)(cells:Option (List AV))(sh:Sh)(aa:aG):Option Out:=
 match op,vals with
 | .v o,vals=>(bw o vals).map fun x=>⟨x,none,sh,aa⟩
 | .cg key off sz ag,[.au d o]=>if d=key∧o=off then
  match cells with
  |some cs=>(bY ag sz cs off).map fun x=>⟨x,none,sh,aa⟩
  |none=>none
   else none
 | .bB key off sz,[.au d o,v]=>if d=key∧o=off∧(a6 v).length=sz∧(a6 v).all aZ=true then
  match cells with
  |some cs=>if off+sz<=cs.length then some ⟨.un,some (a0 cs off (a6 v)),sh,aa⟩else none
  |none=>none
   else none
 | .alloc key zero,[]=>match cells with
  |none=>some ⟨.au key 0,some (zero.map bw.zeroCell),sh,aa⟩
  |some _=>none
 | .box key sz,[v]=>match cells with
  |none=>if(a6 v).length=sz∧(a6 v).all aZ=true then some ⟨.au key 0,some (a6 v),sh,aa⟩else none
  |some _=>none
 | .dH sz ag,[p]=>match p with
  | .dQ cs=>(cH ag sz cs).map fun x=>⟨x,none,sh,aa⟩
  | .aI b off=>match sh[b]? with
   |some (some cs)=>if dE cs=true then none else(bY ag sz cs off).map fun x=>⟨x,none,sh,aa⟩
   |_=>none
  |_=>none
 | .et sz,[.aI b off,v]=>match sh[b]? with
  |some (some cs)=>
   let vs:=cA v
   if dE cs=false∧vs.length=sz∧off+sz<=cs.length∧vs.all dO=true∧vs.all (aK (b+1))=true then
    some ⟨.un,none,sh.set b (some (a0 cs off vs)),aa⟩else none
  |_=>none
 | .qn sz,[v]=>
  let vs:=cA v
  if vs.length=sz∧vs.all dO=true∧vs.all (aK sh.length)=true then
   some ⟨.aI sh.length 0,none,sh++[some vs],aa⟩else none
 | .sG sz,[v]=>
  let vs:=a6 v
  if vs.length=sz∧vs.all dO=true∧vs.all (aK sh.length)=true then
   some ⟨.aI sh.length 0,none,sh++[some vs],aa⟩else none
 | .fR zero,[]=>some ⟨.aI sh.length 0,none,sh++[some (zero.map bw.zeroCell)],aa⟩
 | .lh sz bytes ag zero,[.pv (.int _ n),.pv (.int _ n')]=>
  if n=n'∧0<=n∧n<=9223372036854775807∧n*bytes<=140737488355328∧zero.length=sz then
   some ⟨.bh sh.length sz n.toNat ag,none,sh++[some ((List.replicate n.toNat (zero.map .pv)).flatten)],aa⟩else none
 | .append sz bytes,[s,x]=>(bZ sz bytes s x aa).map fun(v,ts)=>⟨v,none,sh,ts⟩
 | .dN sz bytes ag,[s,x]=>match db x with
  |some xs=>if a7 sz xs=true then(sJ sz bytes ag s xs sh aa).map fun(v,sh')=>⟨v,none,sh',aa⟩else none
  |none=>none
 | .clone sz bytes,[x]=>(bZ sz bytes (.cQ []) x aa).map fun(v,ts)=>⟨v,none,sh,ts⟩
 | .jO sz bytes ag,[x]=>(gI (some ag) sz bytes x sh aa).map fun(v,sh',ts)=>⟨v,none,sh',ts⟩
 | .im sz zero,[x]=>(oD sz zero sh (tH sz x)).map fun sh'=>⟨.qj [],none,sh',aa⟩
 | .aH g,vals=>match dx [] vals with
  |some dV=>(orc.p g dV).map fun rs=>⟨tI rs,none,sh,aa⟩
  |none=>none
 | .dd g,vals=>match dx sh vals with
  |some dV=>(orc.p g dV).map fun rs=>⟨tI rs,none,eN sh vals,aa⟩
  |none=>none
 | .aY g own,vals=>(dZ orc g own vals sh aa).map fun(v,sh',ts)=>⟨v,none,sh',ts⟩
 | .fU,f::vals=>match f with
  | .fn g cap=>(dZ orc g [] (vals++cap) sh aa).bind (YC sh)
  |_=>none
 | .gD,f::vals=>match f with
  | .fn g cap=>(dZ orc g [] (vals++cap) sh aa).map fun(v,sh',ts)=>⟨v,none,sh',ts⟩
  |_=>none
 |_,_=>none
def g_(env:List (Nat×AV)):eM->Option AV
 | .t n=>look env n
 | .c v=>some v
def d_(env:List (Nat×AV)):List eM->Option (List AV)
 |[]=>some []
 |x::r=>match g_ env x,d_ env r with
  |some v,some vs=>some (v::vs)
  |_,_=>none
def gq(env:List (Nat×AV)):Option (Nat×Bool)->Option Bool
 |none=>some true
 |some (t,b)=>match look env t with
  |some (.pv (.bool c))=>some (c == b)
  |some .un=>some false
  |_=>none
def gJ(env:List (Nat×AV)):Option Nat->AV->List (Nat×AV)
 |some d,v=>cN env d v
 |none,_=>env
def fY(mem:List (Nat×List AV)):Option Nat->Option (List AV)->List (Nat×List AV)
 |some k,some cs=>cN mem k cs
 |_,_=>mem
def dT(orc:eZ)(o:dI)(st:St):Option St:=
 match gq st.env o.guard with
 |none=>none
 |some false=>some {st with env:=gJ st.env o.dst .un}
 |some true=>
  match d_ st.env o.args with
  |none=>none
  |some vals=>
   match exec orc o.op vals (o.op.key.bind (look st.mem)) st.sh st.aa with
   |none=>none
   |some out=>some {env:=gJ st.env o.dst out.val,mem:=fY st.mem o.op.key out.cells,sh:=out.sh,aa:=out.aa}
def br(orc:eZ):List dI->St->Option St
 |[],st=>some st
 |o::r,st=>match dT orc o st with
  |none=>none
  |some a=>br orc r a
def gE(live:List Nat):AV->Bool
 | .au d _=>live.contains d
 | .sD d _=>live.contains d
 | .own ..=>true
 | .agg cs=>gW cs
 |v=>bq v
def bz(live:List Nat)(env:List (Nat×AV)):List Nat->List (Nat×AV)
 |[]=>[]
 |t::r=>match look env t with
  |some v=>if gE live v=true then(t,v)::bz live env r else bz live env r
  |none=>bz live env r
def bG(mem:List (Nat×List AV)):List Nat->List (Nat×List AV)
 |[]=>[]
 |t::r=>match look mem t with
  |some v=>(t,v)::bG mem r
  |none=>bG mem r
def restrict(live:List Nat)(st:St):St:=
 {st with env:=bz live st.env live,mem:=bG st.mem live}
def dj(aL ts:aG):List (Nat×AV)->List (Nat×AV)×aG×aG
 |[]=>([],aL,ts)
 |(t,v)::r=>((t,(bn aL ts v).1)::(dj (bn aL ts v).2.1 (bn aL ts v).2.2 r).1,(dj (bn aL ts v).2.1 (bn aL ts v).2.2 r).2)
def fZ(aL ts:aG):List (Nat×List AV)->List (Nat×List AV)×aG×aG
 |[]=>([],aL,ts)
 |(t,v)::r=>((t,(bf aL ts v).1)::(fZ (bf aL ts v).2.1 (bf aL ts v).2.2 r).1,(fZ (bf aL ts v).2.1 (bf aL ts v).2.2 r).2)
def norm(st:St):St:=
 { env:=(dj st.aa [] st.env).1,
   mem:=(fZ (dj st.aa [] st.env).2.1 (dj st.aa [] st.env).2.2 st.mem).1,
   sh:=(bl (fZ (dj st.aa [] st.env).2.1 (dj st.aa [] st.env).2.2 st.mem).2.1 (fZ (dj st.aa [] st.env).2.1 (dj st.aa [] st.env).2.2 st.mem).2.2 st.sh).1,
   aa:=(bl (fZ (dj st.aa [] st.env).2.1 (dj st.aa [] st.env).2.2 st.mem).2.1 (fZ (dj st.aa [] st.env).2.1 (dj st.aa [] st.env).2.2 st.mem).2.2 st.sh).2.2}
inductive aR where
 |normal|ret|exit (id:Nat)
 deriving Inhabited,DecidableEq
def f_(f:St->Option (aR×St))(a:St->St):Nat->St->Option (aR×St)
 |0,_=>none
 |n+1,st=>match f (a st)with
  |some (.normal,b)=>f_ f a n b
  |r=>r
def sK(sz:Nat)(ag:Bool)(el:PV):Option AV:=if(a9 el).length=sz then cH ag sz (a9 el)else none
def hU(f:St->Option (aR×St))(live:List Nat)(pi px sz:Nat)(ag:Bool)(env:List (Nat×AV)):List (PV×Nat)->St->Option (aR×St)
 |[],st=>some (.normal,{st with env:=env})
 |(el,i)::r,st=>match sK sz ag el with
  |none=>none
  |some v=>match f (norm (restrict live {st with env:=cN (cN env pi (.pv (.int .i64 i))) px v}))with
   |some (.normal,a)=>hU f live pi px sz ag env r a
   |some (e,a)=>some (e,{a with env:=env})
   |none=>none
def andThen(f g:St->Option (aR×St))(st:St):Option (aR×St):=match f st with
 |some (.normal,a)=>g a
 |_=>none
def ir(live:List Nat)(env:List (Nat×AV)):List (Nat×AV):=(bz live env live).filter fun p=>bq p.2
def e8(f:St->Option (aR×St))(v:Option AV)(gb pi px sz:Nat)(ag:Bool)(live:List Nat)(st:St):Option (aR×St):=
 match v with
 |some (.fn g [.aI s 0])=>if g=gb then
  match st.sh[s]? with
  |some (some [.pv (.aq l)])=>if l.length<4611686018427387904 then hU f live pi px sz ag (ir live st.env) l.zipIdx.reverse {st with sh:=kill st.sh [s]}else none
  |_=>none
   else none
 |_=>none
def oj:AV->AV
 | .cQ l=>.pv (.aq l)
 |v=>v
def xJ:AV->St->St
 | .aI b 0,st=>match st.sh[b]? with
  |some (some cs)=>{st with sh:=st.sh.set b (some ((cs.take (cs.length / 2)).map oj++cs.drop (cs.length / 2)))}
  |_=>st
 | .au d 0,st=>match look st.mem d with
  |some cs=>match eA st.sh cs with
   |some ps=>{st with mem:=cN st.mem d (ps.map .pv),sh:=eN st.sh [.agg cs]}
   |none=>st
  |none=>st
 |_,st=>st
def nY:List Nat->St->St
 |[],st=>st
 |t::r,st=>match look st.env t with
  |some v=>match ej st.sh v with
   |some p=>nY r {st with env:=cN st.env t (.pv p),sh:=eN st.sh [v]}
   |none=>nY r (xJ v st)
  |none=>nY r st
def apart:Option AV->Option AV->Bool
 |some (.aI b _),some (.aI a _)=>b != a
 |_,_=>false
def jl(env:List (Nat×AV)):List (Nat×Nat)->Bool
 |[]=>true
 |(a,b)::r=>apart (look env a) (look env b) && jl env r
def VF{α:Type}(d:Nat):List (Nat×α)->List (Nat×α)
 |[]=>[]
 |(k,v)::r=>if k=d then VF d r else(k,v)::VF d r
def Pj(_:List (Nat×Nat×Bool))(st:St):St:=st
def Pk(b a:Nat):List Nat->List (Nat×AV)->List (Nat×AV)
 |[],env=>env
 |t::r,env=>match look env t with
  |some (.bh s z n ag)=>if s=b then Pk b a r (cN env t (.bh a z n ag))else Pk b a r env
  |_=>Pk b a r env
def VG(_:List Nat)(st:St):St:=st
def Tg(_:List Nat)(st:St):St:=st
def cE(orc:eZ)(k:Nat):ae->St->Option (aR×St)
 | .skip,st=>some (.normal,st)
 | .jt ops live,st=>match br orc ops st with
  |some d=>some (.normal,restrict live d)
  |none=>none
 | .seq a b,st=>match cE orc k a st with
  |some (.normal,d)=>cE orc k b d
  |r=>r
 | .cond c a b,st=>match g_ st.env c with
  |some (.pv (.bool t))=>if t then cE orc k a st else cE orc k b st
  |_=>none
 | .block id b,st=>match cE orc k b st with
  |some (.exit e,d)=>if e=id then some (.normal,d)else some (.exit e,d)
  |r=>r
 | .loop live b,st=>f_ (cE orc k b) (fun s=>norm (restrict live s)) k st
 | .exit id,st=>some (.exit id,st)
 | .ret,st=>some (.ret,st)
 | .back c gb pi px sz ag live x y,st=>e8 (andThen (cE orc k x) (cE orc k y)) (g_ st.env c) gb pi px sz ag live st
 | .ej ts,st=>some (.normal,nY ts st)
 | .Rw ds,st=>if jl st.env ds=true then some (.normal,st)else none
 | .Le ps,st=>some (.normal,Pj ps st)
 | .nq ts,st=>some (.normal,VG ts st)
 | .Tf ts,st=>some (.normal,Tg ts st)
def bK:Nat->List AV->List (Nat×AV)
 |_,[]=>[]
 |i,v::r=>(i,v)::bK (i+1) r
def rf(st:St):qo->Option AV
 | .t n=>look st.env n
 | .c key sz ag=>match look st.env key with
  |some (.au d 0)=>match look st.mem key with
   |some cs=>if d=key then bY ag sz cs 0 else none
   |none=>none
  |some (.aI s 0)=>match st.sh[s]? with
   |some (some cs)=>if dE cs=true then none else bY ag sz cs 0
   |_=>none
  |_=>none
def eC(st:St):List qo->Option (List AV)
 |[]=>some []
 |r::rs=>match rf st r,eC st rs with
  |some v,some vs=>some (v::vs)
  |_,_=>none
def lr(sh:Sh)(v:AV):AV:=match ej sh v with|some p=>.pv p|none=>v
def qq(sh:Sh)(v:AV):AV:=match v with
 | .cQ l=>.cQ l
 |v=>if aZ v=true then lr sh v else v
def mG(sh:Sh)(v:AV):AV:=match v with
 | .cQ l=>.cQ l
 | .own l τ=>.own l τ
 | .agg cs=>.agg (cs.map (qq sh))
 |v=>lr sh v
def cp(aW ks:Bool)(sh:Sh)(vs:List AV):List AV:=if aW then(if ks then vs else vs.map (mG sh))else vs.map (lr sh)
def fF(aW ks:Bool)(sh:Sh)(vs:List AV):Sh:=if aW && ks then sh else eN sh vs
def cj(orc:eZ)(k:Nat)(aW:Bool)(af:aw)(args:List AV)(sh:Sh)(ts:aG):Option (List AV×Sh×aG):=
 match cE orc k af.body {env:=bK 0 args,mem:=[],sh,aa:=ts}with
 |some (e,st)=>
  if e=.ret∨e=.normal then
   match eC st af.results with
   |some vs=>
    let rs:=cp aW af.ks st.sh vs
    let sh':=if rs.all (aK sh.length)=true then(fF aW af.ks st.sh vs).take sh.length else fF aW af.ks st.sh vs
    if rs.all bE=true then some ((ct st.aa rs sh').1,(ct st.aa rs sh').2.1,(ct st.aa rs sh').2.2.2)else none
   |none=>none
  else none
 |none=>none
def fp:List AV->Option (List PV)
 |[]=>some []
 | .pv p::r=>(fp r).map (p::·)
 |_=>none
def run(AP:Nat->Option aw)(k:Nat):Nat->eZ
 |0=>{p:=fun _ _=>none,i:=fun _ _ _ _=>none}
 |n+1=>
  { p:=fun g dV=>match AP g with
   |some af=>match af.qp with
    |some f=>f.f (run AP k n).p dV
    |none=>if dV.length=af.nparams∧dV.length<=af.ntmps then
     match cj (run AP k n) k false af (dV.map .pv) [] []with
     |some (rs,_)=>fp rs
     |none=>none
      else none
   |none=>none,
    i:=fun g args sh ts=>match AP g with
     |some af=>if args.length<=af.ntmps then cj (run AP k n) k true af args sh ts else none
     |none=>none}
theorem Pl{a b c:Prop}(h:a∨b)(f:b->c):a∨c:=h.elim .inl fun x=>.inr (f x)
abbrev bo:=Nat->Nat->Option Value
def At(K:bo)(b o:Nat)(vs:List Value):Prop:=∀j v,vs[j]?=some v->K b (o+j)=some v
mutual
def R(K:bo)(top:Bool):PV->List Value->Prop
 | .bool b,vs=>vs=[.bool b]
 | .int k n,vs=>vs=[.int k n]
 | .str s,vs=>vs=[.string ⟨s.toArray⟩]
 | .agg cs,vs=>top=true∧dJ K cs vs
 | .aq els,vs=>∃base len cap,vs=[.slice base len cap]∧len<=cap∧els.length=len∧(els=[]∨∃b o sz,base=some ⟨b,o,none⟩∧Row K b o sz els)
def dJ(K:bo):List PV->List Value->Prop
 |[],vs=>vs=[]
 |c::cs,vs=>∃v r,vs=v::r∧R K false c [v]∧dJ K cs r
def Row(K:bo)(b o sz:Nat):List PV->Prop
 |[]=>True
 |el::r=>(∃vs,vs.length=sz∧At K b o vs∧R K true el vs)∧Row K b (o+sz) sz r
end
def Rel(K:bo):PV->Value->Prop
 | .agg cs,v=>∃vs:List Value,v=.agg vs.toArray∧dJ K cs vs
 |p,v=>R K false p [v]
def lK(K:bo):List PV->List Value->Prop
 |[],vs=>vs=[]
 |c::cs,vs=>∃v r,vs=v::r∧Rel K c v∧lK K cs r
def bo.le(K K':bo):Prop:=∀b o v,K b o=some v->K' b o=some v
theorem bo.le_refl(K:bo):K.le K:=fun _ _ _ h=>h
theorem bo.le_trans{a b c:bo}(h:a.le b)(k:b.le c):a.le c:=fun x y z w=>k x y z (h x y z w)
theorem At.mono{K K':bo}(h:K.le K'){b o:Nat}{vs:List Value}(a:At K b o vs):At K' b o vs:=fun j v hj=>h _ _ _ (a j v hj)
mutual
theorem R.mono{K K':bo}(h:K.le K'):∀(p:PV)(top:Bool)(vs:List Value),R K top p vs->R K' top p vs
 | .bool _,_,_,hr=>by simpa only[R]using hr
 | .int _ _,_,_,hr=>by simpa only[R]using hr
 | .str _,_,_,hr=>by simpa only[R]using hr
 | .agg cs,_,vs,hr=>by
  simp only[R]at hr⊢;exact⟨hr.1,dJ.mono h cs vs hr.2⟩
 | .aq els,_,vs,hr=>by
  simp only[R]at hr⊢;obtain⟨base,len,cap,e1,e0,e2,e3⟩:=hr;refine⟨base,len,cap,e1,e0,e2,Pl e3 ?_⟩
  rintro⟨b,o,sz,e4,e5⟩
  exact⟨b,o,sz,e4,Row.mono h els b o sz e5⟩
theorem dJ.mono{K K':bo}(h:K.le K'):∀(cs:List PV)(vs:List Value),dJ K cs vs->dJ K' cs vs
 |[],_,hr=>by simpa only[dJ]using hr
 |c::cs,vs,hr=>by
  simp only[dJ]at hr⊢;obtain⟨v,r,e1,e2,e3⟩:=hr;exact⟨v,r,e1,R.mono h c false [v] e2,dJ.mono h cs r e3⟩
theorem Row.mono{K K':bo}(h:K.le K'):∀(els:List PV)(b o sz:Nat),Row K b o sz els->Row K' b o sz els
 |[],_,_,_,_=>by simp only[Row]
 |el::r,b,o,sz,hr=>by
  simp only[Row]at hr⊢;obtain⟨⟨vs,e1,e2,e3⟩,e4⟩:=hr;exact⟨⟨vs,e1,e2.mono h,R.mono h el true vs e3⟩,Row.mono h r b (o+sz) sz e4⟩
end
theorem Rel.mono{K K':bo}(h:K.le K'){p:PV}{v:Value}(hr:Rel K p v):Rel K' p v:=by
 cases p with
 |agg cs=>obtain⟨vs,e1,e2⟩:=hr;exact⟨vs,e1,dJ.mono h _ _ e2⟩
 |_=>exact R.mono h _ _ _ hr
theorem lK.mono{K K':bo}(h:K.le K'):∀{cs:List PV}{vs:List Value},lK K cs vs->lK K' cs vs
 |[],_,hr=>hr
 |_::_,_,⟨v,r,e1,e2,e3⟩=>⟨v,r,e1,e2.mono h,lK.mono h e3⟩
theorem dJ.length{K:bo}:∀{cs:List PV}{vs:List Value},dJ K cs vs->vs.length=cs.length
 |[],_,hr=>by simp only[dJ]at hr;simp[hr]
 |_::cs,_,hr=>by
  simp only[dJ]at hr;obtain⟨v,r,rfl,_,e3⟩:=hr;simp[dJ.length e3]
theorem lK.length{K:bo}:∀{cs:List PV}{vs:List Value},lK K cs vs->vs.length=cs.length
 |[],_,hr=>by cases hr;rfl
 |_::_,_,⟨v,r,rfl,_,e3⟩=>by simp[lK.length e3]
theorem R.length{K:bo}{p:PV}{vs:List Value}(h:R K true p vs):vs.length=(a9 p).length:=by
 cases p with
 |agg cs=>simp only[R]at h;simp[a9,h.2.length]
 |aq els=>simp only[R]at h;obtain⟨b,l,c,rfl,_⟩:=h;rfl
 |_=>simp only[R]at h;subst h;rfl
theorem R.cells{K:bo}{p:PV}{vs:List Value}(h:R K true p vs):dJ K (a9 p) vs:=by
 cases p with
 |agg cs=>simp only[R]at h;exact h.2
 |aq els=>
  have h':=h;simp only[R]at h;obtain⟨b,l,c,rfl,e⟩:=h;simp only[a9,dJ];exact⟨_,[],rfl,by simp only[R];exact⟨b,l,c,rfl,e⟩,rfl⟩
 |_=>simp only[R]at h;subst h;simp[a9,dJ,R]
theorem R.top{K:bo}{p:PV}{vs:List Value}(h:R K false p vs):R K true p vs:=by
 cases p with
 |agg cs=>simp[R]at h
 |_=>simp only[R]at h⊢;exact h
theorem dJ.get{K:bo}:∀{cs:List PV}{vs:List Value},dJ K cs vs->∀{j:Nat}{c:PV},cs[j]?=some c->∃v,vs[j]?=some v∧R K false c [v]
 |[],_,_,j,c,a=>by simp at a
 |c0::cs,vs,h,j,c,a=>by
  simp only[dJ]at h;obtain⟨v,r,rfl,e2,e3⟩:=h;cases j with
  |zero=>simp at a;subst a;exact⟨v,by simp,e2⟩
  |succ j=>simpa using dJ.get e3 (by simpa using a)
theorem dJ.drop{K:bo}:∀(n:Nat){cs:List PV}{vs:List Value},dJ K cs vs->dJ K (cs.drop n) (vs.drop n)
 |0,_,_,h=>by simpa using h
 |n+1,[],_,h=>by simp only[dJ]at h;subst h;simp[dJ]
 |n+1,_::cs,_,h=>by
  simp only[dJ]at h;obtain⟨v,r,rfl,_,e3⟩:=h;simpa using dJ.drop n e3
theorem dJ.take{K:bo}:∀(n:Nat){cs:List PV}{vs:List Value},dJ K cs vs->dJ K (cs.take n) (vs.take n)
 |0,_,_,_=>by simp[dJ]
 |n+1,[],_,h=>by simp only[dJ]at h;subst h;simp[dJ]
 |n+1,_::cs,_,h=>by
  simp only[dJ]at h;obtain⟨v,r,rfl,e2,e3⟩:=h;simp only[zbT,dJ];exact⟨v,_,rfl,e2,dJ.take n e3⟩
theorem dJ.append{K:bo}:∀{cs:List PV}{vs:List Value}{ds:List PV}{us:List Value},dJ K cs vs->dJ K ds us->dJ K (cs++ds) (vs++us)
 |[],_,_,_,h,k=>by simp only[dJ]at h;subst h;simpa using k
 |_::cs,_,_,_,h,k=>by
  simp only[dJ]at h;obtain⟨v,r,rfl,e2,e3⟩:=h;simp only[za5,dJ];exact⟨v,_,rfl,e2,dJ.append e3 k⟩
theorem Row.get{K:bo}:∀{els:List PV}{b o sz:Nat},Row K b o sz els->∀{i:Nat}{el:PV},els[i]?=some el->
   ∃vs,vs.length=sz∧At K b (o+i*sz) vs∧R K true el vs
 |[],_,_,_,_,i,el,h=>by simp at h
 |e0::r,b,o,sz,hr,i,el,h=>by
  simp only[Row]at hr;obtain⟨e1,e2⟩:=hr;cases i with
  |zero=>simp at h;subst h;simpa using e1
  |succ i=>
   obtain⟨vs,h1,h2,h3⟩:=Row.get e2 (i:=i) (by simpa using h);exact⟨vs,h1,by rw[show o+(i+1)*sz=o+sz+i*sz from by rw[zaD];omega];exact h2,h3⟩
theorem dJ.one{K:bo}:∀{cs:List PV}{vs:List Value},dJ K cs vs->∀u∈vs,u.oneCell'=true
 |[],_,h,u,hu=>by simp only[dJ]at h;subst h;simp at hu
 |c::cs,_,h,u,hu=>by
  simp only[dJ]at h;obtain⟨v,r,rfl,e2,e3⟩:=h;simp only[zah]at hu;rcases hu with rfl|hu
  ·cases c with
   |agg _=>simp[R]at e2
   |aq _=>simp only[R]at e2;obtain⟨b,l,c,e,_⟩:=e2;simp at e;subst e;rfl
   |_=>simp[R]at e2;subst e2;rfl
  ·exact dJ.one e3 u hu
theorem Row.flat{K:bo}:∀{els:List PV}{b o sz:Nat},Row K b o sz els->
   ∃a:List Value,a.length=els.length*sz∧At K b o a∧(∀(K':bo)(d o':Nat),K.le K'->At K' d o' a->Row K' d o' sz els)∧∀u∈a,u.oneCell'=true
 |[],b,o,sz,_=>⟨[],by simp,by intro j v h;simp at h,by intros;simp only[Row],by simp⟩
 |el::r,b,o,sz,hr=>by
  simp only[Row]at hr;obtain⟨⟨vs,h1,h2,h3⟩,h4⟩:=hr;obtain⟨a,g1,g2,f,g4⟩:=Row.flat h4;refine⟨vs++a,by simp[h1,g1,zaD];omega,?_,?_,?_⟩
  ·intro j v hj;rw[zbx]at hj;split at hj
   ·exact h2 j v hj
   ·have:=g2 _ v hj;rw[h1]at this
    rwa [show o+sz+(j-sz)=o+j from by omega]at this
  ·intro K' d o' c e;simp only[Row];refine⟨⟨vs,h1,?_,R.mono c _ _ _ h3⟩,?_⟩
   ·intro j v hj;exact e j v (by rw[zal];exact hj;exact(zaa.1 hj).1)
   ·refine f K' d (o'+sz) c ?_;intro j v hj;have:=e (sz+j) v (by rw[zaL (by omega),h1];simpa using hj)
    rwa [show o'+sz+j=o'+(sz+j) from by omega]
  ·intro u hu;simp only[zai]at hu;rcases hu with hu|hu
   ·exact dJ.one h3.cells u hu
   ·exact g4 u hu
theorem Row.append{K:bo}:∀{els:List PV}{b o sz:Nat}{a:List PV},Row K b o sz els->Row K b (o+els.length*sz) sz a->Row K b o sz (els++a)
 |[],_,_,_,_,_,k=>by simpa using k
 |el::r,b,o,sz,a,h,k=>by
  simp only[Row,za5]at h⊢;refine⟨h.1,Row.append h.2 ?_⟩;rw[show o+sz+r.length*sz=o+(el::r).length*sz from by simp[zaD];omega];exact k
theorem Row.drop{K:bo}:∀(n:Nat){els:List PV}{b o sz:Nat},Row K b o sz els->Row K b (o+n*sz) sz (els.drop n)
 |0,_,_,_,_,h=>by simpa using h
 |n+1,[],_,_,_,_=>by simp only[List.drop_nil,Row]
 |n+1,el::r,b,o,sz,h=>by
  simp only[Row]at h;simp only[zcF];rw[show o+(n+1)*sz=o+sz+n*sz from by rw[zaD];omega];exact Row.drop n h.2
theorem Row.take{K:bo}:∀(n:Nat){els:List PV}{b o sz:Nat},Row K b o sz els->Row K b o sz (els.take n)
 |0,_,_,_,_,_=>by simp only[zcX,Row]
 |n+1,[],_,_,_,_=>by simp only[List.take_nil,Row]
 |n+1,el::r,b,o,sz,h=>by
  simp only[Row]at h;simp only[zbT,Row];exact⟨h.1,Row.take n h.2⟩
theorem Row.sz{K:bo}{els:List PV}{b o sz s:Nat}(h:Row K b o sz els)(hs:a7 s els=true)(a:els≠[]):s=sz:=by
 cases els with
 |nil=>exact absurd rfl a
 |cons el r=>
  simp only[Row]at h;obtain⟨⟨vs,h1,_,h3⟩,_⟩:=h;have:=h3.length;simp[a7]at hs;omega
def Rx(K:bo)(els:List PV)(base:Option Addr)(len:Nat):Prop:=
 els.length=len∧(els=[]∨∃b o sz,base=some ⟨b,o,none⟩∧Row K b o sz els)
theorem Rx.mono{K K':bo}(h:K.le K'){els:List PV}{base:Option Addr}{len:Nat}(hr:Rx K els base len):Rx K' els base len:=
 ⟨hr.1,Pl hr.2 fun⟨b,o,sz,e,r⟩=>⟨b,o,sz,e,Row.mono h _ _ _ _ r⟩⟩
theorem cq{K:bo}{els:List PV}{v:Value}:Rel K (.aq els) v<->∃base len cap,v=.slice base len cap∧len<=cap∧Rx K els base len:=by
 simp only[Rel,R,Rx];constructor
 ·rintro⟨b,l,c,e,h⟩;exact⟨b,l,c,by simpa using e,h⟩
 ·rintro⟨b,l,c,e,h⟩;exact⟨b,l,c,by simpa using e,h⟩
theorem Lh{K:bo}{p:PV}{v:Value}(h:i6 p=true):Rel K p v<->R K false p [v]:=by
 cases p with
 |agg cs=>simp[i6]at h
 |_=>exact Iff.rfl
theorem Rel.U'{K:bo}{p:PV}{v:Value}(h:R K false p [v]):Rel K p v:=by
 cases p with
 |agg cs=>simp[R]at h
 |_=>exact h
structure mA where
 mK:List (Nat×Nat×Nat)
 Ry:List Nat
 ps:List Nat
 live:List (Nat×List Nat)
 loops:List (Nat×List Nat)
 site:List Nat
 own:List (Nat×List Nat)
 Gq:List (Nat×Nat):=[]
 ks:Bool:=false
 q:List Nat:=[]
 YD:List Nat:=[]
 fz:List (Nat×List Nat):=[]
 dup:List (Nat×Nat):=[]
 ro:List Nat:=[]
 YE:List (Nat×List (Nat×Nat)):=[]
 Le:List (Nat×List (Nat×Nat×Bool)):=[]
 pr:List (Nat×List (Nat×Nat×Nat)):=[]
 cut:List (Nat×Nat×List Nat×List Nat):=[]
 fs:List (Nat×List Nat):=[]
 kp:List Nat:=[]
 zap:List Nat:=[]
def mA.at(A:mA)(id:Nat):mA:=match look A.pr id with
 |some l=>{A with mK:=l++A.mK}
 |none=>A
structure Names where
 g:List (Nat×Nat)
 ZM:List Nat
 bk:List (Nat×Nat×Bool):=[]
 cl:List (Nat×Nat×Nat):=[]
 nZ:Nat->Option (Array Value):=fun _=>none
def Names.of(ρ:Names)(f:Nat):Option Nat:=look ρ.g f
def dk(P:Program)(t:TypeId):Option Nat:=(P.info? t).map (·.size)
def gT(P:Program)(t:TypeId):Option Nat:=(P.info? t).map (·.bytes)
def jv(P:Program)(t:TypeId):Option Bool:=(P.underlying t).map fun| .struct _| .array ..=>true|_=>false
def de:Value->Option PV
 | .bool b=>some (.bool b)
 | .int k n=>some (.int k n)
 | .string s=>some (.str s.data.toList)
 | .slice none 0 0=>some (.aq [])
 |_=>none
def dm{α a:Type}(f:α->Option a):List α->Option (List a)
 |[]=>some []
 |x::r=>match f x,dm f r with
  |some y,some b=>some (y::b)
  |_,_=>none
def CY(v:Value):Option AV:=
 match v with
 | .slice none 0 0=>some (.cQ [])
 | .pointer none=>some .ic
 | .nilFunc=>some .ic
 | .agg cs=>(dm de cs.toList).map fun l=>.pv (.agg l)
 |v=>(de v).map .pv
def cR(P:Program)(t:TypeId):Option (List PV):=
 match (P.info? t).bind (·.zero)with
 |some z=>dm de z.cells.toList
 |none=>none
def jz(ρ:Names):Operand->Option eM
 | .tmp t=>some (.t t)
 | .const v=>(CY v).map .c
 | .func f=>(ρ.of f).map fun g=>.c (.fn g [])
 | .global _=>none
def fG(P:Program)(t:TypeId):Option TypeId:=match P.underlying t with|some (.slice e)=>some e|_=>none
def jP(P:Program)(t:TypeId)(f:Nat):Option Field:=match P.underlying t with|some (.struct fs)=>fs[f]?|_=>none
def CZ(P:Program)(t:TypeId):Option CK:=if dk P t=some 1 then match P.underlying t with
 |some (.int _)=>some .int
 |some .string=>some .str
 |some .bool=>some .bool
 |_=>none
 else none
def C0(P:Program):Nat->List Field->Option (List CK)
 |_,[]=>some []
 | i,f::r=>if f.name ≠ "_"∧f.offset=i then match CZ P f.type,C0 P (i+1) r with
  |some c,some cs=>some (c::cs)
  |_,_=>none
  else none
def zeroOf(P:Program)(t:TypeId):Option PV:=match(P.info? t).bind (·.zero)with
 |some (.agg cs)=>(dm de cs.toList).map .agg
 |some v=>de v
 |none=>none
def Gr(P:Program)(op:BinOp)(t:TypeId):Option Pg:=
 match P.underlying t with
 |some (.int _)|some .string=>some (.bin op)
 |some .bool=>if op=.eql then some (.beq false)else if op=.neq then some (.beq true)else none
 |_=>none
def fieldsOf(P:Program)(t:TypeId):Option (List (Nat×Nat)):=
 match P.underlying t with
 |some (.struct fs)=>dm (fun f=>(dk P f.type).map fun s=>(f.offset,s)) fs.toList
 |_=>none
def placesOf(P:Program)(t:TypeId)(is:List Nat):Option (List (Nat×Nat)):=
 match fieldsOf P t with
 |some all=>dm (fun i=>all[i]?) is
 |none=>none
def sT:Nat->List (Nat×Operand)->Bool
 |_,[]=>true
 |i,(j,_)::r=>i == j && sT (i+1) r
def bS(P:Program)(ρ:Names)(A:mA)(dst:Option Nat):Op->Option (AK×List Operand)
 | .move x| .assign x=>some (.v .mv,[x])
 | .pick c a b=>some (.v .pick,[c,a,b])
 | .binOp op t x y _=>(Gr P op t).map fun o=>(.v o,[x,y])
 | .unOp op _ x=>some (.v (.un op),[x])
 | .convert s d x=>match P.underlying s,P.underlying d with
  |some (.int _),some (.int k)=>some (.v (.conv k),[x])
  |some (.slice e),some .string=>match P.underlying e with
   |some (.int .u8)=>some (.v .b2s,[x])
   |_=>none
  |_,_=>none
 | .extract x i=>some (.v (.ext i),[x])
 | .field t x f=>match jP P t f with
  |some j=>match dk P j.type,jv P j.type with
   |some sz,some ag=>some (.v (.field j.offset sz ag),[x])
   |_,_=>none
  |none=>none
 | .fieldAddr t x f=>match jP P t f with
  |some j=>match dk P j.type with
   |some s=>if s=0 then none else some (.v (.iF j.offset),[x])
   |none=>none
  |none=>none
 | .indexAddr t x i=>match fG P t with
  |some e=>(dk P e).map fun sz=>(.v (.eX sz),[x,i])
  |none=>none
 | .index t x i=>match P.underlying t with
  |some .string=>some (.v .index,[x,i])
  |_=>none
 | .build t ps=>match P.underlying t with
  |some (.struct _)=>match cR P t,placesOf P t (ps.toList.map (·.1))with
   |some z,some p=>some (.v (.build z p),ps.toList.map (·.2))
   |_,_=>none
  |_=>none
 | .buildSlice t n ps=>match fG P t with
  |some e=>match dk P e,cR P e with
   |some sz,some _=>if ps.size=n∧sT 0 ps.toList=true∧0<sz∧n*sz<=16777216 then some (.v (.dR sz),ps.toList.map (·.2))else none
   |_,_=>none
  |none=>none
 | .load t x=>match dk P t,jv P t with
  |some sz,some ag=>match x with
   | .tmp tx=>match look A.mK tx with
    |some (k,o)=>some (.cg k o sz ag,[x])
    |none=>if A.Ry.contains tx then some (.dH sz ag,[x])else some (.v (.gC sz ag),[x])
   |_=>none
  |_,_=>none
 | .store t x v=>match dk P t,x with
  |some sz,.tmp tx=>match look A.mK tx with
   |some (k,o)=>some (.bB k o sz,[x,v])
   |none=>if A.kp.contains tx=true then some (.Lc sz,[x,v])else some (.et sz,[x,v])
  |_,_=>none
 | .alloc t=>match cR P t,dst with
  |some z,some d=>match look A.mK d with
   |some (k,0)=>if k=d then some (.alloc d z,[])else none
   |some _=>none
   |none=>some (.fR z,[])
  |_,_=>none
 | .box t x=>match dk P t,dst with
  |some sz,some d=>match look A.mK d with
   |some (k,0)=>if k=d then some (.box d sz,[x])else none
   |some _=>none
   |none=>if A.kp.contains d=true then some (.sG sz,[x])else some (.qn sz,[x])
  |_,_=>none
 | .makeMap _ r=>if r.isNone=true then some (.Rv,[])else none
 | .lookup t x i ok=>match P.underlying t with
  |some (.map k e)=>match CZ P k,zeroOf P e with
   |some c,some z=>some (.zV c ok z,[x,i])
   |_,_=>none
  |_=>none
 | .mapUpdate t m i x| .insert t m i x=>match P.underlying t with
  |some (.map k _)=>(CZ P k).map fun c=>(.VC c,[m,i,x])
  |_=>none
 | .nilCheck x=>some (.v .qm,[x])
 | .makeFunc fn first cap=>match fn with
  | .func f=>if first.size=0 then(ρ.of f).map fun g=>(.v (.sF g),cap.toList)else none
  |_=>none
 | .makeSlice t l c=>match fG P t with
  |some e=>match dk P e,gT P e,jv P e,cR P e with
   |some sz,some h,some ag,some z=>if z.length=sz∧0<sz then match dst.bind (look A.mK),dst with
    |some (k,0),some d=>if k=d then some (.re d sz h z,[l,c])else none
    |some _,_=>none
    |none,_=>some (.lh sz h ag z,[l,c])
     else none
   |_,_,_,_=>none
  |none=>none
 | .slice t x lo hi mx=>match P.underlying t with
  |some (.slice e)=>if mx.isSome=false∧(dst.map (A.YD.contains ·)).getD false=true then(dk P e).map fun sz=>(.v (.tF sz lo.isSome hi.isSome),x::(lo.toList++hi.toList++mx.toList))
    else (dk P e).map fun sz=>(.v (.slice false sz lo.isSome hi.isSome mx.isSome),x::(lo.toList++hi.toList++mx.toList))
  |some .string=>if mx.isSome then none else some (.v (.slice true 0 lo.isSome hi.isSome false),x::(lo.toList++hi.toList++mx.toList))
  |_=>none
 | .call c=>match c.callee with
  | .builtin .len=>match c.args.toList,(c.argTypes[0]?).bind P.underlying with
   |[x],some (.slice _)=>some (.v .len,[x])
   |[x],some .string=>some (.v .CW,[x])
   |_,_=>none
  | .builtin .min=>match c.args.toList with
   |[x,y]=>some (.v .mn,[x,y])
   |_=>none
  | .builtin .max=>match c.args.toList with
   |[x,y]=>some (.v .mx,[x,y])
   |_=>none
  | .builtin .append=>match c.args.toList,(c.argTypes[0]?).bind (fG P),(c.argTypes[1]?).bind (fG P)with
   |[x,y],some e,some _=>match dk P e,gT P e,cR P e with
    |some sz,some h,some z=>if z.length=sz∧0<sz∧0<h then
     if (dst.map (A.YD.contains ·)).getD false then(jv P e).map fun ag=>(.dN sz h ag,[x,y])else match dst.bind (look A.dup)with
      |some u=>some (.xH sz h,[x,y,.tmp u])
      |none=>some (.append sz h,[x,y])
      else none
    |_,_,_=>none
   |_,_,_=>none
  | .builtin .clear=>match c.args.toList,(c.argTypes[0]?).bind (fG P)with
   |[x],some e=>match dk P e,cR P e with
    |some sz,some z=>if z.length=sz∧0<sz then some (.im sz z,[x])else none
    |_,_=>none
   |_,_=>none
  | .builtin .copy=>match c.args.toList,(c.argTypes[0]?).bind (fG P),(c.argTypes[1]?).bind (fG P)with
   |[x,y],some e,some _=>match dk P e with
    |some sz=>some (.Ld sz,[x,y])
    |none=>none
   |_,_,_=>none
  | .value (.func f)=>match ρ.of f with
   |some g=>match look ρ.cl g with
    |some (sz,h)=>if c.args.size=1 then
     (if(dst.map (A.YD.contains ·)).getD false=true then match(c.argTypes[0]?).bind (fG P)with
      |some e=>(jv P e).map fun ag=>(.jO sz h ag,c.args.toList)
      |none=>none
     else some (.clone sz h,c.args.toList))else none
    |none=>if(dst.map (A.q.contains ·)).getD false then some (.tG g,c.args.toList)
    else if ρ.ZM.contains g || (dst.map (A.site.contains ·)).getD false then some (.aY g ((dst.bind (look A.own)).getD []),c.args.toList)
    else if(dst.map (A.ps.contains ·)).getD false then some (.dd g,c.args.toList)else some (.aH g,c.args.toList)
   |none=>none
  | .value (.tmp t)=>if(dst.map (A.ro.contains ·)).getD false=true then some (.fU,.tmp t::c.args.toList)else some (.gD,.tmp t::c.args.toList)
  |_=>none
 |_=>none
def gK(P:Program)(ρ:Names)(A:mA)(N:Nat)(ops:Array Oper)(o:Oper):Option dI:=
 match bS P ρ A o.dst o.op with
 |some (k,args)=>match dm (jz ρ) args with
  |some as=>
   if (o.dst.map (fun d=>decide (d<N))).getD true=true then
    match o.guard with
    |none=>some {dst:=o.dst,guard:=none,args:=as,op:=k}
    |some (j,b)=>match(ops[j]?).bind (·.dst)with
     |some t=>some {dst:=o.dst,guard:=some (t,b),args:=as,op:=k}
     |none=>none
   else none
  |none=>none
 |none=>none
def dI.looks(o:dI):List Nat:=
 (o.args.filterMap fun| .t n=>some n|_=>none)++(match o.guard with|some (t,_)=>[t]|none=>[])
def AK.jm:AK->Bool
 | .dH ..| .et _| .Lc _| .qn _| .sG _| .fR _| .lh ..| .dd _| .aY ..| .gD| .fU| .Rv| .zV ..| .VC _| .dN ..| .jO ..| .im ..| .Ld _=>true
 |_=>false
def AK.wB:AK->Bool
 | .dH ..| .zV ..| .fU=>true
 |_=>false
def AK.gL:AK->Bool
 | .append ..| .dN ..| .xH ..| .clone ..| .aY ..| .tG _| .gD| .fU=>true
 |_=>false
def AK.iU:AK->Bool
 | .bB ..| .alloc ..| .box ..| .re ..=>true
 |_=>false
def indep(x y:dI):Bool:=
 (match x.dst with|some d=>!(y.looks).contains d && y.dst != some d|none=>true) &&
 (match y.dst with|some d=>!(x.looks).contains d|none=>true) &&
 (!(x.op.jm && y.op.jm)|| (x.op.wB && y.op.wB)) && !(x.op.gL && y.op.gL) &&
 (match x.op.key,y.op.key with
  |some a,some b=>a != b || !(x.op.iU || y.op.iU)
  |_,_=>true)
def dI.addr(o:dI):Option Nat:=match o.op,o.args with
 | .dH ..,.t a::_| .et _,.t a::_=>some a
 |_,_=>none
def zX(ds:List (Nat×Nat))(x y:dI):Bool:=
 (match x.dst with|some d=>!(y.looks).contains d && y.dst != some d|none=>true) &&
 (match y.dst with|some d=>!(x.looks).contains d|none=>true) &&
 (match x.addr,y.addr with
  |some a,some b=>ds.contains (a,b)
  |_,_=>false)
def xK:List dI->Bool
 |[]=>true
 |x::r=>(match x.addr with|some a=>(x::r).all (fun o=>o.dst != some a)|none=>true) && xK r
def mL:List Oper->List Nat->List Nat
 |[],acc=>acc
 |o::r,acc=>mL r (acc++[o.after.toList.foldl (fun s e=>if Region.binds .any e then s ||| 2 ^ e.on ||| acc.getD e.on 0 else s) 0])
def sU(ds:List (Nat×Nat))(a:List Nat)(i:Nat)(x:dI):Nat->List dI->Bool
 |_,[]=>true
 |j,y::r=>((a.getD j 0).testBit i || indep x y || zX ds x y) && sU ds a i x (j+1) r
def mM(ds:List (Nat×Nat))(a:List Nat):Nat->List dI->Bool
 |_,[]=>true
 |i,x::r=>sU ds a i x (i+1) r && mM ds a (i+1) r
def iJ:Nat->List Oper->Bool
 |_,[]=>true
 |i,o::r=>o.after.toList.all (fun e=>!Region.binds .any e || decide (e.on<i)) && iJ (i+1) r
def xL(ds:List (Nat×Nat))(ops:List Oper)(as:List dI):Bool:=iJ 0 ops && (mM ds (mL ops []) 0 as && xK as)
def jQ:Code->Option Nat
 | .region id _ _=>some id
 | .seq a b| .cond _ a b=>match jQ a with|some i=>some i|none=>jQ b
 | .block _ c| .loop c| .scope c=>jQ c
 |_=>none
def ae.eQ:ae->Bool
 | .seq a b| .cond _ a b=>a.eQ && b.eQ
 | .block _ b| .loop _ b=>b.eQ
 | .back ..=>false
 |_=>true
def lL(o:Option (List Nat))(c:ae):ae:=match o with
 |some ts=>.seq (.ej ts) c
 |none=>c
def xM(o:Option (List Nat))(c:ae):ae:=match o with
 |some ts=>.seq (.Tf ts) c
 |none=>c
def behind(ds:Option (List (Nat×Nat)))(ps:Option (List (Nat×Nat×Bool)))(c:ae):ae:=
 let c1:=match ds with
  |some ds=>.seq c (.Rw ds)
  |none=>c
 match ps with
 |some ps=>.seq c1 (.Le ps)
 |none=>c1
def Zg(o:dI):Option (Nat×Nat×Nat×Bool):=match o.op,o.dst,o.guard,o.args with
 | .dH sz ag,some d,none,[.t a]=>some (d,a,sz,ag)
 |_,_,_,_=>none
def ZN(o:dI):Option (Nat×Nat):=match o.op,o.dst,o.guard,o.args with
 | .v .len,some d,none,[.t a]=>some (d,a)
 |_,_,_,_=>none
def pBs(o:dI):Option (Nat×List PV×Nat):=match o.op,o.dst,o.guard,o.args with
 | .v (.dR sz),some d,none,[.c (.pv (.agg a))]=>some (d,a,sz)
 |_,_,_,_=>none
def ZO(o:dI):Option (Nat×Nat×Nat×Nat×Nat):=match o.op,o.dst,o.guard,o.args with
 | .append sz a,some d,none,[.t s,.t z]=>some (d,s,z,sz,a)
 |_,_,_,_=>none
def pSt(o:dI):Option (Nat×Nat×Nat):=match o.op,o.dst,o.guard,o.args with
 | .et sz,none,none,[.t c,.t v]=>some (c,v,sz)
 |_,_,_,_=>none
def ZP(o:Oper):Option (Nat×Nat×Nat×Nat):=match o.op,o.dst,o.guard with
 | .indexAddr t (.tmp v) (.tmp l),some p,none=>some (p,t,v,l)
 |_,_,_=>none
def ZQ(o:Oper):Option (Nat×Nat×Nat):=match o.op,o.dst,o.guard with
 | .store a (.tmp p) (.tmp x),none,none=>some (a,p,x)
 |_,_,_=>none
def Th:List Nat->Bool
 |[]=>true
 |x::r=>!r.contains x && Th r
def fH(P:Program)(ρ:Names)(A:mA)(N:Nat):Code->Option ae
 | .skip=>some .skip
 | .region id ops d=>match dm (gK P ρ (A.at id) N ops) ops.toList with
  |some as=>if d then(if xL ((look A.YE id).getD []) ops.toList as then some (lL (look A.fz id) (behind (look A.YE id) (look A.Le id) (.jt as ((look A.live id).getD []))))else none)
    else match look A.cut id with
     |some _=>none
     |none=>some (xM (look A.fs id) (lL (look A.fz id) (behind (look A.YE id) (look A.Le id) (.jt as ((look A.live id).getD [])))))
  |none=>none
 | .seq a b=>match fH P ρ A N a,fH P ρ A N b with
  |some x,some y=>some (.seq x y)
  |_,_=>none
 | .cond c a b=>match jz ρ c,fH P ρ A N a,fH P ρ A N b with
  |some c,some x,some y=>some (.cond c x y)
  |_,_,_=>none
 | .block id b=>(fH P ρ A N b).map (.block id)
 | .loop b=>(fH P ρ A N b).map (.loop (((jQ b).bind (look A.loops)).getD []))
 | .exit id=>some (.exit id)
 | .ret=>some .ret
 | .rangeFunc (.tmp t) ps a b=>match ps.toList,look A.Gq t with
  |[pi,px],some gb=>match look ρ.bk gb,fH P ρ A N a,fH P ρ A N b with
   |some (sz,ag),some x,some y=>if x.eQ=true∧y.eQ=true∧pi<N∧px<N then some (.back (.t t) gb pi px sz ag (((jQ a).bind (look A.loops)).getD []) x y)else none
   |_,_,_=>none
  |_,_=>none
 |_=>none
def Gt(P:Program):ResultVar->Option qo
 | .tmp t=>some (.t t)
 | .cell a t=>match dk P t,jv P t with
  |some sz,some ag=>some (.c a sz ag)
  |_,_=>none
def ri(P:Program)(ρ:Names)(A:mA)(fn:Func):Option aw:=
 match fn.body,dm (Gt P) fn.results.toList with
 | some b,some rs=>if fn.params.size+fn.nfree≤fn.ntmps∧fn.name != "runtime.NumGoroutine" then
  (fH P ρ A fn.ntmps b).map fun c=>{nparams:=fn.params.size,ntmps:=fn.ntmps,results:=rs,body:=c,ks:=A.ks}else none
 |_,_=>none
inductive oE where
 |d9|mK (d:Nat)|shr (b:Nat)|tok (τ:Nat)
 deriving DecidableEq
structure Tk where
 base:Option Addr
 len:Nat
 cap:Nat
 sz:Nat
 own:Bool:=false
def Tk.val(t:Tk):Value:=.slice t.base t.len t.cap
def Tk.dead(t:Tk):Prop:=t.base=none∧0<t.len
def Tk.on(t t':Tk):Prop:=(t.dead->t'.dead)∧(t'.dead∨t.cap<t'.len∨(t'.base=t.base∧t'.cap=t.cap∧(t'=t∨t'.own=true)))
def Tk.VB(t:Tk)(v:Value):Prop:=t.dead∨∃base len cap,v=.slice base len cap∧(cap<t.len∨(base=t.base∧cap=t.cap∧(len=t.len∨t.own=true)))
theorem Tk.iV(t:Tk):t.on t:=⟨id,.inr (.inr ⟨rfl,rfl,.inl rfl⟩)⟩
theorem Tk.Li{a b c:Tk}(h:a.on b)(k:b.on c)(hl:b.len<=c.len):a.on c:=by
 refine⟨fun d=>k.1 (h.1 d),?_⟩;rcases h.2 with d|e|⟨e1,e2,e3⟩
 ·exact .inl (k.1 d)
 ·exact .inr (.inl (by omega))
 ·rcases k.2 with d|e|⟨f1,f2,f3⟩
  ·exact .inl d
  ·exact .inr (.inl (by omega))
  ·refine .inr (.inr ⟨f1.trans e1,f2.trans e2,?_⟩);rcases f3 with rfl|f3
   ·exact e3
   ·exact .inr f3
theorem Tk.sV(t:Tk):t.VB t.val:=.inr ⟨_,_,_,rfl,.inr ⟨rfl,rfl,.inl rfl⟩⟩
theorem Tk.Ti{t t':Tk}{v:Value}(h:t.VB v)(k:t.on t')(hl:t.len<=t'.len):t'.VB v:=by
 rcases h with d|⟨base,len,cap,e,h⟩
 ·exact .inl (k.1 d)
 ·rcases k.2 with d|a|⟨e1,e2,e3⟩
  ·exact .inl d
  ·refine .inr ⟨base,len,cap,e,.inl ?_⟩;rcases h with h|⟨_,h,_⟩<;>omega
  ·refine .inr ⟨base,len,cap,e,?_⟩;rcases h with h|⟨h1,h2,h3⟩
   ·exact .inl (by omega)
   ·refine .inr ⟨h1.trans e1.symm,h2.trans e2.symm,?_⟩;rcases e3 with rfl|e3
    ·exact h3
    ·exact .inr e3
structure Gh where
 K:bo
 role:Nat->oE
 pm:Nat->Option Nat
 sm:Nat->Option (Nat×Nat)
 tk:Nat->Option Tk
structure bU where
 r:Nat->Nat->Prop
 nZ:Nat->Option (Array Value)
mutual
def aD(ρ:bU)(G:Gh):AV->Value->Prop
 | .un,v=>v=undef
 | .pv p,v=>Rel G.K p v
 | .cQ els,v=>∃base len,v=.slice base len len∧Rx G.K els base len
 | .own els τ,v=>∃t,G.tk τ=some t∧(els.length<=t.len∧t.VB v)∧Rel G.K (.aq els) v ∧
     (els.length=t.len->v=t.val∧(els=[]∨∃b o,t.base=some ⟨b,o,none⟩∧Row G.K b o t.sz els))
 | .agg cs,v=>∃vs:List Value,v=.agg vs.toArray∧aB ρ G cs vs
 | .qj cs,v=>∃vs:List Value,v=.tuple vs.toArray∧aB ρ G cs vs
 | .au d off,v=>∃b,G.pm d=some b∧v=.pointer (some ⟨b,off,none⟩)
 | .aI s off,v=>∃b,G.sm s=some b∧v=.pointer (some ⟨b.1,off,none⟩)
 | .dQ cs,v=>∃b o vs,v=.pointer (some ⟨b,o,none⟩)∧At G.K b o vs∧dJ G.K cs vs
 | .bh s z n _,v=>∃b cap,G.sm s=some b∧v=.slice (some ⟨b.1,0,none⟩) n (n+cap)∧(n+cap)*z<=b.2
 | .fn g cap,v=>∃f vs,ρ.r g f∧v=.func (.func f) #[] (List.toArray vs)∧aB ρ G cap vs
 | .ic,v=>v=.pointer none∨v=.nilFunc
 | .jN s,v=>∃b,G.sm s=some b∧v=.map (some b.1)
 | .fM _,_=>False
 | .sD d n,v=>∃b,G.pm d=some b∧v=.slice (some ⟨b,0,none⟩) n n
 | .ql s off n,v=>∃b base cap,G.sm s=some b∧v=.slice base n cap∧(n=0∨base=some ⟨b.1,off,none⟩)
def aB(ρ:bU)(G:Gh):List AV->List Value->Prop
 |[],vs=>vs=[]
 |c::cs,vs=>∃v r,vs=v::r∧aD ρ G c v∧aB ρ G cs r
end
structure Gh.le(G G':Gh):Prop where
 K:G.K.le G'.K
 pm:∀d b,G.pm d=some b->G'.pm d=some b
 sm:∀d b,G.sm d=some b->G'.sm d=some b
 tk:∀τ t,G.tk τ=some t->∃t',G'.tk τ=some t'∧(t.len<=t'.len∧t.on t')∧(t.len=t'.len->t'=t)
theorem Gh.le_refl(G:Gh):G.le G:=⟨G.K.le_refl,fun _ _ h=>h,fun _ _ h=>h,fun _ t h=>⟨t,h,⟨zaj _,t.iV⟩,fun _=>rfl⟩⟩
theorem Gh.le_trans{a b c:Gh}(h:a.le b)(k:b.le c):a.le c:=
 ⟨bo.le_trans h.K k.K,fun x y e=>k.pm _ _ (h.pm x y e),fun x y e=>k.sm _ _ (h.sm x y e),fun τ t e=>by
  obtain⟨t',e1,e2,e3⟩:=h.tk τ t e;obtain⟨d,f1,f2,f3⟩:=k.tk τ t' e1
  exact⟨d,f1,⟨zaR e2.1 f2.1,Tk.Li e2.2 f2.2 f2.1⟩,fun hl=>by
   have h1:t.len=t'.len:=Nat.le_antisymm e2.1 (hl ▸ f2.1);have h2:t'.len=d.len:=h1 ▸ hl;rw[f3 h2,e3 h1]⟩⟩
section
variable {ρ:bU} {G G':Gh}
mutual
theorem aD.mono(h:G.le G'):∀{x:AV}{v:Value},aD ρ G x v->aD ρ G' x v
 | .un,_,hr=>by simpa only[aD]using hr
 | .pv p,_,hr=>by simp only[aD]at hr⊢;exact hr.mono h.K
 | .cQ els,_,hr=>by
  simp only[aD]at hr⊢;obtain⟨b,l,e,r⟩:=hr;exact⟨b,l,e,r.mono h.K⟩
 | .own els τ,v,hr=>by
  simp only[aD]at hr⊢;obtain⟨t,e1,e2,e3,e4⟩:=hr;obtain⟨t',f1,f2,f3⟩:=h.tk τ t e1;refine⟨t',f1,⟨zaR e2.1 f2.1,Tk.Ti e2.2 f2.2 f2.1⟩,e3.mono h.K,fun hl=>?_⟩;have h1:els.length=t.len:=Nat.le_antisymm e2.1 (hl ▸ f2.1);have h2:=f3 (h1 ▸ hl);subst h2;obtain⟨g1,g2⟩:=e4 h1;exact⟨g1,Pl g2 fun⟨b,o,e,r⟩=>⟨b,o,e,Row.mono h.K _ _ _ _ r⟩⟩
 | .agg cs,_,hr=>by
  simp only[aD]at hr⊢;obtain⟨vs,e,r⟩:=hr;exact⟨vs,e,aB.mono h r⟩
 | .qj cs,_,hr=>by
  simp only[aD]at hr⊢;obtain⟨vs,e,r⟩:=hr;exact⟨vs,e,aB.mono h r⟩
 | .au d off,_,hr=>by
  simp only[aD]at hr⊢;obtain⟨b,e,r⟩:=hr;exact⟨b,h.pm _ _ e,r⟩
 | .aI d off,_,hr=>by
  simp only[aD]at hr⊢;obtain⟨b,e,r⟩:=hr;exact⟨b,h.sm _ _ e,r⟩
 | .dQ cs,_,hr=>by
  simp only[aD]at hr⊢;obtain⟨b,o,vs,e,f,r⟩:=hr;exact⟨b,o,vs,e,f.mono h.K,dJ.mono h.K _ _ r⟩
 | .bh s _ n _,_,hr=>by
  simp only[aD]at hr⊢;obtain⟨b,c,e,r⟩:=hr;exact⟨b,c,h.sm _ _ e,r⟩
 | .fn g cap,_,hr=>by
  simp only[aD]at hr⊢;obtain⟨f,vs,e1,e2,r⟩:=hr;exact⟨f,vs,e1,e2,aB.mono h r⟩
 | .ic,_,hr=>by simpa only[aD]using hr
 | .jN s,_,hr=>by
  simp only[aD]at hr⊢;obtain⟨b,e,r⟩:=hr;exact⟨b,h.sm _ _ e,r⟩
 | .fM _,_,hr=>by simp only[aD]at hr
 | .ql s _ _,_,hr=>by
  simp only[aD]at hr⊢;obtain⟨b,x,c,e,r⟩:=hr;exact⟨b,x,c,h.sm _ _ e,r⟩
 | .sD d _,_,hr=>by
  simp only[aD]at hr⊢;obtain⟨b,e,r⟩:=hr;exact⟨b,h.pm _ _ e,r⟩
theorem aB.mono(h:G.le G'):∀{xs:List AV}{vs:List Value},aB ρ G xs vs->aB ρ G' xs vs
 |[],_,hr=>by simpa only[aB]using hr
 |_::_,_,hr=>by
  simp only[aB]at hr⊢;obtain⟨v,r,e,e1,e2⟩:=hr;exact⟨v,r,e,aD.mono h e1,aB.mono h e2⟩
end
theorem aB.length:∀{xs:List AV}{vs:List Value},aB ρ G xs vs->vs.length=xs.length
 |[],_,hr=>by simp only[aB]at hr;simp[hr]
 |_::_,_,hr=>by
  simp only[aB]at hr;obtain⟨v,r,rfl,_,e2⟩:=hr;simp[aB.length e2]
theorem aB.get:∀{xs:List AV}{vs:List Value},aB ρ G xs vs->∀{j:Nat}{x:AV},xs[j]?=some x->∃v,vs[j]?=some v∧aD ρ G x v
 |[],_,_,j,x,a=>by simp at a
 |b::xs,_,hr,j,x,a=>by
  simp only[aB]at hr;obtain⟨v,r,rfl,e1,e2⟩:=hr;cases j with
  |zero=>simp at a;subst a;exact⟨v,by simp,e1⟩
  |succ j=>simpa using aB.get e2 (by simpa using a)
theorem aB.drop:∀(n:Nat){xs:List AV}{vs:List Value},aB ρ G xs vs->aB ρ G (xs.drop n) (vs.drop n)
 |0,_,_,h=>by simpa using h
 |n+1,[],_,h=>by simp only[aB]at h;subst h;simp[aB]
 |n+1,_::cs,_,h=>by
  simp only[aB]at h;obtain⟨v,r,rfl,_,e3⟩:=h;simpa using aB.drop n e3
theorem aB.take:∀(n:Nat){xs:List AV}{vs:List Value},aB ρ G xs vs->aB ρ G (xs.take n) (vs.take n)
 |0,_,_,_=>by simp[aB]
 |n+1,[],_,h=>by simp only[aB]at h;subst h;simp[aB]
 |n+1,_::cs,_,h=>by
  simp only[aB]at h;obtain⟨v,r,rfl,e2,e3⟩:=h;simp only[zbT,aB];exact⟨v,_,rfl,e2,aB.take n e3⟩
theorem aB.append:∀{xs:List AV}{vs:List Value}{a:List AV}{us:List Value},aB ρ G xs vs->aB ρ G a us->aB ρ G (xs++a) (vs++us)
 |[],_,_,_,h,k=>by simp only[aB]at h;subst h;simpa using k
 |_::cs,_,_,_,h,k=>by
  simp only[aB]at h;obtain⟨v,r,rfl,e2,e3⟩:=h;simp only[za5,aB];exact⟨v,_,rfl,e2,aB.append e3 k⟩
theorem lu:∀{cs:List PV}{vs:List Value},dJ G.K cs vs->aB ρ G (cs.map .pv) vs
 |[],_,h=>by simp only[dJ]at h;subst h;simp[aB]
 |_::cs,_,h=>by
  simp only[dJ]at h;obtain⟨v,r,rfl,e2,e3⟩:=h;simp only[zao,aB];exact⟨v,r,rfl,by simp only[aD];exact Rel.U' e2,lu e3⟩
theorem iW:∀{cs:List PV}{vs:List Value},lK G.K cs vs->aB ρ G (cs.map .pv) vs
 |[],_,h=>by cases h;simp[aB]
 |_::cs,_,⟨v,r,e1,e2,e3⟩=>by
  subst e1;simp only[zao,aB];exact⟨v,r,rfl,by simp only[aD];exact e2,iW e3⟩
theorem aD.cells{x:AV}{v:Value}(h:aD ρ G x v)(hx:(a6 x).all aZ=true):aB ρ G (a6 x) v.cells.toList:=by
 cases x with
 |agg cs=>simp only[aD]at h;obtain⟨vs,rfl,r⟩:=h;simpa[a6,Value.cells]using r
 |pv p=>
  cases p with
  |agg cs=>
   simp only[aD,Rel]at h;obtain⟨vs,rfl,r⟩:=h;simpa[a6,Value.cells]using lu r
  |bool b=>have h':=h;simp only[aD,Rel,R]at h;simp at h;subst h;simp only[a6,Value.cells,aB];exact⟨_,[],rfl,h',rfl⟩
  |int k n=>have h':=h;simp only[aD,Rel,R]at h;simp at h;subst h;simp only[a6,Value.cells,aB];exact⟨_,[],rfl,h',rfl⟩
  |str s=>have h':=h;simp only[aD,Rel,R]at h;simp at h;subst h;simp only[a6,Value.cells,aB];exact⟨_,[],rfl,h',rfl⟩
  |aq els=>
   have h':=h;simp only[aD]at h;obtain⟨b,l,c,rfl,_⟩:=cq.1 h;simp only[a6,Value.cells,aB];exact⟨_,[],rfl,h',rfl⟩
 |cQ els=>
  have h':=h;simp only[aD]at h;obtain⟨b,l,rfl,_⟩:=h;simp only[a6,Value.cells,aB];exact⟨_,[],rfl,h',rfl⟩
 |own els τ=>
  have h':=h;simp only[aD]at h;obtain⟨t,_,_,h3,_⟩:=h;obtain⟨b,l,c,rfl,_⟩:=cq.1 h3;simp only[a6,Value.cells,aB];exact⟨_,[],rfl,h',rfl⟩
 |aI s o=>
  have h':=h;simp only[aD]at h;obtain⟨b,_,rfl⟩:=h;simp only[a6,Value.cells,aB];exact⟨_,[],rfl,h',rfl⟩
 |bh s z n ag=>
  have h':=h;simp only[aD]at h;obtain⟨b,c,_,rfl,_⟩:=h;simp only[a6,Value.cells,aB];exact⟨_,[],rfl,h',rfl⟩
 |fn g cap=>
  have h':=h;simp only[aD]at h;obtain⟨f,vs,_,rfl,_⟩:=h;simp only[a6,Value.cells,aB];exact⟨_,[],rfl,h',rfl⟩
 |ic=>
  have h':=h;simp only[aD]at h;rcases h with rfl|rfl
  ·simp only[a6,Value.cells,aB];exact⟨_,[],rfl,h',rfl⟩
  ·simp only[a6,Value.cells,aB];exact⟨_,[],rfl,h',rfl⟩
 |jN s=>
  have h':=h;simp only[aD]at h;obtain⟨b,_,rfl⟩:=h;simp only[a6,Value.cells,aB];exact⟨_,[],rfl,h',rfl⟩
 |fM kvs=>simp only[aD]at h
 |_=>simp[a6,aZ]at hx
end
structure Yg(ρ:bU)(G:Gh)(w:World)(b:Nat)(r:oE)(cells:List AV):Prop where
 role:G.role b=r
 at_:∃c t,w.heap[b]?=some (.cells c t (0,0))∧aB ρ G cells c.toList
def qt(K:bo):List (PV×PV)->List MapEntry->Prop
 |[],b=>b=[]
 |(k,p)::r,b=>∃e a,b=e::a∧Rel K k e.key∧Rel K p e.val∧qt K r a
theorem qt.mono{K K':bo}(h:K.le K'):∀{kvs:List (PV×PV)}{b:List MapEntry},qt K kvs b->qt K' kvs b
 |[],_,hr=>hr
 |(_,_)::_,_,⟨e,a,e1,e3,e4,e5⟩=>⟨e,a,e1,e3.mono h,e4.mono h,qt.mono h e5⟩
def Holds(ρ:bU)(G:Gh)(o:Obj)(n:Nat)(cells:List AV):Prop:=
 (∃c t vs suf,o=.cells c t (0,0)∧c.size=n∧c.toList=vs++suf∧aB ρ G cells vs)∨∃b a kvs,o=.map b a∧cells=[.fM kvs]∧qt G.K kvs b.toList
theorem Holds.full{ρ:bU}{G:Gh}{c:Array Value}{t:TypeId}{cells:List AV}(h:aB ρ G cells c.toList):Holds ρ G (.cells c t (0,0)) c.size cells:=
 .inl ⟨c,t,c.toList,[],rfl,rfl,by simp,h⟩
structure xN(ρ:bU)(G:Gh)(w:World)(b:Nat×Nat)(r:oE)(cells:List AV):Prop where
 role:G.role b.1=r
 at_:∃o,w.heap[b.1]?=some o∧Holds ρ G o b.2 cells
theorem Holds.to{ρ:bU}{G G':Gh}{o:Obj}{n:Nat}{cells cells':List AV}(h:Holds ρ G o n cells)(hK:G.K.le G'.K)(hm:∀kvs,cells=[.fM kvs]->cells'=[.fM kvs])
   (a:∀vs,aB ρ G cells vs->aB ρ G' cells' vs):Holds ρ G' o n cells':=by
 rcases h with⟨c,t,vs,suf,e,e3,e4,r⟩|⟨b,cl,kvs,e,e2,r⟩
 ·exact .inl ⟨c,t,vs,suf,e,e3,e4,a _ r⟩
 ·exact .inr ⟨b,cl,kvs,e,hm kvs e2,r.mono hK⟩
theorem Holds.mono{ρ:bU}{G G':Gh}{o:Obj}{n:Nat}{cells:List AV}(h:G.le G')(a:Holds ρ G o n cells):Holds ρ G' o n cells:=
 a.to h.K (fun _ e=>e) (fun _ r=>r.mono h)
structure VH(ρ:bU)(G:Gh)(w:World)(b:Nat×Nat)(r:oE)(cells:List AV):Prop where
 role:G.role b.1=r
 at_:∃c t vs suf,w.heap[b.1]?=some (.cells c t (0,0))∧c.size=b.2∧c.toList=vs++suf∧aB ρ G cells vs
theorem xN.cells{ρ:bU}{G:Gh}{w:World}{b:Nat×Nat}{r:oE}{cells:List AV}(h:xN ρ G w b r cells)(hm:dE cells=false):VH ρ G w b r cells:=by
 obtain⟨h1,o,h2,h3⟩:=h;rcases h3 with⟨c,t,vs,suf,rfl,h4,h5,h6⟩|⟨a,cl,kvs,rfl,rfl,_⟩
 ·exact⟨h1,c,t,vs,suf,h2,h4,h5,h6⟩
 ·simp[dE]at hm
theorem Tj{ρ:bU}{G:Gh}{cells:List AV}{vs:List Value}(h:aB ρ G cells vs):dE cells=false:=by
 cases cells with
 |nil=>rfl
 |cons c r=>
  cases c with
  |fM kvs=>simp[aB,aD]at h
  |_=>rfl
structure VI(G:Gh)(w:World)(τ:Nat)(t:Tk):Prop where
 cap:t.len<=t.cap
 zero:t.len=0->t.cap=0
 spare:t.len<t.cap∨t.own=true->∃b o c ty,t.base=some ⟨b,o,none⟩∧G.role b=.tok τ∧w.heap[b]?=some (.cells c ty (0,0))∧
   o+t.cap*t.sz<=c.size∧∀j v,G.K b j=some v->j<o+t.len*t.sz
structure Inv(ρ:bU)(G:Gh)(w:World)(mem:List (Nat×List AV))(sh:Sh)(aa:aG):Prop where
 known:∀b o v,G.K b o=some v->w.cell? ⟨b,o,none⟩=some v
 a_:∀b o v,G.K b o=some v->G.role b=.d9∨∃τ,G.role b=.tok τ
 fresh:∀b,w.heap.size<=b->G.role b=.d9
 cV:∀d cells,look mem d=some cells->∃b,G.pm d=some b∧Yg ρ G w b (.mK d) cells∧cells.all aZ=true
 i7:∀d b,G.pm d=some b->(look mem d).isSome=true
 dU:∀s cells,sh[s]?=some (some cells)->∃b,G.sm s=some b∧xN ρ G w b (.shr s) cells∧cells.all dO=true∧cells.all (aK (s+1))=true
 gO:∀s b,G.sm s=some b->s<sh.length
 dp:∀τ n,aa[τ]?=some n->∃t,G.tk τ=some t∧t.len=n∧VI G w τ t
 gX:∀τ t,G.tk τ=some t->aa[τ]?=some t.len
 nZ:∀b c,ρ.nZ b=some c->G.role b=.d9∧∃t z,w.heap[b]?=some (.cells c t z)
structure mN(ρ:bU)(G:Gh)(N:Nat)(env:List (Nat×AV))(a:Act):Prop where
 size:a.tmps.size=N
 env:∀t x,look env t=some x->∃v,a.tmps[t]?=some v∧aD ρ G x v
def Marks(n0:Nat)(G:Gh)(a:Act)(w:World):Prop:=
 n0<=w.heap.size∧∃Ds:List Nat,a.defers=Ds.map (fun D=>{target:=.collected D,args:=#[]})∧Ds.Nodup ∧
   ∀D∈Ds,n0<=D∧D<w.heap.size∧G.role D=.d9∧w.heap[D]?=some (.deferred (some []))
structure ik(ρ:bU)(n0 N:Nat)(G:Gh)(st:St)(a:Act)(w:World):Prop where
 env:mN ρ G N st.env a
 inv:Inv ρ G w st.mem st.sh st.aa
 marks:Marks n0 G a w
structure bL(G:Gh)(w:World)(G':Gh)(w':World):Prop where
 size:w.heap.size<=w'.heap.size
 os:w'.os=w.os
 tape:w'.tape=w.tape
 output:w'.output=w.output
 K:G.K.le G'.K
 sm:∀s b,G.sm s=some b->G'.sm s=some b
 d9:∀b,b<w.heap.size->G.role b=.d9->G'.role b=.d9∧w'.heap[b]?=w.heap[b]?
 jR:∀b τ,b<w.heap.size->G.role b=.tok τ->G'.role b=.d9∨∃τ',G'.role b=.tok τ'
 i_:∀b o v,b<w.heap.size->G.role b=.d9->G'.K b o=some v->G.K b o=some v
theorem bL.refl(G:Gh)(w:World):bL G w G w:=
 ⟨zaj _,rfl,rfl,rfl,G.K.le_refl,fun _ _ h=>h,fun _ _ h=>⟨h,rfl⟩,fun _ τ _ h=>.inr ⟨τ,h⟩,fun _ _ _ _ _ h=>h⟩
theorem bL.trans{j i g:Gh}{f d c:World}(h:bL j f i d)(k:bL i d g c):bL j f g c where
 size:=zaR h.size k.size
 os:=k.os.trans h.os
 tape:=k.tape.trans h.tape
 output:=k.output.trans h.output
 K:=bo.le_trans h.K k.K
 sm:=fun s b e=>k.sm _ _ (h.sm s b e)
 d9:=fun b a hr=>by
  obtain⟨h1,h2⟩:=h.d9 b a hr;obtain⟨m,l⟩:=k.d9 b (zbr a h.size) h1;exact⟨m,l.trans h2⟩
 jR:=fun b τ a hr=>by
  rcases h.jR b τ a hr with h1|⟨τ',h1⟩
  ·exact .inl (k.d9 b (zbr a h.size) h1).1
  ·exact k.jR b τ' (zbr a h.size) h1
 i_:=fun b o v a hr n=>h.i_ b o v a hr (k.i_ b o v (zbr a h.size) (h.d9 b a hr).1 n)
theorem Marks.zL{n0:Nat}{G G':Gh}{a c:Act}{w w':World}(h:Marks n0 G a w)(b:bL G w G' w')(hd:c.defers=a.defers):Marks n0 G' c w':=by
 obtain⟨e0,Ds,e1,e2,e3⟩:=h;refine⟨zaR e0 b.size,Ds,hd.trans e1,e2,fun D d=>?_⟩;obtain⟨e,f1,f2,f3⟩:=e3 D d;obtain⟨g1,g2⟩:=b.d9 D f1 f2;exact⟨e,zbr f1 b.size,g1,g2.trans f3⟩
theorem Inv.jS{ρ:bU}{G G':Gh}{w w':World}{mem:List (Nat×List AV)}{sh:Sh}{aa:aG}(h:Inv ρ G w mem sh aa)(e:bL G w G' w'):
   ∀b c,ρ.nZ b=some c->G'.role b=.d9∧∃t z,w'.heap[b]?=some (.cells c t z):=fun b c f=>by
 obtain⟨h1,t,z,h2⟩:=h.nZ b c f;obtain⟨d,a⟩:=e.d9 b (zaE.1 h2).1 h1;exact⟨d,t,z,a.trans h2⟩
theorem bL.drew(G:Gh)(w:World):bL G w G w.drew:=
 ⟨zaj _,rfl,rfl,rfl,G.K.le_refl,fun _ _ h=>h,fun _ _ h=>⟨h,rfl⟩,fun _ τ _ h=>.inr ⟨τ,h⟩,fun _ _ _ _ _ h=>h⟩
theorem Inv.drew{ρ:bU}{G:Gh}{w:World}{mem:List (Nat×List AV)}{sh:Sh}{aa:aG}(h:Inv ρ G w mem sh aa):Inv ρ G w.drew mem sh aa where
 known:=h.known
 a_:=h.a_
 fresh:=h.fresh
 cV:=fun d cells e=>by obtain⟨b,e1,e2,e3⟩:=h.cV d cells e;exact⟨b,e1,⟨e2.role,e2.at_⟩,e3⟩
 i7:=h.i7
 dU:=fun d cells e=>by obtain⟨b,e1,e2,e3⟩:=h.dU d cells e;exact⟨b,e1,⟨e2.role,e2.at_⟩,e3⟩
 gO:=h.gO
 dp:=fun τ n e=>by obtain⟨t,e1,e2,e3⟩:=h.dp τ n e;exact⟨t,e1,e2,⟨e3.cap,e3.zero,e3.spare⟩⟩
 gX:=h.gX
 nZ:=h.nZ
end Go.Ab
namespace Go.Ab
section
variable {P:Program} {ns:Names} {G:Gh} {w:World}
abbrev num(ns:Names):bU:=⟨fun g f=>ns.of f=some g,ns.nZ⟩
theorem d0{t n:Nat}(h:dk P t=some n)(w:World):(sizeOf t).run P w=.ok n w:=by
 unfold dk at h;cases hi:P.info? t with
 |none=>simp[hi]at h
 |some i=>simp[hi]at h;simp[sizeOf,typeInfo,hi,h]
theorem rj{t n:Nat}(h:gT P t=some n)(w:World):∃i,P.info? t=some i∧i.bytes=n∧(typeInfo t).run P w=.ok i w:=by
 unfold gT at h;cases hi:P.info? t with
 |none=>simp[hi]at h
 |some i=>simp[hi]at h;exact⟨i,rfl,h,by simp[typeInfo,hi]⟩
theorem jH{t:Nat}{b:Bool}(h:jv P t=some b)(w:World):(isAgg t).run P w=.ok b w:=by
 unfold jv at h;cases hu:P.underlying t with
 |none=>simp[hu]at h
 |some d=>
  simp[hu]at h;simp only[isAgg,zau,zaK hu,zag];cases d<;>simp_all
theorem lM{K:bo}{v:Value}{p:PV}(h:de v=some p):R K false p [v]∧i6 p=true:=by
 cases v with
 |bool b=>simp[de]at h;subst h;simp[R,i6]
 |int k n=>simp[de]at h;subst h;simp[R,i6]
 |string s=>simp[de]at h;subst h;simp[R,i6]
 |slice a l c=>
  cases a with
  |some a=>simp[de]at h
  |none=>
   cases l with
   |succ l=>simp[de]at h
   |zero=>
    cases c with
    |succ c=>simp[de]at h
    |zero=>
     simp[de]at h;subst h;refine⟨?_,rfl⟩;simp only[R];exact⟨none,0,0,rfl,zaj _,rfl,by simp⟩
 |_=>simp[de]at h
theorem wC{K:bo}:∀{l:List Value}{z:List PV},dm de l=some z->dJ K z l
 |[],_,h=>by simp[dm]at h;subst h;simp[dJ]
 |v::l,z,h=>by
  simp only[dm]at h;split at h
  ·rename_i y a h1 h2;cases h;simp only[dJ];exact⟨v,l,rfl,(lM h1).1,wC h2⟩
  ·cases h
theorem C4{v:Value}{x:AV}(h:CY v=some x):aD (num ns) G x v:=by
 unfold CY at h;split at h
 ·simp at h;subst h;simp only[aD];exact⟨none,0,rfl,rfl,.inl rfl⟩
 ·simp at h;subst h;simp[aD]
 ·simp at h;subst h;simp[aD]
 ·rename_i cs;simp only[zac]at h;obtain⟨ps,h1,rfl⟩:=h;simp only[aD];exact⟨cs.toList,by simp,wC h1⟩
 ·cases a:de v with
  |none=>simp[a]at h
  |some p=>simp[a]at h;subst h;simp only[aD];exact Rel.U' (lM a).1
theorem Gu{N:Nat}{env:List (Nat×AV)}{a:Act}(i:mN (num ns) G N env a){x:Operand}{e:eM}{v:AV}
   (b:jz ns x=some e) (d:g_ env e=some v):aD (num ns) G v (a.eval x):=by
 cases x with
 |tmp t=>
  simp[jz]at b;subst b;obtain⟨h,h1,h2⟩:=i.env t v (by simpa[g_]using d);have:a.eval (.tmp t)=h:=by simp[Act.eval,h1]
  rw[this];exact h2
 |const c=>
  simp only[jz,zac]at b;obtain⟨x,h1,rfl⟩:=b;simp[g_]at d;subst d;exact C4 h1
 |func f=>
  simp only[jz,zac]at b;obtain⟨g,h1,rfl⟩:=b;simp[g_]at d;subst d;simp only[aD];exact⟨f,[],h1,rfl,by simp[aB]⟩
 |global g=>simp[jz]at b
theorem zY{N:Nat}{env:List (Nat×AV)}{a:Act}(d:mN (num ns) G N env a):∀{xs:List Operand}{as:List eM}{vs:List AV},
   dm (jz ns) xs=some as->d_ env as=some vs->aB (num ns) G vs (xs.map a.eval)
 |[],as,vs,c,b=>by
  simp[dm]at c;subst c;simp[d_]at b;subst b;simp[aB]
 |x::xs,as,vs,c,b=>by
  simp only[dm]at c;split at c
  ·rename_i g f h1 h2;simp at c;subst c;simp only[d_]at b;split at b
   ·rename_i v e g1 g2;simp at b;subst b;simp only[zao,aB];exact⟨_,_,rfl,Gu d h1 g1,zY d h2 g2⟩
   ·simp at b
  ·simp at c
theorem toList_mk(l:List UInt8):(ByteArray.mk l.toArray).toList=l:=by
 rw[ByteArray.toList_eq]
theorem tK:∀(a b:List UInt8),cG.ep a b=Op.bytesLess a b
 |_,[]=>by simp[cG.ep,Op.bytesLess]
 |[],_::_=>by simp[cG.ep,Op.bytesLess]
 |a::x,b::y=>by simp[cG.ep,Op.bytesLess,tK x y]
theorem iX{K:bo}{k:IntKind}{n:Int}{v:Value}:Rel K (.int k n) v<->v=.int k n:=by simp[Rel,R]
theorem jT{K:bo}{b:Bool}{v:Value}:Rel K (.bool b) v<->v=.bool b:=by simp[Rel,R]
theorem nr{K:bo}{s:List UInt8}{v:Value}:Rel K (.str s) v<->v=.string ⟨s.toArray⟩:=by simp[Rel,R]
theorem dr{ρ:bU}{k:IntKind}{n:Int}:aD ρ G (.pv (.int k n)) (.int k n):=by simp only[aD];exact iX.2 rfl
theorem nu{ρ:bU}{b:Bool}:aD ρ G (.pv (.bool b)) (.bool b):=by simp only[aD];exact jT.2 rfl
theorem tL{ρ:bU}{s:List UInt8}:aD ρ G (.pv (.str s)) (.string ⟨s.toArray⟩):=by simp only[aD];exact nr.2 rfl
theorem rm{op:BinOp}{t:TypeId}{x y z:AV}{e d:Value}(hx:aD (num ns) G x e)(hy:aD (num ns) G y d)
   (h:cG op x y=some z) (g f:Operand):∃v,(do eqGuard op t g f e d;binOp op t e d:Sem Value).run P w=.ok v w∧aD (num ns) G z v:=by
 unfold cG at h;split at h
 ·rename_i k a k' b;simp only[aD,iX]at hx hy;subst hx;subst hy;have i:(eqGuard op t g f (.int k a) (.int k' b)).run P w=.ok () w:=by cases op<;>simp[eqGuard]
  simp only[zau,i,zag];split at h
  ·rename_i c;cases op<;>simp only[reduceCtorEq,or_false,or_self,or_true]at c<;>simp at h;case add=>subst c;subst h;exact⟨_,by simp[binOp,Op.intArith],dr⟩
   case sub=>subst c;subst h;exact⟨_,by simp[binOp,Op.intArith],dr⟩
   case mul=>subst c;subst h;exact⟨_,by simp[binOp,Op.intArith],dr⟩
   case quo=>subst c;obtain⟨h1,h⟩:=h;subst h;exact⟨_,by simp[binOp,Op.intDiv,h1],dr⟩
   case rem=>subst c;obtain⟨h1,h⟩:=h;subst h;exact⟨_,by simp[binOp,Op.intDiv,h1],dr⟩
   case and=>subst c;subst h;exact⟨_,by simp[binOp,Op.intBits],dr⟩
   case shl=>obtain⟨h1,h⟩:=h;subst h;exact⟨_,by simp[binOp,Op.shift,zcZ.2 h1],dr⟩
   case shr=>obtain⟨h1,h⟩:=h;subst h;exact⟨_,by simp[binOp,Op.shift,zcZ.2 h1],dr⟩
   all_goals (subst c;subst h;exact⟨_,by simp[binOp,Op.intCmp],nu⟩)
  ·simp at h
 ·rename_i a b;simp only[aD,nr]at hx hy;subst hx;subst hy;have i:(eqGuard op t g f (.string ⟨a.toArray⟩) (.string ⟨b.toArray⟩)).run P w=.ok () w:=by cases op<;>simp[eqGuard]
  simp only[zau,i,zag];cases op<;>simp at h
  case add=>
   obtain⟨h1,h⟩:=h;subst h
   have h2:¬((((ByteArray.mk a.toArray).size+(ByteArray.mk b.toArray).size:Nat):Int)> IntKind.i64.max):=by
    have e1:(ByteArray.mk a.toArray).size=a.length:=(by simp[ByteArray.size]);have e2:(ByteArray.mk b.toArray).size=b.length:=(by simp[ByteArray.size]);rw[e1,e2];have:IntKind.i64.max=9223372036854775807:=(by decide);rw[this];omega
   have h3:(ByteArray.mk a.toArray)++(ByteArray.mk b.toArray)=ByteArray.mk (a++b).toArray:=by
    apply ByteArray.ext;simp
   exact⟨_,by simp only[binOp,Op.stringOp,zad h2,h3];rfl,tL⟩
  all_goals (subst h;exact⟨_,by simp only[binOp,Op.stringOp,toList_mk,<-tK,zaB,Bool.not_or],nu⟩)
 ·simp at h
theorem run_equalIn_bool(d:Nat){t:TypeId}(hu:P.underlying t=some .bool)(a b:Bool):(Op.equalIn (d+1) t (.bool a) (.bool b)).run P w=.ok (a == b) w:=by
 simp only[Op.equalIn,zau,zaK hu,zag,zaB]
theorem run_equal_bool{t:TypeId}(hu:P.underlying t=some .bool)(a b:Bool):(Op.equal t (.bool a) (.bool b)).run P w=.ok (a == b) w:=
 run_equalIn_bool 9999 hu a b
theorem zZ{op:BinOp}{t:TypeId}{neg:Bool}(hu:P.underlying t=some .bool)(e:(op=.eql∧neg=false)∨(op=.neq∧neg=true))(a b:Bool)(d c:Operand):
   (do eqGuard op t d c (.bool a) (.bool b);binOp op t (.bool a) (.bool b):Sem Value).run P w=.ok (.bool (if neg then !(a == b)else(a == b))) w:=by
 rcases e with⟨rfl,rfl⟩|⟨rfl,rfl⟩
 ·have f:(eqGuard .eql t d c (.bool a) (.bool b)).run P w=.ok () w:=(by simp[eqGuard]);simp only[zau,f,zag,binOp,run_equal_bool hu,zaB];rfl
 ·have f:(eqGuard .neq t d c (.bool a) (.bool b)).run P w=.ok () w:=(by simp[eqGuard]);simp only[zau,f,zag,binOp,run_equal_bool hu,zaB];rfl
end
end Go.Ab
namespace Go.Ab
section
variable {P:Program} {ns:Names} {G:Gh} {w:World}
theorem Addr.e_(b o n:Nat):(⟨b,o,none⟩:Addr).add n=⟨b,o+n,none⟩:=by unfold Addr.add;split<;>simp_all
theorem rp(vs:List Value)(off sz:Nat):vs.toArray.extract off (off+sz)=((vs.drop off).take sz).toArray:=by
 simp[List.extract_toArray]
theorem C5{t off sz:Nat}{ag:Bool}{cs:List AV}{vs:List Value}{x:AV}(b:dk P t=some sz)(a:jv P t=some ag)
   (h:bY ag sz cs off=some x) (hr:aB (num ns) G cs vs):
   ∃v,(part t vs.toArray off).run P w=.ok v w∧aD (num ns) G x v:=by
 unfold bY at h;split at h
 ·rename_i c;cases ag with
  |true=>
   simp at h;subst h;refine⟨.agg (vs.toArray.extract off (off+sz)),?_,?_⟩
   ·simp only[part,zau,jH a,zag,za0,d0 b,zaB]
   ·simp only[aD];exact⟨(vs.drop off).take sz,by rw[rp],(hr.drop off).take sz⟩
  |false=>
   simp at h;obtain⟨_,h⟩:=h;obtain⟨v,h1,h2⟩:=hr.get h;refine⟨v,?_,h2⟩;simp only[part,zau,jH a,zag,zaO,zbg];simp[h1]
 ·simp at h
theorem z4{t off sz:Nat}{ag:Bool}{cs:List PV}{vs:List Value}{x:AV}(b:dk P t=some sz)(a:jv P t=some ag)
   (h:cH ag sz (cs.drop off)=some x) (hr:dJ G.K cs vs):
   ∃v,(part t vs.toArray off).run P w=.ok v w∧aD (num ns) G x v:=by
 unfold cH at h;split at h
 ·rename_i d;cases ag with
  |true=>
   simp at h;subst h;refine⟨.agg (vs.toArray.extract off (off+sz)),?_,?_⟩
   ·simp only[part,zau,jH a,zag,za0,d0 b,zaB]
   ·simp only[aD,Rel];exact⟨(vs.drop off).take sz,by rw[rp],dJ.take sz (dJ.drop off hr)⟩
  |false=>
   simp only[zaO,zbg,zab,zac]at h;obtain⟨_,c,h,rfl⟩:=h;rw[zbV]at h;obtain⟨v,h1,h2⟩:=hr.get h;simp only[zbN]at h1;refine⟨v,?_,by simp only[aD];exact Rel.U' h2⟩;simp only[part,zau,jH a,zag,zaO,zbg];simp[h1]
 ·simp at h
theorem kG{t sz:Nat}{ag:Bool}{b o:Nat}{vs:List Value}(d:dk P t=some sz)(c:jv P t=some ag)
   (e:∀j v,vs[j]?=some v->w.cell? ⟨b,o+j,none⟩=some v) (hl:sz<=vs.length) (h1:ag=false->sz=1):
   (loadVar t ⟨b,o,none⟩).run P w=.ok (if ag then .agg (vs.take sz).toArray else vs.getD 0 undef) w:=by
 cases ag with
 |true=>
  have a:(vs.take sz).length=sz:=by simp;omega
  have:=zbH (P:=P) w ⟨b,o,none⟩ (vs.take sz) (fun j v hj=>by
   rw[Addr.e_];rw[zbE]at hj;split at hj
   ·exact e j v hj
   ·simp at hj)
  rw[a]at this;simp only[loadVar,zau,jH c,zag,za0,d0 d,this,zaB]
 |false=>
  have:=h1 rfl;subst this;cases vs with
  |nil=>simp at hl
  |cons v r=>
   have:=e 0 v rfl;simp only[zbN]at this;simp only[loadVar,zau,jH c,zag,zaO,zbg,run_load,this];simp
theorem om{t sz:Nat}{ag:Bool}{b o:Nat}{vs:List Value}{cs:List PV}{x:AV}(a:dk P t=some sz)(d:jv P t=some ag)
   (h:cH ag sz cs=some x) (hr:dJ G.K cs vs) (f:∀j v,vs[j]?=some v->w.cell? ⟨b,o+j,none⟩=some v):
   ∃v,(loadVar t ⟨b,o,none⟩).run P w=.ok v w∧aD (num ns) G x v:=by
 have e:=hr.length;unfold cH at h;split at h
 ·rename_i g;cases ag with
  |true=>
   simp at h;subst h;refine⟨_,kG a d f (by omega) (by simp),?_⟩;simp only[za0,aD,Rel];exact⟨_,rfl,dJ.take sz hr⟩
  |false=>
   simp only[zaO,zbg,zab,zac]at h;obtain⟨h1,c,h,rfl⟩:=h;obtain⟨v,h3,h4⟩:=hr.get h;refine⟨_,kG a d f (by omega) (fun _=>h1),?_⟩;simp only[zaO,zbg,aD];have:vs.getD 0 undef=v:=by simp[List.getD,h3]
   rw[this];exact Rel.U' h4
 ·simp at h
theorem jA{t sz:Nat}{ag:Bool}{b off:Nat}{vs:List Value}{cs:List AV}{x:AV}(a:dk P t=some sz)(d:jv P t=some ag)
   (h:bY ag sz cs off=some x) (hr:aB (num ns) G cs vs) (g:∀j v,vs[j]?=some v->w.cell? ⟨b,j,none⟩=some v):
   ∃v,(loadVar t ⟨b,off,none⟩).run P w=.ok v w∧aD (num ns) G x v:=by
 have e:=hr.length
 have c:∀j v,(vs.drop off)[j]?=some v->w.cell? ⟨b,off+j,none⟩=some v:=fun j v hj=>by
  rw[zbV]at hj;exact g _ v hj
 unfold bY at h;split at h
 ·rename_i f;cases ag with
  |true=>
   simp at h;subst h;refine⟨_,kG a d c (by simp;omega) (by simp),?_⟩;simp only[za0,aD];exact⟨_,rfl,aB.take sz (aB.drop off hr)⟩
  |false=>
   simp at h;obtain⟨h1,h⟩:=h;obtain⟨v,h3,h4⟩:=hr.get h;refine⟨_,kG a d c (by simp;omega) (fun _=>h1),?_⟩;simp only[zaO,zbg];have:(vs.drop off).getD 0 undef=v:=by simp[List.getD,zbV,h3]
   rw[this];exact h4
 ·simp at h
theorem kS{b:Nat}{c:Array Value}{t:TypeId}{fr:Nat×Nat}(h:w.heap[b]?=some (.cells c t fr)):∀j v,c.toList[j]?=some v->w.cell? ⟨b,j,none⟩=some v:=by
 intro j v hj;simp[World.cell?,h];simpa using hj
theorem pn{b:Nat}{c:Array Value}{t:TypeId}{fr:Nat×Nat}{vs suf:List Value}(h:w.heap[b]?=some (.cells c t fr))(hs:c.toList=vs++suf):∀j v,vs[j]?=some v->w.cell? ⟨b,j,none⟩=some v:=by
 intro j v hj;refine kS h j v ?_;rw[hs,zal (zaa.1 hj).1];exact hj
theorem rq{t f:Nat}{a:Field}(h:jP P t f=some a):∃fs,P.underlying t=some (.struct fs)∧fs[f]?=some a:=by
 unfold jP at h;split at h
 ·rename_i fs hu;exact⟨fs,hu,h⟩
 ·simp at h
theorem eS{t e:Nat}(h:fG P t=some e):P.underlying t=some (.slice e):=by
 unfold fG at h;split at h
 ·rename_i hu;simp at h;subst h;exact hu
 ·simp at h
theorem z5{t f sz:Nat}{ag:Bool}{c:Field}{x y:AV}{v:Value}(hf:jP P t f=some c)(a:dk P c.type=some sz)(b:jv P c.type=some ag)
   (h:bw (.field c.offset sz ag) [x]=some y) (hr:aD (num ns) G x v):∃u,(Instr.field t v f).run P w=.ok u w∧aD (num ns) G y u:=by
 obtain⟨fs,hu,d⟩:=rq hf;simp only[bw]at h;split at h
 ·rename_i cs;simp only[aD]at hr;obtain⟨vs,rfl,hr⟩:=hr;obtain⟨u,h1,h2⟩:=C5 (w:=w) a b h hr;refine⟨u,?_,h2⟩;simp only[Instr.field,zau,zaK hu,zag,d,asAgg,zaB,h1]
 ·rename_i cs;simp only[aD,Rel]at hr;obtain⟨vs,rfl,hr⟩:=hr;obtain⟨u,h1,h2⟩:=z4 (ns:=ns) (w:=w) a b h hr;refine⟨u,?_,h2⟩;simp only[Instr.field,zau,zaK hu,zag,d,asAgg,zaB,h1]
 ·simp at h
theorem mO{t f s:Nat}{c:Field}(hf:jP P t f=some c)(a:dk P c.type=some s)(hs:s≠0)(b o:Nat):
   (Instr.fieldAt t (.pointer (some ⟨b,o,none⟩)) f).run P w=.ok (.pointer (some ⟨b,o+c.offset,none⟩)) w:=by
 obtain⟨fs,hu,d⟩:=rq hf;simp only[Instr.fieldAt,zau,zaK hu,zag,d,Instr.sureAddr,zaB,fieldPlace,d0 a,hs,zbg,Addr.e_]
theorem z7{t f s:Nat}{c:Field}{x y:AV}{v:Value}(hf:jP P t f=some c)(a:dk P c.type=some s)(hs:s≠0)
   (h:bw (.iF c.offset) [x]=some y) (hr:aD (num ns) G x v):∃u,(Instr.fieldAt t v f).run P w=.ok u w∧aD (num ns) G y u:=by
 simp only[bw]at h;split at h
 ·simp at h;subst h;simp only[aD]at hr;obtain⟨b,e,rfl⟩:=hr;exact⟨_,mO hf a hs _ _,by simp only[aD];exact⟨b,e,rfl⟩⟩
 ·simp at h;subst h;simp only[aD]at hr;obtain⟨b,e,rfl⟩:=hr;exact⟨_,mO hf a hs _ _,by simp only[aD];exact⟨b,e,rfl⟩⟩
 ·simp at h;subst h;simp only[aD]at hr;obtain⟨b,o,vs,rfl,h1,h2⟩:=hr;refine⟨_,mO hf a hs _ _,?_⟩;simp only[aD];refine⟨b,_,vs.drop c.offset,rfl,?_,dJ.drop _ h2⟩;intro j u hj;rw[zbV]at hj;have:=h1 _ u hj
  rwa [zbp]
 ·simp at h
theorem ru{t e sz:Nat}{k:IntKind}{i:Int}{b o len cap:Nat}(c:fG P t=some e)(a:dk P e=some sz)(h0:0<=i)(hi:i.toNat<len):
   (Instr.indexAt t (.slice (some ⟨b,o,none⟩) len cap) (.int k i)).run P w=.ok (.pointer (some ⟨b,o+i.toNat*sz,none⟩)) w:=by
 have hu:=eS c;have:(0<=i∧i<(len:Int)):=⟨h0,by omega⟩;simp only[Instr.indexAt,zau,asIntOf,zaB,zag,zaK hu];simp[this,d0 a,Addr.e_]
theorem fm{x:AV}{v:Value}{els:List PV}(h:db x=some els)(hr:aD (num ns) G x v):Rel G.K (.aq els) v:=by
 unfold db at h;split at h
 ·simp at h;subst h;simpa only[aD]using hr
 ·simp at h;subst h;simp only[aD]at hr;obtain⟨b,l,rfl,hr⟩:=hr;exact cq.2 ⟨b,l,l,rfl,zaj _,hr⟩
 ·simp at h;subst h;simp only[aD]at hr;obtain⟨t,_,_,hr,_⟩:=hr;exact hr
 ·simp at h
theorem z8{t e sz:Nat}{k:IntKind}{i:Int}{x y:AV}{v:Value}(r:fG P t=some e)(f:dk P e=some sz)
   (h:bw (.eX sz) [x,.pv (.int k i)]=some y) (hr:aD (num ns) G x v):
   ∃u,(Instr.indexAt t v (.int k i)).run P w=.ok u w∧aD (num ns) G y u:=by
 simp only[bw]at h;split at h
 ·simp at h
 ·rename_i h0;split at h
  ·rename_i s d n ag;simp only[aD]at hr;obtain⟨b,c,e1,rfl,_⟩:=hr;simp only[zab,zae]at h;obtain⟨⟨h1,h2⟩,rfl⟩:=h;refine⟨_,ru r f (by omega) h2,?_⟩;simp only[aD];exact⟨b,e1,by simp⟩
  ·rename_i A _;split at h
   ·rename_i els j;have m:=fm j hr;obtain⟨base,len,cap,rfl,_,q,a⟩:=cq.1 m;split at h
    ·rename_i el l;simp only[zab,zae]at h;obtain⟨hl,rfl⟩:=h;have p:i.toNat<els.length:=(zaa.1 l).1;rcases a with g|⟨b,o,d,rfl,a⟩
     ·subst g;simp at p
     ·obtain⟨vs,g1,g2,z⟩:=a.get l;have:sz=d:=by rw[<-hl,<-z.length,g1]
      subst this;refine⟨_,ru r f (by omega) (by omega),?_⟩;simp only[aD];exact⟨b,_,vs,rfl,g2,z.cells⟩
    ·simp at h
   ·simp at h
theorem z_{t:Nat}{k:IntKind}{i:Int}{s:List UInt8}{y:AV}(hu:P.underlying t=some .string)
   (h:bw .index [.pv (.str s),.pv (.int k i)]=some y):
   ∃u,(Instr.index t (.string ⟨s.toArray⟩) (.int k i)).run P w=.ok u w∧aD (num ns) G y u:=by
 simp only[bw]at h;split at h
 ·simp at h
 ·rename_i h0;simp only[zac]at h;obtain⟨b,h1,rfl⟩:=h;refine⟨_,?_,dr⟩
  have h2:(ByteArray.mk s.toArray)[i.toNat]?=some b:=by
   have a:=(zaa.1 h1).1;rw[getElem?_pos (ByteArray.mk s.toArray) i.toNat (by simpa[ByteArray.size]using a)];have:=(zaa.1 h1).2;simp only[zae];rw[<-this];rfl
  simp only[Instr.index,zau,asIntOf,zaB,zag,zaK hu];have h3:0<=i:=by omega
  simp only[h3,za0,h2,zaB]
end
end Go.Ab
namespace Go.Ab
section
variable {P:Program} {ns:Names} {G:Gh} {w:World}
theorem ja{α a:Type}{f:α->Option a}:∀{l:List α}{r:List a},dm f l=some r->r.length=l.length
 |[],_,h=>by simp[dm]at h;subst h;rfl
 |x::l,r,h=>by
  simp only[dm]at h;split at h
  ·rename_i y b h1 h2;simp at h;subst h;simp[ja h2]
  ·simp at h
theorem Aa{α b:Type}{f:α->Option b}:∀{l:List α}{r:List b},dm f l=some r->∀{i:Nat}{x:α},l[i]?=some x->∃y,r[i]?=some y∧f x=some y
 |[],_,_,i,x,hx=>by simp at hx
 |a::l,r,h,i,x,hx=>by
  simp only[dm]at h;split at h
  ·rename_i y c h1 h2;simp at h;subst h;cases i with
   |zero=>simp at hx;subst hx;exact⟨y,by simp,h1⟩
   |succ i=>simpa using Aa h2 (by simpa using hx)
  ·simp at h
theorem Ac{α a:Type}{f:α->Sem a}{g:α->Option a}(hf:∀x y,g x=some y->(f x).run P w=.ok y w):∀{l:List α}{r:List a},
   dm g l=some r->(l.mapM f).run P w=.ok r w
 |[],_,h=>by simp[dm]at h;subst h;simp
 |x::l,r,h=>by
  simp only[dm]at h;split at h
  ·rename_i y b h1 h2;simp at h;subst h;simp only[zcC,zau,hf x y h1,zag,Ac hf h2,zaB]
  ·simp at h
theorem iK{t:Nat}{z:List PV}(h:cR P t=some z):∃a,(zeroValue t).run P w=.ok a w∧dm de a.cells.toList=some z:=by
 unfold cR at h;split at h
 ·rename_i a b;cases hi:P.info? t with
  |none=>simp[hi]at b
  |some i=>
   simp[hi]at b;exact⟨a,by simp[zeroValue,typeInfo,hi,b],h⟩
 ·simp at h
theorem xQ{ρ:bU}{v:Value}{p:PV}(h:de v=some p):aD ρ G (bw.zeroCell p) v∧aZ (bw.zeroCell p)=true:=by
 obtain⟨h1,h2⟩:=lM (K:=G.K) h;unfold bw.zeroCell;split
 ·refine⟨?_,rfl⟩;cases v with
  |slice a l c=>
   cases a with
   |some a=>simp[de]at h
   |none=>
    cases l with
    |succ l=>simp[de]at h
    |zero=>
     cases c with
     |succ c=>simp[de]at h
     |zero=>simp only[aD];exact⟨none,0,rfl,rfl,.inl rfl⟩
  |_=>simp[de]at h
 ·refine⟨by simp only[aD];exact Rel.U' h1,?_⟩;cases p<;>simp_all[aZ,i6]
theorem iY{ρ:bU}:∀{l:List Value}{z:List PV},dm de l=some z->aB ρ G (z.map bw.zeroCell) l∧(z.map bw.zeroCell).all aZ=true
 |[],_,h=>by simp[dm]at h;subst h;simp[aB]
 |v::l,z,h=>by
  simp only[dm]at h;split at h
  ·rename_i y b h1 h2;simp at h;subst h;obtain⟨g1,g2⟩:=iY (ρ:=ρ) h2;obtain⟨a,g4⟩:=xQ (G:=G) (ρ:=ρ) h1;simp only[zao,aB,zaS,g4,g2,zcJ,and_true];exact⟨v,l,rfl,a,g1⟩
  ·simp at h
theorem qu(off:Nat):∀(l:List Value)(k:Nat)(cs:Array Value),off+k+l.length<=cs.size->
   ((l.zipIdx k).foldl (fun cs (x:Value×Nat)=>cs.setIfInBounds (off+x.2) x.1) cs).toList=cs.toList.take (off+k)++l++cs.toList.drop (off+k+l.length)
 |[],k,cs,_=>by simp
 |v::l,k,cs,h=>by
  simp only[List.zipIdx_cons,zaU];have h':off+(k+1)+l.length<=(cs.setIfInBounds (off+k) v).size:=by simp at h⊢;omega
  rw[qu off l (k+1) _ h'];have:=list_seg_step cs.toList (off+k) v l (by simp at h⊢;omega);simpa[Array.toList_setIfInBounds,zbp]using this
theorem iu{ρ:bU}{cs:List AV}{l:List Value}(off:Nat){us:List AV}{vs:List Value}(h:aB ρ G cs l)(k:aB ρ G us vs):
   aB ρ G (a0 cs off us) (l.take off++vs++l.drop (off+vs.length)):=by
 unfold a0;rw[<-k.length];exact aB.append (aB.append (h.take off) k) (h.drop _)
theorem jB{B:AV->Bool}{cs us:List AV}{off:Nat}(h:cs.all B=true)(k:us.all B=true):(a0 cs off us).all B=true:=by
 unfold a0;rw[zaq]at*;intro x hx;simp only[zai]at hx;rcases hx with(hx|hx)|hx
 ·exact h x (za7 hx)
 ·exact k x hx
 ·exact h x (zbL hx)
theorem tM{place:Nat->Option (Nat×Nat)}:∀{is:List Nat}{j:List (Nat×Nat)}{vals:List AV}{a:List Value}{cells:List AV}{rc:Array Value}{cs:List AV},
   dm place is=some j->aB (num ns) G vals a->aB (num ns) G cells rc.toList->cells.all aZ=true->is.length=a.length->mz cells j vals=some cs->
   ∃e,Instr.fill place rc (is.zip a)=some e∧aB (num ns) G cs e.toList∧cs.all aZ=true
 |[],j,vals,a,cells,rc,cs,hp,k,l,n,hl,h=>by
  simp[dm]at hp;subst hp;have:a=[]:=by cases a<;>simp_all
  subst this;have:=k.length;have:vals=[]:=by cases vals<;>simp_all
  subst this;simp[mz]at h;subst h;exact⟨rc,by simp[Instr.fill],l,n⟩
 |i::is,j,vals,a,cells,rc,cs,hp,k,l,n,hl,h=>by
  simp only[dm]at hp;split at hp
  ·rename_i y q h1 h2;simp at hp;subst hp;obtain⟨off,sz⟩:=y;cases vals with
   |nil=>simp[mz]at h
   |cons v vals=>
    simp only[aB]at k;obtain⟨c,r,rfl,e1,e2⟩:=k;simp only[mz,zab]at h;obtain⟨⟨g1,g2,o⟩,h⟩:=h;have b:=e1.cells o;have g:=b.length;have f:c.cells.size=sz:=by rw[<-g1,<-g];simp
    have p:rc.size=cells.length:=by have:=l.length;simpa using this
    simp only[zcL,Instr.fill,h1]
    have m:(decide (c.cells.size≠sz)|| decide (off+c.cells.size > rc.size))=false:=by
     simp[f];omega
    have d:(c.cells.zipIdx.foldl (fun cs (x:Value×Nat)=>cs.setIfInBounds (off+x.2) x.1) rc).toList=rc.toList.take off++c.cells.toList++rc.toList.drop (off+c.cells.toList.length):=by
     have:=qu off c.cells.toList 0 rc (by simp;omega);rw[<-Array.foldl_toList];simpa using this
    rw[zad (by simp[f];omega)];refine tM (is:=is) h2 e2 (cells:=a0 cells off (a6 v)) ?_ (jB n o) (by simpa using hl) h;rw[d];exact iu off l b
  ·simp at hp
theorem xR{t:Nat}{all:List (Nat×Nat)}(h:fieldsOf P t=some all):∃fs,P.underlying t=some (.struct fs)∧
   (fs.mapM fun f=>(do pure (f.offset,<-sizeOf f.type):Sem (Nat×Nat))).run P w=.ok all.toArray w:=by
 unfold fieldsOf at h;split at h
 ·rename_i fs hu;refine⟨fs,hu,?_⟩;rw[zc4];simp only[Sem.run_map];rw[Ac (g:=fun f=>(dk P f.type).map fun s=>(f.offset,s)) ?_ h]
  ·rfl
  ·intro f y hy;simp only[zac]at hy;obtain⟨s,h1,rfl⟩:=hy;simp only[zau,d0 h1,zag,zaB]
 ·simp at h
theorem Ad{t:Nat}{z:List PV}{is:List Nat}{e:List (Nat×Nat)}{vals:List AV}{a:List Value}{x:AV}
   (g:cR P t=some z) (hp:placesOf P t is=some e) (hr:aB (num ns) G vals a) (hl:is.length=a.length) (h:bw (.build z e) vals=some x):
   ∃v,(Instr.build t (is.zip a).toArray).run P w=.ok v w∧aD (num ns) G x v:=by
 obtain⟨f,d,c⟩:=iK (w:=w) g;unfold placesOf at hp;split at hp
 ·rename_i all b;obtain⟨fs,hu,hm⟩:=xR (w:=w) b;simp only[bw,zac]at h;obtain⟨cs,h1,rfl⟩:=h;obtain⟨g1,g2⟩:=iY (G:=G) (ρ:=num ns) c;obtain⟨rc,e1,e2,_⟩:=tM (place:=(all.toArray[·]?)) (rc:=f.cells) (by simpa using hp) hr g1 g2 hl h1;refine⟨.agg rc,?_,?_⟩
  ·simp only[Instr.build,zau,d,zag,zaK hu,hm];simp only[e1,zaB]
  ·simp only[aD];exact⟨rc.toList,by simp,e2⟩
 ·simp at hp
theorem Rel.Zh{K:bo}{p:PV}{v:Value}(h:Rel K p v):R K true p v.cells.toList:=by
 cases p with
 |agg cs=>obtain⟨vs,rfl,h⟩:=h;simp only[R,Value.cells];exact⟨trivial,by simpa using h⟩
 |bool b=>have h':=h;simp only[Rel,R]at h';simp at h';subst h';simpa[Value.cells]using R.top h
 |int k n=>have h':=h;simp only[Rel,R]at h';simp at h';subst h';simpa[Value.cells]using R.top h
 |str s=>have h':=h;simp only[Rel,R]at h';simp at h';subst h';simpa[Value.cells]using R.top h
 |aq els=>
  have h':=h;obtain⟨b,l,c,rfl,_⟩:=cq.1 h';simpa[Value.cells]using R.top h
theorem po{x:AV}{p:PV}{v:Value}(h:i5 x=some p)(hr:aD (num ns) G x v):Rel G.K p v:=by
 unfold i5 at h;split at h<;>simp at h<;>subst h
 ·simpa only[aD]using hr
 ·exact fm (x:=.cQ _) rfl hr
 ·exact fm (x:=.own _ _) rfl hr
theorem ry{x:AV}:dX [] x=i5 x:=by
 cases x<;>simp[dX,i5]
theorem qv{x:AV}{p:PV}(h:i5 x=some p)(hl:aZ x=true):i6 p=true:=by
 cases x with
 |pv q=>simp[i5]at h;subst h;cases q<;>simp_all[aZ,i6]
 |cQ _=>simp[i5]at h;subst h;rfl
 |own _ _=>simp[i5]at h;subst h;rfl
 |_=>simp[i5]at h
theorem Rel.Lj{K:bo}{p:PV}{v:Value}(h:Rel K p v)(hl:i6 p=true):R K false p [v]:=(Lh hl).1 h
theorem wD:∀{cs:List AV}{ps:List PV}{vs:List Value},eA [] cs=some ps->aB (num ns) G cs vs->dJ G.K ps vs
 |[],ps,vs,h,hr=>by simp[eA]at h;subst h;simp only[aB]at hr;simp[dJ,hr]
 |c::cs,ps,vs,h,hr=>by
  simp only[eA,ry,zab]at h;obtain⟨hl,h⟩:=h;split at h
  ·rename_i p a h1 h2;simp at h;subst h;simp only[aB]at hr;obtain⟨v,r,rfl,e1,e2⟩:=hr;simp only[dJ];exact⟨v,r,rfl,(po h1 e1).Lj (qv h1 hl),wD h2 e2⟩
  ·simp at h
theorem xS{x:AV}{p:PV}{v:Value}(h:ej [] x=some p)(hr:aD (num ns) G x v):Rel G.K p v:=by
 cases x with
 |agg cs=>
  simp only[ej,zac]at h;obtain⟨ps,h1,rfl⟩:=h;simp only[aD]at hr;obtain⟨vs,rfl,hr⟩:=hr;simp only[Rel];exact⟨vs,rfl,wD h1 hr⟩
 |_=>simp only[ej,ry]at h;exact po h hr
theorem oF:∀{xs:List AV}{ps:List PV}{vs:List Value},dx [] xs=some ps->aB (num ns) G xs vs->lK G.K ps vs
 |[],ps,vs,h,hr=>by simp[dx]at h;subst h;simp only[aB]at hr;exact hr
 |c::cs,ps,vs,h,hr=>by
  simp only[dx]at h;split at h
  ·rename_i p a h1 h2;simp at h;subst h;simp only[aB]at hr;obtain⟨v,r,rfl,e1,e2⟩:=hr;exact⟨v,r,rfl,xS h1 e1,oF h2 e2⟩
  ·simp at h
def Gh.tN(G:Gh)(b:Nat)(c:Array Value):Gh:={G with K:=fun a o=>if a=b then c[o]? else G.K a o}
theorem Inv.jU{ρ:bU}{mem:List (Nat×List AV)}{sh:Sh}{aa:aG}(h:Inv ρ G w mem sh aa){b o:Nat}{v:Value}(a:G.K b o=some v):b<w.heap.size:=
 World.block_lt_of_cell? _ _ (h.known b o v a)
theorem Gh.sW{ρ:bU}{mem:List (Nat×List AV)}{sh:Sh}{aa:aG}(h:Inv ρ G w mem sh aa)(c:Array Value):G.le (G.tN w.heap.size c) where
 K:=fun b o v a=>by
  have:=h.jU a;simp only[Gh.tN];rw[zad (by omega)];exact a
 pm:=fun _ _ h=>h
 sm:=fun _ _ h=>h
 tk:=fun _ t h=>⟨t,h,⟨zaj _,t.iV⟩,fun _=>rfl⟩
theorem bm{o:Obj}{b:Nat}(h:b<w.heap.size):(w.alloc o).heap[b]?=w.heap[b]?:=zbz w o b h
theorem heap_alloc_new{o:Obj}:(w.alloc o).heap[w.heap.size]?=some o:=by
 show (w.heap.push o)[w.heap.size]?=some o;simp
theorem cT{b:Nat}{o:Obj}(h:w.heap[b]?=some o):b<w.heap.size:=by
 rcases zbv b w.heap.size with h'|h'
 ·exact h'
 ·simp[zcw h']at h
theorem Yg.mono{ρ:bU}{G':Gh}{w':World}{b:Nat}{r:oE}{cells:List AV}(h:Yg ρ G w b r cells)(a:G.le G')(hr:G'.role b=G.role b)(d:w'.heap[b]?=w.heap[b]?):Yg ρ G' w' b r cells:=by
 obtain⟨h1,c,t,h2,h3⟩:=h;exact⟨hr.trans h1,c,t,d.trans h2,aB.mono a h3⟩
theorem xN.mono{ρ:bU}{G':Gh}{w':World}{b:Nat×Nat}{r:oE}{cells:List AV}(h:xN ρ G w b r cells)(a:G.le G')(hr:G'.role b.1=G.role b.1)(c:w'.heap[b.1]?=w.heap[b.1]?):xN ρ G' w' b r cells:=by
 obtain⟨h1,o,h2,h3⟩:=h;exact⟨hr.trans h1,o,c.trans h2,h3.mono a⟩
theorem xN.lt{ρ:bU}{b:Nat×Nat}{r:oE}{cells:List AV}(h:xN ρ G w b r cells):b.1<w.heap.size:=by
 obtain⟨_,o,h2,_⟩:=h;exact cT h2
theorem Inv.tO{ρ:bU}{mem:List (Nat×List AV)}{sh:Sh}{aa:aG}(h:Inv ρ G w mem sh aa)(c:Array Value)(t:TypeId):
   Inv ρ (G.tN w.heap.size c) (w.alloc (.cells c t)) mem sh aa:=by
 have f:=Gh.sW h c;constructor
 ·intro b o v e;simp only[Gh.tN]at e;split at e
  ·rename_i a;subst a;simp[e]
  ·rw[World.cell?_alloc_old]
   ·exact h.known b o v e
   ·simpa using ‹¬b=w.heap.size›
 ·intro b o v e;simp only[Gh.tN]at e;split at e
  ·rename_i a;subst a;exact .inl (h.fresh _ (zaj _))
  ·exact h.a_ b o v e
 ·intro b a;simp at a;exact h.fresh b (by omega)
 ·intro d cells hd;obtain⟨b,e1,e2,e3⟩:=h.cV d cells hd;have a:b<w.heap.size:=by obtain⟨c,t,i,_⟩:=e2.at_;exact cT i
  exact⟨b,e1,e2.mono f rfl (bm a),e3⟩
 ·exact h.i7
 ·intro d cells hd;obtain⟨b,e1,e2,e3⟩:=h.dU d cells hd;have a:b.1<w.heap.size:=e2.lt;exact⟨b,e1,e2.mono f rfl (bm a),e3⟩
 ·exact h.gO
 ·intro τ n hn;obtain⟨tk,e1,e2,e3⟩:=h.dp τ n hn;refine⟨tk,e1,e2,e3.cap,e3.zero,fun g=>?_⟩;obtain⟨b,o,l,ty,f1,f2,f3,k,f5⟩:=e3.spare g;have a:=cT f3;refine⟨b,o,l,ty,f1,f2,(bm a).trans f3,k,fun j v e=>f5 j v ?_⟩;simp only[Gh.tN]at e
  rwa [zad (by omega)]at e
 ·exact h.gX
 ·intro b c' a;obtain⟨h1,t',z,h2⟩:=h.nZ b c' a;exact⟨h1,t',z,(bm (zaE.1 h2).1).trans h2⟩
theorem bL.tO{ρ:bU}{mem:List (Nat×List AV)}{sh:Sh}{aa:aG}(h:Inv ρ G w mem sh aa)(c:Array Value)(t:TypeId):
   bL G w (G.tN w.heap.size c) (w.alloc (.cells c t)) where
 size:=by simp
 os:=rfl
 tape:=rfl
 output:=rfl
 K:=(Gh.sW h c).K
 sm:=fun _ _ h=>h
 d9:=fun b d hr=>⟨hr,bm d⟩
 jR:=fun b τ _ hr=>.inr ⟨τ,hr⟩
 i_:=fun b o v d _ a=>by
  simp only[Gh.tN]at a
  rwa [zad (by omega)]at a
theorem Pm{b:Nat}{l:List Value}:At (G.tN b l.toArray).K b 0 l:=by
 intro j v hj;simp only[Gh.tN,za0,zbB];simpa using hj
end
end Go.Ab
namespace Go.Ab
section
variable {P:Program} {ns:Names} {G:Gh} {w:World}
theorem rz(sz:Nat):∀(a:List Value)(k:Nat)(rc:Array Value),rc.size=(k+a.length)*sz->(∀v∈a,v.cells.size=sz)->
   ∃c,Instr.fill (fun i=>some (i*sz,sz)) rc ((List.range' k a.length).zip a)=some c∧c.toList=rc.toList.take (k*sz)++a.flatMap (fun v=>v.cells.toList)
 |[],k,rc,h,_=>⟨rc,by simp[Instr.fill],by simp at h;simp only[zb8,zaM];rw[zaw];simp;omega⟩
 |v::a,k,rc,h,hs=>by
  have e:=hs v (by simp);have f:rc.size=k*sz+(a.length+1)*sz:=(by rw[h,zaD];simp);have g:k*sz+sz<=rc.size:=by rw[f,zaD];omega
  have b:(v.cells.zipIdx.foldl (fun cs (x:Value×Nat)=>cs.setIfInBounds (k*sz+x.2) x.1) rc).toList=rc.toList.take (k*sz)++v.cells.toList++rc.toList.drop (k*sz+sz):=by
   have:=qu (k*sz) v.cells.toList 0 rc (by simp[e];omega);rw[<-Array.foldl_toList];simpa[e]using this
  have d:(v.cells.zipIdx.foldl (fun cs (x:Value×Nat)=>cs.setIfInBounds (k*sz+x.2) x.1) rc).size=rc.size:=by
   have hl:=zcn List.length b;rw[zan,zan,zbP,zcr]at hl;simp only[Array.length_toList,e]at hl;omega
  obtain⟨c,e1,e2⟩:=rz sz a (k+1) _ (by rw[d,h];congr 1;simp;omega) (fun u hu=>hs u (by simp[hu]));refine⟨c,?_,?_⟩
  ·simp only[zax,zcp,zcL,Instr.fill];rw[zad (by simp[e];omega)];exact e1
  ·rw[e2,b];simp only[zas];rw[zaQ,zbO];have h1:(rc.toList.take (k*sz)).length=k*sz:=by simp;omega
   rw[h1];have h2:(k+1)*sz-k*sz=sz:=by rw[zaD];omega
   rw[h2,zaw (by rw[h1,zaD];omega),zbO];simp[e,zaQ];exact zaw (by simp[e])
theorem rB(f:Operand->Value):∀(l:List (Nat×Operand))(k:Nat),sT k l=true->
   l.map (fun x=>(x.1,f x.2))=(List.range' k ((l.map (·.2)).map f).length).zip ((l.map (·.2)).map f)
 |[],k,_=>by simp
 |(i,x)::l,k,h=>by
  simp only[sT,zaf,zcK]at h;obtain⟨rfl,h⟩:=h;simp only[zao,zax,zcp,zcL];rw[rB f l _ h]
theorem rC(f:Operand->Value):∀(l:List (Nat×Operand)),l.map (fun x=>(x.1,f x.2))=(l.map (·.1)).zip ((l.map (·.2)).map f)
 |[]=>by simp
 |x::l=>by simp[rC f l]
theorem Ae{K:bo}{b sz:Nat}:∀{els:List PV}{vs:List Value}{o:Nat},lK K els vs->els.all (fun e=>(a9 e).length == sz)=true->
   At K b o (vs.flatMap fun v=>v.cells.toList)->Row K b o sz els
 |[],_,_,_,_,_=>by simp only[Row]
 |e::els,vs,o,⟨v,r,e1,e2,e3⟩,hs,c=>by
  subst e1;simp only[zaS,zaf,zcK]at hs;have d:=e2.Zh;have a:v.cells.toList.length=sz:=by rw[d.length,hs.1]
  simp only[Row];refine⟨⟨v.cells.toList,a,?_,d⟩,Ae e3 hs.2 ?_⟩
  ·intro j u hj;exact c j u (by simp only[zas];rw[zal (zaa.1 hj).1];exact hj)
  ·intro j u hj;have:=c (sz+j) u (by simp only[zas];rw[zaL (by omega),a,zco];exact hj)
   rwa [<-zbp]at this
theorem tQ{K:bo}{sz:Nat}:∀{els:List PV}{vs:List Value},lK K els vs->els.all (fun e=>(a9 e).length == sz)=true->∀v∈vs,v.cells.size=sz
 |[],vs,h,_,v,a=>by cases h;simp at a
 |e::els,vs,⟨u,r,e1,e2,e3⟩,hs,v,a=>by
  subst e1;simp only[zaS,zaf,zcK]at hs;simp only[zah]at a;rcases a with rfl|a
  ·have:=e2.Zh.length;simp at this;rw[this,hs.1]
  ·exact tQ e3 hs.2 v a
theorem xT{ρ:bU}{mem:List (Nat×List AV)}{sh:Sh}{aa:aG}{t e sz n:Nat}{z:List PV}{vals:List AV}{d:List Value}{x:AV}
   (C:fG P t=some e) (p:dk P e=some sz) (A:cR P e=some z) (hn:d.length=n) (h0:0<sz) (D:n*sz<=16777216)
   (hr:aB (num ns) G vals d) (hi:Inv ρ G w mem sh aa) (h:bw (.dR sz) vals=some x):
   ∃v c,(Instr.buildSlice t n ((List.range' 0 d.length).zip d).toArray).run P w=.ok v (w.alloc (.cells c e))∧
     aD (num ns) (G.tN w.heap.size c) x v:=by
 have hu:=eS C;simp only[bw,zaz,zab,zae]at h;obtain⟨els,h1,h2,rfl⟩:=h;have i:=oF h1 hr;have u:=i.length;obtain⟨s,o,y⟩:=iK (w:=w) A;have B:¬(n*sz=0∧0<n):=by rintro⟨a,b⟩;have:=Nat.mul_pos b h0;omega
 let m:Array Value:=if n*sz=0 then #[]else s.cells
 have j:((Array.range (n*sz)).map (m[· % m.size]!)).size=(0+d.length)*sz:=by simp[hn]
 obtain⟨rc,g1,g2⟩:=rz sz d 0 _ j (tQ i h2);have r:rc.toList=d.flatMap (fun v=>v.cells.toList):=by simpa using g2
 refine⟨.slice (some ⟨w.heap.size,0,none⟩) n n,rc,?_,?_⟩
 ·simp only[Instr.buildSlice,zau,zaK hu,zag,d0 p];rw[zad (by omega)];by_cases f:n*sz=0
  ·have g:m=#[]:=zak f;rw[g]at g1;rw[zak f];simp only[zau,zaB,zag,g1];rfl
  ·have g:m=s.cells:=zad f;rw[g]at g1;rw[zad f];simp only[zau,zaB,o,zag,g1];rfl
 ·simp only[aD];refine⟨_,n,rfl,by omega,?_⟩;by_cases k:els=[]
  ·exact .inl k
  ·refine .inr ⟨w.heap.size,0,sz,rfl,?_⟩;have q:=(Gh.sW hi rc).K;refine Ae (lK.mono q i) h2 ?_;rw[<-r];have:=Pm (G:=G) (b:=w.heap.size) (l:=rc.toList);simpa using this
end
end Go.Ab
namespace Go.Ab
section
variable {P:Program} {ns:Names} {G:Gh} {w:World}
theorem cJ{k:IntKind}{i:Int}{y:Nat}{code:BoundsCode}(h0:0<=i)(hy:i<=y):(Instr.sliceBound (.int k i) y code).run P w=.ok i.toNat w:=by
 simp only[Instr.sliceBound,zau,asIntOf,zaB,zag];rw[zak ⟨h0,hy⟩];rfl
theorem oG{lo hi mx:Option Operand}{f:Operand->Value}{rest:List AV}{n cap:Nat}{l h:Int}{m:Option Int}{b:Bool}
   (hr:aB (num ns) G rest ((lo.toList++hi.toList++mx.toList).map f)) (e:dY lo.isSome hi.isSome mx.isSome n rest=some (l,h,m))
   (h0:0<=l) (h1:l<=h) (h2:h<=n) (h3:n<=cap) (hm:∀x,m=some x->x=h):
   (Instr.sliceBounds b n cap (lo.map f) (hi.map f) (mx.map f)).run P w=.ok (l.toNat,h.toNat,(m.map Int.toNat).getD cap) w:=by
 cases lo<;>cases hi<;>cases mx<;>simp only[zbq,Option.isSome_some,dY]at e <;>
   (try (split at e<;>first|(simp at e;done)|skip))<;>(try (simp at e;done))
 all_goals simp at e
 all_goals obtain⟨rfl,rfl,rfl⟩:=e
 all_goals (try contradiction)
 all_goals simp[aB,aD,Rel,R]at hr
 ·simp only[Instr.sliceBounds,zbu,zau,zaB,zag];simp
 ·rename_i k h _ _ _;have e1:=cJ (P:=P) (w:=w) (k:=k) (i:=h) (y:=cap) (code:=if b then .sliceAcap else .sliceAlen) (by omega) (by omega);simp only[Instr.sliceBounds,zbu,zaY,hr,zau,zaB,zag,e1];simp
 ·rename_i k h k' m _ _ _;obtain⟨c,a⟩:=hr;have d:=hm m rfl;subst d;have e1:=cJ (P:=P) (w:=w) (k:=k') (i:=m) (y:=cap) (code:=if b then .slice3Acap else .slice3Alen) (by omega) (by omega);have e2:=cJ (P:=P) (w:=w) (k:=k) (i:=m) (y:=m.toNat) (code:=.slice3B) (by omega) (by omega);simp only[Instr.sliceBounds,zbu,zaY,c,a,zau,zaB,zag,e1,e2];simp
 ·rename_i k l _ _ _;have e1:=cJ (P:=P) (w:=w) (k:=k) (i:=l) (y:=n) (code:=.sliceB) (by omega) (by omega);simp only[Instr.sliceBounds,zbu,zaY,hr,zau,zaB,zag,zbq,zaO,zbg,e1];simp
 ·rename_i k l k' h _ _ _;obtain⟨c,a⟩:=hr;have e1:=cJ (P:=P) (w:=w) (k:=k') (i:=h) (y:=cap) (code:=if b then .sliceAcap else .sliceAlen) (by omega) (by omega);have e2:=cJ (P:=P) (w:=w) (k:=k) (i:=l) (y:=h.toNat) (code:=.sliceB) (by omega) (by omega);simp only[Instr.sliceBounds,zbu,zaY,c,a,zau,zaB,zag,e1,zbq,zaO,zbg,e2];simp
 ·rename_i k l k' h g m _ _ _;obtain⟨c,a,j⟩:=hr;have d:=hm m rfl;subst d;have e1:=cJ (P:=P) (w:=w) (k:=g) (i:=m) (y:=cap) (code:=if b then .slice3Acap else .slice3Alen) (by omega) (by omega);have e2:=cJ (P:=P) (w:=w) (k:=k') (i:=m) (y:=m.toNat) (code:=.slice3B) (by omega) (by omega);have e3:=cJ (P:=P) (w:=w) (k:=k) (i:=l) (y:=m.toNat) (code:=.slice3C) (by omega) (by omega);simp only[Instr.sliceBounds,zaY,c,a,j,zau,zaB,zag,e1,e2,Option.isSome_some,za0,e3];simp
theorem Pn{K:bo}{els:List PV}{b o sz l h:Nat}(hr:Row K b o sz els):Row K b (o+l*sz) sz ((els.take h).drop l):=Row.drop l (Row.take h hr)
theorem Af{t e sz:Nat}{lo hi mx:Option Operand}{f:Operand->Value}{x y:AV}{v:Value}{rest:List AV}(hu:P.underlying t=some (.slice e))(q:dk P e=some sz)
   (hr:aB (num ns) G rest ((lo.toList++hi.toList++mx.toList).map f)) (hx:aD (num ns) G x v)
   (h:cX false sz lo.isSome hi.isSome mx.isSome (x::rest)=some y):
   ∃u,(Instr.sliceAt t v (lo.map f) (hi.map f) (mx.map f)).run P w=.ok u w∧aD (num ns) G y u:=by
 simp only[cX,zaO,zbg]at h;split at h
 ·rename_i els p;obtain⟨base,len,cap,rfl,s,n,a⟩:=cq.1 (fm p hx);split at h
  ·rename_i l d m z;simp only[zab]at h;obtain⟨⟨h0,h1,h2,h3⟩,h⟩:=h
   have hm:∀x,m=some x->x=d:=by
    intro x hx;subst hx;simp only[zab]at h;exact h.1
   rw[n]at z h2;have k:=oG (P:=P) (w:=w) (b:=true) hr z h0 h1 h2 (by omega:len<=cap) hm
   have ie:(Instr.sliceAt t (.slice base len cap) (lo.map f) (hi.map f) (mx.map f)).run P w =
       .ok (.slice (if(m.map Int.toNat).getD cap=l.toNat then base else base.map (·.add (l.toNat*sz))) (d.toNat-l.toNat) ((m.map Int.toNat).getD cap-l.toNat)) w:=by
     simp only[Instr.sliceAt,zau,zaK hu,zag,Instr.slice,k,d0 q,zaB]
   refine⟨_,ie,?_⟩
   have j:Rx G.K ((els.take d.toNat).drop l.toNat) (if(m.map Int.toNat).getD cap=l.toNat then base else base.map (·.add (l.toNat*sz))) (d.toNat-l.toNat):=by
    refine⟨by simp;omega,?_⟩;by_cases c:(els.take d.toNat).drop l.toNat=[]
    ·exact .inl c
    ·refine .inr ?_
     have A:l.toNat<d.toNat:=by
      rcases zbv l.toNat d.toNat with h'|h'
      ·exact h'
      ·exfalso;apply c;apply List.drop_of_length_le;simp;omega
     rcases a with hn|⟨b,o,i,rfl,a⟩
     ·subst hn;simp at c
     ·have r:(m.map Int.toNat).getD cap≠l.toNat:=by
       cases m with
       |none=>simp;omega
       |some x=>have:=hm x rfl;subst this;simp;omega
      rw[zad r];have g:els≠[]:=by intro e;subst e;simp at c
      refine⟨b,o+l.toNat*i,i,?_,Pn a⟩;rcases h3 with h3|h3
      ·subst h3;simp[Addr.add]
      ·have:=a.sz h3 g;subst this;simp[Addr.e_]
   cases m with
   |none=>
    simp at h;subst h;simp only[aD];exact cq.2 ⟨_,_,_,rfl,by simp;omega,j⟩
   |some x=>
    have:=hm x rfl;subst this;simp at h;subst h;simp only[aD];exact⟨_,_,rfl,j⟩
  ·simp at h
 ·simp at h
theorem xU{t e sz:Nat}{lo hi mx:Option Operand}{f:Operand->Value}{x y:AV}{v:Value}{rest:List AV}(hu:P.underlying t=some (.slice e))(m:dk P e=some sz)(o:mx.isSome=false)
   (hr:aB (num ns) G rest ((lo.toList++hi.toList++mx.toList).map f)) (hx:aD (num ns) G x v)
   (h:lj sz lo.isSome hi.isSome (x::rest)=some y):
   ∃u,(Instr.sliceAt t v (lo.map f) (hi.map f) (mx.map f)).run P w=.ok u w∧aD (num ns) G y u:=by
 unfold lj at h;split at h
 ·rename_i b z n ag k j;simp only[zbm]at j;obtain⟨rfl,rfl⟩:=j;rw[zab]at h;obtain⟨rfl,h⟩:=h;split at h
  ·rename_i l d p;simp only[zab,zae]at h;obtain⟨⟨h0,h1,h2⟩,rfl⟩:=h;simp only[aD]at hx;obtain⟨a,cap,g,rfl,c⟩:=hx;rw[<-o]at p;have i:=oG (P:=P) (w:=w) (b:=true) (cap:=n+cap) hr p h0 h1 h2 (by omega) (by simp)
   have ie:(Instr.sliceAt t (.slice (some ⟨a.1,0,none⟩) n (n+cap)) (lo.map f) (hi.map f) (mx.map f)).run P w =
       .ok (.slice (if n+cap=l.toNat then some ⟨a.1,0,none⟩else(some ⟨a.1,0,none⟩:Option Addr).map (·.add (l.toNat*z))) (d.toNat-l.toNat) (n+cap-l.toNat)) w:=by
     simp only[Instr.sliceAt,zau,zaK hu,zag,Instr.slice,i,d0 m,zaB,zbu,zbj]
   refine⟨_,ie,?_⟩;by_cases hl:l=0
   ·subst hl;simp only[za0,aD];refine⟨a,n+cap-d.toNat,g,?_,?_⟩
    ·have e1:d.toNat+(n+cap-d.toNat)=n+cap:=(by omega);rw[e1];simp[Addr.add]
    ·have e1:d.toNat+(n+cap-d.toNat)=n+cap:=(by omega);rw[e1];exact c
   ·rw[zad hl];simp only[aD];refine⟨a,_,_,g,rfl,?_⟩;by_cases q:d.toNat-l.toNat=0
    ·exact .inl q
    ·right;rw[zad (by omega)];simp[Addr.add];exact fun e=>e.symm
  ·simp at h
 ·simp at h
theorem sL{t:Nat}{lo hi mx:Option Operand}{f:Operand->Value}{x y:AV}{v:Value}{rest:List AV}(hu:P.underlying t=some .string)(e:mx.isSome=false)
   (hr:aB (num ns) G rest ((lo.toList++hi.toList++mx.toList).map f)) (hx:aD (num ns) G x v)
   (h:cX true 0 lo.isSome hi.isSome false (x::rest)=some y):
   ∃u,(Instr.sliceAt t v (lo.map f) (hi.map f) (mx.map f)).run P w=.ok u w∧aD (num ns) G y u:=by
 simp only[cX,za0]at h;split at h
 ·rename_i s;simp only[aD,nr]at hx;subst hx;split at h
  ·rename_i l g i;simp only[zab,zae]at h;obtain⟨⟨h0,h1,h2⟩,rfl⟩:=h;rw[<-e]at i;have a:=oG (P:=P) (w:=w) (b:=false) hr i h0 h1 h2 (zaj _) (by simp);have d:mx=none:=by cases mx<;>simp_all
   subst d;have c:(ByteArray.mk s.toArray).size=s.length:=by simp[ByteArray.size]
   refine⟨.string ((ByteArray.mk s.toArray).extract l.toNat g.toNat),?_,?_⟩
   ·simp only[Instr.sliceAt,zau,zaK hu,zag,Instr.slice,zbu,zbq,zaO,zbg,c];simp only[zbu]at a;simp[a]
   ·have:(ByteArray.mk s.toArray).extract l.toNat g.toNat=⟨((s.take g.toNat).drop l.toNat).toArray⟩:=by
     apply ByteArray.ext;simp[ByteArray.data_extract];rw[List.drop_take]
    rw[this];exact tL
  ·simp at h
 ·simp at h
end
end Go.Ab
namespace Go.Ab
section
variable {P:Program} {ns:Names} {G:Gh} {w:World}
def Gv(ns:Names)(P:Program)(G:Gh)(w:World)(mem:List (Nat×List AV))(sh:Sh)(aa:aG)(s:Sem Value)(x:AV):Prop:=
 ∃v w' G',s.run P w=.ok v w'∧aD (num ns) G' x v∧Inv (num ns) G' w' mem sh aa∧G.le G'∧bL G w G' w'
theorem Gv.stay{mem:List (Nat×List AV)}{sh:Sh}{aa:aG}(hi:Inv (num ns) G w mem sh aa){s:Sem Value}{x:AV}{v:Value}(h:s.run P w=.ok v w)(hr:aD (num ns) G x v):
   Gv ns P G w mem sh aa s x:=⟨v,w,G,h,hr,hi,G.le_refl,bL.refl G w⟩
theorem cf{ρ:bU}{vals:List AV}{v:Value}(h:aB ρ G vals [v]):∃x,vals=[x]∧aD ρ G x v:=by
 cases vals with
 |nil=>simp[aB]at h
 |cons x r=>
  simp only[aB]at h;obtain⟨u,a,e,h1,h2⟩:=h;cases e;cases r with
  |nil=>exact⟨x,rfl,h1⟩
  |cons _ _=>simp[aB]at h2
theorem eD{ρ:bU}{vals:List AV}{u v:Value}(h:aB ρ G vals [u,v]):∃x y,vals=[x,y]∧aD ρ G x u∧aD ρ G y v:=by
 cases vals with
 |nil=>simp[aB]at h
 |cons x r=>
  simp only[aB]at h;obtain⟨a,b,e,h1,h2⟩:=h;cases e;obtain⟨y,rfl,h3⟩:=cf h2;exact⟨x,y,rfl,h1,h3⟩
theorem Ag{ρ:bU}{vals:List AV}{u v t:Value}(h:aB ρ G vals [u,v,t]):∃x y z,vals=[x,y,z]∧aD ρ G x u∧aD ρ G y v∧aD ρ G z t:=by
 cases vals with
 |nil=>simp[aB]at h
 |cons x r=>
  simp only[aB]at h;obtain⟨a,b,e,h1,h2⟩:=h;cases e;obtain⟨y,z,rfl,h3,h4⟩:=eD h2;exact⟨x,y,z,rfl,h1,h3,h4⟩
theorem Lk{x1 b a x:AV}(h:bw .pick [x1,b,a]=some x):∃c,x1=.pv (.bool c)∧x=if c then b else a:=by
 cases x1 with
 |pv p=>cases p with
  |bool c=>exact⟨c,rfl,by simpa[bw]using h.symm⟩
  |_=>simp[bw]at h
 |_=>simp[bw]at h
theorem Po{neg:Bool}{x1 a x:AV}(h:bw (.beq neg) [x1,a]=some x):∃p q,x1=.pv (.bool p)∧a=.pv (.bool q)∧x=.pv (.bool (if neg then !(p == q)else(p == q))):=by
 cases x1 with
 |pv p=>cases p with
  |bool c=>cases a with
   |pv q=>cases q with
    |bool d=>exact⟨c,d,rfl,rfl,by simpa[bw]using h.symm⟩
    |_=>simp[bw]at h
   |_=>simp[bw]at h
  |_=>simp[bw]at h
 |_=>simp[bw]at h
theorem Ll{k:IntKind}{x1 x:AV}(h:bw (.conv k) [x1]=some x):∃k' n,x1=.pv (.int k' n)∧x=.pv (.int k (k.wrap n)):=by
 cases x1 with
 |pv p=>cases p with
  |int k' n=>exact⟨k',n,rfl,by simpa[bw]using h.symm⟩
  |_=>simp[bw]at h
 |_=>simp[bw]at h
theorem HZ{sz:Nat}{x1 a x:AV}(h:bw (.eX sz) [x1,a]=some x):∃k i,a=.pv (.int k i):=by
 cases a with
 |pv p=>cases p with
  |int k n=>exact⟨k,n,rfl⟩
  |_=>simp[bw]at h
 |_=>simp[bw]at h
theorem H0{x1 a x:AV}(h:bw .index [x1,a]=some x):∃s k i,x1=.pv (.str s)∧a=.pv (.int k i):=by
 cases x1 with
 |pv q=>cases q with
  |str s=>cases a with
   |pv p=>cases p with
    |int k n=>exact⟨s,k,n,rfl,rfl⟩
    |_=>simp[bw]at h
   |_=>simp[bw]at h
  |_=>simp[bw]at h
 |_=>simp[bw]at h
theorem tR:∀{els:List PV}{s:List UInt8},gH els=some s->els=s.map fun b=>.int .u8 (b.toNat:Int)
 |[],s,h=>by simp[gH]at h;subst h;rfl
 | .int .u8 n::r,s,h=>by
  simp only[gH,zab,zac]at h;obtain⟨⟨h0,h1⟩,q,h2,rfl⟩:=h
  have:((UInt8.ofNat n.toNat).toNat:Int)=n:=by
   simp;omega
  simp only[zao,this,<-tR h2]
 | .int .i64 _::_,_,h=>by simp[gH]at h
 | .int .i32 _::_,_,h=>by simp[gH]at h
 | .int .i16 _::_,_,h=>by simp[gH]at h
 | .int .i8 _::_,_,h=>by simp[gH]at h
 | .int .u64 _::_,_,h=>by simp[gH]at h
 | .int .u32 _::_,_,h=>by simp[gH]at h
 | .int .u16 _::_,_,h=>by simp[gH]at h
 | .bool _::_,_,h=>by simp[gH]at h
 | .str _::_,_,h=>by simp[gH]at h
 | .agg _::_,_,h=>by simp[gH]at h
 | .aq _::_,_,h=>by simp[gH]at h
theorem b2s_inv{x1 x:AV}(h:bw .b2s [x1]=some x):∃s:List UInt8,db x1=some (s.map fun b=>.int .u8 (b.toNat:Int))∧x=.pv (.str s):=by
 simp only[bw,zac,zaz]at h;obtain⟨s,⟨els,h1,h2⟩,rfl⟩:=h;exact⟨s,by rw[h1,tR h2],rfl⟩
theorem b2s_run{s d e:TypeId}{l:List UInt8}{x:AV}{v:Value}(hs:P.underlying s=some (.slice e))(g:P.underlying e=some (.int .u8))(hd:P.underlying d=some .string)
   (hi:∀b o u,G.K b o=some u->w.cell? ⟨b,o,none⟩=some u) (hx:db x=some (l.map fun b=>.int .u8 (b.toNat:Int))) (hr:aD (num ns) G x v):
   (convert s d v).run P w=.ok (.string ⟨l.toArray⟩) w:=by
 obtain⟨base,len,cap,rfl,_,f,c⟩:=cq.1 (fm hx hr);simp only[zaT]at f;subst f;cases base with
 |none=>
  have h0:l=[]:=by
   rcases c with h|⟨b,o,sz,e,_⟩
   ·simpa using h
   ·cases e
  subst h0;show(convert s d (.slice none 0 cap)).run P w=_;rw[run_convert_bytes_string w s d e none 0 cap hs g hd];simp[Conv.bytesToString];rfl
 |some a=>
  refine run_convert_bytes_back w s d e a cap l hs g hd fun j hj=>?_;rcases c with h|⟨b,o,sz,e,c⟩
  ·simp at h;subst h;simp at hj
  ·cases e
   obtain⟨vs,g1,g2,k⟩:=c.get (i:=j) (el:=.int .u8 (l[j].toNat:Int)) (by simp[hj]);simp only[R]at k;subst k;simp at g1;subst g1;rw[Addr.e_];have:=g2 0 _ rfl;simp at this;exact hi _ _ _ this
theorem Pp{i:Nat}{x1 x:AV}(h:bw (.ext i) [x1]=some x):∃vs,x1=.qj vs∧vs[i]?=some x:=by
 cases x1 with
 |qj vs=>exact⟨vs,rfl,by simpa[bw]using h⟩
 |_=>simp[bw]at h
theorem H3{sz:Nat}{ag:Bool}{x1 x:AV}(h:bw (.gC sz ag) [x1]=some x):∃cs,x1=.dQ cs∧cH ag sz cs=some x:=by
 cases x1 with
 |dQ vs=>exact⟨vs,rfl,by simpa[bw]using h⟩
 |_=>simp[bw]at h
theorem Lm{x1 x:AV}(h:bw .CW [x1]=some x):∃s,x1=.pv (.str s)∧x=.pv (.int .i64 (s.length:Int)):=by
 cases x1 with
 |pv q=>cases q with
  |str s=>exact⟨s,rfl,by simpa[bw]using h.symm⟩
  |_=>simp[bw]at h
 |_=>simp[bw]at h
theorem Tl{x1 a x:AV}(h:bw .mn [x1,a]=some x):∃k p q,x1=.pv (.int k p)∧a=.pv (.int k q)∧x=.pv (.int k (if q<p then q else p)):=by
 cases x1 with
 |pv q=>cases q with
  |int k s=>cases a with
   |pv p=>cases p with
    |int k' n=>
     simp only[bw,zab,zae]at h;obtain⟨rfl,rfl⟩:=h;exact⟨k,s,n,rfl,rfl,rfl⟩
    |_=>simp[bw]at h
   |_=>simp[bw]at h
  |_=>simp[bw]at h
 |_=>simp[bw]at h
theorem Tm{x1 a x:AV}(h:bw .mx [x1,a]=some x):∃k p q,x1=.pv (.int k p)∧a=.pv (.int k q)∧x=.pv (.int k (if q > p then q else p)):=by
 cases x1 with
 |pv q=>cases q with
  |int k s=>cases a with
   |pv p=>cases p with
    |int k' n=>
     simp only[bw,zab,zae]at h;obtain⟨rfl,rfl⟩:=h;exact⟨k,s,n,rfl,rfl,rfl⟩
    |_=>simp[bw]at h
   |_=>simp[bw]at h
  |_=>simp[bw]at h
 |_=>simp[bw]at h
theorem Ah{A:mA}{o:Oper}{vo:Pg}{args:List Operand}(B:bS P ns A o.dst o.op=some (.v vo,args)){a:Act}{vals:List AV}{x:AV}
   {mem:List (Nat×List AV)} {sh:Sh} {aa:aG} (hr:aB (num ns) G vals (args.map a.eval)) (hi:Inv (num ns) G w mem sh aa) (h:bw vo vals=some x):
   ∃v w' G',(execOp a.eval o).run P w=.ok (.value v) w'∧aD (num ns) G' x v∧Inv (num ns) G' w' mem sh aa∧G.le G'∧bL G w G' w':=by
 obtain⟨dst,op,type,pos,after,guard⟩:=o
 have C:∀{s:Sem Value},Gv ns P G w mem sh aa s x->(execOp a.eval ⟨dst,op,type,pos,after,guard⟩=(do pure (.value (<-s)):Sem Next))->
     ∃v w' G',(execOp a.eval ⟨dst,op,type,pos,after,guard⟩).run P w=.ok (.value v) w'∧aD (num ns) G' x v∧Inv (num ns) G' w' mem sh aa∧G.le G'∧bL G w G' w':=by
   rintro s ⟨v,w',G',h1,h2,h3,h4,h5⟩ N
   exact⟨v,w',G',by rw[N];simp only[zau,h1,zag,zaB],h2,h3,h4,h5⟩
 cases op<;>simp only[bS]at B
 case move y=>
  simp at B;obtain⟨rfl,rfl⟩:=B;obtain⟨K,rfl,h1⟩:=cf (by simpa using hr);simp[bw]at h;subst h;exact⟨_,w,G,by simp[execOp],h1,hi,G.le_refl,bL.refl G w⟩
 case assign y=>
  simp at B;obtain⟨rfl,rfl⟩:=B;obtain⟨K,rfl,h1⟩:=cf (by simpa using hr);simp[bw]at h;subst h;exact⟨_,w,G,by simp[execOp],h1,hi,G.le_refl,bL.refl G w⟩
 case pick c y z=>
  simp at B;obtain⟨rfl,rfl⟩:=B;obtain⟨x1,W,x3,rfl,h1,h2,h3⟩:=Ag (by simpa using hr);obtain⟨b,rfl,rfl⟩:=Lk h;simp only[aD,jT]at h1;refine⟨if b then a.eval y else a.eval z,w,G,by simp[execOp,h1,asBool],?_,hi,G.le_refl,bL.refl G w⟩;cases b<;>simp[h2,h3]
 case binOp op t y z ty=>
  simp only[zac]at B;obtain⟨a2,h0,N⟩:=B;simp at N;obtain⟨rfl,rfl⟩:=N;obtain⟨x1,W,rfl,h1,h2⟩:=eD (by simpa using hr);unfold Gr at h0;refine C (s:=do eqGuard op t y z (a.eval y) (a.eval z);binOp op t (a.eval y) (a.eval z)) ?_ rfl;split at h0
  ·simp at h0;subst h0;simp only[bw]at h;obtain⟨v,g1,g2⟩:=rm (P:=P) (w:=w) (t:=t) h1 h2 h y z;exact .stay hi g1 g2
  ·simp at h0;subst h0;simp only[bw]at h;obtain⟨v,g1,g2⟩:=rm (P:=P) (w:=w) (t:=t) h1 h2 h y z;exact .stay hi g1 g2
  ·rename_i hu
   have key:∀neg,a2=.beq neg->((op=.eql∧neg=false)∨(op=.neq∧neg=true))->Gv ns P G w mem sh aa (do eqGuard op t y z (a.eval y) (a.eval z);binOp op t (a.eval y) (a.eval z)) x:=by
    intro neg O a5;subst O;obtain⟨p,q,rfl,rfl,rfl⟩:=Po h;simp only[aD,jT]at h1 h2;rw[h1,h2];exact .stay hi (zZ hu a5 p q y z) nu
   split at h0
   ·simp at h0;exact key false h0.symm (.inl ⟨‹_›,rfl⟩)
   ·split at h0
    ·simp at h0;exact key true h0.symm (.inr ⟨‹_›,rfl⟩)
    ·simp at h0
  ·simp at h0
 case unOp op t y=>
  simp at B;obtain⟨rfl,rfl⟩:=B;obtain⟨K,rfl,h1⟩:=cf (by simpa using hr);refine C (s:=Op.unary op (a.eval y)) ?_ rfl;simp only[bw]at h;unfold VD at h;split at h
  ·split at h<;>simp at h
   subst h;simp only[aD,jT]at h1;rw[h1];exact .stay hi (by simp[Op.unary]) nu
  ·split at h<;>simp at h
   subst h;simp only[aD,iX]at h1;rw[h1];exact .stay hi (by simp[Op.unary,Op.intArith]) dr
  ·simp at h
 case convert s d y=>
  split at B
  ·rename_i k1 k2 hs hd;simp at B;obtain⟨rfl,rfl⟩:=B;obtain⟨K,rfl,h1⟩:=cf (by simpa using hr);obtain⟨k',n,rfl,rfl⟩:=Ll h;simp only[aD,iX]at h1;refine C (s:=convert s d (a.eval y)) ?_ rfl;rw[h1];exact .stay hi (by simp[convert,zaK hs,zaK hd,Conv.intToInt]) dr
  ·rename_i e hs hd;split at B
   ·rename_i N;simp at B;obtain⟨rfl,rfl⟩:=B;obtain⟨K,rfl,h1⟩:=cf (by simpa using hr);obtain⟨l,hl,rfl⟩:=b2s_inv h;refine C (s:=convert s d (a.eval y)) ?_ rfl;exact .stay hi (b2s_run hs N hd hi.known hl h1) tL
   ·simp at B
  ·simp at B
 case extract y i=>
  simp at B;obtain⟨rfl,rfl⟩:=B;obtain⟨K,rfl,h1⟩:=cf (by simpa using hr);obtain⟨vs,rfl,h2⟩:=Pp h;simp only[aD]at h1;obtain⟨us,h3,h4⟩:=h1;obtain⟨u,h5,h6⟩:=h4.get h2;refine C (s:=Instr.extract (a.eval y) i) ?_ rfl;rw[h3];exact .stay hi (by simp[Instr.extract,h5]) h6
 case field t y f=>
  split at B
  ·rename_i fd hf;split at B
   ·rename_i sz ag F V;simp at B;obtain⟨rfl,rfl⟩:=B;obtain⟨K,rfl,h1⟩:=cf (by simpa using hr);obtain⟨u,g1,g2⟩:=z5 (w:=w) hf F V h h1;exact C (s:=Instr.field t (a.eval y) f) (.stay hi g1 g2) rfl
   ·simp at B
  ·simp at B
 case fieldAddr t y f=>
  split at B
  ·rename_i fd hf;split at B
   ·rename_i sz F;split at B
    ·simp at B
    ·rename_i a3;simp at B;obtain⟨rfl,rfl⟩:=B;obtain⟨K,rfl,h1⟩:=cf (by simpa using hr);obtain⟨u,g1,g2⟩:=z7 (w:=w) hf F a3 h h1;exact C (s:=Instr.fieldAt t (a.eval y) f) (.stay hi g1 g2) rfl
   ·simp at B
  ·simp at B
 case indexAddr t y i=>
  split at B
  ·rename_i e N;simp only[zac]at B;obtain⟨sz,F,B⟩:=B;simp at B;obtain⟨rfl,rfl⟩:=B;obtain⟨x1,W,rfl,h1,h2⟩:=eD (by simpa using hr);obtain⟨k,i',rfl⟩:=HZ h;obtain⟨u,g1,g2⟩:=z8 (w:=w) N F h h1;simp only[aD,iX]at h2;refine C (s:=Instr.indexAt t (a.eval y) (a.eval i)) ?_ rfl;rw[h2];exact .stay hi g1 g2
  ·simp at B
 case index t y i=>
  split at B
  ·rename_i hu;simp at B;obtain⟨rfl,rfl⟩:=B;obtain⟨x1,W,rfl,h1,h2⟩:=eD (by simpa using hr);obtain⟨s,k,i',rfl,rfl⟩:=H0 h;obtain⟨u,g1,g2⟩:=z_ (ns:=ns) (G:=G) (w:=w) hu h;simp only[aD,iX,nr]at h1 h2;refine C (s:=Instr.index t (a.eval y) (a.eval i)) ?_ rfl;rw[h1,h2];exact .stay hi g1 g2
  ·simp at B
 case build t ps=>
  split at B
  ·rename_i fs hu;split at B
   ·rename_i z pl hz hp;simp at B;obtain⟨rfl,rfl⟩:=B
    have M:(ps.map fun(i,x)=>(i,a.eval x))=((ps.toList.map (·.1)).zip ((ps.toList.map (·.2)).map a.eval)).toArray:=by
     apply zby;rw[zcu];exact rC a.eval ps.toList
    refine C (s:=Instr.build t (ps.map fun(i,x)=>(i,a.eval x))) ?_ rfl;rw[M];obtain⟨u,g1,g2⟩:=Ad (w:=w) hz hp hr (by simp) h;exact .stay hi g1 g2
   ·simp at B
  ·simp at B
 case buildSlice t n ps=>
  split at B
  ·rename_i e N;split at B
   ·rename_i sz z F hz;simp only[zab,zae,zav]at B;obtain⟨⟨hn,Y,h0,hb⟩,O,rfl⟩:=B;simp at O;subst O
    have M:(ps.map fun(i,x)=>(i,a.eval x))=((List.range' 0 ((ps.toList.map (·.2)).map a.eval).length).zip ((ps.toList.map (·.2)).map a.eval)).toArray:=by
     apply zby;rw[zcu];exact rB a.eval ps.toList 0 Y
    refine C (s:=Instr.buildSlice t n (ps.map fun(i,x)=>(i,a.eval x))) ?_ rfl;rw[M];obtain⟨u,c,g1,g2⟩:=xT N F hz (by simp[hn]) h0 hb hr hi h;exact⟨u,_,_,g1,g2,hi.tO c e,Gh.sW hi c,bL.tO hi c e⟩
   ·simp at B
  ·simp at B
 case load t y=>
  split at B
  ·rename_i sz ag F V;split at B
   ·rename_i tx;split at B
    ·simp at B
    ·split at B
     ·simp at B
     ·simp at B;obtain⟨rfl,rfl⟩:=B;obtain⟨K,rfl,h1⟩:=cf (by simpa using hr);obtain⟨cs,rfl,h2⟩:=H3 h;simp only[aD]at h1;obtain⟨b,o,vs,e,ha,a4⟩:=h1;refine C (s:=Instr.loadAt t (a.eval (.tmp tx))) ?_ rfl;rw[e];obtain⟨u,g1,g2⟩:=om (ns:=ns) (w:=w) F V h2 a4 (fun j v hj=>hi.known _ _ _ (ha j v hj));exact .stay hi (by simp[Instr.loadAt,Instr.sureAddr,g1]) g2
   ·simp at B
  ·simp at B
 case nilCheck y=>
  simp at B;obtain⟨rfl,rfl⟩:=B;obtain⟨K,rfl,h1⟩:=cf (by simpa using hr);simp only[bw]at h;split at h
  ·simp at h;subst h;have J:=h1;simp only[aD]at h1;obtain⟨b,e,L⟩:=h1;exact⟨a.eval y,w,G,by simp[execOp,L],J,hi,G.le_refl,bL.refl G w⟩
  ·simp at h;subst h;have J:=h1;simp only[aD]at h1;obtain⟨b,e,L⟩:=h1;exact⟨a.eval y,w,G,by simp[execOp,L],J,hi,G.le_refl,bL.refl G w⟩
  ·simp at h;subst h;have J:=h1;simp only[aD]at h1;obtain⟨b,o,vs,L,_⟩:=h1;exact⟨a.eval y,w,G,by simp[execOp,L],J,hi,G.le_refl,bL.refl G w⟩
  ·simp at h;subst h;have J:=h1;simp only[aD]at h1;obtain⟨f,vs,_,L,_⟩:=h1;exact⟨a.eval y,w,G,by simp[execOp,L],J,hi,G.le_refl,bL.refl G w⟩
  ·simp at h
 case makeFunc fn first cap=>
  split at B
  ·rename_i f;split at B
   ·rename_i hf;simp only[zac]at B;obtain⟨g,hg,B⟩:=B;simp at B;obtain⟨rfl,rfl⟩:=B;simp[bw]at h;subst h;refine C (s:=Instr.makeFunc (.func f) (first.map a.eval) (cap.map a.eval)) ?_ rfl;have Q:first=#[]:=by simpa using hf
    subst Q;refine .stay (v:=.func (.func f) #[] (cap.map a.eval)) hi (by simp[Instr.makeFunc]) ?_;simp only[aD];exact⟨f,cap.toList.map a.eval,hg,by congr 1;apply zby;simp,hr⟩
   ·simp at B
  ·simp at B
 case slice t y lo U mx=>
  split at B
  ·rename_i e hu;split at B
   ·rename_i a1;simp only[zac]at B;obtain⟨sz,F,B⟩:=B;simp only[zav,AK.v.injEq]at B;obtain⟨rfl,rfl⟩:=B;cases vals with
    |nil=>simp[aB]at hr
    |cons x0 rest=>
     simp only[zao,aB]at hr;obtain⟨v,r,e1,h1,h2⟩:=hr;simp only[zbm]at e1;obtain⟨rfl,rfl⟩:=e1;simp only[bw]at h;obtain⟨u,g1,g2⟩:=xU (w:=w) hu F a1.1 h2 h1 h;exact C (s:=Instr.sliceAt t (a.eval y) (lo.map a.eval) (U.map a.eval) (mx.map a.eval)) (.stay hi g1 g2) rfl
   ·simp only[zac]at B;obtain⟨sz,F,B⟩:=B;simp only[zav,AK.v.injEq]at B;obtain⟨rfl,rfl⟩:=B;cases vals with
    |nil=>simp[aB]at hr
    |cons x0 rest=>
     simp only[zao,aB]at hr;obtain⟨v,r,e1,h1,h2⟩:=hr;simp only[zbm]at e1;obtain⟨rfl,rfl⟩:=e1;simp only[bw]at h;obtain⟨u,g1,g2⟩:=Af (w:=w) hu F h2 h1 h;exact C (s:=Instr.sliceAt t (a.eval y) (lo.map a.eval) (U.map a.eval) (mx.map a.eval)) (.stay hi g1 g2) rfl
  ·rename_i hu;split at B
   ·simp at B
   ·rename_i ab;simp only[zae,zav,AK.v.injEq]at B;obtain⟨rfl,rfl⟩:=B;cases vals with
    |nil=>simp[aB]at hr
    |cons x0 rest=>
     simp only[zao,aB]at hr;obtain⟨v,r,e1,h1,h2⟩:=hr;simp only[zbm]at e1;obtain⟨rfl,rfl⟩:=e1;simp only[bw]at h;obtain⟨u,g1,g2⟩:=sL (w:=w) hu (by simpa using ab) h2 h1 h;exact C (s:=Instr.sliceAt t (a.eval y) (lo.map a.eval) (U.map a.eval) (mx.map a.eval)) (.stay hi g1 g2) rfl
  ·simp at B
 case call c=>
  obtain⟨callee,H,E⟩:=c;simp only at B;split at B
  ·-- len
   split at B
   ·rename_i y e D X;simp only[zae,zav,AK.v.injEq]at B;obtain⟨rfl,rfl⟩:=B;simp only[zaz]at X;obtain⟨t,T,S⟩:=X;obtain⟨K,rfl,h1⟩:=cf (by simpa using hr);have I:H=#[y]:=by apply zby;simpa using D
    subst I
    have R:∀base n c,(Builtin.len_ E type #[.slice base n c]).run P w=.ok (goInt n) w:=by
     intro base n c;simp[Builtin.len_,T,zaK S]
    refine C (s:=Builtin.len_ E type #[a.eval y]) ?_ ?_
    ·simp only[bw]at h;split at h
     ·simp at h;subst h;simp only[aD]at h1;obtain⟨b,cap,_,L,_⟩:=h1;rw[L];exact .stay hi (R _ _ _) dr
     ·rename_i x0 _;simp only[zac]at h;obtain⟨l,hl,rfl⟩:=h;obtain⟨b,len,cap,L,_,Z,_⟩:=cq.1 (fm hl h1);rw[L];refine .stay hi (R _ _ _) ?_;rw[Z];exact dr
    ·simp[execOp,resolve,invoke,builtin]
   ·rename_i y D X;simp only[zae,zav,AK.v.injEq]at B;obtain⟨rfl,rfl⟩:=B;simp only[zaz]at X;obtain⟨t,T,S⟩:=X;obtain⟨K,rfl,h1⟩:=cf (by simpa using hr);have I:H=#[y]:=by apply zby;simpa using D
    subst I;obtain⟨s,rfl,rfl⟩:=Lm h;simp only[aD,nr]at h1;refine C (s:=Builtin.len_ E type #[a.eval y]) ?_ ?_
    ·rw[h1];refine .stay (v:=goInt (ByteArray.mk s.toArray).size) hi (by simp[Builtin.len_,T,zaK S]) ?_;have:(ByteArray.mk s.toArray).size=s.length:=by simp[ByteArray.size]
     rw[this];exact dr
    ·simp[execOp,resolve,invoke,builtin]
   ·simp at B
  ·split at B
   ·rename_i y z D;simp only[zae,zav,AK.v.injEq]at B;obtain⟨rfl,rfl⟩:=B;have I:H=#[y,z]:=by apply zby;simpa using D
    subst I;obtain⟨x1,W,rfl,h1,h2⟩:=eD (by simpa using hr);obtain⟨k,p,q,rfl,rfl,rfl⟩:=Tl h;simp only[aD,iX]at h1 h2;refine C (s:=Builtin.min_ E type #[a.eval y,a.eval z]) ?_ ?_
    ·rw[h1,h2];exact .stay hi (by simp[Builtin.min_,Builtin.min2]) dr
    ·simp[execOp,resolve,invoke,builtin]
   ·simp at B
  ·split at B
   ·rename_i y z D;simp only[zae,zav,AK.v.injEq]at B;obtain⟨rfl,rfl⟩:=B;have I:H=#[y,z]:=by apply zby;simpa using D
    subst I;obtain⟨x1,W,rfl,h1,h2⟩:=eD (by simpa using hr);obtain⟨k,p,q,rfl,rfl,rfl⟩:=Tm h;simp only[aD,iX]at h1 h2;refine C (s:=Builtin.max_ E type #[a.eval y,a.eval z]) ?_ ?_
    ·rw[h1,h2];exact .stay hi (by simp[Builtin.max_,Builtin.max2]) dr
    ·simp[execOp,resolve,invoke,builtin]
   ·simp at B
  ·split at B
   ·split at B
    ·split at B
     ·split at B
      ·simp at B
      ·split at B<;>simp at B
     ·simp at B
    ·simp at B
   ·simp at B
  ·split at B
   ·split at B
    ·split at B<;>simp at B
    ·simp at B
   ·simp at B
  ·split at B
   ·split at B<;>simp at B
   ·simp at B
  ·split at B
   ·split at B
    ·rw[zab]at B;obtain⟨_,B⟩:=B;split at B
     ·split at B
      ·simp at B
      ·simp at B
     ·simp at B
    ·split at B
     ·simp at B
     ·split at B
      ·simp at B
      ·split at B<;>simp at B
   ·simp at B
  ·split at B<;>simp at B
  ·simp at B
 case store t y v=>
  split at B
  ·split at B
   ·simp at B
   ·split at B<;>simp at B
  ·simp at B
 case alloc t=>
  split at B
  ·split at B
   ·split at B<;>simp at B
   ·simp at B
   ·simp at B
  ·simp at B
 case box t y=>
  split at B
  ·split at B
   ·split at B<;>simp at B
   ·simp at B
   ·split at B<;>simp at B
  ·simp at B
 case makeSlice t l c=>
  split at B
  ·split at B
   ·split at B
    ·split at B
     ·split at B<;>simp at B
     ·simp at B
     ·simp at B
    ·simp at B
   ·simp at B
  ·simp at B
 case makeMap t r=>split at B<;>simp at B
 case lookup t y i ok=>
  split at B
  ·split at B<;>simp at B
  ·simp at B
 case mapUpdate t m i y=>
  split at B<;>simp at B
 case insert t m i y=>
  split at B<;>simp at B
 all_goals simp at B
end
end Go.Ab
namespace Go.Ab
section
variable {P:Program} {ns:Names} {G:Gh} {w:World}
theorem b_{α:Type}:∀(l:List (Nat×α))(k:Nat)(v:α),look (cN l k v) k=some v
 |[],k,v=>by simp[cN,look]
 |(k',u)::r,k,v=>by
  simp only[cN];split
  ·rename_i h;simp[look,h]
  ·rename_i h;simp[look,h,b_ r k v]
theorem bM{α:Type}:∀(l:List (Nat×α))(k k':Nat)(v:α),k≠k'->look (cN l k v) k'=look l k'
 |[],k,k',v,h=>by simp[cN,look,h]
 |(a,u)::r,k,k',v,h=>by
  simp only[cN];split
  ·rename_i h0;subst h0;simp[look,h]
  ·simp only[look];split
   ·rfl
   ·exact bM r k k' v h
structure mB(G:Gh)(w w':World)(b:Nat):Prop where
 size:w'.heap.size=w.heap.size
 other:∀k,k≠b->w'.heap[k]?=w.heap[k]?
 os:w'.os=w.os
 tape:w'.tape=w.tape
 output:w'.output=w.output
theorem mB.setRow(b:Nat)(c:Array Value):mB G w (w.setRow b c) b:=
 ⟨setRow_size _ _ _,fun k h=>setRow_other _ _ _ _ h,rfl,rfl,rfl⟩
theorem mB.zL{w':World}{b:Nat}(h:mB G w w' b)(c:G.role b≠.d9):bL G w G w' where
 size:=by rw[h.size];exact zaj _
 os:=h.os
 tape:=h.tape
 output:=h.output
 K:=G.K.le_refl
 sm:=fun _ _ h=>h
 d9:=fun _ _ hr=>⟨hr,h.other _ (fun e=>c (e ▸ hr))⟩
 jR:=fun _ τ _ hr=>.inr ⟨τ,hr⟩
 i_:=fun _ _ _ _ _ a=>a
theorem mB.known{ρ:bU}{mem:List (Nat×List AV)}{sh:Sh}{aa:aG}(hi:Inv ρ G w mem sh aa){w':World}{b:Nat}(h:mB G w w' b)
   (f:G.role b≠.d9) (d:∀τ,G.role b≠.tok τ):∀a o v,G.K a o=some v->w'.cell? ⟨a,o,none⟩=some v:=by
 intro a o v e
 have c:a≠b:=by
  rintro rfl
  rcases hi.a_ _ _ _ e with h1|⟨τ,h1⟩
  ·exact f h1
  ·exact d τ h1
 have:=hi.known a o v e;unfold World.cell? at this⊢;simp only at this⊢;rw[h.other a c];exact this
theorem mB.tok{ρ:bU}{mem:List (Nat×List AV)}{sh:Sh}{aa:aG}(hi:Inv ρ G w mem sh aa){w':World}{b:Nat}(h:mB G w w' b)
   (d:∀τ,G.role b≠.tok τ):∀τ n,aa[τ]?=some n->∃t,G.tk τ=some t∧t.len=n∧VI G w' τ t:=by
 intro τ n hn;obtain⟨t,e1,e2,e3⟩:=hi.dp τ n hn;refine⟨t,e1,e2,e3.cap,e3.zero,fun a=>?_⟩;obtain⟨f,o,c,ty,f1,f2,f3,g,f5⟩:=e3.spare a;exact⟨f,o,c,ty,f1,f2,by rw[h.other f (fun e=>d τ (e ▸ f2))];exact f3,g,f5⟩
theorem Inv.H4{ρ:bU}{mem:List (Nat×List AV)}{sh:Sh}{aa:aG}(hi:Inv ρ G w mem sh aa){d b:Nat}{cells cells':List AV}{c':Array Value}
   (hl:look mem d=some cells) (hp:G.pm d=some b) (hr:aB ρ G cells' c'.toList) (v:cells'.all aZ=true):
   Inv ρ G (w.setRow b c') (cN mem d cells') sh aa∧bL G w G (w.setRow b c'):=by
 obtain⟨b0,e1,e2,e3⟩:=hi.cV d cells hl;have:b0=b:=by rw[hp]at e1;simpa using e1.symm
 subst this;obtain⟨a,c,t,r,_⟩:=e2;have h:G.role b0≠.d9:=by rw[a];simp
 have m:∀τ,G.role b0≠.tok τ:=by intro τ;rw[a];simp
 have j:=mB.setRow (G:=G) (w:=w) b0 c';refine⟨⟨j.known hi h m,hi.a_,?_,?_,?_,?_,hi.gO,j.tok hi m,hi.gX,hi.jS (j.zL h)⟩,j.zL h⟩
 ·intro k p;rw[j.size]at p;exact hi.fresh k p
 ·intro n cs e;by_cases f:d=n
  ·subst f;rw[b_]at e;simp at e;subst e;exact⟨b0,hp,⟨a,c',t,setRow_heap _ _ _ _ _ _ r,hr⟩,v⟩
  ·rw[bM _ _ _ _ f]at e;obtain⟨l,g1,g2,o⟩:=hi.cV n cs e;refine⟨l,g1,⟨g2.role,?_⟩,o⟩;obtain⟨c2,q,i,g⟩:=g2.at_;refine⟨c2,q,?_,g⟩;rw[j.other l]
   ·exact i
   ·rintro rfl
    have:=g2.role;rw[a]at this;simp at this;exact f this
 ·intro n l e;by_cases f:d=n
  ·subst f;rw[b_];rfl
  ·rw[bM _ _ _ _ f];exact hi.i7 n l e
 ·intro s cs hs;obtain⟨l,g1,g2,o⟩:=hi.dU s cs hs;refine⟨l,g1,⟨g2.role,?_⟩,o⟩;obtain⟨o2,i,g⟩:=g2.at_;refine⟨o2,?_,g⟩;rw[j.other l.1]
  ·exact i
  ·intro u;have:=g2.role;rw[u,a]at this;simp at this
theorem Inv.H5{ρ:bU}{mem:List (Nat×List AV)}{sh:Sh}{aa:aG}(hi:Inv ρ G w mem sh aa){s:Nat}{b:Nat×Nat}{cells cells':List AV}{w':World}{o':Obj}
   (hl:sh[s]?=some (some cells)) (hp:G.sm s=some b) (f:mB G w w' b.1) (q:w'.heap[b.1]?=some o') (hr:Holds ρ G o' b.2 cells') (r:cells'.all dO=true) (hf:cells'.all (aK (s+1))=true):
   Inv ρ G w' mem (sh.set s (some cells')) aa∧bL G w G w':=by
 obtain⟨b0,e1,e2,e3⟩:=hi.dU s cells hl;have:b0=b:=by rw[hp]at e1;simpa using e1.symm
 subst this;have a:=e2.role;have d:G.role b0.1≠.d9:=by rw[a];simp
 have i:∀τ,G.role b0.1≠.tok τ:=by intro τ;rw[a];simp
 refine⟨⟨f.known hi d i,hi.a_,?_,?_,hi.i7,?_,?_,f.tok hi i,hi.gX,hi.jS (f.zL d)⟩,f.zL d⟩
 ·intro k o;rw[f.size]at o;exact hi.fresh k o
 ·intro t cs m;obtain⟨g,g1,g2,n⟩:=hi.cV t cs m;refine⟨g,g1,⟨g2.role,?_⟩,n⟩;obtain⟨c2,p,e,c⟩:=g2.at_;refine⟨c2,p,?_,c⟩;rw[f.other g]
  ·exact e
  ·rintro rfl
   have:=g2.role;rw[a]at this;simp at this
 ·intro s' cs hs;rw[zaA]at hs;split at hs
  ·rename_i l;subst l;split at hs
   ·simp at hs;subst hs;exact⟨b0,hp,⟨a,o',q,hr⟩,r,hf⟩
   ·simp at hs
  ·rename_i j;obtain⟨g,g1,g2,n⟩:=hi.dU s' cs hs;refine⟨g,g1,⟨g2.role,?_⟩,n⟩;obtain⟨o2,e,c⟩:=g2.at_;refine⟨o2,?_,c⟩;rw[f.other g.1]
   ·exact e
   ·intro l;have:=g2.role;rw[l,a]at this;simp at this;exact j this
 ·intro s' g h;simpa using hi.gO s' g h
theorem Inv.tS{ρ:bU}{mem:List (Nat×List AV)}{sh:Sh}{aa:aG}(hi:Inv ρ G w mem sh aa){s:Nat}{b:Nat×Nat}{cells cells':List AV}{c c':Array Value}{t:TypeId}{vs suf:List Value}
   (hl:sh[s]?=some (some cells)) (hp:G.sm s=some b) (e:w.heap[b.1]?=some (.cells c t (0,0))) (a:c'.size=b.2) (d:c'.toList=vs++suf) (hr:aB ρ G cells' vs) (f:cells'.all dO=true) (hf:cells'.all (aK (s+1))=true):
   Inv ρ G (w.setRow b.1 c') mem (sh.set s (some cells')) aa∧bL G w G (w.setRow b.1 c'):=
 hi.H5 hl hp (mB.setRow b.1 c') (setRow_heap _ _ _ _ _ _ e) (.inl ⟨c',t,vs,suf,rfl,a,d,hr⟩) f hf
def Gh.dy(G:Gh)(d b:Nat):Gh:={G with role:=fun k=>if k=b then .mK d else G.role k,pm:=fun k=>if k=d then some b else G.pm k}
def Gh.df(G:Gh)(s b n:Nat):Gh:={G with role:=fun k=>if k=b then .shr s else G.role k,sm:=fun k=>if k=s then some (b,n)else G.sm k}
theorem Inv.wE{ρ:bU}{mem:List (Nat×List AV)}{sh:Sh}{aa:aG}(hi:Inv ρ G w mem sh aa){d:Nat}{cells:List AV}{c:Array Value}(t:TypeId)
   (hl:look mem d=none) (hr:aB ρ G cells c.toList) (p:cells.all aZ=true):
   Inv ρ (G.dy d w.heap.size) (w.alloc (.cells c t)) (cN mem d cells) sh aa∧G.le (G.dy d w.heap.size)∧bL G w (G.dy d w.heap.size) (w.alloc (.cells c t)):=by
 have r:G.pm d=none:=by
  cases h:G.pm d with
  |none=>rfl
  |some b=>have:=hi.i7 d b h;rw[hl]at this;simp at this
 have i:G.le (G.dy d w.heap.size):=⟨G.K.le_refl,fun k b h=>by
  simp only[Gh.dy];split
  ·rename_i e;subst e;rw[r]at h;simp at h
  ·exact h,fun _ _ h=>h,fun _ t h=>⟨t,h,⟨zaj _,t.iV⟩,fun _=>rfl⟩⟩
 have j:bL G w (G.dy d w.heap.size) (w.alloc (.cells c t)):={
           size:=by simp,os:=rfl,tape:=rfl,output:=rfl,K:=G.K.le_refl,sm:=fun _ _ h=>h,
           d9:=fun b p hr=>⟨by simp only[Gh.dy];rw[zad (by omega)];exact hr,bm p⟩
           jR:=fun b τ p hr=>.inr ⟨τ,by simp only[Gh.dy];rw[zad (by omega)];exact hr⟩
           i_:=fun _ _ _ _ _ l=>l}
 refine⟨⟨?_,?_,?_,?_,?_,?_,hi.gO,?_,hi.gX,hi.jS j⟩,i,j⟩
 ·intro b o v l;have f:b<w.heap.size:=hi.jU (o:=o) (v:=v) l;rw[zcG _ _ ⟨b,o,none⟩ f];exact hi.known b o v l
 ·intro b o v l;have:=hi.jU (o:=o) (v:=v) l;simp only[Gh.dy];rw[zad (by omega)];exact hi.a_ b o v l
 ·intro b u;simp at u;simp only[Gh.dy];rw[zad (by omega)];exact hi.fresh b (by omega)
 ·intro q cs a;by_cases g:d=q
  ·subst g;rw[b_]at a;simp at a;subst a;exact⟨w.heap.size,by simp[Gh.dy],⟨by simp[Gh.dy],c,t,heap_alloc_new,aB.mono i hr⟩,p⟩
  ·rw[bM _ _ _ _ g]at a;obtain⟨m,g1,g2,x⟩:=hi.cV q cs a;have f:m<w.heap.size:=by obtain⟨_,_,y,_⟩:=g2.at_;exact cT y
   exact⟨m,by simp only[Gh.dy];rw[zad (zbK g)];exact g1,g2.mono i (by simp only[Gh.dy];rw[zad (by omega)]) (bm f),x⟩
 ·intro q m a;by_cases g:d=q
  ·subst g;rw[b_];rfl
  ·rw[bM _ _ _ _ g];simp only[Gh.dy]at a;rw[zad (zbK g)]at a;exact hi.i7 q m a
 ·intro s cs hs;obtain⟨m,g1,g2,x⟩:=hi.dU s cs hs;have f:m.1<w.heap.size:=g2.lt;exact⟨m,g1,g2.mono i (by simp only[Gh.dy];rw[zad (by omega)]) (bm f),x⟩
 ·intro τ n hn;obtain⟨tk,e1,e2,e3⟩:=hi.dp τ n hn;refine⟨tk,e1,e2,e3.cap,e3.zero,fun f=>?_⟩;obtain⟨b,o,A,ty,f1,f2,f3,z,f5⟩:=e3.spare f;have p:=cT f3;exact⟨b,o,A,ty,f1,by simp only[Gh.dy];rw[zad (by omega)];exact f2,(bm p).trans f3,z,f5⟩
theorem Inv.C6{ρ:bU}{mem:List (Nat×List AV)}{sh:Sh}{aa:aG}(hi:Inv ρ G w mem sh aa){cells:List AV}{o':Obj}{N:Nat}
   (hr:Holds ρ G o' N cells) (g:cells.all dO=true) (hf:cells.all (aK (sh.length+1))=true):
   Inv ρ (G.df sh.length w.heap.size N) (w.alloc o') mem (sh++[some cells]) aa∧G.le (G.df sh.length w.heap.size N)∧bL G w (G.df sh.length w.heap.size N) (w.alloc o'):=by
 have j:G.sm sh.length=none:=by
  cases h:G.sm sh.length with
  |none=>rfl
  |some b=>have:=hi.gO _ b h;omega
 have c:G.le (G.df sh.length w.heap.size N):=⟨G.K.le_refl,fun _ _ h=>h,fun k b h=>by
  simp only[Gh.df];split
  ·rename_i e;subst e;rw[j]at h;simp at h
  ·exact h,fun _ t h=>⟨t,h,⟨zaj _,t.iV⟩,fun _=>rfl⟩⟩
 have d:bL G w (G.df sh.length w.heap.size N) (w.alloc o'):={
           size:=by simp,os:=rfl,tape:=rfl,output:=rfl,K:=G.K.le_refl,sm:=c.sm,
           d9:=fun b g hr=>⟨by simp only[Gh.df];rw[zad (by omega)];exact hr,bm g⟩
           jR:=fun b τ g hr=>.inr ⟨τ,by simp only[Gh.df];rw[zad (by omega)];exact hr⟩
           i_:=fun _ _ _ _ _ f=>f}
 refine⟨⟨?_,?_,?_,?_,hi.i7,?_,?_,?_,hi.gX,hi.jS d⟩,c,d⟩
 ·intro b o v f;have a:b<w.heap.size:=hi.jU (o:=o) (v:=v) f;rw[zcG _ _ ⟨b,o,none⟩ a];exact hi.known b o v f
 ·intro b o v f;have:=hi.jU (o:=o) (v:=v) f;simp only[Gh.df];rw[zad (by omega)];exact hi.a_ b o v f
 ·intro b p;simp at p;simp only[Gh.df];rw[zad (by omega)];exact hi.fresh b (by omega)
 ·intro y cs m;obtain⟨i,g1,g2,q⟩:=hi.cV y cs m;have a:i<w.heap.size:=by obtain⟨_,_,r,_⟩:=g2.at_;exact cT r
  exact⟨i,g1,g2.mono c (by simp only[Gh.df];rw[zad (by omega)]) (bm a),q⟩
 ·intro s cs hs;rw[zbx]at hs;split at hs
  ·obtain⟨i,g1,g2,q⟩:=hi.dU s cs hs;have a:i.1<w.heap.size:=g2.lt;exact⟨i,c.sm _ _ g1,g2.mono c (by simp only[Gh.df];rw[zad (by omega)]) (bm a),q⟩
  ·rename_i u
   have l:s=sh.length:=by
    rcases zbv (s-sh.length) 1 with h|h
    ·omega
    ·rw[zaV (by simpa using h)]at hs;simp at hs
   subst l;simp at hs;subst hs;exact⟨(w.heap.size,N),by simp[Gh.df],⟨by simp[Gh.df],o',heap_alloc_new,hr.mono c⟩,g,hf⟩
 ·intro s b h;simp only[Gh.df]at h;split at h
  ·rename_i e;subst e;simp
  ·have:=hi.gO s b h;simp;omega
 ·intro τ n hn;obtain⟨tk,e1,e2,e3⟩:=hi.dp τ n hn;refine⟨tk,e1,e2,e3.cap,e3.zero,fun a=>?_⟩;obtain⟨b,o,z,ty,f1,f2,f3,x,f5⟩:=e3.spare a;have g:=cT f3;exact⟨b,o,z,ty,f1,by simp only[Gh.df];rw[zad (by omega)];exact f2,(bm g).trans f3,x,f5⟩
theorem Inv.pq{ρ:bU}{mem:List (Nat×List AV)}{sh:Sh}{aa:aG}(hi:Inv ρ G w mem sh aa){cells:List AV}{c:Array Value}(t:TypeId)
   (hr:aB ρ G cells c.toList) (a:cells.all dO=true) (hf:cells.all (aK (sh.length+1))=true):
   Inv ρ (G.df sh.length w.heap.size c.size) (w.alloc (.cells c t)) mem (sh++[some cells]) aa∧G.le (G.df sh.length w.heap.size c.size)∧bL G w (G.df sh.length w.heap.size c.size) (w.alloc (.cells c t)):=
 hi.C6 (Holds.full hr) a hf
end
end Go.Ab
namespace Go.Ab
section
variable {P:Program} {ns:Names} {G:Gh} {w:World}
structure oH(G:Gh)(aa toks':aG)(τ n:Nat):Prop where
 at_:toks'[τ]?=some n
 other:∀σ,σ≠τ->toks'[σ]?=aa[σ]?
 aL:∀t,G.tk τ=some t->t.len<n
def Gh.bt(G:Gh)(τ:Nat)(t:Tk)(role:Nat->oE)(K:bo):Gh:=
 {G with K,role,tk:=fun σ=>if σ=τ then some t else G.tk σ}
theorem Gh.qw{τ:Nat}{t:Tk}{role:Nat->oE}{K:bo}(hK:G.K.le K)(b:∀t0,G.tk τ=some t0->(t0.len<=t.len∧t0.on t)∧(t0.len=t.len->t=t0)):G.le (G.bt τ t role K) where
 K:=hK
 pm:=fun _ _ h=>h
 sm:=fun _ _ h=>h
 tk:=fun σ t0 h=>by
  simp only[Gh.bt];by_cases a:σ=τ
  ·subst a;simp only[za0];obtain⟨h1,h2⟩:=b t0 h;exact⟨t,rfl,h1,h2⟩
  ·rw[zad a];exact⟨t0,h,⟨zaj _,Tk.iV _⟩,fun _=>rfl⟩
def fc(G:Gh)(b τ:Nat):Nat->oE:=fun k=>if k=b then .tok τ else if G.role k=.tok τ then .d9 else G.role k
def jV(G:Gh)(b m:Nat)(c:Array Value):bo:=fun k o=>if k=b then(if o<m then c[o]? else none)else G.K k o
theorem Inv.grow{ρ:bU}{mem:List (Nat×List AV)}{sh:Sh}{aa toks':aG}(hi:Inv ρ G w mem sh aa){τ:Nat}{t:Tk}{c:Array Value}(ty:TypeId)
   (q:t.base=some ⟨w.heap.size,0,none⟩) (C:t.cap*t.sz<=c.size) (hl:t.len<=t.cap) (h0:0<t.len) (hu:oH G aa toks' τ t.len) (y:∀t0,G.tk τ=some t0->¬t0.dead∧t0.cap<t.len):
   Inv ρ (G.bt τ t (fc G w.heap.size τ) (jV G w.heap.size (t.len*t.sz) c)) (w.alloc (.cells c ty)) mem sh toks' ∧
   G.le (G.bt τ t (fc G w.heap.size τ) (jV G w.heap.size (t.len*t.sz) c))∧
   bL G w (G.bt τ t (fc G w.heap.size τ) (jV G w.heap.size (t.len*t.sz) c)) (w.alloc (.cells c ty)):=by
 have hK:G.K.le (jV G w.heap.size (t.len*t.sz) c):=fun b o v a=>by
  have:=hi.jU a;simp only[jV];rw[zad (by omega)];exact a
 have m:G.le (G.bt τ t (fc G w.heap.size τ) (jV G w.heap.size (t.len*t.sz) c)):=
   Gh.qw hK fun t0 h=>by have:=hu.aL t0 h;exact⟨⟨by omega,fun d=>absurd d (y t0 h).1,.inr (.inl (y t0 h).2)⟩,by omega⟩
 have g:∀b r,b<w.heap.size->G.role b=r->(∀σ,r≠.tok σ)->fc G w.heap.size τ b=r:=by
  intro b r q hr hn;simp only[fc];rw[zad (by omega),zad (by rw[hr];exact hn τ),hr]
 have l:bL G w (G.bt τ t (fc G w.heap.size τ) (jV G w.heap.size (t.len*t.sz) c)) (w.alloc (.cells c ty)):={
           size:=by simp,os:=rfl,tape:=rfl,output:=rfl,K:=hK,sm:=fun _ _ h=>h,
           d9:=fun b q hr=>⟨g b _ q hr (by simp),bm q⟩
           jR:=fun b σ q hr=>by
            simp only[Gh.bt,fc];rw[zad (by omega)];split
            ·exact .inl rfl
            ·exact .inr ⟨σ,hr⟩
           i_:=fun b o v q _ a=>by
            simp only[Gh.bt,jV]at a
            rwa [zad (by omega)]at a}
 refine⟨⟨?_,?_,?_,?_,hi.i7,?_,hi.gO,?_,?_,hi.jS l⟩,m,l⟩
 ·intro b o v a;simp only[Gh.bt,jV]at a;split at a
  ·rename_i e;subst e;split at a
   ·simp[a]
   ·simp at a
  ·have f:b<w.heap.size:=hi.jU (o:=o) (v:=v) a;rw[zcG _ _ ⟨b,o,none⟩ f];exact hi.known b o v a
 ·intro b o v a;simp only[Gh.bt,jV]at a;simp only[Gh.bt,fc];split at a
  ·rename_i e;subst e;exact .inr ⟨τ,by simp⟩
  ·rename_i e;rw[zad e];split
   ·exact .inl rfl
   ·exact hi.a_ b o v a
 ·intro b p;simp at p;simp only[Gh.bt,fc];rw[zad (by omega)];have:=hi.fresh b (by omega);rw[this];simp
 ·intro d cs hd;obtain⟨k,g1,g2,x⟩:=hi.cV d cs hd;have f:k<w.heap.size:=by obtain⟨_,_,z,_⟩:=g2.at_;exact cT z
  exact⟨k,g1,g2.mono m ((g k _ f g2.role (by simp)).trans g2.role.symm) (bm f),x⟩
 ·intro s cs hs;obtain⟨k,g1,g2,x⟩:=hi.dU s cs hs;have f:k.1<w.heap.size:=g2.lt;exact⟨k,g1,g2.mono m ((g k.1 _ f g2.role (by simp)).trans g2.role.symm) (bm f),x⟩
 ·intro σ n hn;by_cases i:σ=τ
  ·subst i;rw[hu.at_]at hn;simp at hn;refine⟨t,by simp[Gh.bt],hn,hl,fun h=>by omega,fun f=>⟨w.heap.size,0,c,ty,q,by simp[Gh.bt,fc],heap_alloc_new,by omega,fun j v a=>?_⟩⟩;simp only[Gh.bt,jV,za0]at a;split at a
   ·omega
   ·simp at a
  ·rw[hu.other σ i]at hn;obtain⟨t0,e1,e2,e3⟩:=hi.dp σ n hn;refine⟨t0,by simp only[Gh.bt];rw[zad i];exact e1,e2,e3.cap,e3.zero,fun f=>?_⟩;obtain⟨k,o,B,u,f1,f2,f3,A,f5⟩:=e3.spare f;have p:=cT f3;refine⟨k,o,B,u,f1,?_,(bm p).trans f3,A,fun j v a=>f5 j v ?_⟩
   ·simp only[Gh.bt,fc];rw[zad (by omega),zad (by rw[f2];simp;exact i)];exact f2
   ·simp only[Gh.bt,jV]at a
    rwa [zad (by omega)]at a
 ·intro σ t0 h;simp only[Gh.bt]at h;split at h
  ·rename_i e;subst e;simp at h;subst h;exact hu.at_
  ·rename_i e;rw[hu.other σ e];exact hi.gX σ t0 h
theorem Inv.Pq{ρ:bU}{mem:List (Nat×List AV)}{sh:Sh}{aa toks':aG}(hi:Inv ρ G w mem sh aa){τ:Nat}{t:Tk}
   (hl:t.cap=t.len) (i:t.own=false) (hn:G.tk τ=none) (h1:toks'[τ]?=some t.len) (h2:∀σ,σ≠τ->toks'[σ]?=aa[σ]?):
   Inv ρ (G.bt τ t G.role G.K) w mem sh toks'∧G.le (G.bt τ t G.role G.K)∧bL G w (G.bt τ t G.role G.K) w:=by
 have g:G.le (G.bt τ t G.role G.K):=Gh.qw G.K.le_refl fun t0 h=>by rw[hn]at h;simp at h
 have c:bL G w (G.bt τ t G.role G.K) w:={
           size:=zaj _,os:=rfl,tape:=rfl,output:=rfl,K:=G.K.le_refl,sm:=fun _ _ h=>h,
           d9:=fun b m hr=>⟨hr,rfl⟩,jR:=fun b σ m hr=>.inr ⟨σ,hr⟩,i_:=fun _ _ _ _ _ l=>l}
 refine⟨⟨hi.known,hi.a_,hi.fresh,?_,hi.i7,?_,hi.gO,?_,?_,hi.jS c⟩,g,c⟩
 ·intro d cs hd;obtain⟨k,g1,g2,j⟩:=hi.cV d cs hd;exact⟨k,g1,g2.mono g rfl rfl,j⟩
 ·intro d cs hd;obtain⟨k,g1,g2,j⟩:=hi.dU d cs hd;exact⟨k,g1,g2.mono g rfl rfl,j⟩
 ·intro σ n a;by_cases f:σ=τ
  ·subst f;rw[h1]at a;simp at a;exact⟨t,by simp[Gh.bt],a,by omega,fun _=>by omega,fun h=>h.elim (fun h=>by omega) (fun h=>by rw[i]at h;cases h)⟩
  ·rw[h2 σ f]at a;obtain⟨t0,e1,e2,e3⟩:=hi.dp σ n a;exact⟨t0,by simp only[Gh.bt];rw[zad f];exact e1,e2,e3.cap,e3.zero,e3.spare⟩
 ·intro σ t0 h;simp only[Gh.bt]at h;split at h
  ·rename_i e;subst e;simp at h;subst h;exact h1
  ·rename_i e;rw[h2 σ e];exact hi.gX σ t0 h
def jW(G:Gh)(b o:Nat)(l:List Value):bo:=fun k j=>if k=b∧o<=j∧j<o+l.length then l[j-o]? else G.K k j
theorem Inv.fill{ρ:bU}{mem:List (Nat×List AV)}{sh:Sh}{aa toks':aG}(hi:Inv ρ G w mem sh aa){τ b o n:Nat}{t:Tk}{c c':Array Value}{ty:TypeId}{l:List Value}
   (P:G.tk τ=some t) (O:t.base=some ⟨b,o,none⟩) (a:G.role b=.tok τ) (N:w.heap[b]?=some (.cells c ty (0,0))) (F:o+t.cap*t.sz<=c.size)
   (i:∀j v,G.K b j=some v->j<o+t.len*t.sz) (hl:l.length=n*t.sz) (hn:0<n) (u:t.len+n<=t.cap)
   (z:c'=(c.toList.take (o+t.len*t.sz)++l++c.toList.drop (o+t.len*t.sz+l.length)).toArray) (hu:oH G aa toks' τ (t.len+n)):
   Inv ρ (G.bt τ {t with len:=t.len+n,own:=true} G.role (jW G b (o+t.len*t.sz) l)) (w.setRow b c') mem sh toks' ∧
   G.le (G.bt τ {t with len:=t.len+n,own:=true} G.role (jW G b (o+t.len*t.sz) l))∧
   bL G w (G.bt τ {t with len:=t.len+n,own:=true} G.role (jW G b (o+t.len*t.sz) l)) (w.setRow b c'):=by
 have B:G.role b≠.d9:=by rw[a];simp
 have s:(t.len+n)*t.sz=t.len*t.sz+n*t.sz:=zaD _ _ _;have L:(t.len+n)*t.sz<=t.cap*t.sz:=zaH _ u
 have J:c'.size=c.size:=by
  subst z;simp;omega
 have hK:G.K.le (jW G b (o+t.len*t.sz) l):=fun k j v f=>by
  simp only[jW];rw[zad]
  ·exact f
  ·rintro⟨rfl,h1,_⟩
   have:=i j v f;omega
 have y:G.le (G.bt τ {t with len:=t.len+n,own:=true} G.role (jW G b (o+t.len*t.sz) l)):=
   Gh.qw hK fun t0 h=>by rw[P]at h;simp at h;subst h;exact⟨⟨by simp,fun d=>(by rw[Tk.dead,O]at d;simp at d),.inr (.inr ⟨rfl,rfl,.inr rfl⟩)⟩,by simp;omega⟩
 have A:=mB.setRow (G:=G) (w:=w) b c';have p:(w.setRow b c').heap[b]?=some (.cells c' ty (0,0)):=setRow_heap _ _ _ _ _ _ N
 have x:bL G w (G.bt τ {t with len:=t.len+n,own:=true} G.role (jW G b (o+t.len*t.sz) l)) (w.setRow b c'):={
           size:=by rw[A.size];exact zaj _,os:=rfl,tape:=rfl,output:=rfl,K:=hK,sm:=fun _ _ h=>h,
           d9:=fun k f hr=>⟨hr,A.other k (fun e=>B (e ▸ hr))⟩
           jR:=fun k σ f hr=>.inr ⟨σ,hr⟩
           i_:=fun k j v f hr D=>by
            simp only[Gh.bt,jW]at D
            rwa [zad (by rintro⟨e,_⟩;subst e;exact B hr)]at D}
 refine⟨⟨?_,?_,?_,?_,hi.i7,?_,hi.gO,?_,?_,hi.jS x⟩,y,x⟩
 ·intro k j v f;simp only[Gh.bt,jW]at f;split at f
  ·rename_i e;obtain⟨rfl,e1,e2⟩:=e;simp only[World.cell?,p];subst z;simp only[zbq,zaO,zbg,List.getElem?_toArray];rw[zal (by simp;omega),zaL (by simp;omega)];have:(c.toList.take (o+t.len*t.sz)).length=o+t.len*t.sz:=by simp;omega
   rw[this];exact f
  ·rename_i e;by_cases E:k=b
   ·subst E;have hj:=i j v f;have g:=hi.known k j v f;simp only[World.cell?,N,zbq,zaO,zbg]at g;simp only[World.cell?,p];subst z;simp only[zbq,zaO,zbg,List.getElem?_toArray];rw[zal (by simp;omega),zal (by simp;omega),zbE,zak hj];simpa using g
   ·have g:=hi.known k j v f;unfold World.cell? at g⊢;simp only at g⊢;rw[A.other k E];exact g
 ·intro k j v f;simp only[Gh.bt,jW]at f;split at f
  ·rename_i e;obtain⟨rfl,_⟩:=e;exact .inr ⟨τ,a⟩
  ·exact hi.a_ k j v f
 ·intro k f;rw[A.size]at f;exact hi.fresh k f
 ·intro d cs hd;obtain⟨r,g1,g2,M⟩:=hi.cV d cs hd;refine⟨r,g1,g2.mono y rfl (A.other r ?_),M⟩
  rintro rfl
  have:=g2.role;rw[a]at this;simp at this
 ·intro d cs hd;obtain⟨r,g1,g2,M⟩:=hi.dU d cs hd;refine⟨r,g1,g2.mono y rfl (A.other r.1 ?_),M⟩;intro Q;have:=g2.role;rw[Q,a]at this;simp at this
 ·intro σ m hm;by_cases q:σ=τ
  ·subst q;rw[hu.at_]at hm;simp at hm;refine⟨{t with len:=t.len+n,own:=true},by simp[Gh.bt],hm,u,fun h=>by simp at h;omega,fun C=>⟨b,o,c',ty,O,a,p,by rw[J];exact F,fun j v f=>?_⟩⟩;simp only[Gh.bt,jW]at f;show j<o+(t.len+n)*t.sz;split at f
   ·rename_i e;rw[s];omega
   ·have:=i j v f;rw[s];omega
  ·rw[hu.other σ q]at hm;obtain⟨t0,e1,e2,e3⟩:=hi.dp σ m hm;refine⟨t0,by simp only[Gh.bt];rw[zad q];exact e1,e2,e3.cap,e3.zero,fun C=>?_⟩;obtain⟨r,o',S,I,f1,f2,f3,R,f5⟩:=e3.spare C;have H:r≠b:=by rintro rfl;rw[a]at f2;simp at f2;exact q f2.symm
   refine⟨r,o',S,I,f1,f2,(A.other r H).trans f3,R,fun j v f=>f5 j v ?_⟩;simp only[Gh.bt,jW]at f
   rwa [zad (by rintro⟨e,_⟩;exact H e)]at f
 ·intro σ t0 h;simp only[Gh.bt]at h;split at h
  ·rename_i e;subst e;simp at h;subst h;exact hu.at_
  ·rename_i e;rw[hu.other σ e];exact hi.gX σ t0 h
end
end Go.Ab
namespace Go.Ab
section
variable {P:Program} {ns:Names} {G:Gh} {w:World}
theorem wF(n:Nat):∀(r c:Nat),c<=2*n->256<=c->Builtin.growBy n r c<=2*n
 |0,c,h,_=>h
 |r+1,c,h,h2=>by
  simp only[Builtin.growBy];split
  ·exact h
  ·exact wF n r _ (by omega) (by omega)
theorem nextslicecap_le(n c:Nat)(h:c<n):Builtin.nextslicecap n c<=2*n:=by
 unfold Builtin.nextslicecap;split
 ·omega
 ·split
  ·omega
  ·exact wF n 4 c (by omega) (by omega)
theorem jX{els:List PV}{v:Value}{sz n:Nat}(k:∀b o u,G.K b o=some u->w.cell? ⟨b,o,none⟩=some u)(hr:Rel G.K (.aq els) v)(hs:a7 sz els=true)(hn:els.length=n):
   ∃c:List Value,(Builtin.firstCells sz n v).run P w=.ok c.toArray w∧c.length=n*sz ∧
     (∀(K':bo)(h o':Nat),G.K.le K'->At K' h o' c->Row K' h o' sz els)∧(∀u∈c,u.oneCell'=true):=by
 obtain⟨base,len,cap,rfl,_,g,f⟩:=cq.1 hr;by_cases d:els=[]
 ·subst d;simp at hn;subst hn;refine⟨[],?_,by simp,fun _ _ _ _ _=>by simp only[Row],by simp⟩;cases base with
  |none=>simp[Builtin.firstCells]
  |some a=>simp[Builtin.firstCells,loadCells,loadCellsFrom]
 ·obtain⟨b,o,i,rfl,e⟩:=f.resolve_left d;have:=e.sz hs d;subst this;obtain⟨c,g1,g2,l,g4⟩:=e.flat;refine⟨c,?_,by rw[g1,hn],l,g4⟩;have hl:=zbH (P:=P) w ⟨b,o,none⟩ c (fun j u hj=>by rw[Addr.e_];exact k _ _ _ (g2 j u hj));rw[g1,hn]at hl;simpa[Builtin.firstCells]using hl
theorem ga{argTypes:Array TypeId}{type t e e1 t1 sz:Nat}{base:Option Addr}{len cap n:Nat}{x:Value}{new:Array Value}{xb:Option Addr}{xc:Nat}(h0:argTypes[0]?=some t)(h1:argTypes[1]?=some t1)
   (hu:P.underlying t=some (.slice e)) (d:P.underlying t1=some (.slice e1)) (f:dk P e=some sz) (hx:x=.slice xb n xc)
   (b:(Builtin.firstCells sz n x).run P w=.ok new w) (c:len+n<=cap):
   (Builtin.append_ argTypes type #[.slice base len cap,x]).run P w =
     match base with
     |some a=>((storeCells (a.add (len*sz)) new.toList).run P w).andThen fun _ w'=>.ok (.slice base (len+n) cap) w'
     |none=>.ok (.slice base (len+n) cap) w:=by
 subst hx;cases base with
 |none=>simp[Builtin.append_,h0,h1,zaK hu,zaK d,d0 f,Builtin.lenOf,c,b]
 |some a=>simp[Builtin.append_,h0,h1,zaK hu,zaK d,d0 f,Builtin.lenOf,c,b]
theorem lN{argTypes:Array TypeId}{type t e e1 t1 sz b:Nat}{base:Option Addr}{len cap n:Nat}{x:Value}{aL new:Array Value}{xb:Option Addr}{xc:Nat}{z:List PV}(h0:argTypes[0]?=some t)(h1:argTypes[1]?=some t1)
   (hu:P.underlying t=some (.slice e)) (m:P.underlying t1=some (.slice e1)) (o:dk P e=some sz) (v:gT P e=some b) (B:cR P e=some z) (A:z.length=sz) (hx:x=.slice xb n xc)
   (d:∀w',w'=w.drew->(Builtin.firstCells sz len (.slice base len cap)).run P w'=.ok aL w') (f:∀w',w'=w.drew->(Builtin.firstCells sz n x).run P w'=.ok new w')
   (c:cap<len+n) (D:0<b) (h:(len+n)*b<=140737488355328):
   ∃(rest:Array Value)(a:Nat),len+n<=a∧rest.size=(a-(len+n))*sz ∧
     (Builtin.append_ argTypes type #[.slice base len cap,x]).run P w =
       .ok (.slice (some ⟨w.heap.size,0,none⟩) (len+n) a) (w.drew.alloc (.cells (aL++new++rest) e)):=by
 subst hx;obtain⟨i,hi,s,q⟩:=rj v w
 have g:¬Builtin.nextslicecap (len+n) cap*i.bytes > 2 ^ 48:=by
  have h1:=nextslicecap_le (len+n) cap c;have h2:Builtin.nextslicecap (len+n) cap*i.bytes<=2*(len+n)*i.bytes:=zaH _ h1;have h3:2*(len+n)*i.bytes=2*((len+n)*b):=(by rw[s,Nat.mul_assoc]);rw[h3]at h2;have:(2:Nat)^48=281474976710656:=(by decide);omega
 have p:(Question.appendCap (len+n) cap e).forced=false:=rfl;have r:∀w',(typeInfo e).run P w'=.ok i w':=fun w'=>by simp[typeInfo,hi]
 obtain⟨y,j,l⟩:=iK (P:=P) (w:=w.drew) B;have k:y.cells.size=sz:=by have:=ja l;simp at this;omega
 refine⟨Builtin.zeroCells y.cells ((Question.appendCap (len+n) cap e).cut (w.tape w.drawn (.appendCap (len+n) cap e))-(len+n)),(Question.appendCap (len+n) cap e).cut (w.tape w.drawn (.appendCap (len+n) cap e)),?_,?_,?_⟩
 ·simp only[Question.cut];omega
 ·simp[Builtin.zeroCells,k]
 ·have C:=d w.drew rfl;have hn:=f w.drew rfl;have u:i.bytes≠0:=(by omega);simp[Builtin.append_,h0,h1,zaK hu,zaK m,d0 o,Builtin.lenOf,Nat.not_le.2 c,r,u,g,p];simp only[C,hn,j,zag];rfl
theorem mP{x:AV}{v:Value}{els:List PV}(h:db x=some els)(hr:aD (num ns) G x v):∃xb xc,v=.slice xb els.length xc:=by
 obtain⟨b,l,c,rfl,_,hl,_⟩:=cq.1 (fm h hr);exact⟨b,c,by rw[hl]⟩
theorem C7{c:Call}{A:mA}{dst:Option Nat}{args:List Operand}{sz b:Nat}(h:bS P ns A dst (.call c)=some (.append sz b,args)):
   ∃x y t e t1 e1 z,c.callee=.builtin .append∧c.args=#[x,y]∧args=[x,y]∧c.argTypes[0]?=some t∧c.argTypes[1]?=some t1∧P.underlying t=some (.slice e)∧
     P.underlying t1=some (.slice e1)∧dk P e=some sz∧gT P e=some b∧cR P e=some z∧z.length=sz∧0<sz∧0<b:=by
 obtain⟨callee,j,g⟩:=c;simp only[bS]at h;split at h
 ·split at h<;>simp at h
 ·split at h<;>simp at h
 ·split at h<;>simp at h
 ·rename_i k;split at h
  ·rename_i x y e e1 o f a;split at h
   ·rename_i l p z hs n m;rw[zab]at h;obtain⟨⟨h1,h2,h3⟩,h⟩:=h;split at h
    ·simp at h
    split at h
    ·simp at h
    simp only[zae,zav,AK.append.injEq]at h;obtain⟨⟨rfl,rfl⟩,rfl⟩:=h;simp only[zaz]at f a;obtain⟨t,f,i⟩:=f;obtain⟨t1,a,d⟩:=a;exact⟨x,y,t,e,t1,e1,z,rfl,by apply zby;simpa using o,rfl,f,a,eS i,eS d,hs,n,m,h1,h2,h3⟩
   ·simp at h
  ·simp at h
 ·split at h
  ·split at h
   ·split at h<;>simp at h
   ·simp at h
  ·simp at h
 ·split at h
  ·split at h<;>simp at h
  ·simp at h
 ·split at h
  ·split at h
   ·(repeat' (split at h))<;>simp at h
   ·split at h
    ·simp at h
    ·split at h
     ·simp at h
     ·split at h<;>simp at h
  ·simp at h
 ·split at h<;>simp at h
 ·simp at h
theorem Ai{c:Call}{A:mA}{dst:Option Nat}{args:List Operand}{sz b:Nat}{ag:Bool}(h:bS P ns A dst (.call c)=some (.dN sz b ag,args)):
   ∃x y t e t1 e1 z,c.callee=.builtin .append∧c.args=#[x,y]∧args=[x,y]∧c.argTypes[0]?=some t∧c.argTypes[1]?=some t1∧P.underlying t=some (.slice e)∧
     P.underlying t1=some (.slice e1)∧dk P e=some sz∧gT P e=some b∧cR P e=some z∧z.length=sz∧0<sz∧0<b:=by
 obtain⟨callee,j,g⟩:=c;simp only[bS]at h;split at h
 ·split at h<;>simp at h
 ·split at h<;>simp at h
 ·split at h<;>simp at h
 ·rename_i k;split at h
  ·rename_i x y e e1 p f a;split at h
   ·rename_i l q z hs n m;rw[zab]at h;obtain⟨⟨h1,h2,h3⟩,h⟩:=h;split at h
    ·simp only[zac,zav,AK.dN.injEq]at h;obtain⟨r,o,⟨rfl,rfl,rfl⟩,rfl⟩:=h;simp only[zaz]at f a;obtain⟨t,f,i⟩:=f;obtain⟨t1,a,d⟩:=a;exact⟨x,y,t,e,t1,e1,z,rfl,by apply zby;simpa using p,rfl,f,a,eS i,eS d,hs,n,m,h1,h2,h3⟩
    ·split at h<;>simp at h
   ·simp at h
  ·simp at h
 ·split at h
  ·split at h
   ·split at h<;>simp at h
   ·simp at h
  ·simp at h
 ·split at h
  ·split at h<;>simp at h
  ·simp at h
 ·split at h
  ·split at h
   ·(repeat' (split at h))<;>simp at h
   ·split at h
    ·simp at h
    ·split at h
     ·simp at h
     ·split at h<;>simp at h
  ·simp at h
 ·split at h<;>simp at h
 ·simp at h
theorem Pr{K:bo}{els:List PV}{base:Option Addr}{len sz:Nat}(h:Rx K els base len)(hs:a7 sz els=true):els=[]∨∃b o,base=some ⟨b,o,none⟩∧Row K b o sz els:=by
 rcases h.2 with h1|⟨b,o,a,e,hr⟩
 ·exact .inl h1
 ·by_cases hn:els=[]
  ·exact .inl hn
  ·have:=hr.sz hs hn;subst this;exact .inr ⟨b,o,e,hr⟩
theorem H6{mem:List (Nat×List AV)}{sh:Sh}{aa toks':aG}(hi:Inv (num ns) G w mem sh aa){τ:Nat}{l xs:List PV}{sz a:Nat}{aL new:List Value}{rest:Array Value}(e:TypeId)
   (i:aL.length=l.length*sz) (hn:new.length=xs.length*sz) (m:∀(K':bo)(h o':Nat),G.K.le K'->At K' h o' aL->Row K' h o' sz l)
   (n:∀(K':bo)(h o':Nat),G.K.le K'->At K' h o' new->Row K' h o' sz xs) (d:l.length+xs.length<=a) (hr:rest.size=(a-(l.length+xs.length))*sz) (h0:0<xs.length)
   (hu:oH G aa toks' τ (l.length+xs.length)) (o:∀t0,G.tk τ=some t0->¬t0.dead∧t0.cap<l.length+xs.length):
   ∃G',aD (num ns) G' (.own (l++xs) τ) (.slice (some ⟨w.heap.size,0,none⟩) (l.length+xs.length) a)∧
     Inv (num ns) G' (w.alloc (.cells (aL.toArray++new.toArray++rest) e)) mem sh toks'∧G.le G'∧bL G w G' (w.alloc (.cells (aL.toArray++new.toArray++rest) e)):=by
 let t:Tk:={base:=some ⟨w.heap.size,0,none⟩,len:=l.length+xs.length,cap:=a,sz:=sz,own:=true}
 have k:(aL.toArray++new.toArray++rest).size=a*sz:=by
  simp[i,hn,hr];have:a=(l.length+xs.length)+(a-(l.length+xs.length)):=by omega
  conv=>rhs;rw[this,zaD,zaD]
 obtain⟨h1,h2,h3⟩:=hi.grow (t:=t) (c:=aL.toArray++new.toArray++rest) e rfl (by rw[k];exact zaj _) d (by show 0<l.length+xs.length;omega) hu o;refine⟨_,?_,h1,h2,h3⟩
 have g:At (jV G w.heap.size (t.len*t.sz) (aL.toArray++new.toArray++rest)) w.heap.size 0 (aL++new):=by
  intro j v hj;have f:=(zaa.1 hj).1;simp only[zan,i,hn]at f;simp only[jV,za0,zbB];rw[zak (by show j<(l.length+xs.length)*sz;rw[zaD];exact f)];rw[zc1 (by simp[i,hn];exact f)];simpa using hj
 have b:Row (jV G w.heap.size (t.len*t.sz) (aL.toArray++new.toArray++rest)) w.heap.size 0 sz (l++xs):=by
  refine Row.append (m _ _ _ h2.K fun j v hj=>g j v ?_) (n _ _ _ h2.K fun j v hj=>?_)
  ·rw[zal (zaa.1 hj).1];exact hj
  ·have:=g (l.length*sz+j) v (by rw[zaL (by omega),i,zco];exact hj)
   rwa [zbB,<-zbB (l.length*sz+j),<-zbp]at this
 simp only[aD];refine⟨t,by simp[Gh.bt],⟨by simp[t],t.sV⟩,cq.2 ⟨_,_,_,rfl,d,by simp,.inr ⟨_,_,_,rfl,b⟩⟩,fun _=>⟨rfl,.inr ⟨_,_,rfl,b⟩⟩⟩
theorem C8{ρ:bU}{mem:List (Nat×List AV)}{sh:Sh}{aa:aG}(hi:Inv ρ G w mem sh aa)(n:Nat):oH G aa (aa++[n]) aa.length n:=by
 refine⟨by simp,fun σ a=>?_,fun t h=>?_⟩
 ·rcases zbv σ aa.length with h|h
  ·rw[zal h]
  ·rw[zaV (by simp;omega),zaV h]
 ·have:=hi.gX _ t h;rw[zaV (zaj _)]at this;simp at this
theorem xW{argTypes:Array TypeId}{type t e e1 t1 sz R:Nat}{z:List PV}{s x y:AV}{vs vx:Value}{mem:List (Nat×List AV)}{sh:Sh}{aa toks':aG}
   (h0:argTypes[0]?=some t) (h1:argTypes[1]?=some t1)
   (hu:P.underlying t=some (.slice e)) (H:P.underlying t1=some (.slice e1)) (I:dk P e=some sz) (aO:gT P e=some R) (hz:cR P e=some z) (ay:z.length=sz) (b2:0<R)
   (hs:aD (num ns) G s vs) (hx:aD (num ns) G x vx) (hi:Inv (num ns) G w mem sh aa) (h:bZ sz R s x aa=some (y,toks')):
   ∃v w' G',(Builtin.append_ argTypes type #[vs,vx]).run P w=.ok v w'∧aD (num ns) G' y v∧Inv (num ns) G' w' mem sh toks'∧G.le G'∧bL G w G' w':=by
 unfold bZ at h;split at h
 ·simp at h
 ·rename_i xs ac;simp only[zab]at h;obtain⟨Y,h⟩:=h;obtain⟨xb,xc,rfl⟩:=mP ac hx;have W:=fm ac hx;have D:∀w',w'=w.drew->∀b o u,G.K b o=some u->w'.cell? ⟨b,o,none⟩=some u:=fun w' e b o u hk=>by subst e;exact hi.known b o u hk
  obtain⟨new,S,T,n3,n4⟩:=jX (P:=P) hi.known W Y rfl
  have ao:∀w',w'=w.drew->(Builtin.firstCells sz xs.length (.slice xb xs.length xc)).run P w'=.ok new.toArray w':=by
   intro w' e;obtain⟨F,U,_,_⟩:=jX (P:=P) (D w' e) W Y rfl;have V:(Builtin.firstCells sz xs.length (.slice xb xs.length xc)).run P w'=.ok F.toArray w':=U
   have:F=new:=by
    subst e;obtain⟨base,len,cap,e1,_,f,m⟩:=cq.1 W;cases e1;by_cases L:xs=[]
    ·subst L;have a1:new=[]:=by apply zbc;simpa using T
     have a2:F=[]:=by
      cases xb with
      |none=>simpa[Builtin.firstCells]using U.symm
      |some a=>simpa[Builtin.firstCells,loadCells,loadCellsFrom]using U.symm
     rw[a1,a2]
    ·obtain⟨b,o,b8,e2,i⟩:=m.resolve_left L;cases e2;have:=i.sz Y L;subst this;obtain⟨a3,g1,g2,_,_⟩:=i.flat;have l1:=zbH (P:=P) w ⟨b,o,none⟩ a3 (fun j u hj=>by rw[Addr.e_];exact hi.known _ _ _ (g2 j u hj));have l2:=zbH (P:=P) w.drew ⟨b,o,none⟩ a3 (fun j u hj=>by rw[Addr.e_];exact hi.known _ _ _ (g2 j u hj));rw[g1]at l1 l2;simp only[Builtin.firstCells]at S U;rw[l1]at S;rw[l2]at U;simp at S U;rw[<-S,<-U]
   rw[V,this]
  have N:∀(l:List PV)(base:Option Addr)(cap τ:Nat),Rel G.K (.aq l) (.slice base l.length cap)->a7 sz l=true->cap<l.length+xs.length->(l.length+xs.length)*R<=140737488355328->
      oH G aa toks' τ (l.length+xs.length)->(∀t0,G.tk τ=some t0->¬t0.dead∧t0.cap<l.length+xs.length)->y=.own (l++xs) τ->
      ∃v w' G',(Builtin.append_ argTypes type #[.slice base l.length cap,.slice xb xs.length xc]).run P w=.ok v w'∧aD (num ns) G' y v∧Inv (num ns) G' w' mem sh toks'∧G.le G'∧bL G w G' w':=by
    intro l base cap τ aj C d g q hg hy;obtain⟨aL,o1,o2,o3,o4⟩:=jX (P:=P) (w:=w.drew) (D _ rfl) aj C rfl
    obtain⟨rest,an,p1,p2,p3⟩:=lN (type:=type) (aL:=aL.toArray) (new:=new.toArray) h0 h1 hu H I aO hz ay (base:=base) (len:=l.length) (cap:=cap) (n:=xs.length) (xb:=xb) (xc:=xc) rfl
      (fun w' e=>by subst e;exact o1) ao d b2 g
    have J:0<xs.length:=by
     rcases Nat.eq_zero_or_pos xs.length with ab|ab
     ·have:=(cq.1 aj);obtain⟨b',l',c',e',ba,f,_⟩:=this;cases e';omega
     ·exact ab
    obtain⟨G',q1,q2,q3,q4⟩:=H6 (ns:=ns) (w:=w.drew) hi.drew e o2 T o3 n3 p1 p2 J q hg;exact⟨_,_,G',p3,by rw[hy];exact q1,q2,q3,(bL.drew G w).trans q4⟩
  split at h
  ·-- a slice Z a5 to spare
   rename_i l;split at h
   ·rename_i am;have p:xs=[]:=zcP.1 am;subst p;simp only[zae,zav]at h;obtain⟨rfl,rfl⟩:=h;have O:=hs;simp only[aD]at hs;obtain⟨base,len,rfl,E⟩:=hs;have f:=E.1;subst f;have A:new=[]:=by apply zbc;simpa using T
    subst A;have k:=ga (type:=type) h0 h1 hu H I (base:=base) (len:=l.length) (cap:=l.length) (n:=0) (xb:=xb) (xc:=xc) rfl S (by omega);refine⟨.slice base l.length l.length,w,G,?_,O,hi,G.le_refl,bL.refl G w⟩;refine zcD k ?_;cases base<;>simp[storeCells]
   simp only[zab,zae,zav]at h;obtain⟨⟨C,g⟩,rfl,rfl⟩:=h;have O:=hs;simp only[aD]at hs;obtain⟨base,len,rfl,E⟩:=hs;have f:=E.1;subst f;have B:(l++xs).length=l.length+xs.length:=by simp
   have q:oH G aa (aa++[(l++xs).length]) aa.length (l.length+xs.length):=by
    rw[B];exact C8 hi (l.length+xs.length)
   have ad:G.tk aa.length=none:=by
    cases hh:G.tk aa.length with
    |none=>rfl
    |some t0=>have:=hi.gX _ t0 hh;rw[zaV (zaj _)]at this;simp at this
   by_cases X:xs.length=0
   ·have p:xs=[]:=by cases xs with|nil=>rfl|cons _ _=>simp at X
    subst p;have A:new=[]:=by apply zbc;simpa using T
    subst A;have k:=ga (type:=type) h0 h1 hu H I (base:=base) (len:=l.length) (cap:=l.length) (n:=0) (xb:=xb) (xc:=xc) rfl S (by omega);let tk:Tk:={base,len:=l.length,cap:=l.length,sz};obtain⟨g1,g2,g3⟩:=hi.Pq (τ:=aa.length) (t:=tk) (toks':=aa++[(l++[]).length]) rfl rfl ad q.at_ q.other;refine⟨.slice base l.length l.length,w,_,?_,?_,g1,g2,g3⟩
    ·refine zcD k ?_;cases base<;>simp[storeCells]
    ·simp only[aD];refine⟨tk,by simp[Gh.bt],⟨by simp[tk],tk.sV⟩,?_,fun _=>⟨rfl,?_⟩⟩
     ·simp only[zaM];exact cq.2 ⟨_,_,_,rfl,zaj _,E⟩
     ·simp only[zaM];exact Pr E C
   ·exact N l base l.length aa.length (cq.2 ⟨_,_,_,rfl,zaj _,E⟩) C (by omega) g q (fun t0 h=>by rw[ad]at h;cases h) rfl
  ·-- a slice b5 bb b9 a5 to spare to itself
   rename_i l τ;simp only[zab,zae,zav]at h;obtain⟨⟨r,C,g⟩,rfl,rfl⟩:=h;have O:=hs;simp only[aD]at hs;obtain⟨tk,e1,e2,e3,e4⟩:=hs
   have f:l.length=tk.len:=by
    have:=hi.gX τ tk e1;rw[r]at this;simpa using this
   obtain⟨hv,i⟩:=e4 f;obtain⟨b7,f1,f2,f3⟩:=hi.dp τ _ r;rw[e1]at f1;cases f1;have B:(l++xs).length=l.length+xs.length:=by simp
   obtain⟨base,b4,cap,b6,a4⟩:=tk;simp only[Tk.val]at hv f f2 f3;subst hv;subst f;by_cases X:xs.length=0
   ·have p:xs=[]:=by cases xs with|nil=>rfl|cons _ _=>simp at X
    subst p;have A:new=[]:=by apply zbc;simpa using T
    subst A;have k:=ga (type:=type) h0 h1 hu H I (base:=base) (len:=l.length) (cap:=cap) (n:=0) (xb:=xb) (xc:=xc) rfl S (by have:=f3.cap;simpa using this)
    have ai:aa.set τ (l++([]:List PV)).length=aa:=by
     apply zb1
     intro j;rw[zaA];split
     ·rename_i e;subst e;have:=(zaa.1 r);obtain⟨Q,_⟩:=this;rw[zak Q,r];simp
     ·rfl
    rw[ai];refine⟨.slice base l.length cap,w,G,?_,?_,hi,G.le_refl,bL.refl G w⟩
    ·refine zcD k ?_;cases base<;>simp[storeCells]
    ·simpa using O
   ·have J:0<xs.length:=by omega
    have q:oH G aa (aa.set τ (l++xs).length) τ (l.length+xs.length):=by
     rw[B];have Q:=(zaa.1 r).1;refine⟨by rw[zaA];simp[Q],fun σ ax=>by rw[zaA,zad (zbK ax)],fun t0 h=>?_⟩;rw[e1]at h;cases h;simp;omega
    rcases zbv cap (l.length+xs.length)with d|d
    ·refine N l base cap τ e3 C d g q (fun t0 h=>?_) rfl;rw[e1]at h;cases h;refine⟨?_,d⟩
     rintro⟨d1,d2⟩
     rcases i with rfl|⟨b,o,e,_⟩
     ·simp at d2
     ·rw[d1]at e;cases e
    ·have al:l≠[]:=by
      rintro rfl
      have:=f3.zero rfl;simp at this d;omega
     obtain⟨b,o,M,i⟩:=i.resolve_left al;simp only at M;subst M;have:=i.sz C al;subst this;obtain⟨b',o',c,ty,p1,p2,p3,p4,p5⟩:=f3.spare (.inl (by simp;omega));simp only[zae,Addr.mk.injEq]at p1;obtain⟨rfl,rfl,_⟩:=p1;simp only at p4 p5;have ak:(l.length+xs.length)*sz<=cap*sz:=zaH _ d;rw[zaD]at ak;have K8:=zcm (P:=P) b (o+l.length*sz) ty new 0 c w p3 (by rw[T];omega) n4;have k:=ga (type:=type) h0 h1 hu H I (base:=some ⟨b,o,none⟩) (len:=l.length) (cap:=cap) (n:=xs.length) (xb:=xb) (xc:=xc) rfl S d;simp only[zbN]at K8;obtain⟨g1,g2,g3⟩:=hi.fill (t:=⟨some ⟨b,o,none⟩,l.length,cap,sz,a4⟩) (n:=xs.length) e1 rfl p2 p3 p4 p5 T J d rfl q;refine⟨.slice (some ⟨b,o,none⟩) (l.length+xs.length) cap,_,_,?_,?_,g1,g2,g3⟩
     ·refine zcD k ?_;simp only[Addr.e_,K8,zag]
     ·have b3:At (jW G b (o+l.length*sz) new) b (o+l.length*sz) new:=by
       intro j v hj;have Q:=(zaa.1 hj).1;simp only[jW];rw[zak ⟨trivial,by omega,by omega⟩,zco];exact hj
      have m:Row (jW G b (o+l.length*sz) new) b o sz (l++xs):=Row.append (Row.mono g2.K _ _ _ _ i) (n3 _ _ _ g2.K b3);simp only[aD];exact⟨⟨some ⟨b,o,none⟩,l.length+xs.length,cap,sz,true⟩,by simp[Gh.bt],⟨by simp,Tk.sV _⟩,cq.2 ⟨_,_,_,rfl,d,by simp,.inr ⟨_,_,_,rfl,m⟩⟩,fun _=>⟨rfl,.inr ⟨_,_,rfl,m⟩⟩⟩
  ·simp at h
end
end Go.Ab
namespace Go.Ab
section
variable {P:Program} {ns:Names} {G:Gh} {w:World}
theorem H7{ρ:bU}{x:AV}{v:Value}(h:aD ρ G x v)(hl:aZ x=true):v.oneCell'=true:=by
 cases x with
 |pv p=>
  simp only[aD]at h;cases p with
  |agg _=>simp[aZ]at hl
  |aq _=>obtain⟨b,l,c,rfl,_⟩:=cq.1 h;rfl
  |bool _=>rw[jT]at h;subst h;rfl
  |int _ _=>rw[iX]at h;subst h;rfl
  |str _=>rw[nr]at h;subst h;rfl
 |cQ _=>simp only[aD]at h;obtain⟨_,_,rfl,_⟩:=h;rfl
 |own _ _=>simp only[aD]at h;obtain⟨_,_,_,h,_⟩:=h;obtain⟨b,l,c,rfl,_⟩:=cq.1 h;rfl
 |aI _ _=>simp only[aD]at h;obtain⟨_,_,rfl⟩:=h;rfl
 |bh _ _ _ _=>simp only[aD]at h;obtain⟨_,_,_,rfl,_⟩:=h;rfl
 |fn _ _=>simp only[aD]at h;obtain⟨_,_,_,rfl,_⟩:=h;rfl
 |ic=>simp only[aD]at h;rcases h with rfl|rfl<;>rfl
 |jN _=>simp only[aD]at h;obtain⟨_,_,rfl⟩:=h;rfl
 |fM _=>simp only[aD]at h
 |_=>simp[aZ]at hl
theorem lO{ρ:bU}:∀{xs:List AV}{vs:List Value},aB ρ G xs vs->xs.all aZ=true->∀u∈vs,u.oneCell'=true
 |[],_,h,_,u,hu=>by simp only[aB]at h;subst h;simp at hu
 |x::xs,_,h,hl,u,hu=>by
  simp only[aB]at h;obtain⟨v,r,rfl,e1,e2⟩:=h;simp only[zaS,zaf]at hl;simp only[zah]at hu;rcases hu with rfl|hu
  ·exact H7 e1 hl.1
  ·exact lO e2 hl.2 u hu
theorem lP{xs:List AV}(h:xs.all dO=true):xs.all aZ=true:=by
 rw[zaq]at*;intro x hx;have:=h x hx;cases x<;>simp_all[dO,aZ,bJ]
def VJ(ns:Names)(P:Program)(G:Gh)(w:World)(mem:List (Nat×List AV))(sh:Sh)(aa:aG)(s:Sem Next)(x:AV):Prop:=
 ∃n v w' G',s.run P w=.ok n w'∧(n=.value v∨(n=.skip∧v=undef))∧aD (num ns) G' x v∧Inv (num ns) G' w' mem sh aa∧G.le G'∧bL G w G' w'
theorem pw{t sz b off:Nat}{v:Value}{c:Array Value}{ty:TypeId}(a:dk P t=some sz)(d:v.cells.size=sz)(e:w.heap[b]?=some (.cells c ty (0,0)))
   (hl:off+sz<=c.size) (h1:∀u∈v.cells.toList,u.oneCell'=true):
   (storeVar t ⟨b,off,none⟩ v).run P w=.ok () (w.setRow b (c.toList.take off++v.cells.toList++c.toList.drop (off+v.cells.toList.length)).toArray):=by
 have:=zcm (P:=P) b off ty v.cells.toList 0 c w e (by simp[d];omega) h1;simp only[zbN]at this;simp only[storeVar,zau,d0 a,zag];rw[zad (by simp[d])];simpa using this
theorem jY{t:TypeId}{v:Value}:(newVar t v).run P w=.ok ⟨w.heap.size,0,none⟩ (w.alloc (.cells v.cells t)):=rfl
theorem lQ{ρ:bU}:∀{xs:List AV}{vs:List Value},vs.length=xs.length->(∀(j:Nat)(x:AV)(v:Value),xs[j]?=some x->vs[j]?=some v->aD ρ G x v)->aB ρ G xs vs
 |[],vs,hl,_=>by
  have:vs=[]:=by cases vs<;>simp_all
  subst this;simp[aB]
 |x::xs,[],hl,_=>by simp at hl
 |x::xs,v::vs,hl,h=>by
  simp only[aB];exact⟨v,vs,rfl,h 0 x v rfl rfl,lQ (by simpa using hl) fun j y u hy hu=>h (j+1) y u (by simpa using hy) (by simpa using hu)⟩
theorem fu{α:Type}(l:List α):∀(n j:Nat),j<n*l.length->(List.replicate n l).flatten[j]?=l[j % l.length]?
 |0,j,h=>by simp at h
 |n+1,j,h=>by
  rw[zbn,zcN];by_cases hj:j<l.length
  ·rw[zal hj,Nat.mod_eq_of_lt hj]
  ·rw[zaL (by omega),fu l n (j-l.length) (by rw[zaD]at h;omega)];congr 1;exact(Nat.mod_eq_sub_mod (by omega)).symm
theorem H8{n:Int}(h0:0<=n)(h1:n<=9223372036854775807):IntKind.i64.wrap n=n:=by
 unfold IntKind.wrap;have e1:(2:Int) ^ IntKind.i64.bits=18446744073709551616:=by decide
 have e2:(2:Int) ^ (IntKind.i64.bits-1)=9223372036854775808:=by decide
 have e3:IntKind.i64.signed=true:=rfl;simp only[e1,e2,e3];have:n % 18446744073709551616=n:=Int.emod_eq_of_lt h0 (by omega);simp only[this];rw[zad];simp;omega
theorem oI{ρ:bU}:∀{l:List Value}{z:List PV},dm de l=some z->aB ρ G (z.map .pv) l∧(z.map AV.pv).all dO=true
 |[],_,h=>by simp[dm]at h;subst h;simp[aB]
 |v::l,z,h=>by
  simp only[dm]at h;split at h
  ·rename_i y b h1 h2;simp at h;subst h;obtain⟨g1,g2⟩:=oI (ρ:=ρ) h2;obtain⟨a,g4⟩:=lM (K:=G.K) h1;have g5:dO (.pv y)=true:=by cases y<;>simp_all[dO,aZ,i6]
   simp only[zao,aB,zaS,g5,g2,zcJ,and_true];exact⟨v,l,rfl,by simp only[aD];exact Rel.U' a,g1⟩
  ·simp at h
theorem Gw(n:Nat)(z:List PV):(z.map AV.pv).all (aK n)=true:=by
 rw[zaq];intro x hx;simp only[zat]at hx;obtain⟨p,_,rfl⟩:=hx;simp[aK]
theorem H9(n:Nat)(z:List PV):(z.map bw.zeroCell).all (aK n)=true:=by
 rw[zaq];intro x hx;simp only[zat]at hx;obtain⟨p,_,rfl⟩:=hx;unfold bw.zeroCell;split<;>simp[aK]
end
mutual
theorem rD{n m:Nat}(h:n<=m):∀{x:AV},aK n x=true->aK m x=true
 | .un,_=>by simp[aK]
 | .pv _,_=>by simp[aK]
 | .cQ _,_=>by simp[aK]
 | .own ..,_=>by simp[aK]
 | .ic,_=>by simp[aK]
 | .dQ _,_=>by simp[aK]
 | .aI b _,hx=>by simp[aK]at hx⊢;omega
 | .bh b _ _ _,hx=>by simp[aK]at hx⊢;omega
 | .fn _ cap,hx=>by simp only[aK]at hx⊢;exact lR h hx
 | .agg cs,hx=>by simp only[aK]at hx⊢;exact lR h hx
 | .au ..,hx=>by simp[aK]at hx
 | .qj _,hx=>by simp[aK]at hx
 | .jN b,hx=>by simp[aK]at hx⊢;omega
 | .fM _,_=>by simp[aK]
 | .ql ..,hx=>by simp[aK]at hx
theorem lR{n m:Nat}(h:n<=m):∀{xs:List AV},aK.cz n xs=true->aK.cz m xs=true
 |[],_=>by simp[aK.cz]
 |x::xs,hx=>by
  simp only[aK.cz,zaf]at hx⊢;exact⟨rD h hx.1,lR h hx.2⟩
end
theorem jC{n m:Nat}(h:n<=m){xs:List AV}(hx:xs.all (aK n)=true):xs.all (aK m)=true:=by
 rw[zaq]at*;exact fun x hm=>rD h (hx x hm)
section
variable {P:Program} {ns:Names} {G:Gh} {w:World}
theorem rE{ρ:bU}{k:IntKind}{n:Int}{v:Value}(h:aD ρ G (.pv (.int k n)) v):v=.int k n:=by
 simp only[aD]at h;exact iX.1 h
theorem Aj{t e sz B:Nat}{ag:Bool}{z:List PV}{k k':IntKind}{n:Int}{mem:List (Nat×List AV)}{sh:Sh}{aa:aG}(hu:P.underlying t=some (.slice e))(E:dk P e=some sz)
   (M:gT P e=some B) (Q:cR P e=some z) (b:z.length=sz) (F:0<sz) (h0:0<=n) (h1:n<=9223372036854775807) (h2:n*B<=140737488355328) (hi:Inv (num ns) G w mem sh aa):
   ∃v w' G',(Instr.makeSlice t (.int k n) (.int k' n)).run P w=.ok v w'∧aD (num ns) G' (.bh sh.length sz n.toNat ag) v ∧
     Inv (num ns) G' w' mem (sh++[some ((List.replicate n.toNat (z.map .pv)).flatten)]) aa∧G.le G'∧bL G w G' w':=by
 obtain⟨i,K,L,I⟩:=rj M w;obtain⟨f,D,q⟩:=iK (P:=P) (w:=w) Q;have p:f.cells.size=sz:=by have:=ja q;simp at this;omega
 obtain⟨zr,zl⟩:=oI (G:=G) (ρ:=num ns) q;let o:Array Value:=if n.toNat*sz=0 then #[]else f.cells;let c:Array Value:=(Array.range (n.toNat*sz)).map (o[· % o.size]!);have hw:IntKind.i64.wrap n=n:=H8 h0 h1;have C:(i.bytes:Int)*n<=281474976710656:=by rw[L,Int.mul_comm];omega
 have O:((List.replicate n.toNat (z.map AV.pv)).flatten).length=n.toNat*sz:=by simp[b]
 have r:aB (num ns) G ((List.replicate n.toNat (z.map .pv)).flatten) c.toList:=by
  refine lQ (by simp[c,b]) fun j x v hx m=>?_;have u:j<n.toNat*sz:=by have:=(zaa.1 hx).1;omega
  rw[fu _ _ _ (by simpa[b]using u)]at hx;have H:¬n.toNat*sz=0:=by omega
  have a:o=f.cells:=zad H;obtain⟨N,g1,g2⟩:=zr.get hx
  have:v=N:=by
   simp only[c,a,zcu,zbw,Array.toList_range,zac]at m;obtain⟨T,y,m⟩:=m;rw[List.getElem?_range u]at y;cases y;simp only[zaT,b]at g1;rw[p]at m;have hm:j % sz<f.cells.size:=by rw[p];exact Nat.mod_lt _ F
   rw[getElem!_pos f.cells (j % sz) hm]at m;have h:f.cells[j % sz]?=some N:=by simpa using g1
   rw[zbS hm]at h;simp at h;rw[<-m,h]
  subst this;exact g2
 have A:((List.replicate n.toNat (z.map AV.pv)).flatten).all dO=true:=by
  rw[zaq]at*;intro x hx;simp only[zb7,zbD]at hx;obtain⟨l,⟨_,rfl⟩,hx⟩:=hx;exact zl x hx
 have s:((List.replicate n.toNat (z.map AV.pv)).flatten).all (aK (sh.length+1))=true:=by
  have:=Gw (sh.length+1) z;rw[zaq]at*;intro x hx;simp only[zb7,zbD]at hx;obtain⟨l,⟨_,rfl⟩,hx⟩:=hx;exact this x hx
 obtain⟨g1,g2,S⟩:=hi.pq (cells:=(List.replicate n.toNat (z.map .pv)).flatten) (c:=c) e r A s;refine⟨.slice (some ⟨w.heap.size,0,none⟩) n.toNat n.toNat,_,_,?_,?_,g1,g2,S⟩
 ·have hp:(2:Int) ^ 48=281474976710656:=by decide
  have R:(decide (n<0)|| decide ((i.bytes:Int)*n > 2 ^ 48))=false:=by
   rw[hp];simp;omega
  have J:∀w',(typeInfo e).run P w'=.ok i w':=fun w'=>by simp[typeInfo,K]
  have g:¬((decide (n<0)|| decide ((i.bytes:Int)*n > 2 ^ 48))|| decide (n<0)|| decide (n > n))=true:=by
   rw[R];simp;omega
  simp only[Instr.makeSlice,zau,zaK hu,zag,asInt,asIntOf,zaB,J,hw];rw[zad g];simp only[zau,run_askRoom,zag,d0 E];by_cases d:n.toNat*sz=0
  ·rw[zak d];simp only[zau,zaB,zag];have a:o=#[]:=zak d;simp only[c,a];rfl
  ·rw[zad d];simp only[zau,zaB,D,zag];have a:o=f.cells:=zad d;simp only[c,a];rfl
 ·simp only[aD];exact⟨(w.heap.size,c.size),0,by simp[Gh.df],rfl,by simp[c]⟩
end
end Go.Ab
namespace Go.Ab
section
variable {P:Program} {ns:Names} {G:Gh} {w:World}
theorem qx{K:bo}:∀{cs:List PV}{vs:List Value},dJ K cs vs->∀p∈cs,i6 p=true
 |[],_,_,p,hp=>by simp at hp
 |c::cs,_,h,p,hp=>by
  simp only[dJ]at h;obtain⟨v,r,rfl,e2,e3⟩:=h;simp only[zah]at hp;rcases hp with rfl|hp
  ·cases p with
   |agg _=>simp[R]at e2
   |_=>rfl
  ·exact qx e3 p hp
theorem Row.Ao{K:bo}:∀{els:List PV}{b o sz:Nat},Row K b o sz els->
   ∃a:List Value,a.length=els.length*sz∧At K b o a∧dJ K (els.flatMap a9) a∧∀u∈a,u.oneCell'=true
 |[],b,o,sz,_=>⟨[],by simp,by intro j v h;simp at h,by simp[dJ],by simp⟩
 |el::r,b,o,sz,hr=>by
  simp only[Row]at hr;obtain⟨⟨vs,h1,h2,h3⟩,h4⟩:=hr;obtain⟨a,g1,g2,c,g4⟩:=Row.Ao h4;refine⟨vs++a,by simp[h1,g1,zaD];omega,?_,by rw[zas];exact dJ.append h3.cells c,?_⟩
  ·intro j v hj;rw[zbx]at hj;split at hj
   ·exact h2 j v hj
   ·have:=g2 _ v hj;rw[h1]at this
    rwa [show o+sz+(j-sz)=o+j from by omega]at this
  ·intro u hu;simp only[zai]at hu;rcases hu with hu|hu
   ·exact dJ.one h3.cells u hu
   ·exact g4 u hu
theorem qy{els:List PV}{base:Option Addr}{cap:Nat}{sz:Nat}(hr:Rel G.K (.aq els) (.slice base els.length cap))(hs:a7 sz els=true):
   ∃c:List Value,c.length=els.length*sz∧dJ G.K (els.flatMap a9) c∧(∀u∈c,u.oneCell'=true)∧
     ∀w:World,(∀b o u,G.K b o=some u->w.cell? ⟨b,o,none⟩=some u)->(Builtin.firstCells sz els.length (.slice base els.length cap)).run P w=.ok c.toArray w:=by
 obtain⟨h,len,k,e,_,i,g⟩:=cq.1 hr;cases e;by_cases d:els=[]
 ·subst d;refine⟨[],by simp,by simp[dJ],by simp,fun w _=>?_⟩;cases base with
  |none=>simp[Builtin.firstCells]
  |some a=>simp[Builtin.firstCells,loadCells,loadCellsFrom]
 ·obtain⟨b,o,l,rfl,f⟩:=g.resolve_left d;have:=f.sz hs d;subst this;obtain⟨c,g1,g2,n,g4⟩:=f.Ao;refine⟨c,g1,n,g4,fun w m=>?_⟩;have hl:=zbH (P:=P) w ⟨b,o,none⟩ c (fun j u hj=>by rw[Addr.e_];exact m _ _ _ (g2 j u hj));rw[g1]at hl;simpa[Builtin.firstCells]using hl
theorem tT{b n cap sz:Nat}{c:Array Value}{t:TypeId}{vs suf:List Value}(d:w.heap[b]?=some (.cells c t (0,0)))(a:c.toList=vs++suf)(hn:n*sz<=vs.length):
   (Builtin.firstCells sz n (.slice (some ⟨b,0,none⟩) n cap)).run P w=.ok (vs.take (n*sz)).toArray w:=by
 have hl:=zbH (P:=P) w ⟨b,0,none⟩ (vs.take (n*sz)) (fun j u hj=>by
  rw[Addr.e_,zbB];rw[zbE]at hj;split at hj
  ·have:c.toList[j]?=some u:=by rw[a,zal (zaa.1 hj).1];exact hj
   simp only[World.cell?,d];simpa using this
  ·simp at hj)
 rw[zbP,zcV hn]at hl;simpa[Builtin.firstCells]using hl
theorem Inv.VK{ρ:bU}{mem:List (Nat×List AV)}{sh:Sh}{aa:aG}(hi:Inv ρ G w mem sh aa)(s:Nat):Inv ρ G w mem (sh.set s none) aa:=
 { hi with
  dU:=fun s' cs a=>by
   rw[zaA]at a;split at a
   ·split at a<;>simp at a
   ·exact hi.dU s' cs a
  gO:=fun s' b h=>by simpa using hi.gO s' b h}
def Gh.jZ(G:Gh)(s':Nat)(b:Nat×Nat):Gh:={G with role:=fun k=>if k=b.1 then .shr s' else G.role k,sm:=fun k=>if k=s' then some b else G.sm k}
theorem Inv.jZ{ρ:bU}{mem:List (Nat×List AV)}{sh:Sh}{aa:aG}(hi:Inv ρ G w mem sh aa){s:Nat}{b:Nat×Nat}{cells:List AV}(hs:sh[s]?=some (some cells))(A:G.sm s=some b):
   Inv ρ (G.jZ sh.length b) w mem (sh.set s none++[some cells]) aa∧G.le (G.jZ sh.length b)∧bL G w (G.jZ sh.length b) w:=by
 obtain⟨b0,e1,e2,e3,e4⟩:=hi.dU s cells hs;rw[A]at e1;cases e1;have hr:G.role b.1=.shr s:=e2.role
 have p:G.sm sh.length=none:=by
  cases h:G.sm sh.length with
  |none=>rfl
  |some b=>have:=hi.gO _ b h;omega
 have f:G.le (G.jZ sh.length b):=⟨G.K.le_refl,fun _ _ h=>h,fun k b h=>by
  simp only[Gh.jZ];split
  ·rename_i e;subst e;rw[p]at h;simp at h
  ·exact h,fun _ t h=>⟨t,h,⟨zaj _,t.iV⟩,fun _=>rfl⟩⟩
 have a:∀k r,G.role k=r->r≠.shr s->(G.jZ sh.length b).role k=r:=by
  intro k r g hn;simp only[Gh.jZ];rw[zad]
  ·exact g
  ·rintro rfl;exact hn (g.symm.trans hr)
 have y:s<sh.length:=(zaa.1 hs).1
 have j:bL G w (G.jZ sh.length b) w:={
           size:=zaj _,os:=rfl,tape:=rfl,output:=rfl,K:=G.K.le_refl,sm:=f.sm,
           d9:=fun k _ g=>⟨a k _ g (by simp),rfl⟩
           jR:=fun k τ _ g=>.inr ⟨τ,a k _ g (by simp)⟩
           i_:=fun _ _ _ _ _ h=>h}
 refine⟨⟨hi.known,?_,?_,?_,hi.i7,?_,?_,?_,hi.gX,hi.jS j⟩,f,j⟩
 ·intro k o v g;rcases hi.a_ k o v g with h|⟨τ,h⟩
  ·exact .inl (a k _ h (by simp))
  ·exact .inr ⟨τ,a k _ h (by simp)⟩
 ·intro k g;exact a k _ (hi.fresh k g) (by simp)
 ·intro d cs hd;obtain⟨i,e1,e2,e3⟩:=hi.cV d cs hd;exact⟨i,e1,e2.mono f ((a i _ e2.role (by simp)).trans e2.role.symm) rfl,e3⟩
 ·intro s' cs c;rw[zbx]at c;split at c
  ·rw[zaA]at c;split at c
   ·simp at c
   ·rename_i q;obtain⟨i,f1,f2,f3⟩:=hi.dU s' cs c;exact⟨i,f.sm _ _ f1,f2.mono f ((a i.1 _ f2.role (by simp;exact fun h=>q h.symm)).trans f2.role.symm) rfl,f3⟩
  ·rename_i x
   have l:s'=sh.length:=by
    rcases Nat.eq_or_lt_of_le (Nat.le_of_not_lt x)with h|h
    ·simpa using h.symm
    ·rw[zaV (by simp at h⊢;omega)]at c;simp at c
   subst l;simp at c;subst c;obtain⟨_,o,z,m⟩:=e2;exact⟨b,by simp[Gh.jZ],⟨by simp[Gh.jZ],o,z,m.mono f⟩,e3,jC (by omega) e4⟩
 ·intro s' i h;simp only[Gh.jZ]at h;split at h
  ·rename_i e;subst e;simp
  ·have:=hi.gO s' i h;simp;omega
 ·intro τ n hn;obtain⟨tk,e1,e2,e3⟩:=hi.dp τ n hn;refine⟨tk,e1,e2,e3.cap,e3.zero,fun u=>?_⟩;obtain⟨i,o,C,ty,f1,f2,f3,B,f5⟩:=e3.spare u;exact⟨i,o,C,ty,f1,a i _ f2 (by simp),f3,B,f5⟩
theorem Ln{cs:List PV}(h:∀p∈cs,i6 p=true):(cs.map AV.pv).all dO=true:=by
 rw[zaq];intro x hx;obtain⟨p,hp,rfl⟩:=zat.1 hx;have:=h p hp;cases p<;>simp_all[dO,aZ,i6]
theorem vY{argTypes:Array TypeId}{type t e e1 t1 sz L:Nat}{ag:Bool}{z:List PV}{s x y:AV}{xs:List PV}{vs vx:Value}{mem:List (Nat×List AV)}{sh sh':Sh}{aa:aG}
   (h0:argTypes[0]?=some t) (h1:argTypes[1]?=some t1)
   (hu:P.underlying t=some (.slice e)) (D:P.underlying t1=some (.slice e1)) (E:dk P e=some sz) (am:gT P e=some L) (hz:cR P e=some z) (X:z.length=sz) (ao:0<L)
   (hs:aD (num ns) G s vs) (hx:aD (num ns) G x vx) (hi:Inv (num ns) G w mem sh aa) (Y:db x=some xs) (b4:a7 sz xs=true) (h:sJ sz L ag s xs sh aa=some (y,sh')):
   ∃v w' G',(Builtin.append_ argTypes type #[vs,vx]).run P w=.ok v w'∧aD (num ns) G' y v∧Inv (num ns) G' w' mem sh' aa∧G.le G'∧bL G w G' w':=by
 obtain⟨xb,xc,rfl⟩:=mP Y hx;have aO:=fm Y hx;have A:∀w',w'=w.drew->∀b o u,G.K b o=some u->w'.cell? ⟨b,o,none⟩=some u:=fun w' e b o u hk=>by subst e;exact hi.known b o u hk
 obtain⟨new,U,n2,n3,W⟩:=qy (P:=P) aO b4;have J:((xs.flatMap a9).map AV.pv).all dO=true:=Ln (qx n2)
 have H:∀k,((xs.flatMap a9).map AV.pv).all (aK k)=true:=by
  intro k;rw[zaq];intro x hx;obtain⟨p,_,rfl⟩:=zat.1 hx;rfl
 have M:∀base,vs=.slice base 0 0->sI sz L ag s xs sh=some (y,sh')->
     ∃v w' G',(Builtin.append_ argTypes type #[vs,.slice xb xs.length xc]).run P w=.ok v w'∧aD (num ns) G' y v∧Inv (num ns) G' w' mem sh' aa∧G.le G'∧bL G w G' w':=by
   rintro base rfl V
   unfold sI at V;split at V
   ·rename_i j;have C:xs=[]:=zcP.1 j;subst C;simp only[zae,zav]at V;obtain⟨rfl,rfl⟩:=V;have I:new=[]:=by apply zbc;simpa using U
    subst I;have q:=ga (type:=type) h0 h1 hu D E (base:=base) (len:=0) (cap:=0) (n:=0) (xb:=xb) (xc:=xc) rfl (W w hi.known) (by omega);refine⟨.slice base 0 0,w,G,?_,hs,hi,G.le_refl,bL.refl G w⟩;refine zcD q ?_;cases base<;>simp[storeCells]
   ·rename_i j;simp only[zab,zae,zav]at V;obtain⟨m,rfl,rfl⟩:=V
    have ab:0<xs.length:=by
     cases xs with
     |nil=>simp at j
     |cons _ _=>simp
    obtain⟨rest,d,p1,p2,p3⟩:=lN (type:=type) (aL:=#[]) (new:=new.toArray) h0 h1 hu D E am hz X (base:=base) (len:=0) (cap:=0) (n:=xs.length) (xb:=xb) (xc:=xc) rfl
      (fun w' e=>by cases base<;>simp[Builtin.firstCells,loadCells,loadCellsFrom]) (fun w' e=>W w' (A w' e)) (by omega) ao (by simpa using m)
    have l:aB (num ns) G ((xs.flatMap a9).map .pv) new:=lu n2
    obtain⟨g1,g2,g3⟩:=hi.drew.C6 (o':=.cells (#[]++new.toArray++rest) e) (N:=(#[]++new.toArray++rest).size) (cells:=(xs.flatMap a9).map .pv)
      (.inl ⟨_,e,new,rest.toList,rfl,rfl,by simp,l⟩) J (H _)
    refine⟨_,_,_,p3,?_,g1,g2,(bL.drew G w).trans g3⟩;simp only[aD];refine⟨(w.drew.heap.size,(#[]++new.toArray++rest).size),d-xs.length,by simp[Gh.df],?_,?_⟩
    ·have:xs.length+(d-xs.length)=d:=by omega
     show Value.slice (some ⟨w.heap.size,0,none⟩) (0+xs.length) d=Value.slice (some ⟨w.heap.size,0,none⟩) xs.length (xs.length+(d-xs.length));simp[this]
    ·have:xs.length+(d-xs.length)=d:=by omega
     rw[this];simp[U,p2];have:d=xs.length+(d-xs.length):=by omega
     conv=>lhs;rw[this,zaD]
     omega
 unfold sJ at h;split at h
 ·have a3:=hs;simp only[aD]at hs;obtain⟨base,len,rfl,ay⟩:=hs;have i:len=0:=by have:=ay.1;simpa using this.symm
  subst i;exact M base rfl h
 ·rename_i τ;simp only[zab]at h;obtain⟨O,h⟩:=h;simp only[aD]at hs;obtain⟨tk,e1,e2,e3,e4⟩:=hs
  have i:([]:List PV).length=tk.len:=by
   have:=hi.gX τ tk e1;rw[O]at this;simpa using this
  obtain⟨hv,_⟩:=e4 i;obtain⟨b9,f1,f2,f3⟩:=hi.dp τ _ O;rw[e1]at f1;cases f1;have al:=f3.zero (by simpa using i.symm);refine M tk.base ?_ h;rw[hv];simp only[Tk.val];rw[al,<-i];rfl
 ·rename_i b f n g;split at h
  ·rename_i cells T;simp only[zab]at h;obtain⟨⟨rfl,rfl,b2,bc,m⟩,h⟩:=h;have a3:=hs;simp only[aD]at hs;obtain⟨r,cap,a1,rfl,S⟩:=hs;obtain⟨b8,ac,an,aj,a5⟩:=hi.dU _ _ T;rw[a1]at ac;cases ac;obtain⟨_,c,ty,us,suf,hh,be,Z,l⟩:=an.cells b2;have bb:us.length=cells.length:=l.length;split at h
   ·rename_i j;have C:xs=[]:=zcP.1 j;subst C;simp only[zae,zav]at h;obtain⟨rfl,rfl⟩:=h;have I:new=[]:=by apply zbc;simpa using U
    subst I;have q:=ga (type:=type) h0 h1 hu D E (base:=some ⟨r.1,0,none⟩) (len:=n) (cap:=n+cap) (n:=0) (xb:=xb) (xc:=xc) rfl (W w hi.known) (by omega);refine⟨.slice (some ⟨r.1,0,none⟩) n (n+cap),w,G,?_,a3,hi,G.le_refl,bL.refl G w⟩;refine zcD q ?_;simp[storeCells]
   ·rename_i j;simp only[zae,zav]at h;obtain⟨rfl,rfl⟩:=h
    have ab:0<xs.length:=by
     cases xs with
     |nil=>simp at j
     |cons _ _=>simp
    have F:aB (num ns) G (cells.take (n*f)) (us.take (n*f)):=l.take _
    have ai:(cells.take (n*f)).all dO=true:=by
     rw[zaq]at aj⊢;exact fun x hx=>aj x (za7 hx)
    have a4:(cells.take (n*f)).all (aK (b+1))=true:=by
     rw[zaq]at a5⊢;exact fun x hx=>a5 x (za7 hx)
    have b7:b<sh.length:=(zaa.1 T).1
    have R:(cells.take (n*f)++(xs.flatMap a9).map AV.pv).all dO=true:=by
     rw[List.all_append,ai,J];rfl
    have Q:(cells.take (n*f)++(xs.flatMap a9).map AV.pv).all (aK (sh.length+1))=true:=by
     rw[List.all_append,jC (by omega) a4,H];rfl
    have ax:(us.take (n*f)).length=n*f:=(by rw[zbP];omega);rcases zbv (n+cap) (n+xs.length)with B|B
    ·-- a new block
     obtain⟨rest,d,p1,p2,p3⟩:=lN (type:=type) (aL:=(us.take (n*f)).toArray) (new:=new.toArray) h0 h1 hu D E am hz X (base:=some ⟨r.1,0,none⟩) (len:=n) (cap:=n+cap) (n:=xs.length) (xb:=xb) (xc:=xc) rfl
       (fun w' e=>by subst e;exact tT (w:=w.drew) hh Z (by omega)) (fun w' e=>W w' (A w' e)) B ao m
     have l:aB (num ns) G (cells.take (n*f)++(xs.flatMap a9).map .pv) (us.take (n*f)++new):=F.append (lu n2);have b3:=hi.drew.VK b;have i:(sh.set b none).length=sh.length:=by simp
     obtain⟨g1,g2,g3⟩:=b3.C6 (o':=.cells ((us.take (n*f)).toArray++new.toArray++rest) e) (N:=((us.take (n*f)).toArray++new.toArray++rest).size) (cells:=cells.take (n*f)++(xs.flatMap a9).map .pv)
       (.inl ⟨_,e,us.take (n*f)++new,rest.toList,rfl,rfl,by simp,l⟩) R (by rw[i];exact Q)
     rw[i]at g1 g2 g3;refine⟨_,_,_,p3,?_,g1,g2,(bL.drew G w).trans g3⟩;simp only[aD];refine⟨(w.drew.heap.size,((us.take (n*f)).toArray++new.toArray++rest).size),d-(n+xs.length),by simp[Gh.df],?_,?_⟩
     ·have:n+xs.length+(d-(n+xs.length))=d:=by omega
      show Value.slice (some ⟨w.heap.size,0,none⟩) (n+xs.length) d=Value.slice (some ⟨w.heap.size,0,none⟩) (n+xs.length) (n+xs.length+(d-(n+xs.length)));simp[this]
     ·have:n+xs.length+(d-(n+xs.length))=d:=by omega
      rw[this];simp only[Array.size_append,zcM,ax,U,p2];have:d=n+xs.length+(d-(n+xs.length)):=by omega
      conv=>lhs;rw[this,zaD,zaD]
      omega
    ·-- in ba place
     have ad:(n+xs.length)*f<=(n+cap)*f:=zaH _ B;rw[zaD]at ad;have b6:n*f+xs.length*f<=c.size:=(by omega);obtain⟨m1,m2,m3⟩:=hi.jZ T a1;have K8:=zcm (P:=P) r.1 (n*f) ty new 0 c w hh (by rw[U];omega) n3;have q:=ga (type:=type) h0 h1 hu D E (base:=some ⟨r.1,0,none⟩) (len:=n) (cap:=n+cap) (n:=xs.length) (xb:=xb) (xc:=xc) rfl (W w hi.known) B;simp only[zbN]at K8
     have ak:(sh.set b none++[some cells])[sh.length]?=some (some cells):=by
      rw[zaL (by simp)];simp
     have b5:c.toList.take (n*f)=us.take (n*f):=by
      rw[Z,zbA (by omega)]
     obtain⟨g1,g2⟩:=m1.tS (cells':=cells.take (n*f)++(xs.flatMap a9).map .pv) (c':=(c.toList.take (n*f)++new++c.toList.drop (n*f+new.length)).toArray) (vs:=us.take (n*f)++new) (suf:=c.toList.drop (n*f+new.length))
       ak (by simp[Gh.jZ]) hh (by
        have:c.toList.length=c.size:=by simp
        simp only[zcM,zan,zbP,zcr,U,this];omega)
       (by simp[b5]) (aB.mono m2 (F.append (lu n2))) R Q
     have a2:(sh.set b none++[some cells]).set sh.length (some (cells.take (n*f)++(xs.flatMap a9).map .pv))=sh.set b none++[some (cells.take (n*f)++(xs.flatMap a9).map .pv)]:=by
      rw[List.set_append_right _ _ (by simp)];simp
     rw[a2]at g1;refine⟨.slice (some ⟨r.1,0,none⟩) (n+xs.length) (n+cap),_,_,?_,?_,g1,m2,m3.trans g2⟩
     ·refine zcD q ?_;simp only[Addr.e_,zbB,K8,zag]
     ·simp only[aD];refine⟨r,cap-xs.length,by simp[Gh.jZ],?_,?_⟩
      ·have:n+xs.length+(cap-xs.length)=n+cap:=by omega
       rw[this]
      ·have:n+xs.length+(cap-xs.length)=n+cap:=by omega
       rw[this];exact S
  ·simp at h
 ·simp at h
theorem C9{c:Call}{A:mA}{dst:Option Nat}{args:List Operand}{sz:Nat}{z:List PV}(h:bS P ns A dst (.call c)=some (.im sz z,args)):
   ∃x t e,c.callee=.builtin .clear∧c.args=#[x]∧args=[x]∧c.argTypes[0]?=some t∧P.underlying t=some (.slice e)∧dk P e=some sz∧cR P e=some z∧z.length=sz∧0<sz:=by
 obtain⟨callee,f,b⟩:=c;simp only[bS]at h;split at h
 ·split at h<;>simp at h
 ·split at h<;>simp at h
 ·split at h<;>simp at h
 ·split at h
  ·split at h
   ·rw[zab]at h;obtain⟨_,h⟩:=h;split at h
    ·simp at h
    ·split at h<;>simp at h
   ·simp at h
  ·simp at h
 ·rename_i g;split at h
  ·rename_i x e k a;split at h
   ·rename_i i l hs j;simp only[zab,zae,zav,AK.im.injEq]at h;obtain⟨⟨h1,h2⟩,⟨rfl,rfl⟩,rfl⟩:=h;simp only[zaz]at a;obtain⟨t,a,d⟩:=a;exact⟨x,t,e,rfl,by apply zby;simpa using k,rfl,a,eS d,hs,j,h1,h2⟩
   ·simp at h
  ·simp at h
 ·split at h
  ·split at h<;>simp at h
  ·simp at h
 ·split at h
  ·split at h
   ·(repeat' (split at h))<;>simp at h
   ·split at h
    ·simp at h
    ·split at h
     ·simp at h
     ·split at h<;>simp at h
  ·simp at h
 ·split at h<;>simp at h
 ·simp at h
theorem H_{l:Array Value}{z:List PV}{n:Nat}(h:dm de l.toList=some z)(f:0<z.length):
   aB (num ns) G ((List.replicate n (z.map AV.pv)).flatten) (Builtin.zeroCells l n).toList∧((List.replicate n (z.map AV.pv)).flatten).all dO=true∧∀k,((List.replicate n (z.map AV.pv)).flatten).all (aK k)=true:=by
 obtain⟨zr,zl⟩:=oI (G:=G) (ρ:=num ns) h;have a:l.size=z.length:=by have:=ja h;simp at this;omega
 refine⟨?_,?_,?_⟩
 ·refine lQ (by simp[Builtin.zeroCells,a]) fun j x v hx c=>?_;have d:j<n*z.length:=by have:=(zaa.1 hx).1;simpa using this
  rw[fu _ _ _ (by simpa using d)]at hx;obtain⟨g,g1,g2⟩:=zr.get hx
  have:v=g:=by
   simp only[Builtin.zeroCells,zcu,zbw,Array.toList_range,zac]at c;obtain⟨i,e,c⟩:=c;rw[List.getElem?_range (by rw[a];exact d)]at e;cases e;simp only[zaT]at g1;rw[a]at c;have hm:j % z.length<l.size:=by rw[a];exact Nat.mod_lt _ f
   rw[getElem!_pos l (j % z.length) hm]at c;have b:l[j % z.length]?=some g:=by simpa using g1
   rw[zbS hm]at b;simp at b;rw[<-c,b]
  subst this;exact g2
 ·rw[zaq]at*;intro x hx;simp only[zb7,zbD]at hx;obtain⟨l,⟨_,rfl⟩,hx⟩:=hx;exact zl x hx
 ·intro k;have:=Gw k z;rw[zaq]at*;intro x hx;simp only[zb7,zbD]at hx;obtain⟨l,⟨_,rfl⟩,hx⟩:=hx;exact this x hx
theorem xX{argTypes:Array TypeId}{type t e sz:Nat}{z:List PV}{x:AV}{v:Value}{mem:List (Nat×List AV)}{sh sh':Sh}{aa:aG}
   (h0:argTypes[0]?=some t) (hu:P.underlying t=some (.slice e)) (W:cR P e=some z) (K:z.length=sz) (Z:0<sz)
   (hx:aD (num ns) G x v) (hi:Inv (num ns) G w mem sh aa) (h:oD sz z sh (tH sz x)=some sh'):
   ∃w',(Builtin.clear_ argTypes type #[v]).run P w=.ok (.tuple #[]) w'∧Inv (num ns) G w' mem sh' aa∧bL G w G w':=by
 cases a:tH sz x with
 |none=>rw[a]at h;simp[oD]at h
 |some q=>
  obtain⟨b,off,n⟩:=q;rw[a]at h
  have X:∃d base cap,G.sm b=some d∧v=.slice base n cap∧(n=0∨base=some ⟨d.1,off,none⟩):=by
   unfold tH at a;split at a
   ·simp only[zab,zae,zav]at a;obtain⟨rfl,rfl,rfl,rfl⟩:=a;simp only[aD]at hx;obtain⟨d,cap,e1,e2,_⟩:=hx;exact⟨d,_,_,e1,e2,.inr rfl⟩
   ·simp only[zae,zav]at a;obtain⟨rfl,rfl,rfl⟩:=a;simpa only[aD]using hx
   ·simp at a
  obtain⟨d,base,cap,s,rfl,r⟩:=X;simp only[oD]at h;split at h
  ·rename_i cells g;simp only[zab,zae]at h;obtain⟨⟨O,a1,_⟩,rfl⟩:=h;by_cases hn:n=0
   ·subst hn;have e1:a0 cells off ((List.replicate 0 (z.map AV.pv)).flatten)=cells:=by simp[a0]
    have e2:sh.set b (some cells)=sh:=by
     apply zb1
     intro j;rw[zaA];split
     ·rename_i e;subst e;split
      ·exact g.symm
      ·rename_i hj;rw[zaV (by omega)]at g;simp at g
     ·rfl
    rw[e1,e2];refine⟨w,?_,hi,bL.refl G w⟩;cases base<;>simp[Builtin.clear_,h0,zaK hu]
   ·have hb:=r.resolve_left hn;subst hb;obtain⟨T,B,I,D,A⟩:=hi.dU _ _ g;rw[s]at B;cases B;obtain⟨_,c,ty,us,suf,S,Q,l,i⟩:=I.cells O;have Y:us.length=cells.length:=i.length;obtain⟨f,M,L⟩:=iK (P:=P) (w:=w) W;have N:0<z.length:=(by omega);obtain⟨zr,zl,V⟩:=H_ (ns:=ns) (G:=G) (n:=n) L N;have C:∀u∈(Builtin.zeroCells f.cells n).toList,u.oneCell'=true:=lO zr (lP zl);have k:(Builtin.zeroCells f.cells n).toList.length=n*sz:=(by rw[zr.length];simp[K]);have H:c.toList.length=us.length+suf.length:=(by rw[l];simp);have F:c.size=us.length+suf.length:=(by simpa using H);have U:=zcm (P:=P) d.1 off ty (Builtin.zeroCells f.cells n).toList 0 c w S (by rw[k];omega) C;simp only[zbN]at U;have E:c.toList.take off=us.take off:=by rw[l,zbA (by omega)]
    have R:c.toList.drop (off+(Builtin.zeroCells f.cells n).toList.length)=us.drop (off+(Builtin.zeroCells f.cells n).toList.length)++suf:=by
     rw[l,zcR (by rw[k];omega)]
    have p:(a0 cells off ((List.replicate n (z.map AV.pv)).flatten)).all dO=true:=by
     rw[zaq]at*;intro y hy;simp only[a0,zai]at hy;rcases hy with(hy|hy)|hy
     ·exact D y (za7 hy)
     ·exact zl y hy
     ·exact D y (zbL hy)
    have o:(a0 cells off ((List.replicate n (z.map AV.pv)).flatten)).all (aK (b+1))=true:=by
     have J:=V (b+1);rw[zaq]at*;intro y hy;simp only[a0,zai]at hy;rcases hy with(hy|hy)|hy
     ·exact A y (za7 hy)
     ·exact J y hy
     ·exact A y (zbL hy)
    have m:aB (num ns) G (a0 cells off ((List.replicate n (z.map AV.pv)).flatten)) (us.take off++(Builtin.zeroCells f.cells n).toList++us.drop (off+(Builtin.zeroCells f.cells n).toList.length)):=iu off i zr
    obtain⟨g1,g2⟩:=hi.tS (cells':=a0 cells off ((List.replicate n (z.map AV.pv)).flatten)) (c':=(c.toList.take off++(Builtin.zeroCells f.cells n).toList++c.toList.drop (off+(Builtin.zeroCells f.cells n).toList.length)).toArray)
      (vs:=us.take off++(Builtin.zeroCells f.cells n).toList++us.drop (off+(Builtin.zeroCells f.cells n).toList.length)) (suf:=suf) g s S (by
       simp only[zcM,zan,zbP,zcr,k,H];rw[<-Q,F];omega)
      (by simp only[E,R,zaQ]) m p o
    refine⟨_,?_,g1,g2⟩;cases n with
    |zero=>exact absurd rfl hn
    |succ n=>
     simp only[Builtin.clear_,h0];simp[zaK hu,M,U]
  ·simp at h
end
end Go.Ab
namespace Go.Ab
section
variable {P:Program} {ns:Names} {A:mA} {dst:Option Nat} {op:Op} {args:List Operand}
theorem Ap{k o sz:Nat}{ag:Bool}(h:bS P ns A dst op=some (.cg k o sz ag,args)):
   ∃t tx,op=.load t (.tmp tx)∧args=[.tmp tx]∧dk P t=some sz∧jv P t=some ag:=by
 cases op<;>simp only[bS]at h
 all_goals (repeat' (split at h))
 all_goals (try (simp at h;done))
 all_goals
   simp only[zae,zav,AK.cg.injEq]at h;obtain⟨⟨rfl,rfl,rfl,rfl⟩,rfl⟩:=h;exact⟨_,_,rfl,rfl,by assumption,by assumption⟩
theorem Aq{sz:Nat}{ag:Bool}(h:bS P ns A dst op=some (.dH sz ag,args)):
   ∃t tx,op=.load t (.tmp tx)∧args=[.tmp tx]∧dk P t=some sz∧jv P t=some ag:=by
 cases op<;>simp only[bS]at h
 all_goals (repeat' (split at h))
 all_goals (try (simp at h;done))
 all_goals
   simp only[zae,zav,AK.dH.injEq]at h;obtain⟨⟨rfl,rfl⟩,rfl⟩:=h;exact⟨_,_,rfl,rfl,by assumption,by assumption⟩
theorem xY{k o sz:Nat}(h:bS P ns A dst op=some (.bB k o sz,args)):
   ∃t tx v,op=.store t (.tmp tx) v∧args=[.tmp tx,v]∧dk P t=some sz:=by
 cases op<;>simp only[bS]at h
 all_goals (repeat' (split at h))
 all_goals (try (simp at h;done))
 all_goals
   simp only[zae,zav,AK.bB.injEq]at h;obtain⟨⟨rfl,rfl,rfl⟩,rfl⟩:=h;exact⟨_,_,_,rfl,rfl,by assumption⟩
theorem xZ{sz:Nat}(h:bS P ns A dst op=some (.et sz,args)):
   ∃t tx v,op=.store t (.tmp tx) v∧args=[.tmp tx,v]∧dk P t=some sz:=by
 cases op<;>simp only[bS]at h
 all_goals (repeat' (split at h))
 all_goals (try (simp at h;done))
 all_goals
   simp only[zae,zav,AK.et.injEq]at h;obtain⟨rfl,rfl⟩:=h;exact⟨_,_,_,rfl,rfl,by assumption⟩
theorem Au{k:Nat}{z:List PV}(h:bS P ns A dst op=some (.alloc k z,args)):
   ∃t,op=.alloc t∧args=[]∧cR P t=some z∧dst=some k:=by
 cases op<;>simp only[bS]at h
 all_goals (repeat' (split at h))
 all_goals (try (simp at h;done))
 all_goals
   simp only[zae,zav,AK.alloc.injEq]at h;obtain⟨⟨rfl,rfl⟩,rfl⟩:=h;exact⟨_,rfl,rfl,by assumption,rfl⟩
theorem x4{z:List PV}(h:bS P ns A dst op=some (.fR z,args)):
   ∃t,op=.alloc t∧args=[]∧cR P t=some z:=by
 cases op<;>simp only[bS]at h
 all_goals (repeat' (split at h))
 all_goals (try (simp at h;done))
 all_goals
   simp only[zae,zav,AK.fR.injEq]at h;obtain⟨rfl,rfl⟩:=h;exact⟨_,rfl,rfl,by assumption⟩
theorem H'{k sz:Nat}(h:bS P ns A dst op=some (.box k sz,args)):
   ∃t x,op=.box t x∧args=[x]∧dk P t=some sz∧dst=some k:=by
 cases op<;>simp only[bS]at h
 all_goals (repeat' (split at h))
 all_goals (try (simp at h;done))
 all_goals
   simp only[zae,zav,AK.box.injEq]at h;obtain⟨⟨rfl,rfl⟩,rfl⟩:=h;exact⟨_,_,rfl,rfl,by assumption,rfl⟩
theorem C_{sz:Nat}(h:bS P ns A dst op=some (.qn sz,args)):
   ∃t x,op=.box t x∧args=[x]∧dk P t=some sz:=by
 cases op<;>simp only[bS]at h
 all_goals (repeat' (split at h))
 all_goals (try (simp at h;done))
 all_goals
   simp only[zae,zav,AK.qn.injEq]at h;obtain⟨rfl,rfl⟩:=h;exact⟨_,_,rfl,rfl,by assumption⟩
theorem Da{sz:Nat}(h:bS P ns A dst op=some (.sG sz,args)):
   ∃t x,op=.box t x∧args=[x]∧dk P t=some sz:=by
 cases op<;>simp only[bS]at h
 all_goals (repeat' (split at h))
 all_goals (try (simp at h;done))
 all_goals
   simp only[zae,zav,AK.sG.injEq]at h;obtain⟨rfl,rfl⟩:=h;exact⟨_,_,rfl,rfl,by assumption⟩
theorem Db{k:AK}(h:bS P ns A dst op=some (k,args))(b:(∃sz a ag z,k=.lh sz a ag z)∨∃d sz a z,k=.re d sz a z):
   ∃t e l c sz a ag z,op=.makeSlice t l c∧args=[l,c]∧P.underlying t=some (.slice e)∧dk P e=some sz∧gT P e=some a∧cR P e=some z∧z.length=sz∧0<sz ∧
     (k=.lh sz a ag z∨∃d,dst=some d∧k=.re d sz a z):=by
 have g:∀{o:Pg},k≠.v o:=by rintro o rfl;rcases b with⟨_,_,_,_,e⟩|⟨_,_,_,_,e⟩<;>cases e
 cases op with
 |makeSlice t l c=>
  simp only[bS]at h;split at h
  ·rename_i e f;split at h
   ·rename_i sz a ag z h1 h2 h3 h4;rw[zab]at h;obtain⟨⟨h5,h6⟩,h⟩:=h;split at h
    ·rename_i k' d hd;rw[zab]at h;obtain⟨_,h⟩:=h;simp only[zae,zav]at h;exact⟨t,e,l,c,sz,a,ag,z,rfl,h.2.symm,eS f,h1,h2,h4,h5,h6,.inr ⟨d,rfl,h.1.symm⟩⟩
    ·simp at h
    ·simp only[zae,zav]at h;exact⟨t,e,l,c,sz,a,ag,z,rfl,h.2.symm,eS f,h1,h2,h4,h5,h6,.inl h.1.symm⟩
   ·simp at h
  ·simp at h
 |_=>
  exfalso;simp only[bS]at h
  (repeat' (split at h))
  all_goals (try (simp at h;done))
  all_goals (try simp only[zae,zav,zac,zab]at h)
  all_goals (rcases b with⟨_,_,_,_,rfl⟩|⟨_,_,_,_,rfl⟩<;>simp at h)
theorem Av{sz a:Nat}{ag:Bool}{z:List PV}(h:bS P ns A dst op=some (.lh sz a ag z,args)):
   ∃t e l c,op=.makeSlice t l c∧args=[l,c]∧P.underlying t=some (.slice e)∧dk P e=some sz∧gT P e=some a∧cR P e=some z∧z.length=sz∧0<sz:=by
 obtain⟨t,e,l,c,f,g,i,j,h1,h2,h3,h4,h5,h6,h7,h8,b⟩:=Db h (.inl ⟨_,_,_,_,rfl⟩);rcases b with b|⟨d,_,b⟩<;>cases b;exact⟨t,e,l,c,h1,h2,h3,h4,h5,h6,h7,h8⟩
theorem x5{sz a:Nat}(h:bS P ns A dst op=some (.append sz a,args)):∃c,op=.call c:=by
 cases op<;>simp only[bS]at h
 all_goals (repeat' (split at h))
 all_goals (try (simp at h;done))
 all_goals exact⟨_,rfl⟩
theorem vZ{sz a:Nat}{ag:Bool}(h:bS P ns A dst op=some (.dN sz a ag,args)):∃c,op=.call c:=by
 cases op<;>simp only[bS]at h
 all_goals (repeat' (split at h))
 all_goals (try (simp at h;done))
 all_goals exact⟨_,rfl⟩
theorem x6{sz:Nat}{z:List PV}(h:bS P ns A dst op=some (.im sz z,args)):∃c,op=.call c:=by
 cases op<;>simp only[bS]at h
 all_goals (repeat' (split at h))
 all_goals (try (simp at h;done))
 all_goals exact⟨_,rfl⟩
theorem Dc{k:AK}(a:(match k with| .aH _| .dd _| .aY ..| .tG _| .gD| .fU| .clone ..| .jO ..=>true|_=>false)=true)(h:bS P ns A dst op=some (k,args)):∃c,op=.call c:=by
 cases op<;>simp only[bS]at h
 all_goals (repeat' (split at h))
 all_goals (try (simp at h;done))
 all_goals (first|exact⟨_,rfl⟩|skip)
 all_goals (simp at h;first|(obtain⟨rfl,_⟩:=h;simp at a;done)|(obtain⟨_,_,rfl,_⟩:=h;simp at a;done))
end
section
variable {orc:eZ} {vals:List AV} {cells:Option (List AV)} {sh:Sh} {aa:aG} {out:Out}
theorem iL{key off sz:Nat}{ag:Bool}(h:exec orc (.cg key off sz ag) vals cells sh aa=some out):
   ∃cs x,vals=[.au key off]∧cells=some cs∧bY ag sz cs off=some x∧out=⟨x,none,sh,aa⟩:=by
 rcases vals with _|⟨v,_|⟨u,r⟩⟩
 ·simp[exec]at h
 ·cases v with
  |au d o=>
   simp only[exec,zab]at h;obtain⟨⟨rfl,rfl⟩,h⟩:=h;cases cells with
   |none=>simp at h
   |some cs=>
    simp only[zac]at h;obtain⟨x,h1,rfl⟩:=h;exact⟨cs,x,rfl,rfl,h1,rfl⟩
  |_=>simp[exec]at h
 ·cases v<;>simp[exec]at h
theorem jb{key off sz:Nat}(h:exec orc (.bB key off sz) vals cells sh aa=some out):
   ∃cs v,vals=[.au key off,v]∧cells=some cs∧(a6 v).length=sz∧(a6 v).all aZ=true∧off+sz<=cs.length∧out=⟨.un,some (a0 cs off (a6 v)),sh,aa⟩:=by
 rcases vals with _|⟨v,_|⟨u,_|⟨_,_⟩⟩⟩
 ·simp[exec]at h
 ·cases v<;>simp[exec]at h
 ·cases v with
  |au d o=>
   simp only[exec,zab]at h;obtain⟨⟨rfl,rfl,h1,h2⟩,h⟩:=h;cases cells with
   |none=>simp at h
   |some cs=>
    simp only[zab,zae]at h;obtain⟨h3,rfl⟩:=h;exact⟨cs,u,rfl,rfl,h1,h2,h3,rfl⟩
  |_=>simp[exec]at h
 ·cases v<;>simp[exec]at h
theorem j8{key:Nat}{z:List PV}(h:exec orc (.alloc key z) vals cells sh aa=some out):
   vals=[]∧cells=none∧out=⟨.au key 0,some (z.map bw.zeroCell),sh,aa⟩:=by
 cases vals with
 |nil=>cases cells with
  |none=>simp[exec]at h;exact⟨rfl,rfl,h.symm⟩
  |some _=>simp[exec]at h
 |cons _ _=>simp[exec]at h
theorem mQ{key sz:Nat}(h:exec orc (.box key sz) vals cells sh aa=some out):
   ∃v,vals=[v]∧cells=none∧(a6 v).length=sz∧(a6 v).all aZ=true∧out=⟨.au key 0,some (a6 v),sh,aa⟩:=by
 rcases vals with _|⟨v,_|⟨u,r⟩⟩
 ·simp[exec]at h
 ·cases cells with
  |none=>
   simp only[exec,zab,zae]at h;obtain⟨⟨h1,h2⟩,rfl⟩:=h;exact⟨v,rfl,rfl,h1,h2,rfl⟩
  |some _=>simp[exec]at h
 ·simp[exec]at h
theorem lS{sz:Nat}{ag:Bool}(h:exec orc (.dH sz ag) vals cells sh aa=some out):
   ∃p x,vals=[p]∧out=⟨x,none,sh,aa⟩∧((∃cs,p=.dQ cs∧cH ag sz cs=some x)∨∃b off cs,p=.aI b off∧sh[b]?=some (some cs)∧dE cs=false∧bY ag sz cs off=some x):=by
 rcases vals with _|⟨v,_|⟨u,r⟩⟩
 ·simp[exec]at h
 ·simp only[exec]at h;split at h
  ·rename_i cs;simp only[zac]at h;obtain⟨x,h1,rfl⟩:=h;exact⟨_,x,rfl,rfl,.inl ⟨cs,rfl,h1⟩⟩
  ·rename_i b off;split at h
   ·rename_i cs a;split at h
    ·cases h
    ·rename_i hm;simp only[zac]at h;obtain⟨x,h1,rfl⟩:=h;exact⟨_,x,rfl,rfl,.inr ⟨b,off,cs,rfl,a,by simpa using hm,h1⟩⟩
   ·simp at h
  ·simp at h
 ·simp[exec]at h
theorem jc{sz:Nat}(h:exec orc (.et sz) vals cells sh aa=some out):
   ∃b off v cs,vals=[.aI b off,v]∧sh[b]?=some (some cs)∧dE cs=false∧(cA v).length=sz∧off+sz<=cs.length∧(cA v).all dO=true∧(cA v).all (aK (b+1))=true ∧
     out=⟨.un,none,sh.set b (some (a0 cs off (cA v))),aa⟩:=by
 rcases vals with _|⟨v,_|⟨u,_|⟨_,_⟩⟩⟩
 ·simp[exec]at h
 ·cases v<;>simp[exec]at h
 ·cases v with
  |aI b off=>
   simp only[exec]at h;split at h
   ·rename_i cs a;simp only[zab,zae]at h;obtain⟨⟨h0,h1,h2,h3,h4⟩,rfl⟩:=h;exact⟨b,off,u,cs,rfl,a,h0,h1,h2,h3,h4,rfl⟩
   ·simp at h
  |_=>simp[exec]at h
 ·cases v<;>simp[exec]at h
theorem nv{sz:Nat}(h:exec orc (.qn sz) vals cells sh aa=some out):
   ∃v,vals=[v]∧(cA v).length=sz∧(cA v).all dO=true∧(cA v).all (aK sh.length)=true∧out=⟨.aI sh.length 0,none,sh++[some (cA v)],aa⟩:=by
 rcases vals with _|⟨v,_|⟨u,r⟩⟩
 ·simp[exec]at h
 ·simp only[exec,zab,zae]at h;obtain⟨⟨h1,h2,h3⟩,rfl⟩:=h;exact⟨v,rfl,h1,h2,h3,rfl⟩
 ·simp[exec]at h
theorem nA{sz:Nat}(h:exec orc (.sG sz) vals cells sh aa=some out):
   ∃v,vals=[v]∧(a6 v).length=sz∧(a6 v).all dO=true∧(a6 v).all (aK sh.length)=true∧out=⟨.aI sh.length 0,none,sh++[some (a6 v)],aa⟩:=by
 rcases vals with _|⟨v,_|⟨u,r⟩⟩
 ·simp[exec]at h
 ·simp only[exec,zab,zae]at h;obtain⟨⟨h1,h2,h3⟩,rfl⟩:=h;exact⟨v,rfl,h1,h2,h3,rfl⟩
 ·simp[exec]at h
theorem kH{z:List PV}(h:exec orc (.fR z) vals cells sh aa=some out):vals=[]∧out=⟨.aI sh.length 0,none,sh++[some (z.map bw.zeroCell)],aa⟩:=by
 cases vals with
 |nil=>simp[exec]at h;exact⟨rfl,h.symm⟩
 |cons _ _=>simp[exec]at h
theorem lT{sz a:Nat}{ag:Bool}{z:List PV}(h:exec orc (.lh sz a ag z) vals cells sh aa=some out):
   ∃k k' n,vals=[.pv (.int k n),.pv (.int k' n)]∧0<=n∧n<=9223372036854775807∧n*a<=140737488355328∧z.length=sz ∧
     out=⟨.bh sh.length sz n.toNat ag,none,sh++[some ((List.replicate n.toNat (z.map .pv)).flatten)],aa⟩:=by
 rcases vals with _|⟨v,_|⟨u,_|⟨_,_⟩⟩⟩
 ·simp[exec]at h
 ·simp[exec]at h
 ·cases v with
  |pv p=>cases p with
   |int k n=>cases u with
    |pv q=>cases q with
     |int k' n'=>
      simp only[exec,zab,zae]at h;obtain⟨⟨rfl,h1,h2,h3,h4⟩,rfl⟩:=h;exact⟨k,k',n,rfl,h1,h2,h3,h4,rfl⟩
     |_=>simp[exec]at h
    |_=>simp[exec]at h
   |_=>simp[exec]at h
  |_=>simp[exec]at h
 ·simp[exec]at h
theorem oJ{sz a:Nat}(h:exec orc (.clone sz a) vals cells sh aa=some out):
   ∃x y ts,vals=[x]∧bZ sz a (.cQ []) x aa=some (y,ts)∧out=⟨y,none,sh,ts⟩:=by
 rcases vals with _|⟨v,_|⟨_,_⟩⟩
 ·simp[exec]at h
 ·simp only[exec,zac]at h;obtain⟨⟨y,ts⟩,h1,rfl⟩:=h;exact⟨v,y,ts,rfl,h1,rfl⟩
 ·simp[exec]at h
theorem kI{sz a:Nat}(h:exec orc (.append sz a) vals cells sh aa=some out):
   ∃s x y ts,vals=[s,x]∧bZ sz a s x aa=some (y,ts)∧out=⟨y,none,sh,ts⟩:=by
 rcases vals with _|⟨v,_|⟨u,_|⟨_,_⟩⟩⟩
 ·simp[exec]at h
 ·simp[exec]at h
 ·simp only[exec,zac]at h;obtain⟨⟨y,ts⟩,h1,rfl⟩:=h;exact⟨v,u,y,ts,rfl,h1,rfl⟩
 ·simp[exec]at h
theorem rG{sz:Nat}{z:List PV}(h:exec orc (.im sz z) vals cells sh aa=some out):
   ∃x sh',vals=[x]∧oD sz z sh (tH sz x)=some sh'∧out=⟨.qj [],none,sh',aa⟩:=by
 rcases vals with _|⟨v,_|⟨u,_⟩⟩
 ·simp[exec]at h
 ·simp only[exec,zac]at h;obtain⟨sh',h1,rfl⟩:=h;exact⟨v,sh',rfl,h1,rfl⟩
 ·simp[exec]at h
theorem lU{sz a:Nat}{ag:Bool}(h:exec orc (.dN sz a ag) vals cells sh aa=some out):
   ∃s x xs y sh',vals=[s,x]∧db x=some xs∧a7 sz xs=true∧sJ sz a ag s xs sh aa=some (y,sh')∧out=⟨y,none,sh',aa⟩:=by
 rcases vals with _|⟨v,_|⟨u,_|⟨_,_⟩⟩⟩
 ·simp[exec]at h
 ·simp[exec]at h
 ·simp only[exec]at h;split at h
  ·rename_i xs b;simp only[zab,zac]at h;obtain⟨h0,⟨y,sh'⟩,h1,rfl⟩:=h;exact⟨v,u,xs,y,sh',rfl,b,h0,h1,rfl⟩
  ·simp at h
 ·simp[exec]at h
end
end Go.Ab
namespace Go.Ab
section
variable {P:Program} {ns:Names} {G:Gh} {w:World}
def AK.calls:AK->Bool
 | .aH _| .dd _| .aY ..| .tG _| .gD| .fU| .clone ..| .jO ..=>true
 |_=>false
theorem gr{mem:List (Nat×List AV)}(k:Option Nat):fY mem k none=mem:=by cases k<;>rfl
theorem rH{v:AV}{a:Value}(h:aD (num ns) G v a)(hl:(cA v).all aZ=true):aB (num ns) G (cA v) a.cells.toList:=by
 cases v with
 |cQ l=>exact aD.cells (x:=.cQ l) h hl
 |own l τ=>exact aD.cells (x:=.own l τ) h hl
 |_=>
  simp only[cA]at hl⊢;split
  ·rename_i p hp;simp only[hp]at hl;exact aD.cells (by simp only[aD];exact xS hp h) hl
  ·rename_i hp;simp only[hp]at hl;exact h.cells hl
theorem dh{mem:List (Nat×List AV)}{sh:Sh}{aa:aG}{s:Sem Value}{s':Sem Next}{x:AV}{v:Value}{w':World}{G':Gh}(hs:s'=(do pure (.value (<-s))))(h1:s.run P w=.ok v w')(h2:aD (num ns) G' x v)
   (h3:Inv (num ns) G' w' mem sh aa) (h4:G.le G') (h5:bL G w G' w'):VJ ns P G w mem sh aa s' x:=
 ⟨.value v,v,w',G',by rw[hs];simp only[zau,h1,zag,zaB],.inl rfl,h2,h3,h4,h5⟩
theorem rJ{A:mA}{o:Oper}{k:AK}{args:List Operand}{orc:eZ}(F:bS P ns A o.dst o.op=some (k,args))(X:k.calls=false){a:Act}{vals:List AV}{out:Out}
   {mem:List (Nat×List AV)} {sh:Sh} {aa:aG} (hr:aB (num ns) G vals (args.map a.eval)) (hi:Inv (num ns) G w mem sh aa)
   (h:exec orc k vals (k.key.bind (look mem)) sh aa=some out):
   VJ ns P G w (fY mem k.key out.cells) out.sh out.aa (execOp a.eval o) out.val:=by
 obtain⟨dst,op,type,pos,after,guard⟩:=o;cases k with
 |v vo=>
  simp only[exec,zac]at h;obtain⟨x,h1,rfl⟩:=h;obtain⟨v,w',G',g1,g2,E,g4,g5⟩:=Ah F hr hi h1;exact⟨.value v,v,w',G',g1,.inl rfl,g2,by simpa[gr]using E,g4,g5⟩
 |aH g=>simp[AK.calls]at X
 |dd g=>simp[AK.calls]at X
 |aY g own=>simp[AK.calls]at X
 |tG g=>simp[AK.calls]at X
 |gD=>simp[AK.calls]at X
 |fU=>simp[AK.calls]at X
 |clone sz W=>simp[AK.calls]at X
 |jO sz W ag=>simp[AK.calls]at X
 |cg key off sz ag=>
  obtain⟨t,tx,rfl,rfl,f,V⟩:=Ap F;obtain⟨cs,x,rfl,i,hx,rfl⟩:=iL h;simp only[AK.key,za3]at i;obtain⟨Z,e,h1⟩:=cf (by simpa using hr);cases e;simp only[aD]at h1;obtain⟨b,hp,T⟩:=h1;obtain⟨b',C,D,_⟩:=hi.cV _ _ i;rw[hp]at C;cases C;obtain⟨_,c,ty,Y,r⟩:=D;obtain⟨u,g1,g2⟩:=jA (w:=w) f V hx r (kS Y);refine dh (s:=Instr.loadAt t (a.eval (.tmp tx))) (v:=u) (w':=w) rfl ?_ g2 (by simpa[gr]using hi) G.le_refl (bL.refl G w);rw[T];simp[Instr.loadAt,Instr.sureAddr,g1]
 |dH sz ag=>
  obtain⟨t,tx,rfl,rfl,f,V⟩:=Aq F;obtain⟨p,x,rfl,rfl,ai⟩:=lS h;obtain⟨Z,e,h1⟩:=cf (by simpa using hr);cases e;rcases ai with⟨cs,rfl,hx⟩|⟨s,off,cs,rfl,i,hx⟩
  ·simp only[aD]at h1;obtain⟨b,o,vs,T,ha,ad⟩:=h1;obtain⟨u,g1,g2⟩:=om (ns:=ns) (w:=w) f V hx ad (fun j v hj=>hi.known _ _ _ (ha j v hj));refine dh (s:=Instr.loadAt t (a.eval (.tmp tx))) (v:=u) (w':=w) rfl ?_ g2 (by simpa[gr]using hi) G.le_refl (bL.refl G w);rw[T];simp[Instr.loadAt,Instr.sureAddr,g1]
  ·obtain⟨a5,hx⟩:=hx;simp only[aD]at h1;obtain⟨b,hp,T⟩:=h1;obtain⟨b',C,D,_⟩:=hi.dU _ _ i;rw[hp]at C;cases C;obtain⟨_,c,ty,vs,suf,Y,_,U,r⟩:=D.cells a5;obtain⟨u,g1,g2⟩:=jA (w:=w) f V hx r (pn Y U);refine dh (s:=Instr.loadAt t (a.eval (.tmp tx))) (v:=u) (w':=w) rfl ?_ g2 (by simpa[gr]using hi) G.le_refl (bL.refl G w);rw[T];simp[Instr.loadAt,Instr.sureAddr,g1]
 |bB key off sz=>
  obtain⟨t,tx,v,rfl,rfl,f⟩:=xY F;obtain⟨cs,x,rfl,i,hl,q,aj,rfl⟩:=jb h;simp only[AK.key,za3]at i;obtain⟨x1,x2,e,h1,h2⟩:=eD (by simpa using hr);cases e;simp only[aD]at h1;obtain⟨b,hp,T⟩:=h1;obtain⟨b',C,D,O⟩:=hi.cV _ _ i;rw[hp]at C;cases C;obtain⟨_,c,ty,Y,r⟩:=D;have d:=h2.cells q;have I:(a.eval v).cells.size=sz:=by have:=d.length;simp at this;omega
  have L:=r.length;simp at L;have M:=pw (P:=P) (w:=w) f I Y (off:=off) (by omega) (lO d q)
  obtain⟨g1,g2⟩:=hi.H4 (cells':=a0 cs off (a6 x)) i hp (c':=(c.toList.take off++(a.eval v).cells.toList++c.toList.drop (off+(a.eval v).cells.toList.length)).toArray)
    (by simpa using iu off r d) (jB O q)
  refine⟨.skip,undef,_,G,?_,.inr ⟨rfl,rfl⟩,by simp[aD],g1,G.le_refl,g2⟩;simp[execOp,T,Instr.storeAt,Instr.sureAddr,M]
 |et sz=>
  obtain⟨t,tx,v,rfl,rfl,f⟩:=xZ F;obtain⟨s,off,x,cs,rfl,i,a5,hl,aj,q,N,rfl⟩:=jc h;obtain⟨x1,x2,e,h1,h2⟩:=eD (by simpa using hr);cases e;simp only[aD]at h1;obtain⟨b,hp,T⟩:=h1;obtain⟨b',C,D,O,am⟩:=hi.dU _ _ i;rw[hp]at C;cases C;obtain⟨_,c,ty,vs,suf,Y,al,U,r⟩:=D.cells a5;have d:=rH h2 (lP q);have I:(a.eval v).cells.size=sz:=by have:=d.length;simp at this;omega
  have L:=r.length;have an:c.size=vs.length+suf.length:=(by rw[<-Array.length_toList,U,zan]);have ao:(a.eval v).cells.toList.length=sz:=(by simpa using I);have M:=pw (P:=P) (w:=w) f I Y (off:=off) (by omega) (lO d (lP q))
  obtain⟨g1,g2⟩:=hi.tS (cells':=a0 cs off (cA x)) i hp Y (c':=(c.toList.take off++(a.eval v).cells.toList++c.toList.drop (off+(a.eval v).cells.toList.length)).toArray)
    (suf:=suf) (vs:=vs.take off++(a.eval v).cells.toList++vs.drop (off+(a.eval v).cells.toList.length))
    (by rw[<-al];simp;omega)
    (by
     show c.toList.take off++(a.eval v).cells.toList++c.toList.drop (off+(a.eval v).cells.toList.length)=_;rw[U,zbA (by omega),zcR (by omega)];simp[zaQ])
    (iu off r d) (jB O q) (jB am N)
  refine⟨.skip,undef,_,G,?_,.inr ⟨rfl,rfl⟩,by simp[aD],by simpa[AK.key,fY]using g1,G.le_refl,g2⟩;simp[execOp,T,Instr.storeAt,Instr.sureAddr,M]
 |alloc key z=>
  obtain⟨t,rfl,rfl,K,rfl⟩:=Au F;obtain⟨rfl,i,rfl⟩:=j8 h;simp only[AK.key,za3]at i;obtain⟨zv,a2,a1⟩:=iK (P:=P) (w:=w) K;obtain⟨zr,zl⟩:=iY (G:=G) (ρ:=num ns) a1;obtain⟨g1,g2,E⟩:=hi.wE (c:=zv.cells) t i zr zl;refine dh (s:=Instr.alloc t true (.tuple #[])) (v:=.pointer (some ⟨w.heap.size,0,none⟩)) rfl ?_ ?_ g1 g2 E
  ·simp only[Instr.alloc,zau,a2,zag,jY,zaB]
  ·simp only[aD];exact⟨_,by simp[Gh.dy],rfl⟩
 |box key sz=>
  obtain⟨t,y,rfl,rfl,f,rfl⟩:=H' F;obtain⟨x,rfl,i,hl,q,rfl⟩:=mQ h;simp only[AK.key,za3]at i;obtain⟨Z,e,h1⟩:=cf (by simpa using hr);cases e;have d:=h1.cells q;obtain⟨g1,g2,E⟩:=hi.wE (c:=(a.eval y).cells) t i d q;refine dh (s:=Instr.box t (a.eval y)) (v:=.pointer (some ⟨w.heap.size,0,none⟩)) rfl ?_ ?_ g1 g2 E
  ·simp only[Instr.box,zau,jY,zag,zaB]
  ·simp only[aD];exact⟨_,by simp[Gh.dy],rfl⟩
 |fR z=>
  obtain⟨t,rfl,rfl,K⟩:=x4 F;obtain⟨rfl,rfl⟩:=kH h;obtain⟨zv,a2,a1⟩:=iK (P:=P) (w:=w) K;obtain⟨zr,zl⟩:=iY (G:=G) (ρ:=num ns) a1;obtain⟨g1,g2,E⟩:=hi.pq (c:=zv.cells) t zr zl (H9 _ z);refine dh (s:=Instr.alloc t true (.tuple #[])) (v:=.pointer (some ⟨w.heap.size,0,none⟩)) rfl ?_ ?_ g1 g2 E
  ·simp only[Instr.alloc,zau,a2,zag,jY,zaB]
  ·simp only[aD];exact⟨(w.heap.size,zv.cells.size),by simp[Gh.df],rfl⟩
 |qn sz=>
  obtain⟨t,y,rfl,rfl,f⟩:=C_ F;obtain⟨x,rfl,hl,q,N,rfl⟩:=nv h;obtain⟨Z,e,h1⟩:=cf (by simpa using hr);cases e;have d:=rH h1 (lP q);obtain⟨g1,g2,E⟩:=hi.pq (c:=(a.eval y).cells) t d q (jC (zbo _) N);refine dh (s:=Instr.box t (a.eval y)) (v:=.pointer (some ⟨w.heap.size,0,none⟩)) rfl ?_ ?_ g1 g2 E
  ·simp only[Instr.box,zau,jY,zag,zaB]
  ·simp only[aD];exact⟨(w.heap.size,(a.eval y).cells.size),by simp[Gh.df],rfl⟩
 |sG sz=>
  obtain⟨t,y,rfl,rfl,f⟩:=Da F;obtain⟨x,rfl,hl,q,N,rfl⟩:=nA h;obtain⟨Z,e,h1⟩:=cf (by simpa using hr);cases e;have d:=h1.cells (lP q);obtain⟨g1,g2,E⟩:=hi.pq (c:=(a.eval y).cells) t d q (jC (zbo _) N);refine dh (s:=Instr.box t (a.eval y)) (v:=.pointer (some ⟨w.heap.size,0,none⟩)) rfl ?_ ?_ g1 g2 E
  ·simp only[Instr.box,zau,jY,zag,zaB]
  ·simp only[aD];exact⟨(w.heap.size,(a.eval y).cells.size),by simp[Gh.df],rfl⟩
 |lh sz W ag z=>
  obtain⟨t,e,l,c,rfl,rfl,hu,f,Q,K,H,h0⟩:=Av F;obtain⟨k,k',n,rfl,h1,h2,h3,_,rfl⟩:=lT h;obtain⟨x1,x2,e',r1,r2⟩:=eD (by simpa using hr);cases e';obtain⟨v,w',G',g1,g2,E,g4,g5⟩:=Aj (k:=k) (k':=k') (ag:=ag) hu f Q K H h0 h1 h2 h3 hi;refine dh (s:=Instr.makeSlice t (a.eval l) (a.eval c)) rfl ?_ g2 E g4 g5;rw[rE r1,rE r2];exact g1
 |append sz W=>
  obtain⟨c,rfl⟩:=x5 F;obtain⟨x,y,t,e,t1,e1,z,B,m,rfl,h0,h1,hu,a3,f,Q,K,H,a4,ab⟩:=C7 F;obtain⟨s,Z,y',ts,rfl,R,rfl⟩:=kI h;obtain⟨x1,x2,e',r1,r2⟩:=eD (by simpa using hr);cases e';obtain⟨v,w',G',g1,g2,E,g4,g5⟩:=xW (type:=type) h0 h1 hu a3 f Q K H ab r1 r2 hi R;refine dh (s:=Builtin.append_ c.argTypes type #[a.eval x,a.eval y]) ?_ g1 g2 E g4 g5;obtain⟨callee,S,J⟩:=c;simp only at B m;subst B;subst m;simp[execOp,resolve,invoke,builtin]
 |dN sz W ag=>
  obtain⟨c,rfl⟩:=vZ F;obtain⟨x,y,t,e,t1,e1,z,B,m,rfl,h0,h1,hu,a3,f,Q,K,H,a4,ab⟩:=Ai F;obtain⟨s,Z,xs,y',sh',rfl,ac,ak,R,rfl⟩:=lU h;obtain⟨x1,x2,e',r1,r2⟩:=eD (by simpa using hr);cases e';obtain⟨v,w',G',g1,g2,E,g4,g5⟩:=vY (type:=type) h0 h1 hu a3 f Q K H ab r1 r2 hi ac ak R;refine dh (s:=Builtin.append_ c.argTypes type #[a.eval x,a.eval y]) ?_ g1 g2 E g4 g5;obtain⟨callee,S,J⟩:=c;simp only at B m;subst B;subst m;simp[execOp,resolve,invoke,builtin]
 |im sz z=>
  obtain⟨c,rfl⟩:=x6 F;obtain⟨x,t,e,B,m,rfl,h0,hu,f,K,H,a4⟩:=C9 F;obtain⟨Z,sh',rfl,O,rfl⟩:=rG h;obtain⟨x1,e',r1⟩:=cf (by simpa using hr);cases e';obtain⟨w',g1,g2,E⟩:=xX (type:=type) h0 hu K H a4 r1 hi O;refine dh (s:=Builtin.clear_ c.argTypes type #[a.eval x]) (v:=.tuple #[]) ?_ g1 (by simp only[aD];exact⟨[],rfl,by simp[aB]⟩) g2 G.le_refl E;obtain⟨callee,S,J⟩:=c;simp only at B m;subst B;subst m;simp[execOp,resolve,invoke,builtin]
 |_=>first|(simp[exec]at h;done)|(simp[exec]at e;done)|(simp[exec];done)
end
end Go.Ab
namespace Go.Ab
section
variable {P:Program} {ns:Names} {G:Gh} {w:World}
def Yh(K:bo)(w:World):Prop:=∀b o v,K b o=some v->w.cell? ⟨b,o,none⟩=some v
def VL(p:Nat->Option (Array Value))(w:World):Prop:=∀b c,p b=some c->∃t z,w.heap[b]?=some (.cells c t z)
def mR(K:bo)(rs:List PV)(v:Value):Prop:=
 match rs with
 |[r]=>Rel K r v
 |rs=>∃vs:List Value,v=.tuple vs.toArray∧lK K rs vs
def dz(ρ:bU)(G:Gh)(rs:List AV)(v:Value):Prop:=
 match rs with
 |[r]=>aD ρ G r v
 |rs=>∃vs:List Value,v=.tuple vs.toArray∧aB ρ G rs vs
def Rz(P:Program)(ns:Names)(f:FuncId)(dV rs:List PV):Prop:=
 ∀(K:bo)(w:World)(vs:List Value),VL ns.nZ w->Yh K w->lK K dV vs->
   Calls P f vs.toArray w fun e w'=>∃v K',e=.returned v∧mR K' rs v∧K.le K'∧(∀b o u,b<w.heap.size->K' b o=some u->K b o=some u)∧Yh K' w'∧RowKit.Below w.heap.size w w'
def YF(P:Program)(ns:Names)(f:FuncId)(args:List AV)(ts:aG)(rs:List AV)(sh sh':Sh)(ts':aG):Prop:=
 ∀(G:Gh)(w:World)(vs:List Value),Inv (num ns) G w [] sh ts->aB (num ns) G args vs->
   Calls P f vs.toArray w fun e w'=>∃v G',e=.returned v∧dz (num ns) G' rs v∧Inv (num ns) G' w' [] sh' ts'∧bL G w G' w'
def Lo(P:Program)(ns:Names)(f sz bytes:Nat):Prop:=
 ∀(o:Option Bool)(G:Gh)(w:World)(mem:List (Nat×List AV))(sh sh':Sh)(aa toks':aG)(x y:AV)(v:Value),Inv (num ns) G w mem sh aa->aD (num ns) G x v->gI o sz bytes x sh aa=some (y,sh',toks')->
   Calls P f #[v] w fun e w'=>∃u G',e=.returned u∧aD (num ns) G' y u∧Inv (num ns) G' w' mem sh' toks'∧G.le G'∧bL G w G' w'
structure kJ(P:Program)(ns:Names)(orc:eZ):Prop where
 p:∀g f dV rs,ns.of f=some g->orc.p g dV=some rs->Rz P ns f dV rs
 i:∀g f args ts rs sh sh' ts',ns.of f=some g->args.all bE=true->orc.i g args sh ts=some (rs,sh',ts')->YF P ns f args ts rs sh sh' ts'∧rs.all bE=true
 c:∀g sz bytes f,look ns.cl g=some (sz,bytes)->ns.of f=some g->Lo P ns f sz bytes
def iM (P:Program) (ns:Names):Prop:=∀f g,ns.of f=some g→∃fn b,P.funcs[f]?=some fn∧fn.body=some b∧fn.name ≠ "runtime.NumGoroutine"
theorem lV{f:FuncId}{g:Nat}(a:iM P ns)(hf:ns.of f=some g)(args:Array Value):(callFunc f args).run P w=.ok (.enter f args) w:=by
 obtain⟨fn,b,h1,h2,h3⟩:=a f g hf;simp[callFunc,h1,h2,h3]
mutual
theorem nB{ρ:bU}{G':Gh}(hK:G.K.le G'.K)(hs:∀s b,G.sm s=some b->G'.sm s=some b):∀{x:AV}{v:Value},bJ x=true->aD ρ G x v->aD ρ G' x v
 | .pv p,_,_,h=>by simp only[aD]at h⊢;exact h.mono hK
 | .aI s o,_,_,h=>by simp only[aD]at h⊢;obtain⟨b,e,r⟩:=h;exact⟨b,hs _ _ e,r⟩
 | .bh s _ n _,_,_,h=>by simp only[aD]at h⊢;obtain⟨b,c,e,r⟩:=h;exact⟨b,c,hs _ _ e,r⟩
 | .ic,_,_,h=>by simpa only[aD]using h
 | .jN s,_,_,h=>by simp only[aD]at h⊢;obtain⟨b,e,r⟩:=h;exact⟨b,hs _ _ e,r⟩
 | .ql ..,_,hp,_=>by simp[bJ]at hp
 | .fM _,_,_,h=>by simp only[aD]at h
 | .fn g cap,_,hp,h=>by
  simp only[bJ]at hp;simp only[aD]at h⊢;obtain⟨f,vs,e1,e2,r⟩:=h;exact⟨f,vs,e1,e2,qz hK hs hp r⟩
 | .un,_,hp,_=>by simp[bJ]at hp
 | .cQ _,_,_,h=>by simp only[aD]at h⊢;obtain⟨b,l,e,r⟩:=h;exact⟨b,l,e,r.mono hK⟩
 | .own _ _,_,hp,_=>by simp[bJ]at hp
 | .agg _,_,hp,h=>by
  simp only[bJ]at hp;simp only[aD]at h⊢;obtain⟨vs,e,r⟩:=h;exact⟨vs,e,qz hK hs hp r⟩
 | .qj _,_,hp,_=>by simp[bJ]at hp
 | .au _ _,_,hp,_=>by simp[bJ]at hp
 | .dQ _,_,hp,_=>by simp[bJ]at hp
theorem qz{ρ:bU}{G':Gh}(hK:G.K.le G'.K)(hs:∀s b,G.sm s=some b->G'.sm s=some b):∀{xs:List AV}{vs:List Value},bJ.iG xs=true->aB ρ G xs vs->aB ρ G' xs vs
 |[],_,_,h=>by simpa only[aB]using h
 |x::xs,_,hp,h=>by
  simp only[bJ.iG,zaf]at hp;simp only[aB]at h⊢;obtain⟨v,r,e,e1,e2⟩:=h;exact⟨v,r,e,nB hK hs hp.1 e1,qz hK hs hp.2 e2⟩
end
theorem Inv.pure{K':bo}{m:World}{mem:List (Nat×List AV)}{sh:Sh}{aa:aG}(hi:Inv (num ns) G w mem sh aa)(hK:G.K.le K')(a:∀b o u,b<w.heap.size->K' b o=some u->G.K b o=some u)
   (p:Yh K' m) (g:RowKit.Below w.heap.size w m):Inv (num ns) {G with K:=K'} m mem sh aa∧G.le {G with K:=K'}∧bL G w {G with K:=K'} m:=by
 have l:G.le {G with K:=K'}:=⟨hK,fun _ _ h=>h,fun _ _ h=>h,fun _ t h=>⟨t,h,⟨zaj _,t.iV⟩,fun _=>rfl⟩⟩
 have k:bL G w {G with K:=K'} m:={
           size:=g.size,os:=g.os,tape:=g.tape,output:=g.output,K:=hK,sm:=fun _ _ h=>h,
           d9:=fun b h hr=>⟨hr,g.block b h⟩,jR:=fun b τ _ hr=>.inr ⟨τ,hr⟩,i_:=fun b o v h _ f=>a b o v h f}
 refine⟨⟨p,?_,?_,?_,hi.i7,?_,hi.gO,?_,hi.gX,hi.jS k⟩,l,k⟩
 ·intro b o v f;by_cases h:b<w.heap.size
  ·exact hi.a_ b o v (a b o v h f)
  ·exact .inl (hi.fresh b (by omega))
 ·intro b h;have:=g.size;exact hi.fresh b (by omega)
 ·intro d cs hd;obtain⟨b,e1,e2,e3⟩:=hi.cV d cs hd;have e:b<w.heap.size:=by obtain⟨_,_,_,q,_⟩:=e2;exact cT q
  exact⟨b,e1,e2.mono l rfl (g.block b e),e3⟩
 ·intro s cs hs;obtain⟨b,e1,e2,e3⟩:=hi.dU s cs hs;have e:b.1<w.heap.size:=e2.lt;exact⟨b,e1,e2.mono l rfl (g.block b.1 e),e3⟩
 ·intro τ n hn;obtain⟨t,e1,e2,e3⟩:=hi.dp τ n hn;refine⟨t,e1,e2,e3.cap,e3.zero,fun e=>?_⟩;obtain⟨b,o,c,ty,f1,f2,f3,r,f5⟩:=e3.spare e;have i:=cT f3;exact⟨b,o,c,ty,f1,f2,(g.block b i).trans f3,r,fun j v f=>f5 j v (a b j v i f)⟩
end
end Go.Ab
