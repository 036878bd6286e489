import Derived.Test.YthcoecdbgdhihaaGreatDoorAbClone
import Derived.Test.YthcoecdbgdhihaaGreatDoorAbPrim
import Derived.Lib.Builder
import Derived.Lib.UnsafeStr
import Derived.Lib.AppendStr
/-
  A program's text written through a strings.Builder: what the declarations' and the bindings' texts are, one after another.
-/
set_option linter.unusedVariables false
set_option linter.unusedSimpArgs false
set_option linter.unnecessarySimpa false
set_option maxRecDepth 100000
set_option maxHeartbeats 8000000
namespace Go.Ab
open Ev
def mA (o:Nat→List PV→Option (List PV)) (g:Nat):List PV→Option (List UInt8)
 | []=>some []
 | d::r=>match o g [d] with
   | some [.str s]=>(mA o g r).map (s++·)
   | _=>none
def im (n:Nat):PV→Bool
 | .agg cs=>cs.length == n && cs.all eI
 | _=>false
def yW (gd gb:Nat) (o:Nat→List PV→Option (List PV)):List PV→Option (List PV)
 | [.agg [.aI ds,.aI bs]]=>
   if ds.all (im 4)=true∧bs.all (im 20)=true∧ds.length<4611686018427387904∧bs.length<4611686018427387904 then
     match mA o gd ds,mA o gb bs with
     | some a,some b=>if (a++b).length≤140737488355328 then some [.str (a++b)] else none
     | _,_=>none
   else none
 | _=>none
theorem su {o:Nat→List PV→Option (List PV)} {g:Nat}:∀{l:List PV} {s:List UInt8},mA o g l=some s →
   ∃c:List (Nat×List PV×List PV),(∀x∈c,o x.1 x.2.1=some x.2.2)∧∀o',(∀x∈c,o' x.1 x.2.1=some x.2.2)→mA o' g l=some s
 | [],s,h=>⟨[],by simp,fun _ _=>h⟩
 | d::r,s,h=>by
   simp only [mA] at h;split at h
   · rename_i t ht;simp only [Option.map_eq_some_iff] at h;obtain ⟨u,hu,rfl⟩:=h;obtain ⟨c,h1,h2⟩:=su hu;refine ⟨(g,[d],[.str t])::c,?_,fun o' ho=>?_⟩
     · intro x hx;simp only [List.mem_cons] at hx;rcases hx with rfl | hx
       · exact ht
       · exact h1 x hx
     · have e1:=ho _ (List.mem_cons_self);simp only [mA,e1,h2 o' (fun x hx=>ho x (List.mem_cons_of_mem _ hx)),Option.map_some]
   · cases h
def OJ (gd gb:Nat):Prim:=⟨yW gd gb,by
 intro o x r h;unfold yW at h;split at h
 · rename_i ds bs;rw [Option.ite_none_right_eq_some] at h;obtain ⟨hc,h⟩:=h;split at h
   · rename_i a b ha hb;obtain ⟨c1,f1,f2⟩:=su ha;obtain ⟨c2,k1,k2⟩:=su hb;refine ⟨c1++c2,?_,fun o' ho=>?_⟩
     · intro x hx;rcases List.mem_append.1 hx with hx | hx
       · exact f1 x hx
       · exact k1 x hx
     · unfold yW;simp only;rw [if_pos hc,f2 o' (fun x hx=>ho x (List.mem_append_left _ hx)),k2 o' (fun x hx=>ho x (List.mem_append_right _ hx))];exact h
   · cases h
 · cases h⟩
theorem oW {sh:Sh}:∀{cs:List PV},cs.all eI=true→dT sh (cs.map .pv)=some cs
 | [],_=>rfl
 | c::cs,h=>by
   simp only [List.all_cons,Bool.and_eq_true] at h;simp only [List.map_cons,dT];have hl:bp (.pv c)=true:=by cases c<;>first | rfl | simp [eI] at h
   rw [if_pos hl,oW h.2];rfl
theorem ux {cs:List PV} (h:cs.all eI=true):(cs.map AV.pv).all bp=true:=by
 rw [List.all_eq_true] at *;intro x hx;rw [List.mem_map] at hx;obtain ⟨c,hc,rfl⟩:=hx;have:=h c hc;cases c<;>first | rfl | simp [eI] at this
theorem mJ {zs vs:List AV} (h:vs.length=zs.length):bn zs 0 vs=vs:=by
 simp [bn,h]
section
variable {T E:TypeId} {B b:Nat} {w w':World}
theorem nX {p:Value} {bs:List Value} (h:Lib.BuilderAt T E B b p bs w) (hw:∀k,k<w.heap.size→w'.heap[k]?=w.heap[k]?):Lib.BuilderAt T E B b p bs w':=by
 have hlt:=h.lt;obtain ⟨h1,v,h2,h3,h4⟩:=h;refine ⟨h1,v,by rw [hw b hlt];exact h2,⟨h3.1,?_⟩,h4⟩;rcases h3.2 with h5 | ⟨g,cap,cur,e1,e2,e3,e4⟩
 · exact .inl h5
 · have hg:g<w.heap.size:=(Array.getElem?_eq_some_iff.1 e3).1;exact .inr ⟨g,cap,cur,e1,e2,by rw [hw g hg];exact e3,e4⟩
theorem wg {bs:List Value} (h:Lib.IsBuilder T E B b bs w) (hw:∀k,k<w.heap.size→w'.heap[k]?=w.heap[k]?):Lib.IsBuilder T E B b bs w':=
 h.imp (fun h=>nX h hw) (fun h=>nX h hw)
end
structure Wd (T E:TypeId) (B b:Nat) (acc:List UInt8) (w1 w:World):Prop where
 below:RowKit.Below B w1 w
 le:B≤w.heap.size
 Qo:Lib.IsBuilder T E B b (Lib.byteCells acc) w
def Gr (K:bJ):Gh:={ K,role:=fun _=>.eE,pm:=fun _=>none,sm:=fun _=>none,tk:=fun _=>none }
section
variable {P:Program} {ns:Names}
theorem OK {K:bJ} {w:World} (hpin:mS ns.jS w) (hK:zE K w):Inv (num ns) (Gr K) w [] [] [] where
 known:=hK
 bz:=fun _ _ _ _=>.inl rfl
 fresh:=fun _ _=>rfl
 dq:=fun d c h=>by simp [look] at h
 gN:=fun d b h=>by simp [Gr] at h
 dP:=fun s c h=>by simp at h
 eJ:=fun s b h=>by simp [Gr] at h
 dI:=fun τ n h=>by simp at h
 fc:=fun τ t h=>by simp [Gr] at h
 jS:=fun b c hb=>⟨rfl,hpin b c hb⟩
theorem KK {K:bJ} {w w':World} {G':Gh} (h:cq (Gr K) w G' w'):∀k,k<w.heap.size→w'.heap[k]?=w.heap[k]?:=fun k hk=>(h.eE k hk rfl).2
theorem FU {K:bJ} {w w':World} {G':Gh} (h:cq (Gr K) w G' w') {B:Nat} (hB:B≤w.heap.size):RowKit.Below B w w':=
 ⟨h.os,h.tape,h.output,h.size,fun k hk=>(h.eE k (Nat.lt_of_lt_of_le hk hB) rfl).2⟩
theorem Wd.pn {T E:TypeId} {B b:Nat} {acc:List UInt8} {w1 w w':World} {K:bJ} {G':Gh} (h:Wd T E B b acc w1 w) (he:cq (Gr K) w G' w'):Wd T E B b acc w1 w':=
 ⟨h.below.trans (FU he h.le),Nat.le_trans h.le he.size,wg h.Qo (KK he)⟩
theorem ij {n:Nat} {ops:Array Oper} {Q:Exit→Act→World→Prop} {rest:List Oper} {o:Oper} {a:Act} {w w':World} {v:Value} (hd:∀c,o.op≠.defer c) (hg:o.guard=none)
   (hr:(execOp a.eval o).run P w=.ok (.value v) w') (h:wpListIn Fence.wide n P ops Q rest (a.put o.dst v) w'):wpListIn Fence.wide n P ops Q (o::rest) a w:=by
 unfold wpListIn;have hw:Region.wanted o (yielded ops a.tmps)=true:=by simp [Region.wanted,hg]
 rw [if_pos hw];refine qp (ro:=none) hd ?_;unfold Oper.wp;rw [hr];exact h
theorem Ij {o:Oper} {E:Operand→Value} {T:TypeId} (h:o.op=.alloc T):execOp E o=(do let v ←Instr.alloc T true (.tuple #[]);pure (Next.value v):Sem Next):=by
 obtain ⟨dst,op,type,pos,after,guard⟩:=o;simp only at h;subst h;rfl
theorem M3 {o:Oper} {E:Operand→Value} {T:TypeId} {x:Operand} (h:o.op=.box T x):execOp E o=(do let v ←Instr.box T (E x);pure (Next.value v):Sem Next):=by
 obtain ⟨dst,op,type,pos,after,guard⟩:=o;simp only at h;subst h;rfl
theorem yX {o:Oper} {E:Operand→Value} {T:TypeId} {x:Operand} {i:Nat} (h:o.op=.fieldAddr T x i):execOp E o=(do let v ←Instr.fieldAt T (E x) i;pure (Next.value v):Sem Next):=by
 obtain ⟨dst,op,type,pos,after,guard⟩:=o;simp only at h;subst h;rfl
theorem CT {o:Oper} {E:Operand→Value} {T:TypeId} {x:Operand} (h:o.op=.load T x):execOp E o=(do let v ←Instr.loadAt T (E x);pure (Next.value v):Sem Next):=by
 obtain ⟨dst,op,type,pos,after,guard⟩:=o;simp only at h;subst h;rfl
theorem eR {n0:Nat} {ro:Option Nat} {n:Nat} (hB:eT P ns) {orc:ep} (horc:gF P ns orc) {A:lf} {N:Nat} {ops:Array Oper} {Q:Exit→Act→World→Prop} {l:List Oper} {as:List dv} {st st':St} {G:Gh} {a:Act} {w:World}
   (hc:cL (db P ns A N ops) l=some as) (hs:gT (num ns) n0 N G st a w) (hev:bQ orc as st=some st')
   (hq:∀G' a' w',gT (num ns) n0 N G' st' a' w'→cq G w G' w'→a'.defers=a.defers→(∀t,(∀ao∈as,ao.dst≠some t)→a'.tmps[t]?=a.tmps[t]?)→Q .normal a' w'):wpListIn (s7 ro) n P ops Q l a w:=by
 have:=ie (ro:=ro) (n:=n) (rest:=[]) (Q:=Q) hB horc hc hs hev (fun G' a' w' h1 h2 h3 h4=>by unfold wpListIn;exact hq G' a' w' h1 h2 h3 h4)
 rwa [List.append_nil] at this
theorem oX {n:Nat} {ops:Array Oper} {Q:Exit→Act→World→Prop} {rest:List Oper} {o:Oper} {f:FuncId} {args:Array Operand} {types:Array TypeId} {a:Act} {w:World} (hop:o.op=.call { callee:=.value (.func f),args,argTypes:=types }) (hg:o.guard=none)
   (hb:∃fn b,P.funcs[f]?=some fn∧fn.body=some b∧fn.name ≠ "runtime.NumGoroutine")
   (h:Calls P f (args.map a.eval) w fun e w'=>∃v,e=.returned v∧wpListIn Fence.wide n P ops Q rest (a.put o.dst v) w'):wpListIn Fence.wide n P ops Q (o::rest) a w:=by
 unfold wpListIn;have hw:Region.wanted o (yielded ops a.tmps)=true:=by simp [Region.wanted,hg]
 rw [if_pos hw];refine qp (ro:=none) (by intro c e;rw [hop] at e;cases e) ?_;obtain ⟨fn,b,h1,h2,h3⟩:=hb
 have hr:(execOp a.eval o).run P w=.ok (.enter f (args.map a.eval)) w:=by
   obtain ⟨dst,op,type,pos,after,guard⟩:=o;simp only at hop;subst hop;simp [execOp,resolve,Act.eval,Deferred.ofValue,invoke,callFunc,h1,h2,h3]
 unfold Oper.wp;rw [hr];refine Calls.mono h ?_
 rintro e w' ⟨v,rfl,h⟩
 exact h
structure nY (P:Program) (ns:Names) (f gd gb:Nat) where
 fn:Func
 A:lf
 T:TypeId
 E:TypeId
 Tp:TypeId
 fw:Nat
 fs:Nat
 t1:Array TypeId
 t2:Array TypeId
 t3:Array TypeId
 tf:TypeId
 f0:Nat
 f1:Nat
 Qp:Field
 Qq:Field
 s0:Nat
 s1:Nat
 td:TypeId
 tb:TypeId
 bx:Oper
 rs:Oper
 al:Oper
 fa:Oper
 ld:Oper
 r2:List Oper
 o3:Array Oper
 o4:Array Oper
 l5:List Oper
 w5:Oper
 o6:Array Oper
 KL:Oper
 KM:Oper
 r7:List Oper
 o8:Array Oper
 o9:Array Oper
 l10:List Oper
 Ik:Oper
 M4:Array Oper
 st:Oper
 fi:Oper
 i0:Nat
 i1:Nat
 i2:Nat
 i3:Nat
 i4:Nat
 i5:Nat
 i6:Nat
 i7:Nat
 i8:Nat
 i9:Nat
 OL:Nat
 OM:Nat
 Qr:Nat
 b0:Nat
 b1:Nat
 b2:Nat
 b3:Nat
 hf:P.funcs[f]?=some fn
 jA:fn.body=some (.seq (.region i0 #[bx,rs] false) (.seq (.region i1 #[al] false) (.seq (.seq (.region i2 (fa::ld::r2).toArray false) (.block b0 (.loop (.seq (.region i3 o3 false) (.seq (.cond (.tmp 12) .skip (.exit b0)) (.seq (.block b1 (.seq (.region i4 o4 false) (.region i5 (l5++[w5]).toArray false))) (.region i6 o6 false)))))))
   (.seq (.seq (.region i7 (KL::KM::r7).toArray false) (.block b2 (.loop (.seq (.region i8 o8 false) (.seq (.cond (.tmp 23) .skip (.exit b2)) (.seq (.block b3 (.seq (.region i9 o9 false) (.region OL (l10++[Ik]).toArray false))) (.region OM M4 false))))))) (.seq (.region Qr #[st,fi] false) .ret)))))
 gk:fn.results=#[.tmp 2]
 hN:fn.ntmps=31
 ON:bx.op=.box Tp (.tmp 0)∧bx.dst=some 1∧bx.guard=none
 MT:rs.op=.assign (.const (.string ⟨#[]⟩))∧rs.dst=some 2∧rs.guard=none
 KN:al.op=.alloc T∧al.dst=some 3∧al.guard=none
 hz:(P.info? T).bind (·.zero)=some (.agg #[.pointer none,.slice none 0 0])
 NV:fa.op=.fieldAddr tf (.tmp 1) f0∧fa.dst=some 8∧fa.guard=none
 Q_:gg P tf f0=some Qp∧Qp.offset=0∧cW P Qp.type=some s0∧s0≠0
 NW:ld.op=.load td (.tmp 8)∧ld.dst=some 9∧ld.guard=none
 QO:cW P td=some 1∧fQ P td=some false
 c2:cL (db P ns A 31 (fa::ld::r2).toArray) r2=some [⟨some 10,none,[.t 9],.v .len⟩,⟨some 11,none,[.c (.pv (.int .i64 0))],.v .mv⟩]
 FV:KL.op=.fieldAddr tf (.tmp 1) f1∧KL.dst=some 19∧KL.guard=none
 OO:gg P tf f1=some Qq∧Qq.offset=1∧cW P Qq.type=some s1∧s1≠0
 FW:KM.op=.load tb (.tmp 19)∧KM.dst=some 20∧KM.guard=none
 NQ:cW P tb=some 1∧fQ P tb=some false
 c7:cL (db P ns A 31 (KL::KM::r7).toArray) r7=some [⟨some 21,none,[.t 20],.v .len⟩,⟨some 22,none,[.c (.pv (.int .i64 0))],.v .mv⟩]
 c3:cL (db P ns A 31 o3) o3.toList=some [⟨some 12,none,[.t 11,.t 10],.v (.bin .lss)⟩]
 c4:cL (db P ns A 31 o4) o4.toList=some [⟨some 13,none,[.t 9,.t 11],.v (.aA 4)⟩,⟨some 14,none,[.t 13],.v (.bG 4 true)⟩,⟨some 5,none,[],.alloc 5 [.int .i64 0,.str [],.aI [],.aI []]⟩,⟨none,none,[.t 5,.t 14],.cV 5 0 4⟩]
 c5:cL (db P ns A 31 (l5++[w5]).toArray) l5=some [⟨some 15,none,[.t 5],.aU 5 0 4 true⟩,⟨some 16,none,[.t 15],.aq gd⟩]
 c6:cL (db P ns A 31 o6) o6.toList=some [⟨some 18,none,[.t 11,.c (.pv (.int .i64 1))],.v (.bin .add)⟩,⟨some 11,none,[.t 18],.v .mv⟩]
 Qs:w5.op=.call { callee:=.value (.func fw),args:=#[.tmp 3,.tmp 16],argTypes:=t1 }∧w5.dst=some 17∧w5.guard=none
 c8:cL (db P ns A 31 o8) o8.toList=some [⟨some 23,none,[.t 22,.t 21],.v (.bin .lss)⟩]
 c9:cL (db P ns A 31 o9) o9.toList=some [⟨some 24,none,[.t 20,.t 22],.v (.aA 20)⟩,⟨some 25,none,[.t 24],.v (.bG 20 true)⟩,⟨some 7,none,[],.alloc 7 [.int .i64 0,.bool false,.str [],.bool false,.int .i64 0,.str [],.int .i64 0,.int .i64 0,.aI [],.int .i64 0,.int .i64 0,.str [],.int .i64 0,.aI [],.aI [],.int .i64 0,.str [],.int .i64 0,.int .i64 0,.aI []]⟩,⟨none,none,[.t 7,.t 25],.cV 7 0 20⟩]
 c10:cL (db P ns A 31 (l10++[Ik]).toArray) l10=some [⟨some 26,none,[.t 7],.aU 7 0 20 true⟩,⟨some 27,none,[.t 26],.aq gb⟩]
 c11:cL (db P ns A 31 M4) M4.toList=some [⟨some 29,none,[.t 22,.c (.pv (.int .i64 1))],.v (.bin .add)⟩,⟨some 22,none,[.t 29],.v .mv⟩]
 KO:Ik.op=.call { callee:=.value (.func fw),args:=#[.tmp 3,.tmp 27],argTypes:=t2 }∧Ik.dst=some 28∧Ik.guard=none
 tV:st.op=.call { callee:=.value (.func fs),args:=#[.tmp 3],argTypes:=t3 }∧st.dst=some 30∧st.guard=none
 NP:fi.op=.assign (.tmp 30)∧fi.dst=some 2∧fi.guard=none
 QP:∃fn b,P.funcs[fw]?=some fn∧fn.body=some b∧fn.name ≠ "runtime.NumGoroutine"
 OP:∃fn b,P.funcs[fs]?=some fn∧fn.body=some b∧fn.name ≠ "runtime.NumGoroutine"
 Rp:∃f,ns.of f=some gd
 Rq:∃f,ns.of f=some gb
 write:∀(B b:Nat) (bs:List Value) (s:ByteArray) (w:World),Lib.IsBuilder T E B b bs w→bs.length+s.size≤140737488355328→B≤w.heap.size →
   Calls P fw #[.pointer (some ⟨b,0,none⟩),.string s] w fun e w'=>e=.returned (.tuple #[.int .i64 s.size,.nilIface])∧(Lib.BuilderAt T E B b (.pointer (some ⟨b,0,none⟩)) (bs++Lib.strCells s) w'∧RowKit.Below B w w')
 read:∀(B b:Nat) (l:List UInt8) (w:World),Lib.IsBuilder T E B b (Lib.byteCells l) w→B≤w.heap.size →
   Calls P fs #[.pointer (some ⟨b,0,none⟩)] w fun e w'=>e=.returned (.string ⟨l.toArray⟩)∧RowKit.Below B w w'
theorem uy {o:Nat→List PV→Option (List PV)} {g:Nat} {l:List PV} {i:Nat} {el:PV} {s:List UInt8} (hi:l[i]?=some el) (h:mA o g (l.drop i)=some s) :
   ∃t u,o g [el]=some [.str t]∧mA o g (l.drop (i+1))=some u∧s=t++u:=by
 have hlt:=(List.getElem?_eq_some_iff.1 hi).1
 have e:l.drop i=el::l.drop (i+1):=by
   rw [List.drop_eq_getElem_cons hlt];congr 1;exact (List.getElem?_eq_some_iff.1 hi).2
 rw [e] at h;simp only [mA] at h;split at h
 · rename_i t ht;simp only [Option.map_eq_some_iff] at h;obtain ⟨u,hu,rfl⟩:=h;exact ⟨t,u,ht,hu,rfl⟩
 · cases h
theorem mK {K:bJ} {a:Act} {w:World} {env:List (Nat×AV)} (hpin:mS ns.jS w) (hK:zE K w) (hs:a.tmps.size=31) (hd:a.defers=[]) (he:∀t x,look env t=some x→∃v,a.tmps[t]?=some v∧aC (num ns) (Gr K) x v) :
   gT (num ns) 0 31 (Gr K) { env,mem:=[],sh:=[],ah:=[] } a w:=
 ⟨⟨hs,he⟩,OK hpin hK,Nat.zero_le _,[],by simpa using hd,by simp,by simp⟩
theorem mg {P:Program} {o:Oper} {op:Op} (h:o.op=op) (hn:∀c,op≠.defer c):∀c,o.op≠.defer c:=fun c=>by rw [h];exact hn c
structure M5 (K:bJ) (ds:List PV) (b b1 i:Nat) (a:Act):Prop where
 size:a.tmps.size=31
 defers:a.defers=[]
 p1:a.tmps[1]?=some (.pointer (some ⟨b1,0,none⟩))
 p3:a.tmps[3]?=some (.pointer (some ⟨b,0,none⟩))
 l:∃v,a.tmps[9]?=some v∧Rel K (.aI ds) v
 n:a.tmps[10]?=some (.int .i64 ds.length)
 i:a.tmps[11]?=some (.int .i64 i)
theorem LJ {orc:ep} {i n:Int}:bQ orc [⟨some 12,none,[.t 11,.t 10],.v (.bin .lss)⟩] { env:=[(11,.pv (.int .i64 i)),(10,.pv (.int .i64 n))],mem:=[],sh:=[],ah:=[] } =
   some { env:=[(11,.pv (.int .i64 i)),(10,.pv (.int .i64 n)),(12,.pv (.bool (decide (i<n))))],mem:=[],sh:=[],ah:=[] }:=by
 simp
theorem OQ {orc:ep} {ds:List PV} {i:Nat} {cs:List PV} (hi:ds[i]?=some (.agg cs)) (hl:cs.length=4) (hc:cs.all eI=true) :
   bQ orc [⟨some 13,none,[.t 9,.t 11],.v (.aA 4)⟩,⟨some 14,none,[.t 13],.v (.bG 4 true)⟩,⟨some 5,none,[],.alloc 5 [.int .i64 0,.str [],.aI [],.aI []]⟩,⟨none,none,[.t 5,.t 14],.cV 5 0 4⟩] { env:=[(9,.pv (.aI ds)),(11,.pv (.int .i64 i))],mem:=[],sh:=[],ah:=[] } =
   some { env:=[(9,.pv (.aI ds)),(11,.pv (.int .i64 i)),(13,.gf cs),(14,.pv (.agg cs)),(5,.aG 5 0)],mem:=[(5,cs.map .pv)],sh:=[],ah:=[] }:=by
 have hi0:¬((i:Int)<0):=by omega
 have h1:(List.map AV.pv cs).all bp=true:=ux hc;have h2:cs.take 4=cs:=by rw [←hl];exact List.take_length
 have h4:4≤cs.length:=by omega
 have h3:∀zs:List AV,zs.length=4→bn zs 0 (cs.map .pv)=cs.map .pv:=fun zs hz=>mJ (by simp [hl,hz])
 simp [-getElem?_pos,-List.all_map,-List.all_eq_true,-aK,hi,hi0,hl,h2,h3,h1,h4]
theorem OR {orc:ep} {cs:List PV} {g:Nat} {s:List UInt8} {env:List (Nat×AV)} (he:look env 5=some (.aG 5 0)) (hl:cs.length=4) (hc:cs.all eI=true) (hg:orc.p g [.agg cs]=some [.str s]) :
   ∃env',bQ orc [⟨some 15,none,[.t 5],.aU 5 0 4 true⟩,⟨some 16,none,[.t 15],.aq g⟩] { env,mem:=[(5,cs.map .pv)],sh:=[],ah:=[] }=some { env:=env',mem:=[(5,cs.map .pv)],sh:=[],ah:=[] }∧look env' 16=some (.pv (.str s)):=by
 have h1:dT [] (cs.map .pv)=some cs:=oW hc;have h2:(cs.map AV.pv).take 4=cs.map .pv:=by rw [←hl];simpa using List.take_length (l:=cs.map AV.pv)
 have h4:4≤cs.length:=by omega
 refine ⟨dO (dO env 15 (.agg (cs.map .pv))) 16 (.pv (.str s)),?_,by rw [bX]⟩;have h5:look (dO env 15 (.agg (cs.map .pv))) 15=some (.agg (cs.map .pv)):=bX _ _ _;simp [-getElem?_pos,he,h1,h2,h4,h5,hg]
theorem OS {orc:ep} {i:Nat} (h:i<4611686018427387904):bQ orc [⟨some 18,none,[.t 11,.c (.pv (.int .i64 1))],.v (.bin .add)⟩,⟨some 11,none,[.t 18],.v .mv⟩] { env:=[(11,.pv (.int .i64 i))],mem:=[],sh:=[],ah:=[] } =
   some { env:=[(11,.pv (.int .i64 ((i:Int)+1))),(18,.pv (.int .i64 ((i:Int)+1)))],mem:=[],sh:=[],ah:=[] }:=by
 simp (disch:=omega) [az]
theorem Il {orc:ep} (hB:eT P ns) (horc:gF P ns orc) {f gd gb:Nat} (D:nY P ns f gd gb) {K:bJ} {w0 w1:World} {ds:List PV} {b1 b B:Nat} (hpin:mS ns.jS w0) (hK:zE K w0) (h01:RowKit.Below w0.heap.size w0 w1) (hB1:w0.heap.size≤B)
   (hds:ds.all (im 4)=true) (hlen:ds.length<4611686018427387904) {Q:Exit→Act→World→Prop} {all:List UInt8} (hall:all.length≤140737488355328) :
   ∀(j i:Nat) (a:Act) (w:World) (acc rest:List UInt8),ds.length-i=j→i≤ds.length→M5 K ds b b1 i a→Wd D.T D.E B b acc w1 w→mA orc.p gd (ds.drop i)=some rest→(∃q,all=acc++rest++q) →
     (∀a' w',M5 K ds b b1 ds.length a'→Wd D.T D.E B b (acc++rest) w1 w'→Q .normal a' w') →
     Code.roundsIn Fence.wide 0 P (.seq (.region D.i3 D.o3 false) (.seq (.cond (.tmp 12) .skip (.exit D.b0)) (.seq (.block D.b1 (.seq (.region D.i4 D.o4 false) (.region D.i5 (D.l5++[D.w5]).toArray false))) (.region D.i6 D.o6 false)))) (Exit.inBlock D.b0 Q) (j+1) a w:=by
 have iO:∀{acc:List UInt8} {w:World},Wd D.T D.E B b acc w1 w→zE K w:=fun hW=>hK.below (h01.trans (hW.below.mono hB1))
 have pinw:∀{acc:List UInt8} {w:World},Wd D.T D.E B b acc w1 w→mS ns.jS w:=fun hW=>hpin.below (h01.trans (hW.below.mono hB1))
 have cB:∀{G:Gh} {i:Int},aC (num ns) G (.pv (.int .i64 i)) (.int .i64 i):=by intros;simp [aC,Rel,R]
 intro j;induction j with
 | zero=>
   intro i a w acc rest hj hi hh hW hr hq hQ;rw [roundsIn_succ];refine wpIn_seq (wpIn_region_list ?_)
   have hs:=mK (ns:=ns) (env:=[(11,.pv (.int .i64 i)),(10,.pv (.int .i64 ds.length))]) (pinw hW) (iO hW) hh.size hh.defers (by
     intro t x hx;simp only [look] at hx;split at hx
     · rename_i e;subst e;cases hx;exact ⟨_,hh.i,cB⟩
     · split at hx
       · rename_i e;subst e;cases hx;exact ⟨_,hh.n,cB⟩
       · cases hx)
   refine eR (ro:=none) hB horc D.c3 hs LJ fun G1 a1 W1 hs1 he1 hd1 hk1=>?_
   change (Code.seq (.cond (.tmp 12) .skip (.exit D.b0)) _).wpIn Fence.wide 0 P _ a1 W1
   obtain ⟨v8,h8,r8⟩:=hs1.env.env 12 _ rfl;simp [aC,Rel,R] at r8;have hkl:i=ds.length:=by omega
   subst hkl;have hc:a1.eval (.tmp 12)=.bool false:=by simp [Act.eval,h8,r8]
   refine wpIn_seq (wpIn_cond_false hc (wpIn_exit ?_));simp only [Exit.then,Exit.inBlock,if_true];have hrest:rest=[]:=by rw [List.drop_length] at hr;simp [mA] at hr;exact hr
   subst hrest;refine hQ a1 W1 ⟨hs1.env.size,hd1.trans hh.defers,?_,?_,?_,?_,?_⟩ (by rw [List.append_nil];exact hW.pn he1)
   · rw [hk1 1 (by simp)];exact hh.p1
   · rw [hk1 3 (by simp)];exact hh.p3
   · rw [hk1 9 (by simp)];exact hh.l
   · rw [hk1 10 (by simp)];exact hh.n
   · rw [hk1 11 (by simp)];exact hh.i
 | succ j ih=>
   intro i a w acc rest hj hi hh hW hr hq hQ;have hlt:i<ds.length:=by omega
   obtain ⟨el,hel⟩:∃el,ds[i]?=some el:=⟨ds[i],List.getElem?_eq_getElem hlt⟩;have hok:=List.all_eq_true.1 hds el (List.mem_of_getElem? hel);cases el with
   | agg cs=>
     simp only [im,Bool.and_eq_true,beq_iff_eq] at hok;obtain ⟨hcl,hcp⟩:=hok;obtain ⟨s,u,hs1',hu,rfl⟩:=uy hel hr;rw [roundsIn_succ];refine wpIn_seq (wpIn_region_list ?_)
     have hs:=mK (ns:=ns) (env:=[(11,.pv (.int .i64 i)),(10,.pv (.int .i64 ds.length))]) (pinw hW) (iO hW) hh.size hh.defers (by
       intro t x hx;simp only [look] at hx;split at hx
       · rename_i e;subst e;cases hx;exact ⟨_,hh.i,cB⟩
       · split at hx
         · rename_i e;subst e;cases hx;exact ⟨_,hh.n,cB⟩
         · cases hx)
     refine eR (ro:=none) hB horc D.c3 hs LJ fun G1 a1 W1 hs1 he1 hd1 hk1=>?_
     change (Code.seq (.cond (.tmp 12) .skip (.exit D.b0)) _).wpIn Fence.wide 0 P _ a1 W1
     obtain ⟨v8,h8,r8⟩:=hs1.env.env 12 _ rfl;simp [aC,Rel,R] at r8;have hc:a1.eval (.tmp 12)=.bool true:=by simp [Act.eval,h8,r8];omega
     have hh1:M5 K ds b b1 i a1:=by
       refine ⟨hs1.env.size,hd1.trans hh.defers,?_,?_,?_,?_,?_⟩
       · rw [hk1 1 (by simp)];exact hh.p1
       · rw [hk1 3 (by simp)];exact hh.p3
       · rw [hk1 9 (by simp)];exact hh.l
       · rw [hk1 10 (by simp)];exact hh.n
       · rw [hk1 11 (by simp)];exact hh.i
     have hW1:=hW.pn he1;refine wpIn_seq (wpIn_cond_true hc (wpIn_skip ?_))
     change (Code.seq (.block D.b1 _) _).wpIn Fence.wide 0 P _ a1 W1
     refine wpIn_seq (wpIn_block (wpIn_seq (wpIn_region_list ?_)));obtain ⟨vl,hvl,rvl⟩:=hh1.l
     have hs2:=mK (ns:=ns) (env:=[(9,.pv (.aI ds)),(11,.pv (.int .i64 i))]) (pinw hW1) (iO hW1) hh1.size hh1.defers (by
       intro t x hx;simp only [look] at hx;split at hx
       · rename_i e;subst e;cases hx;exact ⟨_,hvl,by simp only [aC];exact rvl⟩
       · split at hx
         · rename_i e;subst e;cases hx;exact ⟨_,hh1.i,cB⟩
         · cases hx)
     refine eR (ro:=none) hB horc D.c4 hs2 (OQ hel hcl hcp) fun G2 a2 W2 hs2' he2 hd2 hk2=>?_
     change (Code.region D.i5 (D.l5++[D.w5]).toArray false).wpIn Fence.wide 0 P _ a2 W2
     refine wpIn_region_list ?_;obtain ⟨env3,hev3,hl3⟩:=OR (orc:=orc) (env:=[(9,.pv (.aI ds)),(11,.pv (.int .i64 i)),(13,.gf cs),(14,.pv (.agg cs)),(5,.aG 5 0)]) rfl hcl hcp hs1';refine ie (ro:=none) (rest:=[D.w5]) hB horc D.c5 hs2' hev3 fun G3 a3 W3 hs3 he3 hd3 hk3=>?_
     have he23:=he2.trans he3;have hW3:=hW1.pn he23;obtain ⟨vs,hvs,rvs⟩:=hs3.env.env 16 _ hl3;simp [aC,Rel,R] at rvs;subst rvs
     have hh3:M5 K ds b b1 i a3:=by
       refine ⟨hs3.env.size,(hd3.trans hd2).trans hh1.defers,?_,?_,?_,?_,?_⟩
       · rw [hk3 1 (by simp),hk2 1 (by simp)];exact hh1.p1
       · rw [hk3 3 (by simp),hk2 3 (by simp)];exact hh1.p3
       · rw [hk3 9 (by simp),hk2 9 (by simp)];exact hh1.l
       · rw [hk3 10 (by simp),hk2 10 (by simp)];exact hh1.n
       · rw [hk3 11 (by simp),hk2 11 (by simp)];exact hh1.i
     refine oX D.Qs.1 D.Qs.2.2 D.QP ?_;have hargs:(#[.tmp 3,.tmp 16]:Array Operand).map a3.eval=#[.pointer (some ⟨b,0,none⟩),.string ⟨s.toArray⟩]:=by simp [Act.eval,hh3.p3,hvs]
     rw [hargs];obtain ⟨q,hq⟩:=hq
     have hsum:(Lib.byteCells acc).length+(⟨s.toArray⟩:ByteArray).size≤140737488355328:=by
       have:=congrArg List.length hq;simp at this;simp only [Lib.byteCells_length];show acc.length+s.toArray.size≤_;simp;omega
     refine (D.write B b (Lib.byteCells acc) ⟨s.toArray⟩ W3 hW3.Qo hsum hW3.le).mono ?_
     rintro e w4 ⟨rfl,hb4,hbel⟩
     refine ⟨_,rfl,?_⟩;have hW4:Wd D.T D.E B b (acc++s) w1 w4:=⟨hW3.below.trans hbel,Nat.le_trans hW3.le hbel.size,.inr (by rw [Lib.byteCells_append];exact hb4)⟩
     have hh4:M5 K ds b b1 i (a3.put D.w5.dst (.tuple #[.int .i64 (⟨s.toArray⟩:ByteArray).size,.nilIface])):=by
       rw [D.Qs.2.1];refine ⟨by simp [Act.put,hh3.size],hh3.defers,?_,?_,?_,?_,?_⟩;all_goals simp only [Act.put];rw [Array.getElem?_setIfInBounds_ne (by decide)]
       · exact hh3.p1
       · exact hh3.p3
       · exact hh3.l
       · exact hh3.n
       · exact hh3.i
     change (Code.region D.i6 D.o6 false).wpIn Fence.wide 0 P _ _ w4
     refine wpIn_region_list ?_
     have hs5:=mK (ns:=ns) (env:=[(11,.pv (.int .i64 i))]) (pinw hW4) (iO hW4) hh4.size hh4.defers (by
       intro t x hx;simp only [look] at hx;split at hx
       · rename_i e;subst e;cases hx;exact ⟨_,hh4.i,cB⟩
       · cases hx)
     refine eR (ro:=none) hB horc D.c6 hs5 (OS (by omega)) fun G6 a6 W6 hs6 he6 hd6 hk6=>?_
     obtain ⟨v6,h6,r6⟩:=hs6.env.env 11 _ rfl;simp [aC,Rel,R] at r6
     have hh6:M5 K ds b b1 (i+1) a6:=by
       refine ⟨hs6.env.size,hd6.trans hh4.defers,?_,?_,?_,?_,?_⟩
       · rw [hk6 1 (by simp)];exact hh4.p1
       · rw [hk6 3 (by simp)];exact hh4.p3
       · rw [hk6 9 (by simp)];exact hh4.l
       · rw [hk6 10 (by simp)];exact hh4.n
       · rw [h6,r6];simp
     refine ih (i+1) a6 W6 (acc++s) u (by omega) (by omega) hh6 (hW4.pn he6) hu ⟨q,by rw [hq];simp⟩ ?_;intro a' w' h1 h2;exact hQ a' w' h1 (by rw [←List.append_assoc];exact h2)
   | _=>simp [im] at hok
structure M6 (K:bJ) (ds:List PV) (b b1 i:Nat) (a:Act):Prop where
 size:a.tmps.size=31
 defers:a.defers=[]
 p1:a.tmps[1]?=some (.pointer (some ⟨b1,0,none⟩))
 p3:a.tmps[3]?=some (.pointer (some ⟨b,0,none⟩))
 l:∃v,a.tmps[20]?=some v∧Rel K (.aI ds) v
 n:a.tmps[21]?=some (.int .i64 ds.length)
 i:a.tmps[22]?=some (.int .i64 i)
theorem LK {orc:ep} {i n:Int}:bQ orc [⟨some 23,none,[.t 22,.t 21],.v (.bin .lss)⟩] { env:=[(22,.pv (.int .i64 i)),(21,.pv (.int .i64 n))],mem:=[],sh:=[],ah:=[] } =
   some { env:=[(22,.pv (.int .i64 i)),(21,.pv (.int .i64 n)),(23,.pv (.bool (decide (i<n))))],mem:=[],sh:=[],ah:=[] }:=by
 simp
theorem OT {orc:ep} {ds:List PV} {i:Nat} {cs:List PV} (hi:ds[i]?=some (.agg cs)) (hl:cs.length=20) (hc:cs.all eI=true) :
   bQ orc [⟨some 24,none,[.t 20,.t 22],.v (.aA 20)⟩,⟨some 25,none,[.t 24],.v (.bG 20 true)⟩,⟨some 7,none,[],.alloc 7 [.int .i64 0,.bool false,.str [],.bool false,.int .i64 0,.str [],.int .i64 0,.int .i64 0,.aI [],.int .i64 0,.int .i64 0,.str [],.int .i64 0,.aI [],.aI [],.int .i64 0,.str [],.int .i64 0,.int .i64 0,.aI []]⟩,⟨none,none,[.t 7,.t 25],.cV 7 0 20⟩] { env:=[(20,.pv (.aI ds)),(22,.pv (.int .i64 i))],mem:=[],sh:=[],ah:=[] } =
   some { env:=[(20,.pv (.aI ds)),(22,.pv (.int .i64 i)),(24,.gf cs),(25,.pv (.agg cs)),(7,.aG 7 0)],mem:=[(7,cs.map .pv)],sh:=[],ah:=[] }:=by
 have hi0:¬((i:Int)<0):=by omega
 have h1:(List.map AV.pv cs).all bp=true:=ux hc;have h2:cs.take 20=cs:=by rw [←hl];exact List.take_length
 have h4:20≤cs.length:=by omega
 have h3:∀zs:List AV,zs.length=20→bn zs 0 (cs.map .pv)=cs.map .pv:=fun zs hz=>mJ (by simp [hl,hz])
 simp [-getElem?_pos,-List.all_map,-List.all_eq_true,-aK,hi,hi0,hl,h2,h3,h1,h4]
theorem OU {orc:ep} {cs:List PV} {g:Nat} {s:List UInt8} {env:List (Nat×AV)} (he:look env 7=some (.aG 7 0)) (hl:cs.length=20) (hc:cs.all eI=true) (hg:orc.p g [.agg cs]=some [.str s]) :
   ∃env',bQ orc [⟨some 26,none,[.t 7],.aU 7 0 20 true⟩,⟨some 27,none,[.t 26],.aq g⟩] { env,mem:=[(7,cs.map .pv)],sh:=[],ah:=[] }=some { env:=env',mem:=[(7,cs.map .pv)],sh:=[],ah:=[] }∧look env' 27=some (.pv (.str s)):=by
 have h1:dT [] (cs.map .pv)=some cs:=oW hc;have h2:(cs.map AV.pv).take 20=cs.map .pv:=by rw [←hl];simpa using List.take_length (l:=cs.map AV.pv)
 have h4:20≤cs.length:=by omega
 refine ⟨dO (dO env 26 (.agg (cs.map .pv))) 27 (.pv (.str s)),?_,by rw [bX]⟩;have h5:look (dO env 26 (.agg (cs.map .pv))) 26=some (.agg (cs.map .pv)):=bX _ _ _;simp [-getElem?_pos,he,h1,h2,h4,h5,hg]
theorem OV {orc:ep} {i:Nat} (h:i<4611686018427387904):bQ orc [⟨some 29,none,[.t 22,.c (.pv (.int .i64 1))],.v (.bin .add)⟩,⟨some 22,none,[.t 29],.v .mv⟩] { env:=[(22,.pv (.int .i64 i))],mem:=[],sh:=[],ah:=[] } =
   some { env:=[(22,.pv (.int .i64 ((i:Int)+1))),(29,.pv (.int .i64 ((i:Int)+1)))],mem:=[],sh:=[],ah:=[] }:=by
 simp (disch:=omega) [az]
theorem Im {orc:ep} (hB:eT P ns) (horc:gF P ns orc) {f gd gb:Nat} (D:nY P ns f gd gb) {K:bJ} {w0 w1:World} {ds:List PV} {b1 b B:Nat} (hpin:mS ns.jS w0) (hK:zE K w0) (h01:RowKit.Below w0.heap.size w0 w1) (hB1:w0.heap.size≤B)
   (hds:ds.all (im 20)=true) (hlen:ds.length<4611686018427387904) {Q:Exit→Act→World→Prop} {all:List UInt8} (hall:all.length≤140737488355328) :
   ∀(j i:Nat) (a:Act) (w:World) (acc rest:List UInt8),ds.length-i=j→i≤ds.length→M6 K ds b b1 i a→Wd D.T D.E B b acc w1 w→mA orc.p gb (ds.drop i)=some rest→(∃q,all=acc++rest++q) →
     (∀a' w',M6 K ds b b1 ds.length a'→Wd D.T D.E B b (acc++rest) w1 w'→Q .normal a' w') →
     Code.roundsIn Fence.wide 0 P (.seq (.region D.i8 D.o8 false) (.seq (.cond (.tmp 23) .skip (.exit D.b2)) (.seq (.block D.b3 (.seq (.region D.i9 D.o9 false) (.region D.OL (D.l10++[D.Ik]).toArray false))) (.region D.OM D.M4 false)))) (Exit.inBlock D.b2 Q) (j+1) a w:=by
 have iO:∀{acc:List UInt8} {w:World},Wd D.T D.E B b acc w1 w→zE K w:=fun hW=>hK.below (h01.trans (hW.below.mono hB1))
 have pinw:∀{acc:List UInt8} {w:World},Wd D.T D.E B b acc w1 w→mS ns.jS w:=fun hW=>hpin.below (h01.trans (hW.below.mono hB1))
 have cB:∀{G:Gh} {i:Int},aC (num ns) G (.pv (.int .i64 i)) (.int .i64 i):=by intros;simp [aC,Rel,R]
 intro j;induction j with
 | zero=>
   intro i a w acc rest hj hi hh hW hr hq hQ;rw [roundsIn_succ];refine wpIn_seq (wpIn_region_list ?_)
   have hs:=mK (ns:=ns) (env:=[(22,.pv (.int .i64 i)),(21,.pv (.int .i64 ds.length))]) (pinw hW) (iO hW) hh.size hh.defers (by
     intro t x hx;simp only [look] at hx;split at hx
     · rename_i e;subst e;cases hx;exact ⟨_,hh.i,cB⟩
     · split at hx
       · rename_i e;subst e;cases hx;exact ⟨_,hh.n,cB⟩
       · cases hx)
   refine eR (ro:=none) hB horc D.c8 hs LK fun G1 a1 W1 hs1 he1 hd1 hk1=>?_
   change (Code.seq (.cond (.tmp 23) .skip (.exit D.b2)) _).wpIn Fence.wide 0 P _ a1 W1
   obtain ⟨v8,h8,r8⟩:=hs1.env.env 23 _ rfl;simp [aC,Rel,R] at r8;have hkl:i=ds.length:=by omega
   subst hkl;have hc:a1.eval (.tmp 23)=.bool false:=by simp [Act.eval,h8,r8]
   refine wpIn_seq (wpIn_cond_false hc (wpIn_exit ?_));simp only [Exit.then,Exit.inBlock,if_true];have hrest:rest=[]:=by rw [List.drop_length] at hr;simp [mA] at hr;exact hr
   subst hrest;refine hQ a1 W1 ⟨hs1.env.size,hd1.trans hh.defers,?_,?_,?_,?_,?_⟩ (by rw [List.append_nil];exact hW.pn he1)
   · rw [hk1 1 (by simp)];exact hh.p1
   · rw [hk1 3 (by simp)];exact hh.p3
   · rw [hk1 20 (by simp)];exact hh.l
   · rw [hk1 21 (by simp)];exact hh.n
   · rw [hk1 22 (by simp)];exact hh.i
 | succ j ih=>
   intro i a w acc rest hj hi hh hW hr hq hQ;have hlt:i<ds.length:=by omega
   obtain ⟨el,hel⟩:∃el,ds[i]?=some el:=⟨ds[i],List.getElem?_eq_getElem hlt⟩;have hok:=List.all_eq_true.1 hds el (List.mem_of_getElem? hel);cases el with
   | agg cs=>
     simp only [im,Bool.and_eq_true,beq_iff_eq] at hok;obtain ⟨hcl,hcp⟩:=hok;obtain ⟨s,u,hs1',hu,rfl⟩:=uy hel hr;rw [roundsIn_succ];refine wpIn_seq (wpIn_region_list ?_)
     have hs:=mK (ns:=ns) (env:=[(22,.pv (.int .i64 i)),(21,.pv (.int .i64 ds.length))]) (pinw hW) (iO hW) hh.size hh.defers (by
       intro t x hx;simp only [look] at hx;split at hx
       · rename_i e;subst e;cases hx;exact ⟨_,hh.i,cB⟩
       · split at hx
         · rename_i e;subst e;cases hx;exact ⟨_,hh.n,cB⟩
         · cases hx)
     refine eR (ro:=none) hB horc D.c8 hs LK fun G1 a1 W1 hs1 he1 hd1 hk1=>?_
     change (Code.seq (.cond (.tmp 23) .skip (.exit D.b2)) _).wpIn Fence.wide 0 P _ a1 W1
     obtain ⟨v8,h8,r8⟩:=hs1.env.env 23 _ rfl;simp [aC,Rel,R] at r8;have hc:a1.eval (.tmp 23)=.bool true:=by simp [Act.eval,h8,r8];omega
     have hh1:M6 K ds b b1 i a1:=by
       refine ⟨hs1.env.size,hd1.trans hh.defers,?_,?_,?_,?_,?_⟩
       · rw [hk1 1 (by simp)];exact hh.p1
       · rw [hk1 3 (by simp)];exact hh.p3
       · rw [hk1 20 (by simp)];exact hh.l
       · rw [hk1 21 (by simp)];exact hh.n
       · rw [hk1 22 (by simp)];exact hh.i
     have hW1:=hW.pn he1;refine wpIn_seq (wpIn_cond_true hc (wpIn_skip ?_))
     change (Code.seq (.block D.b3 _) _).wpIn Fence.wide 0 P _ a1 W1
     refine wpIn_seq (wpIn_block (wpIn_seq (wpIn_region_list ?_)));obtain ⟨vl,hvl,rvl⟩:=hh1.l
     have hs2:=mK (ns:=ns) (env:=[(20,.pv (.aI ds)),(22,.pv (.int .i64 i))]) (pinw hW1) (iO hW1) hh1.size hh1.defers (by
       intro t x hx;simp only [look] at hx;split at hx
       · rename_i e;subst e;cases hx;exact ⟨_,hvl,by simp only [aC];exact rvl⟩
       · split at hx
         · rename_i e;subst e;cases hx;exact ⟨_,hh1.i,cB⟩
         · cases hx)
     refine eR (ro:=none) hB horc D.c9 hs2 (OT hel hcl hcp) fun G2 a2 W2 hs2' he2 hd2 hk2=>?_
     change (Code.region D.OL (D.l10++[D.Ik]).toArray false).wpIn Fence.wide 0 P _ a2 W2
     refine wpIn_region_list ?_;obtain ⟨env3,hev3,hl3⟩:=OU (orc:=orc) (env:=[(20,.pv (.aI ds)),(22,.pv (.int .i64 i)),(24,.gf cs),(25,.pv (.agg cs)),(7,.aG 7 0)]) rfl hcl hcp hs1';refine ie (ro:=none) (rest:=[D.Ik]) hB horc D.c10 hs2' hev3 fun G3 a3 W3 hs3 he3 hd3 hk3=>?_
     have he23:=he2.trans he3;have hW3:=hW1.pn he23;obtain ⟨vs,hvs,rvs⟩:=hs3.env.env 27 _ hl3;simp [aC,Rel,R] at rvs;subst rvs
     have hh3:M6 K ds b b1 i a3:=by
       refine ⟨hs3.env.size,(hd3.trans hd2).trans hh1.defers,?_,?_,?_,?_,?_⟩
       · rw [hk3 1 (by simp),hk2 1 (by simp)];exact hh1.p1
       · rw [hk3 3 (by simp),hk2 3 (by simp)];exact hh1.p3
       · rw [hk3 20 (by simp),hk2 20 (by simp)];exact hh1.l
       · rw [hk3 21 (by simp),hk2 21 (by simp)];exact hh1.n
       · rw [hk3 22 (by simp),hk2 22 (by simp)];exact hh1.i
     refine oX D.KO.1 D.KO.2.2 D.QP ?_;have hargs:(#[.tmp 3,.tmp 27]:Array Operand).map a3.eval=#[.pointer (some ⟨b,0,none⟩),.string ⟨s.toArray⟩]:=by simp [Act.eval,hh3.p3,hvs]
     rw [hargs];obtain ⟨q,hq⟩:=hq
     have hsum:(Lib.byteCells acc).length+(⟨s.toArray⟩:ByteArray).size≤140737488355328:=by
       have:=congrArg List.length hq;simp at this;simp only [Lib.byteCells_length];show acc.length+s.toArray.size≤_;simp;omega
     refine (D.write B b (Lib.byteCells acc) ⟨s.toArray⟩ W3 hW3.Qo hsum hW3.le).mono ?_
     rintro e w4 ⟨rfl,hb4,hbel⟩
     refine ⟨_,rfl,?_⟩;have hW4:Wd D.T D.E B b (acc++s) w1 w4:=⟨hW3.below.trans hbel,Nat.le_trans hW3.le hbel.size,.inr (by rw [Lib.byteCells_append];exact hb4)⟩
     have hh4:M6 K ds b b1 i (a3.put D.Ik.dst (.tuple #[.int .i64 (⟨s.toArray⟩:ByteArray).size,.nilIface])):=by
       rw [D.KO.2.1];refine ⟨by simp [Act.put,hh3.size],hh3.defers,?_,?_,?_,?_,?_⟩;all_goals simp only [Act.put];rw [Array.getElem?_setIfInBounds_ne (by decide)]
       · exact hh3.p1
       · exact hh3.p3
       · exact hh3.l
       · exact hh3.n
       · exact hh3.i
     change (Code.region D.OM D.M4 false).wpIn Fence.wide 0 P _ _ w4
     refine wpIn_region_list ?_
     have hs5:=mK (ns:=ns) (env:=[(22,.pv (.int .i64 i))]) (pinw hW4) (iO hW4) hh4.size hh4.defers (by
       intro t x hx;simp only [look] at hx;split at hx
       · rename_i e;subst e;cases hx;exact ⟨_,hh4.i,cB⟩
       · cases hx)
     refine eR (ro:=none) hB horc D.c11 hs5 (OV (by omega)) fun G6 a6 W6 hs6 he6 hd6 hk6=>?_
     obtain ⟨v6,h6,r6⟩:=hs6.env.env 22 _ rfl;simp [aC,Rel,R] at r6
     have hh6:M6 K ds b b1 (i+1) a6:=by
       refine ⟨hs6.env.size,hd6.trans hh4.defers,?_,?_,?_,?_,?_⟩
       · rw [hk6 1 (by simp)];exact hh4.p1
       · rw [hk6 3 (by simp)];exact hh4.p3
       · rw [hk6 20 (by simp)];exact hh4.l
       · rw [hk6 21 (by simp)];exact hh4.n
       · rw [h6,r6];simp
     refine ih (i+1) a6 W6 (acc++s) u (by omega) (by omega) hh6 (hW4.pn he6) hu ⟨q,by rw [hq];simp⟩ ?_;intro a' w' h1 h2;exact hQ a' w' h1 (by rw [←List.append_assoc];exact h2)
   | _=>simp [im] at hok
theorem Io {orc:ep} {tl tn ti:Nat} {ds:List PV} (h:tn≠tl) (h1:ti≠tn) (h2:ti≠tl):bQ orc [⟨some tn,none,[.t tl],.v .len⟩,⟨some ti,none,[.c (.pv (.int .i64 0))],.v .mv⟩] { env:=[(tl,.pv (.aI ds))],mem:=[],sh:=[],ah:=[] } =
   some { env:=[(tl,.pv (.aI ds)),(tn,.pv (.int .i64 ds.length)),(ti,.pv (.int .i64 0))],mem:=[],sh:=[],ah:=[] }:=by
 have h':tl≠tn:=Ne.symm h;have h1':tn≠ti:=Ne.symm h1;have h2':tl≠ti:=Ne.symm h2;simp [h,h1,h2,h',h1',h2']
theorem step1 {orc:ep} (hB:eT P ns) (horc:gF P ns orc) {f gd gb:Nat} (D:nY P ns f gd gb) {K:bJ} {w0 w1:World} {ds bs:List PV} {vd vb:Value} {ta tb:List UInt8} (hpin:mS ns.jS w0) (hK:zE K w0)
   (hw1s:w1.heap.size=w0.heap.size+1) (hbx1:w1.heap[w0.heap.size]?=some (.cells #[vd,vb] D.Tp (0,0))) (h01:RowKit.Below w0.heap.size w0 w1)
   (hd1:ds.all (im 4)=true) (hd2:bs.all (im 20)=true) (hd3:ds.length<4611686018427387904) (hd4:bs.length<4611686018427387904) (hlen:(ta++tb).length≤140737488355328)
   (hvd:R K false (.aI ds) [vd]) (hvb:R K false (.aI bs) [vb]) (ha:mA orc.p gd ds=some ta) (hb:mA orc.p gb bs=some tb) {a1:Act}
   (s1:a1.tmps.size=31∧a1.defers=[]∧a1.tmps[1]?=some (.pointer (some ⟨w0.heap.size,0,none⟩))) :
   (Code.seq (.region D.i1 #[D.al] false) (.seq (.seq (.region D.i2 (D.fa::D.ld::D.r2).toArray false) (.block D.b0 (.loop (.seq (.region D.i3 D.o3 false) (.seq (.cond (.tmp 12) .skip (.exit D.b0)) (.seq (.block D.b1 (.seq (.region D.i4 D.o4 false) (.region D.i5 (D.l5++[D.w5]).toArray false))) (.region D.i6 D.o6 false)))))))
     (.seq (.seq (.region D.i7 (D.KL::D.KM::D.r7).toArray false) (.block D.b2 (.loop (.seq (.region D.i8 D.o8 false) (.seq (.cond (.tmp 23) .skip (.exit D.b2)) (.seq (.block D.b3 (.seq (.region D.i9 D.o9 false) (.region D.OL (D.l10++[D.Ik]).toArray false))) (.region D.OM D.M4 false))))))) (.seq (.region D.Qr #[D.st,D.fi] false) .ret)))).wpIn Fence.wide 0 P
     (bodyPost P D.fn fun e w'=>∃v K',e=.returned v∧ic K' [.str (ta++tb)] v∧K.le K'∧(∀b o u,b<w0.heap.size→K' b o=some u→K b o=some u)∧zE K' w'∧RowKit.Below w0.heap.size w0 w') a1 w1:=by
 have hF:∀f,Fence.wide.fn f:=fun _=>trivial
 have cB:∀{G:Gh} {i:Int},aC (num ns) G (.pv (.int .i64 i)) (.int .i64 i):=by intros;simp [aC,Rel,R]
 obtain ⟨s1a,s1b,s1c⟩:=s1;refine wpIn_seq (wpIn_region_list ?_);refine ij (w':=w1.alloc (.cells #[.pointer none,.slice none 0 0] D.T)) (v:=.pointer (some ⟨w1.heap.size,0,none⟩)) (mg (P:=P) D.KN.1 (by simp)) D.KN.2.2 ?_ ?_
 · have h1:=D.KN.1;have h2:=D.hz;cases hi:P.info? D.T with
   | none=>simp [hi] at h2
   | some inf=>
     simp [hi] at h2;have hz:(zeroValue D.T).run P w1=.ok (.agg #[.pointer none,.slice none 0 0]) w1:=by simp [zeroValue,typeInfo,hi,h2]
     have h3:=Ij (E:=a1.eval) D.KN.1;rw [h3];simp only [Instr.alloc,Sem.run_bind,hz,Result.andThen_ok,ia,Sem.run_pure];rfl
 rw [D.KN.2.1]
 change (Code.seq (.seq (.region D.i2 _ false) _) _).wpIn Fence.wide 0 P _ _ _
 have hW2:Wd D.T D.E w1.heap.size w1.heap.size [] w1 (w1.alloc (.cells #[.pointer none,.slice none 0 0] D.T)):=
   ⟨(RowKit.Below.refl _ _).alloc (Nat.le_refl _) _,((RowKit.Below.refl w1.heap.size w1).alloc (Nat.le_refl _) _).size,Lib.fresh_isBuilder D.T D.E w1⟩
 generalize w1.alloc (.cells #[.pointer none,.slice none 0 0] D.T)=w2 at hW2 ⊢
 have s2:∀a2:Act,a2=a1.put (some 3) (.pointer (some ⟨w1.heap.size,0,none⟩))→a2.tmps.size=31∧a2.defers=[]∧a2.tmps[1]?=some (.pointer (some ⟨w0.heap.size,0,none⟩))∧a2.tmps[3]?=some (.pointer (some ⟨w1.heap.size,0,none⟩)):=by
   rintro a2 rfl
   refine ⟨by simp [Act.put,s1a],s1b,?_,by simp [Act.put,s1a]⟩;simp only [Act.put];rw [Array.getElem?_setIfInBounds_ne (by decide)];exact s1c
 obtain ⟨s2a,s2b,s2c,s2d⟩:=s2 _ rfl;generalize a1.put (some 3) (.pointer (some ⟨w1.heap.size,0,none⟩))=a2 at s2a s2b s2c s2d ⊢;have hB1:w0.heap.size≤w1.heap.size:=by omega
 have iO:∀{acc:List UInt8} {w:World},Wd D.T D.E w1.heap.size w1.heap.size acc w1 w→zE K w:=fun hW=>hK.below (h01.trans (hW.below.mono hB1))
 have pinw:∀{acc:List UInt8} {w:World},Wd D.T D.E w1.heap.size w1.heap.size acc w1 w→mS ns.jS w:=fun hW=>hpin.below (h01.trans (hW.below.mono hB1))
 have boxAt:∀{acc:List UInt8} {w:World},Wd D.T D.E w1.heap.size w1.heap.size acc w1 w→w.heap[w0.heap.size]?=some (.cells #[vd,vb] D.Tp (0,0)):=fun hW=>(hW.below.block _ (by omega)).trans hbx1
 have hrel:aB (num ns) (Gr K) [.pv (.aI ds),.pv (.aI bs)] [vd,vb]:=by
   simp only [aB,aC];exact ⟨vd,[vb],rfl,hvd,vb,[],rfl,hvb,rfl⟩
 refine wpIn_seq (wpIn_seq (wpIn_region_list ?_));have hl2:(D.fa::D.ld::D.r2).toArray.toList=D.fa::D.ld::D.r2:=by simp
 rw [hl2];refine ij (w':=w2) (v:=.pointer (some ⟨w0.heap.size,0,none⟩)) (mg (P:=P) D.NV.1 (by simp)) D.NV.2.2 ?_ ?_
 · have h1:=D.NV.1;obtain ⟨k1,k2,k3,k4⟩:=D.Q_;have h2:=iw (P:=P) (w:=w2) k1 k3 k4 w0.heap.size 0;rw [k2] at h2;have h3:=yX (E:=a2.eval) D.NV.1;have h4:a2.eval (.tmp 1)=.pointer (some ⟨w0.heap.size,0,none⟩):=(by simp [Act.eval,s2c]);rw [h3,h4];simp only [Sem.run_bind,h2,Result.andThen_ok,Sem.run_pure]
 rw [D.NV.2.1];obtain ⟨u9,g9,r9⟩:=fH (ns:=ns) (w:=w2) (off:=0) (x:=.pv (.aI ds)) D.QO.1 D.QO.2 rfl hrel (gj (boxAt hW2));refine ij (w':=w2) (v:=u9) (mg (P:=P) D.NW.1 (by simp)) D.NW.2.2 ?_ ?_
 · have h1:=D.NW.1;have h3:=CT (E:=(a2.put (some 8) (.pointer (some ⟨w0.heap.size,0,none⟩))).eval) D.NW.1;have h4:(a2.put (some 8) (.pointer (some ⟨w0.heap.size,0,none⟩))).eval (.tmp 8)=.pointer (some ⟨w0.heap.size,0,none⟩):=(by simp [Act.eval,Act.put,s2a]);rw [h3,h4];simp [Instr.loadAt,Instr.sureAddr,g9]
 rw [D.NW.2.1]
 have s3:∀a3:Act,a3=(a2.put (some 8) (.pointer (some ⟨w0.heap.size,0,none⟩))).put (some 9) u9→a3.tmps.size=31∧a3.defers=[]∧a3.tmps[1]?=some (.pointer (some ⟨w0.heap.size,0,none⟩))∧a3.tmps[3]?=some (.pointer (some ⟨w1.heap.size,0,none⟩))∧a3.tmps[9]?=some u9:=by
   rintro a3 rfl
   refine ⟨by simp [Act.put,s2a],s2b,?_,?_,by simp [Act.put,s2a]⟩;all_goals simp only [Act.put];rw [Array.getElem?_setIfInBounds_ne (by decide),Array.getElem?_setIfInBounds_ne (by decide)]
   · exact s2c
   · exact s2d
 obtain ⟨s3a,s3b,s3c,s3d,s3e⟩:=s3 _ rfl;generalize (a2.put (some 8) (.pointer (some ⟨w0.heap.size,0,none⟩))).put (some 9) u9=a3 at s3a s3b s3c s3d s3e ⊢
 have hs3:=mK (ns:=ns) (env:=[(9,.pv (.aI ds))]) (pinw hW2) (iO hW2) s3a s3b (by
   intro t x hx;simp only [look] at hx;split at hx
   · rename_i e;subst e;cases hx;exact ⟨_,s3e,r9⟩
   · cases hx)
 refine eR (ro:=none) hB horc D.c2 hs3 (Io (by decide) (by decide) (by decide)) fun G4 a4 W4 hs4 he4 hd4' hk4=>?_
 obtain ⟨v10,h10,r10⟩:=hs4.env.env 10 _ rfl;obtain ⟨v11,h11,r11⟩:=hs4.env.env 11 _ rfl;simp [aC,Rel,R] at r10 r11
 have hh4:M5 K ds w1.heap.size w0.heap.size 0 a4:=by
   refine ⟨hs4.env.size,hd4'.trans s3b,?_,?_,?_,?_,?_⟩
   · rw [hk4 1 (by simp)];exact s3c
   · rw [hk4 3 (by simp)];exact s3d
   · rw [hk4 9 (by simp)];exact ⟨u9,s3e,by simpa only [aC,Gr] using r9⟩
   · rw [h10,r10]
   · rw [h11,r11];simp
 change (Code.block D.b0 _).wpIn Fence.wide 0 P _ a4 W4
 refine wpIn_block (wpIn_loop_rounds (ds.length+1) ?_);refine Il hB horc D hpin hK h01 hB1 hd1 hd3 hlen ds.length 0 a4 W4 [] ta (by omega) (by omega) hh4 (hW2.pn he4) ha ⟨tb,by simp⟩ fun a5 W5 hh5 hW5=>?_
 rw [List.nil_append] at hW5
 change (Code.seq (.seq (.region D.i7 _ false) _) _).wpIn Fence.wide 0 P _ a5 W5
 refine wpIn_seq (wpIn_seq (wpIn_region_list ?_));have hl7:(D.KL::D.KM::D.r7).toArray.toList=D.KL::D.KM::D.r7:=by simp
 rw [hl7];refine ij (w':=W5) (v:=.pointer (some ⟨w0.heap.size,1,none⟩)) (mg (P:=P) D.FV.1 (by simp)) D.FV.2.2 ?_ ?_
 · have h1:=D.FV.1;obtain ⟨k1,k2,k3,k4⟩:=D.OO;have h2:=iw (P:=P) (w:=W5) k1 k3 k4 w0.heap.size 0;rw [k2] at h2;have h3:=yX (E:=a5.eval) D.FV.1;have h4:a5.eval (.tmp 1)=.pointer (some ⟨w0.heap.size,0,none⟩):=(by simp [Act.eval,hh5.p1]);rw [h3,h4];simp only [Sem.run_bind,h2,Result.andThen_ok,Sem.run_pure]
 rw [D.FV.2.1];obtain ⟨u20,g20,r20⟩:=fH (ns:=ns) (w:=W5) (off:=1) (x:=.pv (.aI bs)) D.NQ.1 D.NQ.2 rfl hrel (gj (boxAt hW5));refine ij (w':=W5) (v:=u20) (mg (P:=P) D.FW.1 (by simp)) D.FW.2.2 ?_ ?_
 · have h1:=D.FW.1;have h3:=CT (E:=(a5.put (some 19) (.pointer (some ⟨w0.heap.size,1,none⟩))).eval) D.FW.1;have h4:(a5.put (some 19) (.pointer (some ⟨w0.heap.size,1,none⟩))).eval (.tmp 19)=.pointer (some ⟨w0.heap.size,1,none⟩):=(by simp [Act.eval,Act.put,hh5.size]);rw [h3,h4];simp [Instr.loadAt,Instr.sureAddr,g20]
 rw [D.FW.2.1]
 have s6:∀a6:Act,a6=(a5.put (some 19) (.pointer (some ⟨w0.heap.size,1,none⟩))).put (some 20) u20→a6.tmps.size=31∧a6.defers=[]∧a6.tmps[1]?=some (.pointer (some ⟨w0.heap.size,0,none⟩))∧a6.tmps[3]?=some (.pointer (some ⟨w1.heap.size,0,none⟩))∧a6.tmps[20]?=some u20:=by
   rintro a6 rfl
   refine ⟨by simp [Act.put,hh5.size],hh5.defers,?_,?_,by simp [Act.put,hh5.size]⟩;all_goals simp only [Act.put];rw [Array.getElem?_setIfInBounds_ne (by decide),Array.getElem?_setIfInBounds_ne (by decide)]
   · exact hh5.p1
   · exact hh5.p3
 obtain ⟨s6a,s6b,s6c,s6d,s6e⟩:=s6 _ rfl;generalize (a5.put (some 19) (.pointer (some ⟨w0.heap.size,1,none⟩))).put (some 20) u20=a6 at s6a s6b s6c s6d s6e ⊢
 have hs6:=mK (ns:=ns) (env:=[(20,.pv (.aI bs))]) (pinw hW5) (iO hW5) s6a s6b (by
   intro t x hx;simp only [look] at hx;split at hx
   · rename_i e;subst e;cases hx;exact ⟨_,s6e,r20⟩
   · cases hx)
 refine eR (ro:=none) hB horc D.c7 hs6 (Io (by decide) (by decide) (by decide)) fun G7 a7 W7 hs7 he7 hd7' hk7=>?_
 obtain ⟨v21,h21,r21⟩:=hs7.env.env 21 _ rfl;obtain ⟨v22,h22,r22⟩:=hs7.env.env 22 _ rfl;simp [aC,Rel,R] at r21 r22
 have hh7:M6 K bs w1.heap.size w0.heap.size 0 a7:=by
   refine ⟨hs7.env.size,hd7'.trans s6b,?_,?_,?_,?_,?_⟩
   · rw [hk7 1 (by simp)];exact s6c
   · rw [hk7 3 (by simp)];exact s6d
   · rw [hk7 20 (by simp)];exact ⟨u20,s6e,by simpa only [aC,Gr] using r20⟩
   · rw [h21,r21]
   · rw [h22,r22];simp
 change (Code.block D.b2 _).wpIn Fence.wide 0 P _ a7 W7
 refine wpIn_block (wpIn_loop_rounds (bs.length+1) ?_);refine Im hB horc D hpin hK h01 hB1 hd2 hd4 hlen bs.length 0 a7 W7 ta tb (by omega) (by omega) hh7 (hW5.pn he7) hb ⟨[],by simp⟩ fun a8 W8 hh8 hW8=>?_
 change (Code.seq (.region D.Qr _ false) .ret).wpIn Fence.wide 0 P _ a8 W8
 refine wpIn_seq (wpIn_region_list ?_);refine oX D.tV.1 D.tV.2.2 D.OP ?_;have hargs:(#[.tmp 3]:Array Operand).map a8.eval=#[.pointer (some ⟨w1.heap.size,0,none⟩)]:=by simp [Act.eval,hh8.p3]
 rw [hargs];refine (D.read w1.heap.size w1.heap.size (ta++tb) W8 hW8.Qo hW8.le).mono ?_
 rintro e w9 ⟨rfl,hbel⟩
 refine ⟨_,rfl,?_⟩;refine gG hF D.NP.1 D.NP.2.2 ?_;rw [D.tV.2.1,D.NP.2.1]
 change (Code.ret).wpIn Fence.wide 0 P _ _ _
 refine wpIn_ret ?_;refine ⟨hh8.defers,.string ⟨(ta++tb).toArray⟩,?_,?_⟩
 · simp [results,D.gk,Act.put,Act.eval,hh8.size]
 · have hbel0:RowKit.Below w0.heap.size w0 w9:=h01.trans ((hW8.below.trans hbel).mono hB1);exact ⟨_,K,rfl,by simp [ic,Rel,R],K.le_refl,fun _ _ _ _ h=>h,hK.below hbel0,hbel0⟩
theorem FX {orc:ep} (hB:eT P ns) (horc:gF P ns orc) {f gd gb:Nat} (D:nY P ns f gd gb) {dC rs:List PV} (h:yW gd gb orc.p dC=some rs):tX P ns f dC rs:=by
 unfold yW at h;split at h
 · rename_i ds bs;rw [Option.ite_none_right_eq_some] at h;obtain ⟨⟨hd1,hd2,hd3,hd4⟩,h⟩:=h;split at h
   · rename_i ta tb ha hb;simp only [Option.ite_none_right_eq_some,Option.some.injEq] at h;obtain ⟨hlen,rfl⟩:=h;intro K w0 vs hpin hK hr;simp only [iZ] at hr;obtain ⟨v0,r0,rfl,hv0,rfl⟩:=hr;obtain ⟨us,rfl,hus⟩:=hv0;simp only [dV] at hus;obtain ⟨vd,r1,rfl,hvd,vb,r2,rfl,hvb,rfl⟩:=hus;refine callsIn_wide (n:=0).1 ?_;refine callsIn_of_wp D.hf D.jA trivial ?_ rfl;rw [D.hN];have hF:∀f,Fence.wide.fn f:=fun _=>trivial
     have cB:∀{G:Gh} {i:Int},aC (num ns) G (.pv (.int .i64 i)) (.int .i64 i):=by intros;simp [aC,Rel,R]
     refine wpIn_seq (wpIn_region_list ?_);refine ij (w':=w0.alloc (.cells #[vd,vb] D.Tp)) (v:=.pointer (some ⟨w0.heap.size,0,none⟩)) (mg (P:=P) D.ON.1 (by simp)) D.ON.2.2 ?_ ?_
     · have he:Act.eval { tmps:=(#[Value.agg [vd,vb].toArray]:Array Value)++Array.replicate (31-(#[Value.agg [vd,vb].toArray]:Array Value).size) undef,defers:=[] } (.tmp 0)=.agg #[vd,vb]:=(by simp [Act.eval]);rw [M3 D.ON.1,he];simp only [Instr.box,Sem.run_bind,ia,Result.andThen_ok,Sem.run_pure];rfl
     refine gG hF D.MT.1 D.MT.2.2 ?_;rw [D.ON.2.1,D.MT.2.1];have hw1s:(w0.alloc (.cells #[vd,vb] D.Tp)).heap.size=w0.heap.size+1:=Array.size_push _;have hbx1:(w0.alloc (.cells #[vd,vb] D.Tp)).heap[w0.heap.size]?=some (.cells #[vd,vb] D.Tp (0,0)):=heap_alloc_new;have h01:RowKit.Below w0.heap.size w0 (w0.alloc (.cells #[vd,vb] D.Tp)):=(RowKit.Below.refl _ _).alloc (Nat.le_refl _) _;generalize w0.alloc (.cells #[vd,vb] D.Tp)=w1 at hw1s hbx1 h01 ⊢
     change (Code.seq (.region D.i1 #[D.al] false) _).wpIn Fence.wide 0 P _ _ _
     have s1:∀(a1:Act),a1=((Act.put { tmps:=(#[Value.agg [vd,vb].toArray]:Array Value)++Array.replicate (31-(#[Value.agg [vd,vb].toArray]:Array Value).size) undef,defers:=[] } (some 1) (.pointer (some ⟨w0.heap.size,0,none⟩))).put (some 2) (.string ⟨#[]⟩)) →
         a1.tmps.size=31∧a1.defers=[]∧a1.tmps[1]?=some (.pointer (some ⟨w0.heap.size,0,none⟩)):=by
       rintro a1 rfl
       refine ⟨by simp [Act.put],rfl,?_⟩;simp [Act.put]
     refine step1 hB horc D hpin hK hw1s hbx1 h01 hd1 hd2 hd3 hd4 hlen hvd hvb ha hb (s1 _ ?_);simp [Act.eval]
   · cases h
 · cases h
end
end Go.Ab
