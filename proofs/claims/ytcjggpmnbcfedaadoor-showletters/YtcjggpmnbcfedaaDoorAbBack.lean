import Derived.Test.YtcjggpmnbcfedaaDoorAbIn
import Derived.Test.YtcjggpmnbcfedaaDoorAbEv
import Derived.RangeFuncIn
import Derived.RangeFuncRecord
import Derived.RangeFuncSeq
/-
  Ranges over a slice backward: the iterator's contract.
-/
set_option linter.unusedVariables false
set_option linter.unusedSimpArgs false
set_option linter.unnecessarySimpa false
set_option maxRecDepth 100000
set_option maxHeartbeats 8000000
namespace Go.Ab
open Ev
structure oE (P:Program) (ns:Names) (f sz:Nat) (ag:Bool) where
 fn:Func
 A:hO
 o0:Array Oper
 o1:Array Oper
 o2:Array Oper
 m0:Oper
 Br:List Oper
 y:Oper
 nt:Oper
 r0:Nat
 r1:Nat
 r2:Nat
 r3:Nat
 b0:Nat
 b1:Nat
 types:Array TypeId
 tb:TypeId
 hf:P.funcs[f]?=some fn
 qG:fn.body=some (.seq (.region r0 o0 false) (.block b0 (.loop (.seq (.seq (.region r1 o1 false) (.cond (.tmp 8) .skip (.exit b0)))
   (.seq (.block b1 (.seq (.region r3 (m0::Br++[y,nt]).toArray false) (.cond (.tmp 18) .ret .skip))) (.region r2 o2 false))))))
 dJ:fn.results=#[]
 hN:fn.ntmps=19
 c0:bu (dh P ns A 19 o0) o0.toList=some [⟨some 4,none,[.t 1],.v (.eC 1 false)⟩,⟨some 5,none,[.t 4],.v .len⟩,⟨some 6,none,[.t 5,.c (.pv (.int .i64 1))],.v (.bin .sub)⟩,⟨some 3,none,[.t 6],.v .mv⟩]
 c1:bu (dh P ns A 19 o1) o1.toList=some [⟨some 7,none,[.t 3],.v .mv⟩,⟨some 8,none,[.t 7,.c (.pv (.int .i64 0))],.v (.bin .geq)⟩]
 c2:bu (dh P ns A 19 o2) o2.toList=some [⟨some 9,none,[.t 3],.v .mv⟩,⟨some 10,none,[.t 9,.c (.pv (.int .i64 1))],.v (.bin .sub)⟩,⟨some 3,none,[.t 10],.v .mv⟩]
 h0:m0.op=.move (.tmp 0)∧m0.dst=some 11∧m0.guard=none
 c3:bu (dh P ns A 19 (m0::Br++[y,nt]).toArray) Br=some [⟨some 12,none,[.t 3],.v .mv⟩,⟨some 13,none,[.t 1],.v (.eC 1 false)⟩,⟨some 14,none,[.t 3],.v .mv⟩,⟨some 15,none,[.t 13,.t 14],.v (.ed sz)⟩,⟨some 16,none,[.t 15],.v (.eC sz ag)⟩]
 hy:y.op=.call { callee:=.value (.tmp 11),args:=#[.tmp 12,.tmp 16],argTypes:=types }∧y.dst=some 17∧y.guard=none
 hn:nt.op=.unOp .not tb (.tmp 17)∧nt.dst=some 18∧nt.guard=none
section
variable {P:Program} {ns:Names}
theorem dk {n0:Nat} {ro:Option Nat} {n:Nat} (hB:dS P ns) {orc:cZ} (horc:ej P ns orc) {A:hO} {N:Nat} {ops:Array Oper} {Q:Exit→Act→World→Prop} {rest:List Oper}:∀{l:List Oper} {as:List bN} {st st':St} {G:Gh} {a:Act} {w:World},
   bu (dh P ns A N ops) l=some as→dt (num ns) n0 N G st a w→aJ orc as st=some st' →
   (∀G' a' w',dt (num ns) n0 N G' st' a' w'→aN G w G' w'→a'.defers=a.defers→(∀t,(∀ao∈as,ao.dst≠some t)→a'.tmps[t]?=a.tmps[t]?)→wpListIn (kF ro) n P ops Q rest a' w')→wpListIn (kF ro) n P ops Q (l++rest) a w
 | [],as,st,st',G,a,w,hc,hs,hev,hq=>by
   simp [bu] at hc;subst hc
   simp [aJ] at hev;subst hev
   exact hq G a w hs (aN.refl G w) rfl (fun _ _=>rfl)
 | o::l,as,st,st',G,a,w,hc,hs,hev,hq=>by
   simp only [bu] at hc
   split at hc
   · rename_i ao aos h1 h2
     simp at hc;subst hc
     simp only [aJ] at hev
     split at hev
     · simp at hev
     · rename_i st1 hst1
       rw [List.cons_append]
       unfold wpListIn
       have hd:ao.dst=o.dst:=by obtain ⟨_,_,_,h,_⟩:=gJ h1;exact h
       have hput:∀(a:Act) (v:Value) t,ao.dst≠some t→(a.put o.dst v).tmps[t]?=a.tmps[t]?:=by
         intro a v t ht
         rw [hd] at ht
         cases ho:o.dst with
         | none=>rfl
         | some d=>
           rw [ho] at ht
           simp only [Act.put]
           rw [Array.getElem?_setIfInBounds_ne]
           intro e;exact ht (by rw [e])
       exact nV hB horc h1 hs hst1 (fun G' v w' hs' he=>dk hB horc h2 hs' hev (fun G'' a'' w'' hs'' he' hdf hk=>hq G'' a'' w'' hs'' (he.trans he') (hdf.trans (put_defers _ _ _)) (fun t ht=>by
         rw [hk t (fun ao' h=>ht ao' (by simp [h]))]
         exact hput a v t (ht ao (by simp)))))
   · simp at hc
theorem jW {F:Fence} {n:Nat} {ops:Array Oper} {Q:Exit→Act→World→Prop} {rest:List Oper} {o:Oper} {x:Operand} {a:Act} {w:World} (hF:∀f,F.fn f) (ho:o.op=.move x) (hg:o.guard=none)
   (h:wpListIn F n P ops Q rest (a.put o.dst (a.eval x)) w):wpListIn F n P ops Q (o::rest) a w:=by
 unfold wpListIn
 have hw:Region.wanted o (yielded ops a.tmps)=true:=by simp [Region.wanted,hg]
 rw [if_pos hw]
 refine ⟨fun _ _=>hF _,?_⟩
 rw [Oper.semAt_eq _ _ _ (by intro c e;rw [ho] at e;cases e)]
 have hr:(execOp a.eval o).run P w=.ok (.value (a.eval x)) w:=by
   obtain ⟨dst,op,type,pos,after,guard⟩:=o
   simp only at ho;subst ho
   simp [execOp]
 rw [hr]
 exact h
theorem tn {F:Fence} {n l:Nat} {ops:Array Oper} {Q:Exit→Act→World→Prop} {rest:List Oper} {o:Oper} {types:Array TypeId} {a:Act} {w:World} {x y:Value} (hF:∀f,F.fn f) (hd:F.depth=none)
   (ho:o.op=.call { callee:=.value (.tmp 11),args:=#[.tmp 12,.tmp 16],argTypes:=types }) (hg:o.guard=none) (h11:a.tmps[11]?=some (.func (.yield l) #[] #[])) (h12:a.tmps[12]?=some x) (h16:a.tmps[16]?=some y)
   (h:YieldAt F (n-1) P l #[x,y] w fun e w'=>∃v,e=.returned v∧wpListIn F n P ops Q rest (a.put o.dst v) w'):wpListIn F n P ops Q (o::rest) a w:=by
 unfold wpListIn
 have hw:Region.wanted o (yielded ops a.tmps)=true:=by simp [Region.wanted,hg]
 rw [if_pos hw]
 refine ⟨fun _ _=>hF _,?_⟩
 rw [Oper.semAt_eq _ _ _ (by intro c e;rw [ho] at e;cases e)]
 obtain ⟨fn,tmps,assign,body,hy,hR⟩:=h
 have e11:a.eval (.tmp 11)=.func (.yield l) #[] #[]:=by simp [Act.eval,h11]
 have e12:a.eval (.tmp 12)=x:=by simp [Act.eval,h12]
 have e16:a.eval (.tmp 16)=y:=by simp [Act.eval,h16]
 have hr:(execOp a.eval o).run P w=.ok (.round l fn tmps assign body) w:=by
   obtain ⟨dst,op,type,pos,after,guard⟩:=o
   simp only at ho;subst ho
   simp only [execOp,resolve,Sem.run_bind,e11,Deferred.ofValue,Sem.run_pure,Result.andThen_ok,invoke,callFunc]
   simp [e12,e16,hy]
 rw [hr]
 refine ⟨fun e=>by rw [hd] at e;simp at e,hR.mono ?_⟩
 rintro e w' ⟨v,rfl,h⟩
 exact h
theorem qH {F:Fence} {n:Nat} {ops:Array Oper} {Q:Exit→Act→World→Prop} {rest:List Oper} {o:Oper} {t:TypeId} {b:Bool} {a:Act} {w:World} (hF:∀f,F.fn f) (ho:o.op=.unOp .not t (.tmp 17)) (hg:o.guard=none)
   (h17:a.tmps[17]?=some (.bool b)) (h:wpListIn F n P ops Q rest (a.put o.dst (.bool !b)) w):wpListIn F n P ops Q (o::rest) a w:=by
 unfold wpListIn
 have hw:Region.wanted o (yielded ops a.tmps)=true:=by simp [Region.wanted,hg]
 rw [if_pos hw]
 refine ⟨fun _ _=>hF _,?_⟩
 rw [Oper.semAt_eq _ _ _ (by intro c e;rw [ho] at e;cases e)]
 have e17:a.eval (.tmp 17)=.bool b:=by simp [Act.eval,h17]
 have hr:(execOp a.eval o).run P w=.ok (.value (.bool !b)) w:=by
   obtain ⟨dst,op,type,pos,after,guard⟩:=o
   simp only at ho;subst ho
   simp [execOp,h17,go_sem,Op.unary]
 rw [hr]
 exact h
structure ko (L:List PV) (bx l:Nat) (k:Nat) (a:Act):Prop where
 size:a.tmps.size=19
 defers:a.defers=[]
 t0:a.tmps[0]?=some (.func (.yield l) #[] #[])
 t1:a.tmps[1]?=some (.pointer (some ⟨bx,0,none⟩))
 t3:a.tmps[3]?=some (.int .i64 ((L.length:Int)-1-k))
theorem ko.B5 {L:List PV} {bx l k:Nat} {a:Act} {st:St} {G:Gh} {W:World} (h:ko L bx l k a) (hi:Inv (num ns) G W st.mem st.sh st.aa) (hb:ah (num ns) G (.cj [.bz L]) (.pointer (some ⟨bx,0,none⟩))) :
   dt (num ns) 0 19 G { env:=[(1,.cj [.bz L]),(3,.pv (.int .i64 ((L.length:Int)-1-k)))],mem:=st.mem,sh:=st.sh,aa:=st.aa } a W:=by
 refine ⟨⟨h.size,fun t x hx=>?_⟩,hi,Nat.zero_le _,[],by simpa using h.defers,by simp,by simp⟩
 simp only [look] at hx
 split at hx
 · rename_i e;subst e;cases hx;exact ⟨_,h.t1,hb⟩
 · split at hx
   · rename_i e;subst e;cases hx;exact ⟨_,h.t3,by simp [ah,Rel,R]⟩
   · cases hx
section
variable {orc:cZ} {mem:List (Nat×List AV)} {sh:Sh} {aa:al} {L:List PV}
theorem CG (hL:L.length<4611686018427387904):aJ orc [⟨some 4,none,[.t 1],.v (.eC 1 false)⟩,⟨some 5,none,[.t 4],.v .len⟩,⟨some 6,none,[.t 5,.c (.pv (.int .i64 1))],.v (.bin .sub)⟩,⟨some 3,none,[.t 6],.v .mv⟩]
   { env:=[(1,.cj [.bz L])],mem,sh,aa }=some { env:=[(1,.cj [.bz L]),(4,.pv (.bz L)),(5,.pv (.int .i64 L.length)),(6,.pv (.int .i64 ((L.length:Int)-1))),(3,.pv (.int .i64 ((L.length:Int)-1)))],mem,sh,aa }:=by
 simp (disch:=omega) [cX]
theorem Ct {i:Int}:aJ orc [⟨some 7,none,[.t 3],.v .mv⟩,⟨some 8,none,[.t 7,.c (.pv (.int .i64 0))],.v (.bin .geq)⟩]
   { env:=[(1,.cj [.bz L]),(3,.pv (.int .i64 i))],mem,sh,aa }=some { env:=[(1,.cj [.bz L]),(3,.pv (.int .i64 i)),(7,.pv (.int .i64 i)),(8,.pv (.bool (decide (0≤i))))],mem,sh,aa }:=by
 simp (disch:=omega) [cX]
theorem CH {i:Int} (h0:-4611686018427387904<i) (h1:i<4611686018427387904):aJ orc [⟨some 9,none,[.t 3],.v .mv⟩,⟨some 10,none,[.t 9,.c (.pv (.int .i64 1))],.v (.bin .sub)⟩,⟨some 3,none,[.t 10],.v .mv⟩]
   { env:=[(1,.cj [.bz L]),(3,.pv (.int .i64 i))],mem,sh,aa }=some { env:=[(1,.cj [.bz L]),(3,.pv (.int .i64 (i-1))),(9,.pv (.int .i64 i)),(10,.pv (.int .i64 (i-1)))],mem,sh,aa }:=by
 simp (disch:=omega) [cX]
theorem CI {i sz:Nat} {ag:Bool} {el:PV} {x:AV} (hi:L[i]?=some el) (hx:mo sz ag el=some x):∃p,aJ orc [⟨some 12,none,[.t 3],.v .mv⟩,⟨some 13,none,[.t 1],.v (.eC 1 false)⟩,⟨some 14,none,[.t 3],.v .mv⟩,⟨some 15,none,[.t 13,.t 14],.v (.ed sz)⟩,⟨some 16,none,[.t 15],.v (.eC sz ag)⟩]
   { env:=[(1,.cj [.bz L]),(3,.pv (.int .i64 i))],mem,sh,aa }=some { env:=[(1,.cj [.bz L]),(3,.pv (.int .i64 i)),(12,.pv (.int .i64 i)),(13,.pv (.bz L)),(14,.pv (.int .i64 i)),(15,p),(16,x)],mem,sh,aa }:=by
 refine ⟨.cj (aB el),?_⟩
 have hlt:=(List.getElem?_eq_some_iff.1 hi).1
 unfold mo at hx
 simp only [Option.ite_none_right_eq_some] at hx
 obtain ⟨hsz,hx⟩:=hx
 have hi0:¬((i:Int)<0):=by omega
 simp (disch:=omega) [-getElem?_pos,hi,hi0,hsz,hx]
end
theorem zY {orc:cZ} (hB:dS P ns) (horc:ej P ns orc) {f sz:Nat} {ag:Bool} (D:oE P ns f sz ag) {L:List PV} (hL:L.length<4611686018427387904) {bx l:Nat} {J:Nat→St→Gh→World→Prop} {Jx:World→Prop}
   (hInv:∀{k st G W},J k st G W→Inv (num ns) G W st.mem st.sh st.aa)
   (hEvo:∀{k st G W G' W'},J k st G W→Inv (num ns) G' W' st.mem st.sh st.aa→aN G W G' W'→J k st G' W')
   (hbox:∀{k st G W},J k st G W→ah (num ns) G (.cj [.bz L]) (.pointer (some ⟨bx,0,none⟩)))
   (hel:∀{k st G W},J k st G W→k<L.length→∃el x,L[L.length-1-k]?=some el∧mo sz ag el=some x)
   (hY:∀{k st G W el x v},J k st G W→k<L.length→L[L.length-1-k]?=some el→mo sz ag el=some x→ah (num ns) G x v →
     YieldAt Fence.wide 0 P l #[.int .i64 ((L.length-1-k:Nat):Int),v] W fun e W'=>(e=.returned (.bool true)∧∃st' G',J (k+1) st' G' W')∨(e=.returned (.bool false)∧Jx W'))
   {st:St} {G:Gh} {W:World} (h0:J 0 st G W) :
   CallsIn Fence.wide 0 P f #[.func (.yield l) #[] #[],.pointer (some ⟨bx,0,none⟩)] W fun e W'=>(∃v,e=.returned v)∧((∃st' G',J L.length st' G' W')∨Jx W'):=by
 have hF:∀f,Fence.wide.fn f:=fun _=>trivial
 have fin:∀(a:Act) (W':World),a.defers=[]→((∃st' G',J L.length st' G' W')∨Jx W')→a.defers=[]∧∃v,(results D.fn a.tmps).run P W'=.ok v W'∧((∃u,Ending.returned v=.returned u)∧((∃st' G',J L.length st' G' W')∨Jx W')):=by
   intro a W' hd h
   refine ⟨hd,.tuple #[],?_,⟨_,rfl⟩,h⟩
   simp [results,D.dJ]
 refine callsIn_of_wp D.hf D.qG trivial ?_ rfl
 rw [D.hN]
 refine wpIn_seq (wpIn_region_list ?_)
 have hs0:dt (num ns) 0 19 G { env:=[(1,.cj [.bz L])],mem:=st.mem,sh:=st.sh,aa:=st.aa } { tmps:=#[.func (.yield l) #[] #[],.pointer (some ⟨bx,0,none⟩)]++Array.replicate (19-(#[.func (.yield l) #[] #[],.pointer (some ⟨bx,0,none⟩)]:Array Value).size) undef,defers:=[] } W:=by
   have i0:=hInv h0
   refine ⟨⟨by simp,fun t x hx=>?_⟩,i0,Nat.zero_le _,[],rfl,by simp,by simp⟩
   simp only [look] at hx
   split at hx
   · rename_i e;subst e;cases hx;exact ⟨_,by simp,hbox h0⟩
   · cases hx
 rw [←List.append_nil D.o0.toList]
 refine dk (ro:=none) hB horc D.c0 hs0 (CG hL) fun G1 a1 W1 hs1 he1 hd1 hk1=>?_
 change (Code.block D.b0 _).wpIn Fence.wide 0 P _ a1 W1
 have J1:J 0 st G1 W1:=hEvo h0 hs1.inv he1
 have hh1:ko L bx l 0 a1:=by
   refine ⟨hs1.env.size,hd1,?_,?_,?_⟩
   · rw [hk1 0 (by simp)];simp
   · rw [hk1 1 (by simp)];simp
   · obtain ⟨v,h1,h2⟩:=hs1.env.env 3 _ rfl
     simp [ah,Rel,R] at h2
     rw [h1,h2];simp
 refine wpIn_block (wpIn_loop_rounds (L.length+1) ?_)
 have round:∀(j k:Nat) (a:Act) (st:St) (G:Gh) (W:World),L.length-k=j→k≤L.length→ko L bx l k a→J k st G W →
     Code.roundsIn Fence.wide 0 P (.seq (.seq (.region D.r1 D.o1 false) (.cond (.tmp 8) .skip (.exit D.b0))) (.seq (.block D.b1 (.seq (.region D.r3 (D.m0::D.Br++[D.y,D.nt]).toArray false) (.cond (.tmp 18) .ret .skip))) (.region D.r2 D.o2 false)))
       (Exit.inBlock D.b0 (bodyPost P D.fn fun e W'=>(∃v,e=.returned v)∧((∃st' G',J L.length st' G' W')∨Jx W'))) (j+1) a W:=by
   intro j
   induction j with
   | zero=>
     intro k a st G W hj hk hh hJ
     rw [roundsIn_succ]
     refine wpIn_seq (wpIn_seq (wpIn_region_list ?_))
     rw [←List.append_nil D.o1.toList]
     refine dk (ro:=none) hB horc D.c1 (hh.B5 (hInv hJ) (hbox hJ)) Ct fun G1 a1 W1 hs1 he1 hd1 hk1=>?_
     change (Code.cond (.tmp 8) .skip (.exit D.b0)).wpIn Fence.wide 0 P _ a1 W1
     obtain ⟨v8,h8,r8⟩:=hs1.env.env 8 _ rfl
     have hJ1:=hEvo hJ hs1.inv he1
     have aw:ko L bx l k a1:=⟨hs1.env.size,hd1.trans hh.defers,by rw [hk1 0 (by simp)];exact hh.t0,by rw [hk1 1 (by simp)];exact hh.t1,by rw [hk1 3 (by simp)];exact hh.t3⟩
     simp [ah,Rel,R] at r8
     have hkl:k=L.length:=by omega
     subst hkl
     have hc:a1.eval (.tmp 8)=.bool false:=by simp [Act.eval,h8,r8];omega
     refine wpIn_cond_false hc (wpIn_exit ?_)
     simp only [Exit.then,Exit.inBlock,if_true]
     exact fin a1 W1 aw.defers (.inl ⟨_,_,hJ1⟩)
   | succ j ih=>
     intro k a st G W hj hk hh hJ
     rw [roundsIn_succ]
     refine wpIn_seq (wpIn_seq (wpIn_region_list ?_))
     rw [←List.append_nil D.o1.toList]
     refine dk (ro:=none) hB horc D.c1 (hh.B5 (hInv hJ) (hbox hJ)) Ct fun G1 a1 W1 hs1 he1 hd1 hk1=>?_
     change (Code.cond (.tmp 8) .skip (.exit D.b0)).wpIn Fence.wide 0 P _ a1 W1
     obtain ⟨v8,h8,r8⟩:=hs1.env.env 8 _ rfl
     have hJ1:=hEvo hJ hs1.inv he1
     have aw:ko L bx l k a1:=⟨hs1.env.size,hd1.trans hh.defers,by rw [hk1 0 (by simp)];exact hh.t0,by rw [hk1 1 (by simp)];exact hh.t1,by rw [hk1 3 (by simp)];exact hh.t3⟩
     simp [ah,Rel,R] at r8
     have hkl:k<L.length:=by omega
     have hc:a1.eval (.tmp 8)=.bool true:=by simp [Act.eval,h8,r8];omega
     refine wpIn_cond_true hc (wpIn_skip ?_)
     change (Code.seq (.block D.b1 _) (.region D.r2 D.o2 false)).wpIn Fence.wide 0 P _ a1 W1
     refine wpIn_seq (wpIn_block (wpIn_seq (wpIn_region_list ?_)))
     have hl3:((D.m0::D.Br++[D.y,D.nt]).toArray).toList=D.m0::(D.Br++[D.y,D.nt]):=by simp
     rw [hl3]
     refine jW hF D.h0.1 D.h0.2.2 ?_
     have e0:a1.eval (.tmp 0)=.func (.yield l) #[] #[]:=by simp [Act.eval,aw.t0]
     rw [D.h0.2.1,e0]
     have keep2:ko L bx l k (a1.put (some 11) (.func (.yield l) #[] #[])):=by
       refine ⟨by simp [Act.put,aw.size],aw.defers,?_,?_,?_⟩
       · simp only [Act.put];rw [Array.getElem?_setIfInBounds_ne (by decide)];exact aw.t0
       · simp only [Act.put];rw [Array.getElem?_setIfInBounds_ne (by decide)];exact aw.t1
       · simp only [Act.put];rw [Array.getElem?_setIfInBounds_ne (by decide)];exact aw.t3
     obtain ⟨el,x,hi,hx⟩:=hel hJ1 hkl
     have i3:(L.length:Int)-1-k=((L.length-1-k:Nat):Int):=by omega
     obtain ⟨p,hev⟩:=CI (orc:=orc) (mem:=st.mem) (sh:=st.sh) (aa:=st.aa) hi hx
     have hs2:=keep2.B5 (hInv hJ1) (hbox hJ1)
     rw [i3] at hs2
     refine dk (ro:=none) hB horc D.c3 hs2 hev fun G3 a3 W3 hs3 he3 hd3 hk3=>?_
     have hJ3:=hEvo hJ1 hs3.inv he3
     obtain ⟨v12,h12,r12⟩:=hs3.env.env 12 _ rfl
     obtain ⟨v16,h16,r16⟩:=hs3.env.env 16 _ rfl
     simp [ah,Rel,R] at r12
     subst r12
     have h11:a3.tmps[11]?=some (.func (.yield l) #[] #[]):=by rw [hk3 11 (by simp)];simp [Act.put,aw.size]
     have h3:a3.tmps[3]?=some (.int .i64 ((L.length:Int)-1-k)):=by rw [hk3 3 (by simp)];exact keep2.t3
     have h0':a3.tmps[0]?=some (.func (.yield l) #[] #[]):=by rw [hk3 0 (by simp)];exact keep2.t0
     have h1':a3.tmps[1]?=some (.pointer (some ⟨bx,0,none⟩)):=by rw [hk3 1 (by simp)];exact keep2.t1
     have hsz3:=hs3.env.size
     refine tn hF rfl D.hy.1 D.hy.2.2 h11 h12 h16 ?_
     obtain ⟨fn,tmps,assign,body,hy1,hR⟩:=hY hJ3 hkl hi hx r16
     refine ⟨fn,tmps,assign,body,hy1,hR.mono ?_⟩
     have put17:∀v,(a3.put D.y.dst v).tmps[17]?=some v:=by intro v;rw [D.hy.2.1];simp [Act.put,hsz3]
     have both:∀b u,ko L bx l k ((a3.put D.y.dst u).put D.nt.dst (.bool b))∧((a3.put D.y.dst u).put D.nt.dst (.bool b)).tmps[18]?=some (.bool b):=by
       intro b u
       rw [D.hy.2.1,D.hn.2.1]
       refine ⟨⟨by simp [Act.put,hsz3],hd3.trans keep2.defers,?_,?_,?_⟩,by simp [Act.put,hsz3]⟩
       · simp only [Act.put];rw [Array.getElem?_setIfInBounds_ne (by decide),Array.getElem?_setIfInBounds_ne (by decide)];exact h0'
       · simp only [Act.put];rw [Array.getElem?_setIfInBounds_ne (by decide),Array.getElem?_setIfInBounds_ne (by decide)];exact h1'
       · simp only [Act.put];rw [Array.getElem?_setIfInBounds_ne (by decide),Array.getElem?_setIfInBounds_ne (by decide)];exact h3
     rintro e W' (⟨rfl,st',G',hJ'⟩ | ⟨rfl,hx'⟩)
     · refine ⟨_,rfl,qH hF D.hn.1 D.hn.2.2 (put17 _) ?_⟩
       obtain ⟨hh4,h18⟩:=both false (.bool true)
       change (Code.cond (.tmp 18) .ret .skip).wpIn Fence.wide 0 P _ ((a3.put D.y.dst (.bool true)).put D.nt.dst (.bool false)) W'
       refine wpIn_cond_false (by simp [Act.eval,h18]) (wpIn_skip ?_)
       change (Code.region D.r2 D.o2 false).wpIn Fence.wide 0 P _ _ W'
       refine wpIn_region_list ?_
       rw [←List.append_nil D.o2.toList]
       refine dk (ro:=none) hB horc D.c2 (hh4.B5 (hInv hJ') (hbox hJ')) (CH (by omega) (by omega)) fun G5 a5 W5 hs5 he5 hd5 hk5=>?_
       have hJ5:=hEvo hJ' hs5.inv he5
       obtain ⟨v3,g3,s3⟩:=hs5.env.env 3 _ rfl
       simp [ah,Rel,R] at s3
       refine ih (k+1) a5 st' G5 W5 (by omega) (by omega) ⟨hs5.env.size,hd5.trans hh4.defers,by rw [hk5 0 (by simp)];exact hh4.t0,by rw [hk5 1 (by simp)];exact hh4.t1,?_⟩ hJ5
       rw [g3,s3]
       congr 2
       omega
     · refine ⟨_,rfl,qH hF D.hn.1 D.hn.2.2 (put17 _) ?_⟩
       obtain ⟨hh4,h18⟩:=both true (.bool false)
       change (Code.cond (.tmp 18) .ret .skip).wpIn Fence.wide 0 P _ ((a3.put D.y.dst (.bool false)).put D.nt.dst (.bool true)) W'
       refine wpIn_cond_true (by simp [Act.eval,h18]) (wpIn_ret ?_)
       exact fin _ W' hh4.defers (.inr hx')
 exact round L.length 0 a1 st G1 W1 (by omega) (by omega) hh1 J1
theorem Inv.gM {G:Gh} {w:World} {mem:List (Nat×List AV)} {sh:Sh} {aa:al} {l:Nat} {r:Loop} (hi:Inv (num ns) G w mem sh aa) (hl:w.heap[l]?=some (.loop r)) (o':Obj) :
   Inv (num ns) G (w.putObj l o') mem sh aa:=by
 have hne:∀{b:Nat} {c:Array Value} {t:TypeId},w.heap[b]?=some (.cells c t (0,0))→(w.putObj l o').heap[b]?=some (.cells c t (0,0)):=by
   intro b c t h
   rw [World.putObj_heap_other]
   · exact h
   · rintro rfl;rw [hl] at h;cases h
 have hsize:(w.putObj l o').heap.size=w.heap.size:=by simp [World.putObj]
 refine { hi with known:=?_,fresh:=?_,bp:=?_,bD:=?_,bE:=?_,hP:=?_ }
 · intro b o v hk
   have h:=hi.known b o v hk
   rw [←h]
   have:b≠l:=by rintro rfl;simp [World.cell?,hl] at h
   simp only [World.cell?,World.putObj_heap_other this]
 · intro b hb;exact hi.fresh b (by omega)
 · intro k cs hk
   obtain ⟨b,e1,⟨e2,c,t,e3,e4⟩,e5⟩:=hi.bp k cs hk
   exact ⟨b,e1,⟨e2,c,t,hne e3,e4⟩,e5⟩
 · intro k cs hk
   obtain ⟨b,e1,⟨e2,o,e3,e4⟩,e5⟩:=hi.bD k cs hk
   refine ⟨b,e1,⟨e2,o,?_,e4⟩,e5⟩
   rw [World.putObj_heap_other]
   · exact e3
   · rintro rfl
     rw [hl] at e3;cases e3
     rcases e4 with ⟨_,_,_,_,h,_⟩ | ⟨_,_,_,h,_⟩<;>cases h
 · intro τ n hn
   obtain ⟨t,e1,e2,e3⟩:=hi.bE τ n hn
   refine ⟨t,e1,e2,e3.cap,e3.zero,fun hlt=>?_⟩
   obtain ⟨b,o,c,ty,f1,f2,f3,f4,f5⟩:=e3.spare hlt
   exact ⟨b,o,c,ty,f1,f2,hne f3,f4,f5⟩
 · intro b c hb
   obtain ⟨h1,t',z,h2⟩:=hi.hP b c hb
   refine ⟨h1,t',z,?_⟩
   rw [World.putObj_heap_other]
   · exact h2
   · rintro rfl;rw [hl] at h2;cases h2
theorem aN.putObj {G G':Gh} {w w':World} {l:Nat} (he:aN G w G' w') (hl:w.heap.size≤l) (o':Obj):aN G w G' (w'.putObj l o'):=
 { he with
   size:=by simpa [World.putObj] using he.size
   os:=by simpa [World.putObj] using he.os
   tape:=by simpa [World.putObj] using he.tape
   output:=by simpa [World.putObj] using he.output
   b_:=fun b hb hr=>by
     obtain ⟨h1,h2⟩:=he.b_ b hb hr
     exact ⟨h1,by rw [World.putObj_heap_other (by omega)];exact h2⟩ }
theorem Inv.lZ {G:Gh} {w:World} {mem:List (Nat×List AV)} {sh:Sh} {aa:al} (hi:Inv (num ns) G w mem sh aa) (o:Obj):Inv (num ns) G (w.alloc o) mem sh aa:=by
 have hne:∀{b:Nat} {x:Obj},w.heap[b]?=some x→(w.alloc o).heap[b]?=some x:=by
   intro b x h
   have hlt:=(Array.getElem?_eq_some_iff.1 h).1
   rw [RowKit.Below.heap_alloc _ _ _ hlt];exact h
 have hsize:(w.alloc o).heap.size=w.heap.size+1:=World.size_alloc _ _
 refine { hi with known:=?_,fresh:=?_,bp:=?_,bD:=?_,bE:=?_,hP:=?_ }
 · intro b o' v hk
   have h:=hi.known b o' v hk
   rw [←h]
   have hlt:b<w.heap.size:=by
     rcases Nat.lt_or_ge b w.heap.size with h' | h'
     · exact h'
     · simp [World.cell?,Array.getElem?_eq_none h'] at h
   simp only [World.cell?,RowKit.Below.heap_alloc _ _ _ hlt]
 · intro b hb;exact hi.fresh b (by omega)
 · intro k cs hk
   obtain ⟨b,e1,⟨e2,c,t,e3,e4⟩,e5⟩:=hi.bp k cs hk
   exact ⟨b,e1,⟨e2,c,t,hne e3,e4⟩,e5⟩
 · intro k cs hk
   obtain ⟨b,e1,⟨e2,o',e3,e4⟩,e5⟩:=hi.bD k cs hk
   exact ⟨b,e1,⟨e2,o',hne e3,e4⟩,e5⟩
 · intro τ n hn
   obtain ⟨t,e1,e2,e3⟩:=hi.bE τ n hn
   refine ⟨t,e1,e2,e3.cap,e3.zero,fun hlt=>?_⟩
   obtain ⟨b,o,c,ty,f1,f2,f3,f4,f5⟩:=e3.spare hlt
   exact ⟨b,o,c,ty,f1,f2,hne f3,f4,f5⟩
 · intro b c hb
   obtain ⟨h1,t',z,h2⟩:=hi.hP b c hb
   exact ⟨h1,t',z,hne h2⟩
theorem aN.lZ {G G':Gh} {w w':World} (he:aN G w G' w') (o:Obj):aN G w G' (w'.alloc o):=
 { he with
   size:=by rw [World.size_alloc];exact Nat.le_succ_of_le he.size
   os:=he.os
   tape:=he.tape
   output:=he.output
   b_:=fun b hb hr=>by
     obtain ⟨h1,h2⟩:=he.b_ b hb hr
     exact ⟨h1,by rw [RowKit.Below.heap_alloc _ _ _ (Nat.lt_of_lt_of_le hb he.size)];exact h2⟩ }
theorem qI {L:List PV} {k:Nat} (hk:k<L.length):∃el,L[L.length-1-k]?=some el∧L.zipIdx.reverse.drop k=(el,L.length-1-k)::L.zipIdx.reverse.drop (k+1):=by
 have hlt:L.length-1-k<L.length:=by omega
 refine ⟨L[L.length-1-k],List.getElem?_eq_getElem hlt,?_⟩
 have hl:k<L.zipIdx.reverse.length:=by simp;exact hk
 rw [List.drop_eq_getElem_cons hl]
 congr 1
 simp
def gk (fn:FuncId) (tmps:Array Value) (ps:Array Tmp) (x y:Code) (D:Nat) (s:LoopState) (pe:Option Code):Loop:={ state:=s,pending:=pe,fn,tmps,params:=ps,assign:=x,body:=y,defers:=D }
def Bf:aE→Code
 | .normal=>.skip
 | .ret=>.ret
 | .exit id=>.exit id
structure BJ (ns:Names) (Gs:Gh) (w:World) (F:St→Option (aE×St)) (live:List Nat) (pi px sz:Nat) (ag:Bool) (env0:List (Nat×AV)) (L:List PV) (bx:Nat) (l D:Nat) (rec:Loop) (res:aE×St) (k:Nat) (st:St) (G:Gh) (W:World):Prop where
 inv:Inv (num ns) G W st.mem st.sh st.aa
 mr:aN Gs w G W
 tq:W.heap[l]?=some (.loop rec)
 rl:G.role l=.b_
 BN:W.heap[D]?=some (.deferred (some []))
 rd:G.role D=.b_
 box:ah (num ns) G (.cj [.bz L]) (.pointer (some ⟨bx,0,none⟩))
 rest:gS F live pi px sz ag env0 (L.zipIdx.reverse.drop k) st=some res
theorem nc {G G':Gh} {cs:List PV} {v:Value} (hK:G.K.le G'.K) (h:ah (num ns) G (.cj cs) v):ah (num ns) G' (.cj cs) v:=by
 simp only [ah] at h ⊢
 obtain ⟨b,o,vs,e,f,r⟩:=h
 exact ⟨b,o,vs,e,f.mono hK,bM.mono hK _ _ r⟩
theorem BJ.go {Gs:Gh} {w:World} {F:St→Option (aE×St)} {live:List Nat} {pi px sz:Nat} {ag:Bool} {env0:List (Nat×AV)} {L:List PV} {bx l D:Nat} {rec:Loop} {res:aE×St} {k:Nat} {st:St} {G G':Gh} {W W':World}
   (h:BJ ns Gs w F live pi px sz ag env0 L bx l D rec res k st G W) (hi:Inv (num ns) G' W' st.mem st.sh st.aa) (he:aN G W G' W'):BJ ns Gs w F live pi px sz ag env0 L bx l D rec res k st G' W':=by
 have hl:=(Array.getElem?_eq_some_iff.1 h.tq).1
 have hd:=(Array.getElem?_eq_some_iff.1 h.BN).1
 obtain ⟨a1,a2⟩:=he.b_ l hl h.rl
 obtain ⟨b1,b2⟩:=he.b_ D hd h.rd
 exact ⟨hi,h.mr.trans he,a2.trans h.tq,a1,b2.trans h.BN,b1,nc he.K h.box,h.rest⟩
theorem BJ.el {Gs:Gh} {w:World} {F:St→Option (aE×St)} {live:List Nat} {pi px sz:Nat} {ag:Bool} {env0:List (Nat×AV)} {L:List PV} {bx l D:Nat} {rec:Loop} {res:aE×St} {k:Nat} {st:St} {G:Gh} {W:World}
   (h:BJ ns Gs w F live pi px sz ag env0 L bx l D rec res k st G W) (hk:k<L.length):∃el x,L[L.length-1-k]?=some el∧mo sz ag el=some x:=by
 obtain ⟨el,h1,h2⟩:=qI hk
 have hr:=h.rest
 rw [h2] at hr
 simp only [gS] at hr
 cases hx:mo sz ag el with
 | none=>rw [hx] at hr;simp at hr
 | some x=>exact ⟨el,x,h1,hx⟩
def eB:aE→Exit
 | .normal=>.normal
 | .ret=>.ret
 | .exit id=>.exit id
theorem Marks.gM {n0:Nat} {G:Gh} {a:Act} {w:World} {l:Nat} {r:Loop} (h:Marks n0 G a w) (hl:w.heap[l]?=some (.loop r)) (o':Obj):Marks n0 G a (w.putObj l o'):=by
 obtain ⟨e0,Ds,e1,e2,e3⟩:=h
 refine ⟨by simpa [World.putObj] using e0,Ds,e1,e2,fun D hD=>?_⟩
 obtain ⟨f0,f1,f2,f3⟩:=e3 D hD
 refine ⟨f0,by simpa [World.putObj] using f1,f2,?_⟩
 rw [World.putObj_heap_other]
 · exact f3
 · rintro rfl;rw [hl] at f3;cases f3
def JX (ns:Names) (Gs:Gh) (w:World) (env0:List (Nat×AV)) (l D:Nat) (rec:Option Code→Loop) (res:aE×St) (W':World):Prop:=
 ∃(e:aE) (st':St) (G':Gh),e≠.normal∧res=(e,{ st' with env:=env0 })∧Inv (num ns) G' W' st'.mem st'.sh st'.aa∧aN Gs w G' W' ∧
   W'.heap[l]?=some (.loop (rec (some (Bf e))))∧W'.heap[D]?=some (.deferred (some []))∧G'.role D=.b_
theorem BJ.round {N:Nat} {cx cy:Code} {fx fy:St→Option (aE×St)} {l:Nat}
   (hX:∀{st st':St} {e:aE} {G:Gh} {a:Act} {w:World} {Q:Exit→Act→World→Prop},fx st=some (e,st')→dt (num ns) 0 N G st a w→(∀G' a' w',dt (num ns) 0 N G' st' a' w'→aN G w G' w'→Q (eB e) a' w')→cx.wpIn (kF (some l)) 0 P Q a w)
   (hY:∀{st st':St} {e:aE} {G:Gh} {a:Act} {w:World} {Q:Exit→Act→World→Prop},fy st=some (e,st')→dt (num ns) 0 N G st a w→(∀G' a' w',dt (num ns) 0 N G' st' a' w'→aN G w G' w'→Q (eB e) a' w')→cy.wpIn (kF (some l)) 0 P Q a w)
   {Gs:Gh} {w:World} {live:List Nat} {pi px sz:Nat} {ag:Bool} {env0:List (Nat×AV)} {L:List PV} {bx D:Nat} {fn:FuncId} {a:Act} {res:aE×St} {k:Nat} {st:St} {G:Gh} {W:World}
   (henv:∀t x,look env0 t=some x→a_ x=true∧∃v,a.tmps[t]?=some v∧ah (num ns) Gs x v) (hN:a.tmps.size=N) (hpi:pi<N) (hpx:px<N) (hl:w.heap.size≤l) (hD:w.heap.size≤D) (hne:l≠D)
   (h:BJ ns Gs w (andThen fx fy) live pi px sz ag env0 L bx l D (gk fn a.tmps #[pi,px] cx cy D .ready none) res k st G W) (hk:k<L.length) {el:PV} {x:AV} {v:Value} (hi:L[L.length-1-k]?=some el) (hx:mo sz ag el=some x) (hv:ah (num ns) G x v) :
   YieldAt Fence.wide 0 P l #[.int .i64 ((L.length-1-k:Nat):Int),v] W fun e W'=>(e=.returned (.bool true)∧∃st' G',BJ ns Gs w (andThen fx fy) live pi px sz ag env0 L bx l D (gk fn a.tmps #[pi,px] cx cy D .ready none) res (k+1) st' G' W') ∨
     (e=.returned (.bool false)∧JX ns Gs w env0 l D (gk fn a.tmps #[pi,px] cx cy D .done) res W'):=by
 obtain ⟨el',h1,h2⟩:=qI hk
 rw [hi] at h1;cases h1
 have hr:=h.rest
 rw [h2] at hr
 simp only [gS,hx] at hr
 refine ⟨fn,(a.tmps.setIfInBounds pi (.int .i64 ((L.length-1-k:Nat):Int))).setIfInBounds px v,cx,cy,by rw [run_yield h.tq rfl];simp [gk],roundIn_of_wpIn trivial ?_⟩
 have hs0:dt (num ns) 0 N G { st with env:=bV (bV env0 pi (.pv (.int .i64 ((L.length-1-k:Nat):Int)))) px x } { tmps:=(a.tmps.setIfInBounds pi (.int .i64 ((L.length-1-k:Nat):Int))).setIfInBounds px v,defers:=[] } W:=by
   refine ⟨⟨by simp [hN],fun t y hy=>?_⟩,h.inv,Nat.zero_le _,[],rfl,by simp,by simp⟩
   by_cases e1:px=t
   · subst e1
     rw [aS] at hy;cases hy
     exact ⟨v,by simp [hN,hpx],hv⟩
   · rw [aL _ _ _ _ e1] at hy
     by_cases e2:pi=t
     · subst e2
       rw [aS] at hy;cases hy
       refine ⟨.int .i64 ((L.length-1-k:Nat):Int),?_,by simp [ah,Rel,R]⟩
       rw [Array.getElem?_setIfInBounds_ne e1];simp [hN,hpi]
     · rw [aL _ _ _ _ e2] at hy
       obtain ⟨f1,u,f2,f3⟩:=henv t y hy
       exact ⟨u,by rw [Array.getElem?_setIfInBounds_ne e1,Array.getElem?_setIfInBounds_ne e2];exact f2,dI h.mr.K h.mr.sm f1 f3⟩
 obtain ⟨G0,hs1,he1⟩:=hs0.head live
 cases hf:andThen fx fy (norm (restrict live { st with env:=bV (bV env0 pi (.pv (.int .i64 ((L.length-1-k:Nat):Int)))) px x })) with
 | none=>rw [hf] at hr;simp at hr
 | some q=>
   obtain ⟨e,st4⟩:=q
   rw [hf] at hr
   unfold andThen at hf
   cases hfx:fx (norm (restrict live { st with env:=bV (bV env0 pi (.pv (.int .i64 ((L.length-1-k:Nat):Int)))) px x })) with
   | none=>rw [hfx] at hf;simp at hf
   | some q=>
     obtain ⟨e1,st2⟩:=q
     rw [hfx] at hf
     cases e1 with
     | ret=>simp at hf
     | exit id=>simp at hf
     | normal=>
       simp only at hf
       refine hX hfx hs1 fun G2 a2 W2 hs2 he2=>?_
       have he12:=he1.trans he2
       have ll:=(Array.getElem?_eq_some_iff.1 h.tq).1
       have ld:=(Array.getElem?_eq_some_iff.1 h.BN).1
       obtain ⟨rl2,hl2⟩:=he12.b_ l ll h.rl
       obtain ⟨rd2,hd2⟩:=he12.b_ D ld h.rd
       rw [h.tq] at hl2
       rw [h.BN] at hd2
       have ll2:=(Array.getElem?_eq_some_iff.1 hl2).1
       have ld2:=(Array.getElem?_eq_some_iff.1 hd2).1
       refine ⟨_,run_beginRound hl2 rfl,?_⟩
       refine hY hf ⟨hs2.env,hs2.inv.gM hl2 _,hs2.marks.gM hl2 _⟩ fun G4 a4 W4 hs4 he4=>?_
       have evo3:=(h.mr.trans he12).putObj hl (.loop { gk fn a.tmps #[pi,px] cx cy D .ready none with state:=.busy })
       have evo4:=evo3.trans he4
       have sz3:(W2.putObj l (.loop { gk fn a.tmps #[pi,px] cx cy D .ready none with state:=.busy })).heap.size=W2.heap.size:=by simp [World.putObj]
       obtain ⟨rl4,hl4⟩:=he4.b_ l (by rw [sz3];exact ll2) rl2
       obtain ⟨rd4,hd4⟩:=he4.b_ D (by rw [sz3];exact ld2) rd2
       rw [World.putObj_heap_same ll2] at hl4
       rw [World.putObj_heap_other (Ne.symm hne),hd2] at hd4
       have ll4:=(Array.getElem?_eq_some_iff.1 hl4).1
       cases e with
       | normal=>
         refine ⟨_,_,run_endRound none hl4,.inl ⟨rfl,st4,G4,hs4.inv.gM hl4 _,evo4.putObj hl _,?_,rl4,?_,rd4,nc (aF.le_trans (aF.le_trans he12.K (aF.le_refl _)) he4.K) h.box,hr⟩⟩
         · rw [World.putObj_heap_same ll4];rfl
         · rw [World.putObj_heap_other (Ne.symm hne)];exact hd4
       | ret=>
         refine ⟨_,_,run_endRound (some .ret) hl4,.inr ⟨rfl,.ret,st4,G4,by simp,(Option.some.inj hr).symm,hs4.inv.gM hl4 _,evo4.putObj hl _,?_,?_,rd4⟩⟩
         · rw [World.putObj_heap_same ll4];rfl
         · rw [World.putObj_heap_other (Ne.symm hne)];exact hd4
       | exit id=>
         refine ⟨_,_,run_endRound (some (.exit id)) hl4,.inr ⟨rfl,.exit id,st4,G4,by simp,(Option.some.inj hr).symm,hs4.inv.gM hl4 _,evo4.putObj hl _,?_,?_,rd4⟩⟩
         · rw [World.putObj_heap_same ll4];rfl
         · rw [World.putObj_heap_other (Ne.symm hne)];exact hd4
theorem tr {orc:cZ} (hB:dS P ns) (horc:ej P ns orc) {gb sz:Nat} {ag:Bool} (hD:∀f,ns.of f=some gb→Nonempty (oE P ns f sz ag)) {N:Nat} {cx cy:Code} {fx fy:St→Option (aE×St)}
   (hX:∀{l:Nat} {st st':St} {e:aE} {G:Gh} {a:Act} {w:World} {Q:Exit→Act→World→Prop},fx st=some (e,st')→dt (num ns) 0 N G st a w→(∀G' a' w',dt (num ns) 0 N G' st' a' w'→aN G w G' w'→Q (eB e) a' w')→cx.wpIn (kF (some l)) 0 P Q a w)
   (hY:∀{l:Nat} {st st':St} {e:aE} {G:Gh} {a:Act} {w:World} {Q:Exit→Act→World→Prop},fy st=some (e,st')→dt (num ns) 0 N G st a w→(∀G' a' w',dt (num ns) 0 N G' st' a' w'→aN G w G' w'→Q (eB e) a' w')→cy.wpIn (kF (some l)) 0 P Q a w)
   {t pi px:Nat} {live:List Nat} (hpi:pi<N) (hpx:px<N) {st st':St} {e:aE} {n0:Nat} {G:Gh} {a:Act} {w:World} {Q:Exit→Act→World→Prop}
   (hev:eQ (andThen fx fy) (look st.env t) gb pi px sz ag live st=some (e,st')) (hs:dt (num ns) n0 N G st a w)
   (hq:∀G' a' w',dt (num ns) n0 N G' st' a' w'→aN G w G' w'→Q (eB e) a' w'):(Code.rangeFunc (.tmp t) #[pi,px] cx cy).wpIn Fence.wide 0 P Q a w:=by
 unfold eQ at hev
 split at hev
 · rename_i g s hlook
   split at hev
   · rename_i hg
     subst hg
     split at hev
     · rename_i L hsh
       split at hev
       · rename_i hL
         obtain ⟨fv,hfv,hrel⟩:=hs.env.env t _ hlook
         simp only [ah,ae] at hrel
         obtain ⟨f,vs,hfg,rfl,ptr,r0,rfl,⟨⟨bx,nx⟩,hsm,rfl⟩,rfl⟩:=hrel
         obtain ⟨D⟩:=hD f hfg
         obtain ⟨G1,k1,k2,k3,k4,k5⟩:=Inv.kill [s] hs.inv
         obtain ⟨b',vs',e1,e2,e3⟩:=k4 s (by simp) _ hsh rfl
         rw [hsm] at e1;cases e1
         have box1:ah (num ns) G1 (.cj [.bz L]) (.pointer (some ⟨bx,0,none⟩)):=by
           simp only [ae,ah] at e3
           obtain ⟨v,r,rfl,e4,rfl⟩:=e3
           simp only [ah]
           exact ⟨bx,0,[v],rfl,e2,by simp only [bM];exact ⟨v,[],rfl,e4,rfl⟩⟩
         have henv:∀t x,look (iy live st.env) t=some x→a_ x=true∧∃v,a.tmps[t]?=some v∧ah (num ns) G1 x v:=by
           intro t x hx
           have hm:=jt hx
           simp only [iy,List.mem_filter] at hm
           obtain ⟨h1,h2⟩:=cP hm.1
           obtain ⟨v,h3,h4⟩:=hs.env.env t x h1
           exact ⟨hm.2,v,h3,h4.mono k2⟩
         refine wpIn_rangeFunc ?_
         intro fn _
         obtain ⟨W1,hW1⟩:∃W1,(w.alloc (.deferred (some []))).alloc (.loop (gk fn a.tmps #[pi,px] cx cy w.heap.size .ready none))=W1:=⟨_,rfl⟩
         have s0:(w.alloc (.deferred (some []))).heap.size=w.heap.size+1:=World.size_alloc _ _
         have s1:W1.heap.size=w.heap.size+1+1:=by rw [←hW1,World.size_alloc,s0]
         have hL1:W1.heap[w.heap.size+1]?=some (.loop (gk fn a.tmps #[pi,px] cx cy w.heap.size .ready none)):=by
           rw [←hW1];have:=World.alloc_heap_new (w.alloc (.deferred (some []))) (.loop (gk fn a.tmps #[pi,px] cx cy w.heap.size .ready none));rwa [World.size_alloc] at this
         have hK1:W1.heap[w.heap.size]?=some (.deferred (some [])):=by
           rw [←hW1,RowKit.Below.heap_alloc _ _ _ (by omega)];exact World.alloc_heap_new w _
         have i1:Inv (num ns) G1 W1 st.mem (kill st.sh [s]) st.aa:=by rw [←hW1];exact (k1.lZ _).lZ _
         have v1:aN G1 w G1 W1:=by rw [←hW1];exact ((aN.refl G1 w).lZ _).lZ _
         have hcall:=zY hB horc D hL (bx:=bx) (l:=w.heap.size+1) (J:=fun k st2 G2 W2=>BJ ns G1 w (andThen fx fy) live pi px sz ag (iy live st.env) L bx (w.heap.size+1) w.heap.size (gk fn a.tmps #[pi,px] cx cy w.heap.size .ready none) (e,st') k st2 G2 W2)
           (Jx:=JX ns G1 w (iy live st.env) (w.heap.size+1) w.heap.size (gk fn a.tmps #[pi,px] cx cy w.heap.size .done) (e,st'))
           (fun h=>h.inv) (fun h hi he=>h.go hi he) (fun h=>h.box) (fun h hk=>h.el hk) (fun h hk hi hx hv=>h.round hX hY henv hs.env.size hpi hpx (by omega) (Nat.le_refl _) (by omega) hk hi hx hv)
           (st:={ st with sh:=kill st.sh [s] }) (G:=G1) (W:=W1) ⟨i1,v1,hL1,k1.fresh _ (by omega),hK1,k1.fresh _ (Nat.le_refl _),box1,by rw [List.drop_zero];exact hev⟩
         have hpost:CallsIn Fence.wide (0-1) P f (#[.func (.yield (w.heap.size+1)) #[] #[]]++#[.pointer (some ⟨bx,0,none⟩)]) W1 (rangePost Fence.wide 0 P (w.heap.size+1) Q { a with defers:=[{ target:=.collected w.heap.size,args:=#[] }]++a.defers }):=by
           refine CallsIn.mono hcall ?_
           have fin:∀(st2:St) (G2:Gh) (W2:World) (r:Loop),Inv (num ns) G2 W2 st2.mem st2.sh st2.aa→aN G1 w G2 W2→W2.heap[w.heap.size+1]?=some (.loop r)→W2.heap[w.heap.size]?=some (.deferred (some []))→G2.role w.heap.size=.b_→st'={ st2 with env:=iy live st.env } →
               Q (eB e) { a with defers:=[{ target:=.collected w.heap.size,args:=#[] }]++a.defers } (W2.putObj (w.heap.size+1) (.loop { r with state:=.exhausted })):=by
             intro st2 G2 W2 r q1 q2 q3 q4 q5 q6
             have ev:=k3.trans (q2.putObj (Nat.le_succ _) (.loop { r with state:=.exhausted }))
             refine hq G2 _ _ ?_ ev
             subst q6
             refine ⟨⟨hs.env.size,fun t x hx=>?_⟩,q1.gM q3 _,?_⟩
             · obtain ⟨f1,v,f2,f3⟩:=henv t x hx
               exact ⟨v,f2,dI q2.K q2.sm f1 f3⟩
             · obtain ⟨m0,Ds,m1,m2,m3⟩:=hs.marks
               refine ⟨Nat.le_trans m0 ev.size,w.heap.size::Ds,by simp [m1],?_,?_⟩
               · rw [List.nodup_cons]
                 refine ⟨fun hm=>?_,m2⟩
                 exact absurd (m3 _ hm).2.1 (Nat.lt_irrefl _)
               · intro D hD
                 rcases List.mem_cons.1 hD with rfl | hD
                 · have hd:=(Array.getElem?_eq_some_iff.1 q4).1
                   refine ⟨m0,by simpa [World.putObj] using hd,q5,?_⟩
                   rw [World.putObj_heap_other (by omega)];exact q4
                 · obtain ⟨f0,f1,f2,f3⟩:=m3 D hD
                   obtain ⟨g1,g2⟩:=ev.b_ D f1 f2
                   exact ⟨f0,Nat.lt_of_lt_of_le f1 ev.size,g1,g2.trans f3⟩
           rintro _ W' ⟨⟨v,rfl⟩,(⟨st2,G2,hJ⟩ | ⟨e2,st2,G2,hne,dJ,q1,q2,q3,q4,q5⟩)⟩
           · have hr:=hJ.rest
             rw [List.drop_eq_nil_of_le (by simp)] at hr
             simp only [gS,Option.some.injEq,Prod.mk.injEq] at hr
             obtain ⟨rfl,h2⟩:=hr
             exact ⟨_,_,run_endLoop hJ.tq (by simp [gk]),fin st2 G2 W' _ hJ.inv hJ.mr hJ.tq hJ.BN hJ.rd h2.symm⟩
           · simp only [Prod.mk.injEq] at dJ
             obtain ⟨rfl,h2⟩:=dJ
             refine ⟨_,_,run_endLoop q3 (by simp [gk]),?_⟩
             cases e with
             | normal=>exact absurd rfl hne
             | ret=>exact wpIn_ret (fin st2 G2 W' _ q1 q2 q3 q4 q5 h2)
             | exit id=>exact wpIn_exit (fin st2 G2 W' _ q1 q2 q3 q4 q5 h2)
         have henter:(Instr.enterLoop fn a.tmps #[pi,px] cx cy Fence.wide.round).run P w=.ok (w.heap.size+1,[{ target:=.collected w.heap.size,args:=#[] }]) W1:=by rw [←hW1];exact run_enterLoop_outer _ _ _ _ _
         have dJ:(resolve a.eval (rangeCall (.tmp t) (w.heap.size+1)) 0).run P W1=.ok { target:=.fn (.func f) #[.pointer (some ⟨bx,0,none⟩)],args:=#[.func (.yield (w.heap.size+1)) #[] #[]] } W1:=by
           have heval:a.eval (.tmp t)=.func (.func f) #[] #[.pointer (some ⟨bx,0,none⟩)]:=by simp [Act.eval,hfv]
           simp only [resolve,rangeCall,heval]
           simp [go_sem]
         have hinv:(invoke (.fn (.func f) #[.pointer (some ⟨bx,0,none⟩)]) #[.func (.yield (w.heap.size+1)) #[] #[]]).run P W1=.ok (.enter f (#[.func (.yield (w.heap.size+1)) #[] #[]]++#[.pointer (some ⟨bx,0,none⟩)])) W1:=by
           simp only [invoke]
           exact gD hB hfg _
         exact ⟨_,_,W1,_,W1,f,_,W1,henter,dJ,fun _ _=>trivial,hinv,fun h=>absurd h (by simp [Fence.wide]),hpost⟩
       · simp at hev
     · simp at hev
   · simp at hev
 · simp at hev
end
end Go.Ab
