import Derived.Test.YthcoecdbgdhihaaGreatDoorAbBack
/-
  slices.Clone: its argument appended to an empty slice.
-/
set_option linter.unusedVariables false
set_option linter.unusedSimpArgs false
set_option linter.unnecessarySimpa false
set_option maxRecDepth 100000
set_option maxHeartbeats 8000000
namespace Go.Ab
open Ev
structure iB (P:Program) (ns:Names) (f sz bytes:Nat) where
 fn:Func
 A:lf
 t:TypeId
 el:TypeId
 ty:TypeId
 o0:Oper
 m:Oper
 e:Oper
 o2:Oper
 b:Oper
 m3:Oper
 ap:Oper
 A2:lf
 ag:Bool
 fi:Oper
 r0:Nat
 r1:Nat
 r2:Nat
 r3:Nat
 hf:P.funcs[f]?=some fn
 jA:fn.body=some (.seq (.region r0 #[o0] false) (.seq (.seq (.region r1 #[m,e] false) (.cond (.tmp 4) (.seq (.region r2 #[o2] false) .ret) .skip)) (.seq (.region r3 #[b,m3,ap,fi] false) .ret)))
 gk:fn.results=#[.tmp 2]
 hN:fn.ntmps=8
 h0:o0.op=.assign (.const (.slice none 0 0))∧o0.dst=some 2∧o0.guard=none
 h1:m.op=.move (.tmp 0)∧m.dst=some 3∧m.guard=none
 h2:e.op=.binOp .eql t (.tmp 3) (.const (.slice none 0 0)) ty∧e.dst=some 4∧e.guard=none
 hu:P.underlying t=some (.slice el)
 h3:o2.op=.assign (.const (.slice none 0 0))∧o2.dst=some 2∧o2.guard=none
 h4:cm P ns A b.dst b.op=some (.v (.aT sz),[])∧b.dst=some 5∧b.guard=none
 h5:m3.op=.move (.tmp 0)∧m3.dst=some 6∧m3.guard=none
 h6:cm P ns A ap.dst ap.op=some (.append sz bytes,[.tmp 5,.tmp 6])∧ap.dst=some 7∧ap.guard=none
 h8:cm P ns A2 ap.dst ap.op=some (.dd sz bytes ag,[.tmp 5,.tmp 6])
 h7:fi.op=.assign (.tmp 7)∧fi.dst=some 2∧fi.guard=none
section
variable {P:Program} {ns:Names}
theorem gG {F:Fence} {n:Nat} {ops:Array Oper} {Q:Exit→Act→World→Prop} {rest:List Oper} {o:Oper} {x:Operand} {a:Act} {w:World} (hF:∀f,F.fn f) (ho:o.op=.assign x) (hg:o.guard=none)
   (h:wpListIn F n P ops Q rest (a.put o.dst (a.eval x)) w):wpListIn F n P ops Q (o::rest) a w:=by
 unfold wpListIn;have hw:Region.wanted o (yielded ops a.tmps)=true:=by simp [Region.wanted,hg]
 rw [if_pos hw];refine ⟨fun _ _=>hF _,?_⟩;rw [Oper.semAt_eq _ _ _ (by intro c e;rw [ho] at e;cases e)];have hr:(execOp a.eval o).run P w=.ok (.value (a.eval x)) w:=by
   obtain ⟨dst,op,type,pos,after,guard⟩:=o;simp only at ho;subst ho;simp [execOp]
 rw [hr];exact h
theorem m9 {G:Gh} {A:lf} {n:Nat} {ops:Array Oper} {Q:Exit→Act→World→Prop} {rest:List Oper} {o:Oper} {k:AK} {args:List Operand} {a:Act} {w:World} (hg:o.guard=none) {orc:ep} (hc:cm P ns A o.dst o.op=some (k,args)) (hk:k.calls=false)
   {vals:List AV} {out:Out} {mem:List (Nat×List AV)} {sh:Sh} {ah:aN} (hkey:k.key=none) (hr:aB (num ns) G vals (args.map a.eval)) (hi:Inv (num ns) G w mem sh ah) (h:exec orc k vals none sh ah=some out)
   (hn:∀v w' G',aC (num ns) G' out.val v→Inv (num ns) G' w' mem out.sh out.ah→G.le G'→cq G w G' w'→wpListIn Fence.wide n P ops Q rest (a.put o.dst v) w'):wpListIn Fence.wide n P ops Q (o::rest) a w:=by
 unfold wpListIn;have hw:Region.wanted o (yielded ops a.tmps)=true:=by simp [Region.wanted,hg]
 rw [if_pos hw];have hdef:∀c,o.op≠.defer c:=by intro c e;rw [e] at hc;simp [cm] at hc
 refine qp (ro:=none) hdef ?_;obtain ⟨nx,v,w',G',g1,g2,g3,g4,g5,g6⟩:=pI (orc:=orc) (mem:=mem) hc hk hr hi (by rw [hkey];exact h);have g4':Inv (num ns) G' w' mem out.sh out.ah:=by rw [hkey] at g4;exact g4
 unfold Oper.wp;rw [g1];rcases g2 with rfl | ⟨rfl,rfl⟩
 · exact hn v w' G' g3 g4' g5 g6
 · exact hn undef w' G' g3 g4' g5 g6
theorem BT {F:Fence} {n:Nat} {ops:Array Oper} {Q:Exit→Act→World→Prop} {rest:List Oper} {o:Oper} {t el ty:TypeId} {a:Act} {w:World} {base:Option Addr} {len cap:Nat} (hF:∀f,F.fn f)
   (ho:o.op=.binOp .eql t (.tmp 3) (.const (.slice none 0 0)) ty) (hg:o.guard=none) (hu:P.underlying t=some (.slice el)) (h3:a.tmps[3]?=some (.slice base len cap))
   (h:wpListIn F n P ops Q rest (a.put o.dst (.bool base.isNone)) w):wpListIn F n P ops Q (o::rest) a w:=by
 unfold wpListIn;have hw:Region.wanted o (yielded ops a.tmps)=true:=by simp [Region.wanted,hg]
 rw [if_pos hw];refine ⟨fun _ _=>hF _,?_⟩;rw [Oper.semAt_eq _ _ _ (by intro c e;rw [ho] at e;cases e)];have e3:a.eval (.tmp 3)=.slice base len cap:=by simp [Act.eval,h3]
 have ec:a.eval (.const (.slice none 0 0))=.slice none 0 0:=rfl;have he:(Op.equal t (.slice base len cap) (.slice none 0 0)).run P w=.ok base.isNone w:=by
   have h:∀d:Nat,(Op.equalIn (d+1) t (.slice base len cap) (.slice none 0 0)).run P w=.ok base.isNone w:=fun d=>by
     cases base<;>simp [Op.equalIn,run_underlying hu]
   exact h 9999
 have hr:(execOp a.eval o).run P w=.ok (.value (.bool base.isNone)) w:=by
   obtain ⟨dst,op,type,pos,after,guard⟩:=o;simp only at ho;subst ho;simp only [execOp,e3,ec];simp [eqGuard,binOp,he]
 rw [hr];exact h
theorem yL {f sz bytes:Nat} (D:iB P ns f sz bytes):GG P ns f sz bytes:=by
 intro oc G w mem sh sh' ah toks' x y v hi hx hap;refine callsIn_wide (n:=0).1 ?_;refine callsIn_of_wp D.hf D.jA trivial ?_ rfl;rw [D.hN];have hF:∀f,Fence.wide.fn f:=fun _=>trivial
 let orc:ep:={ p:=fun _ _=>none,i:=fun _ _ _ _=>none }
 have fin:∀(a:Act) (w':World) (u:Value) (G':Gh),a.defers=[]→a.tmps[2]?=some u→aC (num ns) G' y u→Inv (num ns) G' w' mem sh' toks'→G.le G'→cq G w G' w' →
     a.defers=[]∧∃v,(results D.fn a.tmps).run P w'=.ok v w'∧∃u G',Ending.returned v=.returned u∧aC (num ns) G' y u∧Inv (num ns) G' w' mem sh' toks'∧G.le G'∧cq G w G' w':=by
   intro a w' u G' hd h2 r1 r2 r3 r4;refine ⟨hd,u,?_,u,G',rfl,r1,r2,r3,r4⟩;simp [results,D.gk,h2]
 obtain ⟨els,hels⟩:∃els,cR x=some els:=by
   cases hq:cR x with
   | none=>cases oc<;>simp [fW,cD,hq] at hap
   | some els=>exact ⟨els,rfl⟩
 obtain ⟨base,cap,rfl⟩:=jv hels hx;refine wpIn_seq (wpIn_region_list ?_);refine gG hF D.h0.1 D.h0.2.2 ?_;rw [D.h0.2.1];simp only [wpListIn];refine wpIn_seq (wpIn_seq (wpIn_region_list ?_));refine uj hF D.h1.1 D.h1.2.2 ?_;rw [D.h1.2.1];refine BT (base:=base) (len:=els.length) (cap:=cap) hF D.h2.1 D.h2.2.2 D.hu (by simp [Act.put,Act.eval]) ?_;rw [D.h2.2.1];simp only [wpListIn];cases base with
 | none=>
   refine wpIn_cond_true (by simp [Act.put,Act.eval]) ?_;refine wpIn_seq (wpIn_region_list ?_);refine gG hF D.h3.1 D.h3.2.2 ?_;rw [D.h3.2.1];simp only [wpListIn];refine wpIn_ret ?_;have hn:els=[]:=by
     have:=ew hels hx;obtain ⟨b,l,c,e,_,e2⟩:=cK.1 this;cases e;rcases e2.2 with h | ⟨_,_,_,h,_⟩
     · exact h
     · cases h
   subst hn;obtain ⟨rfl,rfl,rfl⟩:AV.bM []=y∧sh=sh'∧ah=toks':=by
     cases oc with
     | none=>simpa [fW,cD,hels,bC] using hap
     | some ag=>simpa [fW,qc,hels,bC] using hap
   exact fin _ _ (.slice none 0 0) G (by simp [Act.put]) (by simp [Act.put,Act.eval]) (by simp only [aC];exact ⟨none,0,rfl,rfl,.inl rfl⟩) hi G.le_refl (cq.refl G w)
 | some ad=>
   refine wpIn_cond_false (by simp [Act.put,Act.eval]) (wpIn_skip ?_);refine wpIn_seq (wpIn_region_list ?_);refine m9 (orc:=orc) (out:=⟨.bM [],none,sh,ah⟩) D.h4.2.2 D.h4.1 rfl rfl (vals:=[]) (by simp [aB]) hi (by rfl) fun v1 w1 G1 q1 q2 q3 q4=>?_
   rw [D.h4.2.1];refine uj hF D.h5.1 D.h5.2.2 ?_;rw [D.h5.2.1];cases oc with
   | none=>
     simp only [fW,Option.map_eq_some_iff,Prod.mk.injEq] at hap;obtain ⟨⟨y',ts'⟩,hap,rfl,rfl,rfl⟩:=hap;refine m9 (orc:=orc) (out:=⟨y',none,sh,ts'⟩) D.h6.2.2 D.h6.1 rfl rfl (vals:=[.bM [],x]) (mem:=mem) (sh:=sh) (ah:=ah) ?_ q2 (by simp only [exec,hap,Option.map_some]) fun v2 w2 G2 p1 p2 p3 p4=>?_
     · simp only [List.map_cons,List.map_nil,aB];refine ⟨_,_,rfl,?_,_,_,rfl,?_,rfl⟩
       · simpa [Act.put,Act.eval] using q1
       · simpa [Act.put,Act.eval] using hx.mono q3
     rw [D.h6.2.1];refine gG hF D.h7.1 D.h7.2.2 ?_;rw [D.h7.2.1];simp only [wpListIn];refine wpIn_ret ?_;exact fin _ _ v2 G2 (by simp [Act.put]) (by simp [Act.put,Act.eval]) p1 p2 (Gh.le_trans q3 p3) (q4.trans p4)
   | some ag=>
     simp only [fW,hels] at hap;rw [Option.ite_none_right_eq_some] at hap;obtain ⟨hhd,hap⟩:=hap;simp only [Option.map_eq_some_iff,Prod.mk.injEq] at hap;obtain ⟨⟨y',sh1⟩,hap,rfl,rfl,rfl⟩:=hap;obtain ⟨y2,hap2,hsame⟩:∃y2,qc sz bytes D.ag (.bM []) els sh=some (y2,sh1)∧∀G' u,aC (num ns) G' y2 u→aC (num ns) G' y' u:=by
       unfold qc at hap ⊢;split at hap
       · rename_i h0;rw [if_pos h0];cases hap;exact ⟨_,rfl,fun _ _ h=>h⟩
       · rename_i h0;rw [if_neg h0];simp only [Option.ite_none_right_eq_some,Option.some.injEq,Prod.mk.injEq] at hap;obtain ⟨h1,rfl,rfl⟩:=hap;rw [if_pos h1];exact ⟨_,rfl,fun _ _ h=>by simpa only [aC] using h⟩
     refine m9 (orc:=orc) (out:=⟨y2,none,sh1,ah⟩) D.h6.2.2 D.h8 rfl rfl (vals:=[.bM [],x]) (mem:=mem) (sh:=sh) (ah:=ah) ?_ q2 (by simp only [exec,hels,hhd,if_true,qd,hap2,Option.map_some]) fun v2 w2 G2 p1 p2 p3 p4=>?_
     · simp only [List.map_cons,List.map_nil,aB];refine ⟨_,_,rfl,?_,_,_,rfl,?_,rfl⟩
       · simpa [Act.put,Act.eval] using q1
       · simpa [Act.put,Act.eval] using hx.mono q3
     rw [D.h6.2.1];refine gG hF D.h7.1 D.h7.2.2 ?_;rw [D.h7.2.1];simp only [wpListIn];refine wpIn_ret ?_;exact fin _ _ v2 G2 (by simp [Act.put]) (by simp [Act.put,Act.eval]) (hsame _ _ p1) p2 (Gh.le_trans q3 p3) (q4.trans p4)
end
end Go.Ab
