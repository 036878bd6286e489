import Derived.Test.YthcoecdbgdhihaaGreatDoorAbBack
/-
  Code and functions: what the evaluator gives is what the model does.
-/
set_option linter.unusedVariables false
set_option linter.unusedSimpArgs false
set_option linter.unnecessarySimpa false
set_option maxRecDepth 100000
set_option maxHeartbeats 8000000
namespace Go.Ab
section
variable {n0:Nat} {P:Program} {ns:Names} {ro:Option Nat}
theorem pV {c:Code} {Q:Exit→Act→World→Prop} {f:St→Option (bH×St)} {pre:St→St} {N:Nat}
   (hpre:∀{st:St} {G:Gh} {a:Act} {w:World},gT (num ns) n0 N G st a w→∃G',gT (num ns) n0 N G' (pre st) a w∧cq G w G' w)
   (hf:∀{st st':St} {e:bH} {G:Gh} {a:Act} {w:World} {Q:Exit→Act→World→Prop},f st=some (e,st')→gT (num ns) n0 N G st a w →
     (∀G' a' w',gT (num ns) n0 N G' st' a' w'→cq G w G' w'→Q (oR e) a' w')→c.wpIn (s7 ro) 0 P Q a w) :
   ∀(n:Nat) {st st':St} {e:bH} {G:Gh} {a:Act} {w:World},fu f pre n st=some (e,st')→gT (num ns) n0 N G st a w →
     (∀G' a' w',gT (num ns) n0 N G' st' a' w'→cq G w G' w'→Q (oR e) a' w')→Code.roundsIn (s7 ro) 0 P c Q n a w
 | 0,st,st',e,G,a,w,h,_,_=>by simp [fu] at h
 | n+1,st,st',e,G,a,w,h,hs,hq=>by
   rw [roundsIn_succ];obtain ⟨G0,hs0,he0⟩:=hpre hs;simp only [fu] at h;split at h
   · rename_i st1 h1;refine hf h1 hs0 fun G' a' w' hs' he'=>?_
     exact pV hpre hf n h hs' fun G'' a'' w'' hs'' he''=>hq G'' a'' w'' hs'' ((he0.trans he').trans he'')
   · rename_i r hr;have hne:e≠.normal:=by
       rintro rfl
       exact hr st' h
     refine hf h hs0 fun G' a' w' hs' he'=>?_
     have:=hq G' a' w' hs' (he0.trans he');cases e with
     | normal=>exact absurd rfl hne
     | ret=>exact this
     | exit id=>exact this
theorem BU {N:Nat} {v:AV} {st:St} {G:Gh} {a:Act} {w:World} (h:gT (num ns) n0 N G st a w):∃G',gT (num ns) n0 N G' (zJ v st) a w∧cq G w G' w:=by
 unfold zJ;split
 · rename_i st' d;split
   · rename_i cs hcs;split
     · rename_i ps hps;obtain ⟨G1,k1,k2,k3,k4,k5⟩:=Inv.kill ([.agg cs].flatMap fm) h.inv;obtain ⟨b,e1,⟨e2,c,t,e3,e4⟩,e5⟩:=h.inv.dq d cs hcs;obtain ⟨b',f1,⟨f2,c',t',f3,f4⟩,f5⟩:=k1.dq d cs hcs;have hb:b=b':=by have:=k2.pm d b e1;rw [f1] at this;simpa using this.symm
       subst hb;have hcc:c=c':=by rw [e3] at f3;cases f3;rfl
       subst hcc;have hrl:dV G1.K ps c.toList:=km k2 k4 h.inv.ri (fun s hs=>by simpa using hs) hps e4;have hlf:(ps.map AV.pv).all bp=true:=by
         rw [List.all_eq_true];intro x hx;rw [List.mem_map] at hx;obtain ⟨p,hp,rfl⟩:=hx;have:=jV hrl p hp;cases p<;>first | rfl | simp [eI] at this
       refine ⟨G1,⟨⟨h.env.size,fun t' x hx=>?_⟩,?_,h.marks.pn k3 rfl⟩,k3⟩
       · obtain ⟨u',g1,g2⟩:=h.env.env t' x hx;exact ⟨u',g1,g2.mono k2⟩
       · refine ⟨k1.known,k1.bz,k1.fresh,?_,?_,k1.dP,k1.eJ,k1.dI,k1.fc,k1.jS⟩
         · intro d' cs' hd';by_cases hdd:d=d'
           · subst hdd;rw [bX] at hd';cases hd';exact ⟨b,f1,⟨f2,c,t',f3,iu hrl⟩,hlf⟩
           · rw [cr _ _ _ _ hdd] at hd';exact k1.dq d' cs' hd'
         · intro d' b' hd';by_cases hdd:d=d'
           · subst hdd;rw [bX];rfl
           · rw [cr _ _ _ _ hdd];exact k1.gN d' b' hd'
     · exact ⟨G,h,cq.refl G w⟩
   · exact ⟨G,h,cq.refl G w⟩
 · exact ⟨G,h,cq.refl G w⟩
theorem jk {N:Nat}:∀{ts:List Nat} {st:St} {G:Gh} {a:Act} {w:World},gT (num ns) n0 N G st a w→∃G',gT (num ns) n0 N G' (mN ts st) a w∧cq G w G' w
 | [],st,G,a,w,h=>⟨G,h,cq.refl G w⟩
 | t::r,st,G,a,w,h=>by
   simp only [mN];split
   · rename_i v hv;split
     · rename_i p hp;obtain ⟨G1,k1,k2,k3,k4,k5⟩:=Inv.kill ([v].flatMap fm) h.inv;obtain ⟨u,hu,hr⟩:=h.env.env t v hv;have hrel:Rel G1.K p u:=rh k2 k4 h.inv.ri (fun s hs=>by simpa using hs) hp hr;have h1:gT (num ns) n0 N G1 { st with env:=dO st.env t (.pv p),sh:=d5 st.sh [v] } a w:=by
         refine ⟨⟨h.env.size,fun t' x hx=>?_⟩,k1,h.marks.pn k3 rfl⟩;by_cases ht:t'=t
         · subst ht;rw [Ev.l_,if_pos rfl] at hx;cases hx;exact ⟨u,hu,by simpa only [aC] using hrel⟩
         · rw [Ev.l_,if_neg ht] at hx;obtain ⟨u',f1,f2⟩:=h.env.env t' x hx;exact ⟨u',f1,f2.mono k2⟩
       obtain ⟨G2,h2,he⟩:=jk (ts:=r) h1;exact ⟨G2,h2,k3.trans he⟩
     · obtain ⟨G1,h1,e1⟩:=BU (v:=v) h;obtain ⟨G2,h2,e2⟩:=jk (ts:=r) h1;exact ⟨G2,h2,e1.trans e2⟩
   · exact jk h
theorem me {α:Type} {d:Nat}:∀{l:List (Nat×α)} {t:Nat},look (tc d l) t=if t=d then none else look l t
 | [],t=>by simp [tc,look]
 | (k,v)::r,t=>by
   simp only [tc];by_cases hk:k=d
   · rw [if_pos hk,me];by_cases ht:t=d
     · rw [if_pos ht,if_pos ht]
     · rw [if_neg ht,if_neg ht];simp only [look];rw [if_neg (by rintro rfl;exact ht hk)]
   · rw [if_neg hk];simp only [look];by_cases hkt:k=t
     · subst hkt;rw [if_pos rfl,if_neg hk,if_pos rfl]
     · rw [if_neg hkt,if_neg hkt,me]
theorem oS {d s sz n:Nat} {ag:Bool} {env:List (Nat×AV)}:∀{l:List Nat} {t:Nat} {x:AV},look (Dr d s sz n ag env l) t=some x →
   ∃y,look env t=some y∧Mq d s sz n ag y=some x
 | [],t,x,h=>by simp [Dr,look] at h
 | k::r,t,x,h=>by
   simp only [Dr] at h;split at h
   · rename_i v hv;simp only [look] at h;split at h
     · rename_i e;subst e;cases h;rw [Option.bind_eq_some_iff] at hv;exact hv
     · exact oS h
   · exact oS h
def Gh.lb (G:Gh) (d b s n:Nat):Gh:=
 { G with role:=fun x=>if x=b then .shr s else G.role x,pm:=fun x=>if x=d then none else G.pm x,sm:=fun x=>if x=s then some (b,n) else G.sm x }
theorem yM {ρ:cy} {G:Gh} {d b s n:Nat} (hs:G.sm s=none) {x:AV} {v:Value} (hf:jr x=true) (h:aC ρ G x v):aC ρ (G.lb d b s n) x v:=by
 refine tZ (G':=G.lb d b s n) (bJ.le_refl G.K) (fun s' b' e=>?_) (fun _ _ e=>e) hf h;simp only [Gh.lb];rw [if_neg (by rintro rfl;rw [hs] at e;cases e)];exact e
theorem yN {x:AV} (h:bp x=true):jr x=true:=by
 rcases mU h with hf | ⟨l,τ,rfl⟩
 · cases x with
   | own l τ=>rfl
   | _=>simpa [jr] using hf
 · rfl
theorem nV:∀{xs:List AV},xs.all bp=true→fR xs=true
 | [],_=>rfl
 | x::xs,h=>by
   simp only [List.all_cons,Bool.and_eq_true] at h;simp only [fR,Bool.and_eq_true];exact ⟨yN h.1,nV h.2⟩
theorem oT {ρ:cy} {G:Gh} {d b s n:Nat} (hs:G.sm s=none) {xs:List AV} {vs:List Value} (hf:xs.all bp=true) (h:aB ρ G xs vs):aB ρ (G.lb d b s n) xs vs:=by
 refine jf (G':=G.lb d b s n) (bJ.le_refl G.K) (fun s' b' e=>?_) (fun _ _ e=>e) (nV hf) h;simp only [Gh.lb];rw [if_neg (by rintro rfl;rw [hs] at e;cases e)];exact e
theorem BV {N d sz:Nat} {ag:Bool} {st:St} {G:Gh} {a:Act} {w:World} (h:gT (num ns) n0 N G st a w):∃G',gT (num ns) n0 N G' (Mr d sz ag st) a w∧cq G w G' w:=by
 unfold Mr;split
 · rename_i cells hcs;split
   · rename_i hok;obtain ⟨hlf,hrf⟩:=hok;obtain ⟨b,e1,⟨e2,c,t,e3,e4⟩,e5⟩:=h.inv.dq d cells hcs;have hsm:G.sm st.sh.length=none:=by
       cases hx:G.sm st.sh.length with
       | none=>rfl
       | some b'=>have:=h.inv.eJ _ _ hx;omega
     have hcl:c.size=cells.length:=by have:=e4.length;simpa using this
     have hbs:b<w.heap.size:=(Array.getElem?_eq_some_iff.1 e3).1;have hevo:cq G w (G.lb d b st.sh.length cells.length) w:=
       { size:=Nat.le_refl _,os:=rfl,tape:=rfl,output:=rfl,K:=bJ.le_refl G.K
         sm:=fun s' b' e=>by
           simp only [Gh.lb];rw [if_neg (by rintro rfl;rw [hsm] at e;cases e)];exact e
         eE:=fun b' _ hr=>⟨by
           simp only [Gh.lb];rw [if_neg (by rintro rfl;rw [e2] at hr;cases hr)];exact hr,rfl⟩
         iG:=fun b' τ _ hr=>.inr ⟨τ,by
           simp only [Gh.lb];rw [if_neg (by rintro rfl;rw [e2] at hr;cases hr)];exact hr⟩
         gO:=fun _ _ _ _ _ hk=>hk }
     have hrole:∀b' r,G.role b'=r→r≠.kT d→(G.lb d b st.sh.length cells.length).role b'=r:=by
       intro b' r hr hn;simp only [Gh.lb];rw [if_neg (by rintro rfl;rw [e2] at hr;exact hn hr.symm)];exact hr
     refine ⟨G.lb d b st.sh.length cells.length,⟨⟨h.env.size,fun t' x hx=>?_⟩,?_,h.marks.pn hevo rfl⟩,hevo⟩
     · obtain ⟨y,hy,hv⟩:=oS hx;obtain ⟨u,g1,g2⟩:=h.env.env t' y hy;refine ⟨u,g1,?_⟩;have bq:en [] y=true→x=y→aC (num ns) (G.lb d b st.sh.length cells.length) x u:=by
         rintro hk rfl
         cases x with
         | own l τ=>exact yM hsm rfl g2
         | agg cs=>
           simp only [aC] at g2 ⊢;obtain ⟨vs,q1,q2⟩:=g2;refine ⟨vs,q1,jf (G':=G.lb d b st.sh.length cells.length) (bJ.le_refl G.K) (fun s' b' e=>hevo.sm s' b' e) (fun _ _ e=>e) (by simpa [en] using hk) q2⟩
         | aG _ _=>simp [en] at hk
         | jP _ _=>simp [en] at hk
         | _=>exact yM hsm (by simpa [jr,en] using hk) g2
       unfold Mq at hv;split at hv
       · rename_i d' o;simp only [aC] at g2;obtain ⟨b',q1,q2⟩:=g2;simp only [Option.some.injEq] at hv;split at hv
         · rename_i hd;subst hd hv;rw [e1] at q1;cases q1;simp only [aC];exact ⟨(b,cells.length),by simp [Gh.lb],q2⟩
         · rename_i hd;subst hv;simp only [aC];exact ⟨b',by simp only [Gh.lb];rw [if_neg hd];exact q1,q2⟩
       · rename_i d' m;simp only [aC] at g2;obtain ⟨b',q1,q2⟩:=g2;split at hv
         · rename_i hd;subst hd;simp only [Option.ite_none_right_eq_some,Option.some.injEq] at hv;obtain ⟨hm,rfl⟩:=hv;rw [e1] at q1;cases q1;simp only [aC];exact ⟨(b,cells.length),0,by simp [Gh.lb],q2,hm⟩
         · rename_i hd;simp only [Option.some.injEq] at hv;subst hv;simp only [aC];exact ⟨b',by simp only [Gh.lb];rw [if_neg hd];exact q1,q2⟩
       · simp only [Option.ite_none_right_eq_some,Option.some.injEq] at hv;exact bq hv.1 hv.2.symm
     · have hi:=h.inv;refine ⟨hi.known,?_,?_,?_,?_,?_,?_,?_,?_,hi.h_ hevo⟩
       · intro b' o v hk;rcases hi.bz b' o v hk with hr | ⟨τ,hr⟩
         · exact .inl (hrole _ _ hr (by simp))
         · exact .inr ⟨τ,hrole _ _ hr (by simp)⟩
       · intro b' hb';exact hrole _ _ (hi.fresh b' hb') (by simp)
       · intro d' cs' hd';rw [me] at hd';split at hd'
         · cases hd'
         · rename_i hdd;obtain ⟨b',f1,⟨f2,c',t',f3,f4⟩,f5⟩:=hi.dq d' cs' hd';exact ⟨b',by simp only [Gh.lb];rw [if_neg hdd];exact f1,⟨hrole _ _ f2 (by simpa using hdd),c',t',f3,oT hsm f5 f4⟩,f5⟩
       · intro d' b' hd';simp only [Gh.lb] at hd';split at hd'
         · cases hd'
         · rename_i hdd;rw [me,if_neg hdd];exact hi.gN d' b' hd'
       · intro s' cs' hs';rw [List.getElem?_append] at hs';split at hs'
         · rename_i hlt;obtain ⟨b',f1,⟨f2,o,f3,f4⟩,f5,f6⟩:=hi.dP s' cs' hs';refine ⟨b',hevo.sm _ _ f1,⟨hrole _ _ f2 (by simp),o,f3,f4.to (bJ.le_refl G.K) (fun _ e=>e) (fun vs r=>oT hsm (iP f5) r)⟩,f5,f6⟩
         · rename_i hlt;have hs0:s'=st.sh.length:=by
             have:=(List.getElem?_eq_some_iff.1 hs').1;simp at this;omega
           subst hs0;simp at hs';subst hs';refine ⟨(b,cells.length),by simp [Gh.lb],⟨by simp [Gh.lb],_,e3,?_⟩,hlf,hrf⟩;have:=Holds.full (t:=t) (oT (d:=d) (b:=b) (n:=cells.length) hsm (iP hlf) e4)
           rwa [hcl] at this
       · intro s' b' hs';simp only [Gh.lb] at hs';simp only [List.length_append,List.length_cons,List.length_nil];split at hs'
         · omega
         · have:=hi.eJ s' b' hs';omega
       · intro τ n hn;obtain ⟨t',f1,f2,f3⟩:=hi.dI τ n hn;refine ⟨t',f1,f2,f3.cap,f3.zero,fun hsp=>?_⟩;obtain ⟨b',o,c',ty,q1,q2,q3⟩:=f3.spare hsp;exact ⟨b',o,c',ty,q1,hrole _ _ q2 (by simp),q3⟩
       · exact hi.fc
   · exact ⟨G,h,cq.refl G w⟩
 · exact ⟨G,h,cq.refl G w⟩
theorem m_ {N:Nat}:∀{ps:List (Nat×Nat×Bool)} {st:St} {G:Gh} {a:Act} {w:World},gT (num ns) n0 N G st a w→∃G',gT (num ns) n0 N G' (Gv ps st) a w∧cq G w G' w
 | [],st,G,a,w,h=>⟨G,h,cq.refl G w⟩
 | (d,sz,ag)::r,st,G,a,w,h=>by
   obtain ⟨G1,h1,e1⟩:=BV (d:=d) (sz:=sz) (ag:=ag) h;obtain ⟨G2,h2,e2⟩:=m_ (ps:=r) h1;exact ⟨G2,h2,e1.trans e2⟩
theorem mf {b b':Nat}:∀{ts:List Nat} {env:List (Nat×AV)} {t:Nat} {x:AV},look (zL b b' ts env) t=some x→look env t=some x∨∃z n ag,look env t=some (.bE b z n ag)∧x=.bE b' z n ag
 | [],env,t,x,h=>.inl h
 | u::r,env,t,x,h=>by
   simp only [zL] at h;split at h
   · rename_i s z n ag hu;split at h
     · rename_i hs;subst hs;rcases mf h with h1 | ⟨z',n',ag',h1,h2⟩
       · by_cases hut:u=t
         · subst hut;rw [bX] at h1;cases h1;exact .inr ⟨z,n,ag,hu,rfl⟩
         · rw [cr _ _ _ _ hut] at h1;exact .inl h1
       · by_cases hut:u=t
         · subst hut;rw [bX] at h1;cases h1;exact .inr ⟨z,n,ag,hu,h2⟩
         · rw [cr _ _ _ _ hut] at h1;exact .inr ⟨z',n',ag',h1,h2⟩
     · exact mf h
   · exact mf h
theorem BW {N:Nat} {ts:List Nat} {st:St} {G:Gh} {a:Act} {w:World} (h:gT (num ns) n0 N G st a w):∃G',gT (num ns) n0 N G' (Gw ts st) a w∧cq G w G' w:=by
 unfold Gw;split
 · exact ⟨G,h,cq.refl G w⟩
 · rename_i t r;split
   · rename_i b z n ag hb;split
     · rename_i cells hcs;split
       · obtain ⟨blk,e1,_⟩:=h.inv.dP b cells hcs;obtain ⟨g1,g2,g3⟩:=h.inv.ix hcs e1;refine ⟨_,⟨⟨h.env.size,fun t' x hx=>?_⟩,g1,h.marks.pn g3 rfl⟩,g3⟩;rcases mf hx with h1 | ⟨z',n',ag',h1,rfl⟩
         · obtain ⟨v,q1,q2⟩:=h.env.env t' x h1;exact ⟨v,q1,q2.mono g2⟩
         · obtain ⟨v,q1,q2⟩:=h.env.env t' _ h1;refine ⟨v,q1,?_⟩;simp only [aC] at q2 ⊢;obtain ⟨b',cap,f1,f2,f3⟩:=q2;rw [e1] at f1;cases f1;exact ⟨blk,cap,by simp [Gh.ix],f2,f3⟩
       · exact ⟨G,h,cq.refl G w⟩
     · exact ⟨G,h,cq.refl G w⟩
   · exact ⟨G,h,cq.refl G w⟩
theorem yP:∀{ks:List Nat} {sh:Sh} {b:Nat},b∉ks→(kill sh ks)[b]?=sh[b]?
 | [],_,_,_=>rfl
 | k::ks,sh,b,h=>by
   simp only [List.mem_cons,not_or] at h;have hk:kill sh (k::ks)=kill (sh.set k none) ks:=rfl;rw [hk,yP h.2,List.getElem?_set,if_neg (fun e=>h.1 e.symm)]
theorem ig {N:Nat}:∀{ts:List Nat} {st:St} {G:Gh} {a:Act} {w:World},gT (num ns) n0 N G st a w→∃G',gT (num ns) n0 N G' (nq ts st) a w∧cq G w G' w
 | [],st,G,a,w,h=>⟨G,h,cq.refl G w⟩
 | t::r,st,G,a,w,h=>by
   simp only [nq];split
   · rename_i b z n ag hb;split
     · rename_i cells hcs;split
       · rename_i hok;obtain ⟨hmb,hself⟩:=hok;split
         · rename_i ps hps;obtain ⟨G1,k1,k2,k3,k4,k5⟩:=Inv.kill ([.agg cells].flatMap fm) h.inv;obtain ⟨blk,e1,e2,e3,e4⟩:=h.inv.dP b cells hcs;obtain ⟨hr,c,ty,vs,suf,hh,hcz,hsp,hrel⟩:=e2.cells hmb;have hnb:b∉[AV.agg cells].flatMap fm:=by
             have:¬(fm (.agg cells)).contains b=true:=by rw [hself];simp
             simpa using this
           have hb1:(d5 st.sh [.agg cells])[b]?=some (some cells):=by
             show (kill st.sh ([AV.agg cells].flatMap fm))[b]?=_;rw [yP hnb];exact hcs
           obtain ⟨blk',f1,f2,f3,f4⟩:=k1.dP b cells hb1;have hblk:blk'=blk:=by
             have:=k2.sm _ _ e1;rw [f1] at this;simpa using this
           subst hblk;have hrl:dV G1.K ps vs:=km k2 k4 h.inv.ri (fun s hs=>by simpa using hs) hps hrel;have hlf:(ps.map AV.pv).all dS=true:=by
             rw [List.all_eq_true];intro x hx;rw [List.mem_map] at hx;obtain ⟨p,hp,rfl⟩:=hx;have:=jV hrl p hp;cases p<;>first | rfl | simp [eI] at this
           have h1:gT (num ns) n0 N G1 { st with sh:=(d5 st.sh [.agg cells]).set b (some (ps.map .pv)) } a w:=by
             refine ⟨⟨h.env.size,fun t' x hx=>?_⟩,?_,h.marks.pn k3 rfl⟩
             · obtain ⟨u',g1,g2⟩:=h.env.env t' x hx;exact ⟨u',g1,g2.mono k2⟩
             · exact { k1 with
                 dP:=fun s' cs' hs'=>by
                   rw [List.getElem?_set] at hs';split at hs'
                   · rename_i he;subst he;split at hs'
                     · cases hs'
                       exact ⟨blk',f1,⟨f2.role,_,hh,.inl ⟨c,ty,vs,suf,rfl,hcz,hsp,iu hrl⟩⟩,hlf,ve _ _⟩
                     · cases hs'
                   · exact k1.dP s' cs' hs'
                 eJ:=fun s' b' hs'=>by
                   have:=k1.eJ s' b' hs';simpa using this }
           obtain ⟨G2,h2,he⟩:=ig (ts:=r) h1;exact ⟨G2,h2,k3.trans he⟩
         · exact ig h
       · exact ig h
     · exact ig h
   · exact ig h
theorem uk {α β:Type} {f:α→Option β}:∀{l:List α} {r:List β} (k:Nat),cL f l=some r→cL f (l.take k)=some (r.take k)∧cL f (l.drop k)=some (r.drop k)
 | l,r,0,h=>by simp [cL,h]
 | [],r,k+1,h=>by simp [cL] at h;subst h;simp [cL]
 | x::l,r,k+1,h=>by
   simp only [cL] at h;split at h
   · rename_i y ys h1 h2;cases h;obtain ⟨g1,g2⟩:=uk k h2;simp only [List.take_succ_cons,List.drop_succ_cons,cL,h1,g1];exact ⟨trivial,g2⟩
   · cases h
theorem vY (hB:eT P ns) {orc:ep} (horc:gF P ns orc) {A:lf} {N id k:Nat} {q:Nat×List Nat×List Nat} {ops:Array Oper} {as:List dv} (hc:cL (db P ns A N ops) ops.toList=some as) {live:List Nat} {st st':St} {e:bH} {G:Gh} {a:Act} {w:World}
   (hs:gT (num ns) n0 N G st a w) (hev:de orc k (zP (some q) as live) st=some (e,st')) {Q:Exit→Act→World→Prop}
   (hq:∀G' a' w',gT (num ns) n0 N G' st' a' w'→cq G w G' w'→Q (oR e) a' w'):(Code.region id ops false).wpIn (s7 ro) 0 P Q a w:=by
 obtain ⟨j,l,ts⟩:=q;simp only [zP,de] at hev;obtain ⟨g1,g2⟩:=uk j hc;cases h1:bQ orc (as.take j) st with
 | none=>rw [h1] at hev;simp at hev
 | some st1=>
   rw [h1] at hev;simp only at hev;cases h2:bQ orc (as.drop j) (Gw ts (Go.Ab.restrict l st1)) with
   | none=>rw [h2] at hev;simp at hev
   | some st2=>
     rw [h2] at hev;simp only [Option.some.injEq,Prod.mk.injEq] at hev;obtain ⟨rfl,rfl⟩:=hev;refine wpIn_region_list ?_;rw [←List.take_append_drop j ops.toList];refine ie hB horc g1 hs h1 fun G1 a1 w1 hs1 he1 _ _=>?_
     obtain ⟨G2,hs2,he2⟩:=BW (ts:=ts) (hs1.restrict l);have:=ie (ro:=ro) (n:=0) (rest:=[]) (Q:=Q) hB horc g2 hs2 h2 (fun G3 a3 w3 hs3 he3 _ _=>by
       unfold wpListIn;exact hq (G3.bq live) a3 w3 (hs3.restrict live) (he1.trans ((cq.bq l).trans (he2.trans (he3.trans (cq.bq live))))))
     rwa [List.append_nil] at this
theorem kQ {live:List Nat} {env:List (Nat×AV)}:∀{ds:List (Nat×Nat)},iE (cb live env live) ds=true→iE env ds=true
 | [],_=>rfl
 | (a,b)::r,h=>by
   simp only [iE,Bool.and_eq_true] at h ⊢;refine ⟨?_,kQ h.2⟩;obtain ⟨b1,o1,b2,o2,h1,h2,hne⟩:=t8 h.1;rw [(dX h1).1,(dX h2).1];simpa [apart] using hne
theorem rW {orc:ep} {k:Nat} {as:List dv} {live:List Nat} {ds:Option (List (Nat×Nat))} {ps:Option (List (Nat×Nat×Bool))} {st st':St} {e:bH}
   (h:de orc k (behind ds ps (.bl as live)) st=some (e,st')) :
   ∃st1,bQ orc as st=some st1∧e=.normal∧iE st1.env (ds.getD [])=true∧st'=Gv (ps.getD []) (restrict live st1):=by
 have h1:∀e2 st2,de orc k (match ds with | some ds=>au.seq (.bl as live) (.Mn ds) | none=>.bl as live) st=some (e2,st2) →
     ∃st1,bQ orc as st=some st1∧e2=.normal∧iE st1.env (ds.getD [])=true∧st2=restrict live st1:=by
   intro e2 st2 h;cases ds with
   | none=>
     simp only [de] at h;split at h
     · rename_i st1 h1;simp at h;obtain ⟨rfl,rfl⟩:=h;exact ⟨st1,h1,rfl,rfl,rfl⟩
     · simp at h
   | some ds=>
     simp only [de] at h;cases h1:bQ orc as st with
     | none=>rw [h1] at h;simp at h
     | some st1=>
       rw [h1] at h;simp only [Option.ite_none_right_eq_some,Option.some.injEq,Prod.mk.injEq] at h;obtain ⟨h2,rfl,rfl⟩:=h;exact ⟨st1,rfl,rfl,kQ h2,rfl⟩
 unfold behind at h;cases ps with
 | none=>
   obtain ⟨st1,g1,g2,g3,g4⟩:=h1 e st' h;exact ⟨st1,g1,g2,g3,g4⟩
 | some ps=>
   simp only [de] at h;split at h
   · rename_i st2 h2;simp at h;obtain ⟨st1,g1,g2,g3,rfl⟩:=h1 _ _ h2;exact ⟨st1,g1,h.1.symm,g3,h.2.symm⟩
   · rename_i r hr;obtain ⟨st1,g1,rfl,g3,g4⟩:=h1 e st' h;exact absurd h (hr st')
def qv (_:Program) (_:Names):Prop:=True
theorem iT (hm:P.follows .mixedOrders=true) (hB:eT P ns) {orc:ep} (horc:gF P ns orc) (hBk:qv P ns) {A:lf} {N k:Nat}:∀{c:Code} {ac:au},gh P ns A N c=some ac →
   ∀{n0:Nat} {ro:Option Nat},(ro=none∨ac.f_=true)→∀{st st':St} {e:bH} {G:Gh} {a:Act} {w:World} {Q:Exit→Act→World→Prop},de orc k ac st=some (e,st')→gT (num ns) n0 N G st a w →
     (∀G' a' w',gT (num ns) n0 N G' st' a' w'→cq G w G' w'→Q (oR e) a' w')→c.wpIn (s7 ro) 0 P Q a w
 | .skip,ac,hc,n0,ro,hro,st,st',e,G,a,w,Q,hev,hs,hq=>by
   simp [gh] at hc;subst hc;simp [de] at hev;obtain ⟨rfl,rfl⟩:=hev;exact wpIn_skip (hq G a w hs (cq.refl G w))
 | .region id ops draw,ac,hc,n0,ro,hro,st,st',e,G,a,w,Q,hev,hs,hq=>by
   simp only [gh] at hc;split at hc
   · rename_i as has;have key:∀o ds ps live,ac=js o (behind ds ps (.bl as live))→(draw=true→uV (ds.getD []) ops.toList as=true)→(Code.region id ops draw).wpIn (s7 ro) 0 P Q a w:=by
       rintro o ds ps live rfl hd
       have main:∀{st:St} {G1:Gh},de orc k (behind ds ps (.bl as live)) st=some (e,st')→gT (num ns) n0 N G1 st a w→cq G w G1 w→(Code.region id ops draw).wpIn (s7 ro) 0 P Q a w:=by
         intro st G1 hev hs he1;obtain ⟨st1,h1,rfl,h3,rfl⟩:=rW hev;refine ua hm hB horc has hd hs h1 h3 fun G' a' w' hs' he'=>?_
         obtain ⟨G2,h4,h5⟩:=m_ (ps:=ps.getD []) (hs'.restrict live);exact hq G2 a' w' h4 (he1.trans (he'.trans ((cq.bq live).trans h5)))
       cases o with
       | none=>exact main hev hs (cq.refl G w)
       | some ts=>
         simp only [js,de] at hev;obtain ⟨G2,h2,he2⟩:=jk (ts:=ts) hs;exact main hev h2 he2
     have ahead:∀o1 o2 c,ac=qm o1 (js o2 c)→(∀{st:St} {G1:Gh},de orc k c st=some (e,st')→gT (num ns) n0 N G1 st a w→cq G w G1 w→(Code.region id ops draw).wpIn (s7 ro) 0 P Q a w)→(Code.region id ops draw).wpIn (s7 ro) 0 P Q a w:=by
       rintro o1 o2 c rfl hm
       have h2:∀{st:St} {G1:Gh},de orc k (js o2 c) st=some (e,st')→gT (num ns) n0 N G1 st a w→cq G w G1 w→(Code.region id ops draw).wpIn (s7 ro) 0 P Q a w:=by
         intro st G1 hev hs he1;cases o2 with
         | none=>exact hm hev hs he1
         | some ts=>
           simp only [js,de] at hev;obtain ⟨G2,h2,he2⟩:=jk (ts:=ts) hs;exact hm hev h2 (he1.trans he2)
       cases o1 with
       | none=>exact h2 hev hs (cq.refl G w)
       | some ts=>
         simp only [qm,de] at hev;obtain ⟨G2,h3,he2⟩:=ig (ts:=ts) hs;exact h2 hev h3 he2
     split at hc
     · rename_i hdr;split at hc
       · rename_i hok;simp at hc;exact key _ _ _ _ hc.symm (fun _=>hok)
       · simp at hc
     · rename_i hdr;have hdr':draw=false:=by simpa using hdr
       subst hdr';split at hc
       · rename_i q hq';simp only [Option.some.injEq] at hc;exact ahead _ _ _ hc.symm fun hev hs he1=>vY hB horc has hs hev fun G' a' w' h1 h2=>hq G' a' w' h1 (he1.trans h2)
       · simp only [Option.some.injEq] at hc;refine ahead _ _ _ hc.symm fun hev hs he1=>?_
         obtain ⟨st1,h1,rfl,h3,rfl⟩:=rW hev;refine ua hm hB horc has (fun h=>absurd h hdr) hs h1 h3 fun G' a' w' hs' he'=>?_
         obtain ⟨G2,h4,h5⟩:=m_ (ps:=(look A.lb id).getD []) (hs'.restrict ((look A.live id).getD []));exact hq G2 a' w' h4 (he1.trans (he'.trans ((cq.bq _).trans h5)))
   · simp at hc
 | .seq x y,ac,hc,n0,ro,hro,st,st',e,G,a,w,Q,hev,hs,hq=>by
   simp only [gh] at hc;split at hc
   · rename_i ax ay hx hy;simp at hc;subst hc;have hrx:ro=none∨ax.f_=true:=hro.imp_right fun h=>by simp only [au.f_,Bool.and_eq_true] at h;exact h.1
     have hry:ro=none∨ay.f_=true:=hro.imp_right fun h=>by simp only [au.f_,Bool.and_eq_true] at h;exact h.2
     simp only [de] at hev;refine wpIn_seq ?_;split at hev
     · rename_i st1 h1;refine iT hm hB horc hBk hx hrx h1 hs fun G' a' w' hs' he'=>?_
       exact iT hm hB horc hBk hy hry hev hs' fun G'' a'' w'' hs'' he''=>hq G'' a'' w'' hs'' (he'.trans he'')
     · rename_i r hr;refine iT hm hB horc hBk hx hrx hev hs fun G' a' w' hs' he'=>?_
       have:=hq G' a' w' hs' he';cases e with
       | normal=>exact absurd hev (hr st')
       | ret=>exact this
       | exit id=>exact this
   · simp at hc
 | .cond c x y,ac,hc,n0,ro,hro,st,st',e,G,a,w,Q,hev,hs,hq=>by
   simp only [gh] at hc;split at hc
   · rename_i acnd ax ay hcn hx hy;simp at hc;subst hc;have hrx:ro=none∨ax.f_=true:=hro.imp_right fun h=>by simp only [au.f_,Bool.and_eq_true] at h;exact h.1
     have hry:ro=none∨ay.f_=true:=hro.imp_right fun h=>by simp only [au.f_,Bool.and_eq_true] at h;exact h.2
     simp only [de] at hev;split at hev
     · rename_i t ht;have hrel:=Cu hs.env hcn ht;simp only [aC,iv] at hrel;refine wpIn_cond hrel ?_;cases t with
       | true=>exact iT hm hB horc hBk hx hrx (by simpa using hev) hs hq
       | false=>exact iT hm hB horc hBk hy hry (by simpa using hev) hs hq
     · simp at hev
   · simp at hc
 | .block id b,ac,hc,n0,ro,hro,st,st',e,G,a,w,Q,hev,hs,hq=>by
   simp only [gh,Option.map_eq_some_iff] at hc;obtain ⟨ab,hb,rfl⟩:=hc;have hrb:ro=none∨ab.f_=true:=hro.imp_right fun h=>by simpa only [au.f_] using h
   refine wpIn_block ?_;simp only [de] at hev;split at hev
   · rename_i id' st1 h1;refine iT hm hB horc hBk hb hrb h1 hs fun G' a' w' hs' he'=>?_
     split at hev
     · rename_i Cx;simp at hev;obtain ⟨rfl,rfl⟩:=hev;simp only [oR,Exit.inBlock,Cx,if_true];exact hq G' a' w' hs' he'
     · rename_i Cx;simp at hev;obtain ⟨rfl,rfl⟩:=hev;simp only [oR,Exit.inBlock,Cx,if_false];exact hq G' a' w' hs' he'
   · rename_i r hr;refine iT hm hB horc hBk hb hrb hev hs fun G' a' w' hs' he'=>?_
     have:=hq G' a' w' hs' he';cases e with
     | normal=>exact this
     | ret=>exact this
     | exit id'=>exact absurd hev (hr id' st')
 | .loop b,ac,hc,n0,ro,hro,st,st',e,G,a,w,Q,hev,hs,hq=>by
   simp only [gh,Option.map_eq_some_iff] at hc;obtain ⟨ab,hb,rfl⟩:=hc;have hrb:ro=none∨ab.f_=true:=hro.imp_right fun h=>by simpa only [au.f_] using h
   simp only [de] at hev;refine wpIn_loop_rounds k ?_;exact pV (fun h=>h.head _) (fun h1 h2 h3=>iT hm hB horc hBk hb hrb h1 h2 h3) k hev hs hq
 | .exit id,ac,hc,n0,ro,hro,st,st',e,G,a,w,Q,hev,hs,hq=>by
   simp [gh] at hc;subst hc;simp [de] at hev;obtain ⟨rfl,rfl⟩:=hev;exact wpIn_exit (hq G a w hs (cq.refl G w))
 | .ret,ac,hc,n0,ro,hro,st,st',e,G,a,w,Q,hev,hs,hq=>by
   simp [gh] at hc;subst hc;simp [de] at hev;obtain ⟨rfl,rfl⟩:=hev;exact wpIn_ret (hq G a w hs (cq.refl G w))
 | .rangeFunc f ps x y,ac,hc,n0,ro,hro,st,st',e,G,a,w,Q,hev,hs,hq=>by simp [gh] at hc
 | .scope _,ac,hc,n0,ro,hro,st,st',e,G,a,w,Q,hev,hs,hq=>by simp [gh] at hc
 | .label _,ac,hc,n0,ro,hro,st,st',e,G,a,w,Q,hev,hs,hq=>by simp [gh] at hc
 | .goto _,ac,hc,n0,ro,hro,st,st',e,G,a,w,Q,hev,hs,hq=>by simp [gh] at hc
 | .refuse _,ac,hc,n0,ro,hro,st,st',e,G,a,w,Q,hev,hs,hq=>by simp [gh] at hc
end
end Go.Ab
