import Derived.Test.YthcoecdbgdhihaaGreatDoorAbDraw2
import Derived.OrdersIn
import Derived.TacticsIn
import Derived.LoopNIn
import Derived.RangeFuncCalls
/-
  Operations and regions inside the fence that asks nothing, in a round of a range over a function or not.
-/
set_option linter.unusedVariables false
set_option linter.unusedSimpArgs false
set_option linter.unnecessarySimpa false
set_option maxRecDepth 100000
set_option maxHeartbeats 8000000
namespace Go.Ab
section
variable {n0:Nat} {P:Program} {ns:Names} {ro:Option Nat} {n:Nat}
def s7 (ro:Option Nat):Fence:={ Fence.wide with round:=ro }
theorem DU {f:FuncId} {args:Array Value} {w:World} {R:Ending→World→Prop} (h:Calls P f args w R):CallsIn (s7 ro) n P f args w R:=by
 have h0:=callsIn_wide (n:=n).2 h;cases ro with
 | none=>exact h0
 | some l=>exact h0.inRound l
theorem GL {row:String} {args:Array Value} {w:World} {R:Value→World→Prop} (h:Rows P row args w R):RowsIn (s7 ro) n P row args w R:=by
 intro c cs _;obtain ⟨v,w',r,s⟩:=h c cs;have h0:=stepsIn_wide.2 s;exact ⟨v,w',r,h0⟩
theorem qp {o:Oper} (hd:∀c,o.op≠.defer c) {a:Act} {w:World} {next:Act→World→Prop} {Q:Exit→Act→World→Prop}
   (h:o.wp P a w next (fun _ _ _=>False)):o.wpIn (s7 ro) n P a w next Q:=by
 refine ⟨fun _ _=>trivial,?_⟩;rw [Oper.semAt_eq _ _ _ hd];unfold Oper.wp at h;generalize (execOp a.eval o).run P w=r at h ⊢;cases r with
 | ok x w'=>
   cases x<;>simp only [Oper.upon,Oper.uponIn] at h ⊢<;>try exact h
   · refine ⟨fun e=>by simp [s7,Fence.wide] at e,DU (h.mono ?_)⟩;intro e w'' he;cases e with
     | returned v=>exact he
     | panicked c=>exact he.elim
     | outgrown=>obtain ⟨_,_,hf⟩:=he;exact hf.elim
   · exact ⟨fun e=>by simp [s7,Fence.wide] at e,GL h⟩
 | halt x w'=>cases x<;>simp only [Oper.upon,Oper.uponIn] at h ⊢<;>exact h.elim
theorem vv {A:lf} {N:Nat} {ops:Array Oper} {o:Oper} {ao:dv} (hc:db P ns A N ops o=some ao):∀c,o.op≠.defer c:=by
 intro c e;obtain ⟨args,h1,_⟩:=ku hc;rw [e] at h1;simp [cm] at h1
theorem vw {G:Gh} {w:World} (hB:eT P ns) {orc:ep} (horc:gF P ns orc) {A:lf} {N:Nat} {ops:Array Oper} {o:Oper} {ao:dv} (hc:db P ns A N ops o=some ao)
   {st st':St} {a:Act} (hs:gT (num ns) n0 N G st a w) (hev:eg orc ao st=some st') {next:Act→World→Prop} {Q:Exit→Act→World→Prop}
   (hn:∀G' v w',gT (num ns) n0 N G' st' (a.put o.dst v) w'→cq G w G' w'→next (a.put o.dst v) w') :
   if Region.wanted o (yielded ops a.tmps) then o.wpIn (s7 ro) n P a w next Q else (∀f,o.about P w a.eval=some f→(s7 ro).fn f)∧next (a.put o.dst undef) w:=by
 rcases z_ (Q:=fun _ _ _=>False) hB horc hc hs hev hn with ⟨h1,h2⟩ | ⟨h1,h2⟩
 · rw [if_pos h1];exact qp (vv hc) h2
 · rw [h1,if_neg (by simp)];exact ⟨fun _ _=>trivial,h2⟩
theorem xM (hB:eT P ns) {orc:ep} (horc:gF P ns orc) {A:lf} {N:Nat} {ops:Array Oper} {Q:Exit→Act→World→Prop}:∀{l:List Oper} {as:List dv} {st st':St} {G:Gh} {a:Act} {w:World},
   cL (db P ns A N ops) l=some as→gT (num ns) n0 N G st a w→bQ orc as st=some st' →
   (∀G' a' w',gT (num ns) n0 N G' st' a' w'→cq G w G' w'→Q .normal a' w')→wpListIn (s7 ro) n P ops Q l a w
 | [],as,st,st',G,a,w,hc,hs,hev,hq=>by
   simp [cL] at hc;subst hc;simp [bQ] at hev;subst hev;exact hq G a w hs (cq.refl G w)
 | o::l,as,st,st',G,a,w,hc,hs,hev,hq=>by
   simp only [cL] at hc;split at hc
   · rename_i ao aos h1 h2;simp at hc;subst hc;simp only [bQ] at hev;split at hev
     · simp at hev
     · rename_i st1 hst1;unfold wpListIn;exact vw hB horc h1 hs hst1 (fun G' a' w' hs' he=>xM hB horc h2 hs' hev (fun G'' a'' w'' hs'' he'=>hq G'' a'' w'' hs'' (he.trans he')))
   · simp at hc
theorem CA (hB:eT P ns) {orc:ep} (horc:gF P ns orc) {A:lf} {N:Nat} {ops:Array Oper} {as:List dv} (hc:cL (db P ns A N ops) ops.toList=some as) {F:Nat→Option AV} {R:St→Prop} {Q:Exit→Act→World→Prop} :
   ∀{fuel:Nat} {listed:Array Bool} {st:St} {G:Gh} {a:Act} {w:World},gT (num ns) n0 N G st a w→xK orc ops as F R fuel listed st →
     (∀st' G' a' w',R st'→gT (num ns) n0 N G' st' a' w'→cq G w G' w'→Q .normal a' w')→wpAnyIn (s7 ro) n P .any ops Q fuel listed a w
 | 0,_,st,G,a,w,hs,h,hq=>⟨h.1,hq st G a w h.2 hs (cq.refl G w)⟩
 | fuel+1,listed,st,G,a,w,hs,h,hq=>by
   refine ⟨fun h0=>hq st G a w (h.1 h0) hs (cq.refl G w),fun i hi=>?_⟩;obtain ⟨ao,st',h1,_,h2,h3⟩:=h.2 i hi;obtain ⟨_,o,ho,_⟩:=mem_ready.1 hi;have hco:db P ns A N ops o=some ao:=by
     obtain ⟨y,g1,g2⟩:=wW hc (i:=i) (x:=o) (by simpa using ho);rw [h1] at g1;cases g1;exact g2
   unfold wpOpIn;simp only [ho];exact vw hB horc hco hs h2 (fun G' a' w' hs' he=>CA hB horc hc hs' h3 (fun st'' G'' a'' w'' hr hs'' he'=>hq st'' G'' a'' w'' hr hs'' (he.trans he')))
theorem ua (hm:P.follows .mixedOrders=true) (hB:eT P ns) {orc:ep} (horc:gF P ns orc) {A:lf} {N id:Nat} {ops:Array Oper} {draw:Bool} {as:List dv}
   (hc:cL (db P ns A N ops) ops.toList=some as) {ds:List (Nat×Nat)} (hd:draw=true→uV ds ops.toList as=true) {st st':St} {G:Gh} {a:Act} {w:World} (hs:gT (num ns) n0 N G st a w) (hev:bQ orc as st=some st') (hfar:iE st'.env ds=true)
   {Q:Exit→Act→World→Prop} (hq:∀G' a' w',gT (num ns) n0 N G' st' a' w'→cq G w G' w'→Q .normal a' w'):(Code.region id ops draw).wpIn (s7 ro) n P Q a w:=by
 cases draw with
 | false=>exact wpIn_region_list (xM hB horc hc hs hev hq)
 | true=>
   have hd':=hd rfl;simp only [uV,Bool.and_eq_true] at hd';have hlen:as.length=ops.size:=by have:=gD hc;simpa using this
   refine wpIn_region_any hm ?_;have hany:xK orc ops as (look st'.env) (fun s=>jF s st') ops.size (Array.replicate ops.size false) st:=by
     have:=xL (orc:=orc) (ops:=ops) (as:=as) (F:=look st'.env) (R:=fun s=>jF s st') (fun x y hl hr=>hl.symm.trans hr) hd'.1 hd'.2.1 hlen (fun a b=>rG hfar a b) as 0 (Array.replicate ops.size false) st st' (fun j=>by simp) (by simp [hlen]) (by simp)
       (fun j hj=>by simp [hj]) (fun k o ho hk=>by
         exfalso;have hk':k<ops.size:=(Array.getElem?_eq_some_iff.1 ho).1;simp [hk'] at hk) hd'.2.2 (fun _=>rfl) hev (jF.refl _)
     rwa [hlen] at this
   exact CA hB horc hc hs.drew hany fun s G' a' w' hl hs' he=>hq G' a' w' (hs'.MD hl) ((cq.drew G w).trans he)
end
end Go.Ab
