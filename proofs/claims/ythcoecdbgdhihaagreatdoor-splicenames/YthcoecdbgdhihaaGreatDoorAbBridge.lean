import Derived.Test.YthcoecdbgdhihaaGreatDoorAbFunc
import Derived.Test.YthcoecdbgdhihaaGreatDoorAbLim
import Derived.WalkKit
import Derived.ProofKit
import Derived.OpenShut
import Derived.Carry
/-
  From the rows' readings to pure data, and from what the evaluator gives to a law's contract.
-/
set_option linter.unusedVariables false
set_option linter.unusedSimpArgs false
set_option linter.unnecessarySimpa false
set_option maxRecDepth 100000
set_option maxHeartbeats 8000000
namespace Go.Ab
open Go.ChangeShapes Go.WideShapes Go.ChangeAt Go.RowKit
def KW (w:World):bJ:=fun b o=>w.cell? ⟨b,o,none⟩
theorem Oy (w:World):zE (KW w) w:=fun _ _ _ h=>h
def Kv (S:TypeId→PV→Prop):List Field→List PV→Prop
 | [],[]=>True
 | f::fs,p::ps=>S f.type p∧Kv S fs ps
 | _,_=>False
def sb (P:Program):Nat→TypeId→PV→Prop
 | 0,_,_=>False
 | n+1,t,p=>match P.underlying t with
   | some .bool=>∃b,p=.bool b
   | some (.int k)=>∃i,p=.int k i∧(Lit.int k i).wf=true
   | some .string=>∃s,p=.str s∧s.length≤maxLen
   | some (.slice e)=>∃els,p=.aI els∧els.length≤maxLen∧∀q∈els,sb P n e q
   | some (.struct fs)=>∃ps:List PV,p=.agg (ps.flatMap bw)∧Kv (sb P n) fs.toList ps
   | _=>False
def H5 (P:Program):Nat→List Field→Nat→Bool
 | o,[],total=>o == total
 | o,f::fs,total=>f.offset == o && H5 P (o+P.cellsOf f.type) fs total
def CI (P:Program) (T:List TypeId):Bool:=T.all fun t=>match P.underlying t with
 | some .bool | some (.int _) | some .string=>true
 | some (.slice e)=>T.contains e && decide (0<P.cellsOf e)
 | some (.struct fs)=>fs.toList.all (fun f=>T.contains f.type) && H5 P 0 fs.toList (P.cellsOf t)
 | _=>false
section
variable {H:Type} {enc:TypeId×Value→H} {P:Program} {w:World} {base:Nat} {sp:Nat→Bool} {held:Bool}
theorem yQ {α β:Type} {f:α→Option β}:∀{l:List α} {r:List β},l.mapM f=some r→∀{i:Nat} {x:α},l[i]?=some x→∃y,r[i]?=some y∧f x=some y
 | [],_,_,i,x,hx=>by simp at hx
 | a::l,r,h,i,x,hx=>by
   simp only [List.mapM_cons,Option.bind_eq_bind,Option.bind_eq_some_iff,Option.pure_def,Option.some.injEq] at h;obtain ⟨y,h1,ys,h2,rfl⟩:=h;cases i with
   | zero=>simp at hx;subst hx;exact ⟨y,by simp,h1⟩
   | succ i=>simpa using yQ h2 (i:=i) (by simpa using hx)
theorem yR {α β:Type} {f:α→Option β}:∀{l:List α} {r:List β},l.mapM f=some r→r.length=l.length
 | [],r,h=>by simp at h;subst h;rfl
 | a::l,r,h=>by
   simp only [List.mapM_cons,Option.bind_eq_bind,Option.bind_eq_some_iff,Option.pure_def,Option.some.injEq] at h;obtain ⟨y,h1,ys,h2,rfl⟩:=h;simp [yR h2]
theorem FM {a:Addr} {n:Nat} {cs:List Value} (hn:0<n) (h:w.cells? base a n=some cs):cs.length=n∧a.spot=none∧At (KW w) a.block a.off cs:=by
 unfold World.cells? at h;split at h
 · have hl:cs.length=n:=by simpa using yR h
   have key:∀i,i<n→∃y,cs[i]?=some y∧w.cell? (a.add i)=some y:=by
     intro i hi;exact yQ h (i:=i) (x:=i) (by simp [hi])
   obtain ⟨y0,_,h0⟩:=key 0 hn
   have hspot:a.spot=none:=by
     cases hsp:a.spot with
     | none=>rfl
     | some s=>
       simp only [Addr.add,if_true,World.cell?] at h0;split at h0
       · simp [hsp] at h0
       · cases h0
   refine ⟨hl,hspot,?_⟩;intro j v hj;have hjn:j<n:=by have:=(List.getElem?_eq_some_iff.1 hj).1;omega
   have e:a.add j=⟨a.block,a.off+j,none⟩:=by
     unfold Addr.add;split
     · rename_i h0;subst h0;cases a;simp_all
     · rfl
   obtain ⟨y,h1,h2⟩:=key j hjn;rw [e] at h2;rw [hj] at h1;cases h1;exact h2
 · cases h
theorem CJ {K:bJ} {S:PV→Prop} {b sz:Nat}:∀{n:Nat} {o:Nat},(∀i,i<n→∃vs q,vs.length=sz∧At K b (o+i*sz) vs∧S q∧R K true q vs)→∃els:List PV,els.length=n∧(∀q∈els,S q)∧Row K b o sz els
 | 0,o,_=>⟨[],rfl,by simp,by simp only [Row]⟩
 | n+1,o,h=>by
   obtain ⟨vs,q,h1,h2,h3,h4⟩:=h 0 (by omega)
   obtain ⟨els,e1,e2,e3⟩:=CJ (K:=K) (S:=S) (b:=b) (sz:=sz) (n:=n) (o:=o+sz) fun i hi=>by
     obtain ⟨vs,q,h1,h2,h3,h4⟩:=h (i+1) (by omega);refine ⟨vs,q,h1,?_,h3,h4⟩
     rwa [show o+sz+i*sz=o+(i+1)*sz from by rw [Nat.add_mul];omega]
   refine ⟨q::els,by simp [e1],?_,?_⟩
   · intro x hx;simp only [List.mem_cons] at hx;rcases hx with rfl | hx
     · exact h3
     · exact e2 x hx
   · simp only [Row];exact ⟨⟨vs,h1,by simpa using h2,h4⟩,e3⟩
theorem uq {K:bJ} {S:TypeId→PV→Prop} {cs:List Value}:∀{fs:List Field} {o total:Nat},H5 P o fs total=true→cs.length=total →
   (∀f∈fs,∃q,S f.type q∧R K true q ((cs.drop f.offset).take (P.cellsOf f.type)))→∃ps:List PV,Kv S fs ps∧dV K (ps.flatMap bw) (cs.drop o)
 | [],o,total,hl,hc,_=>⟨[],by simp [Kv],by
     simp [H5] at hl;simp [dV];omega⟩
 | f::fs,o,total,hl,hc,h=>by
   simp only [H5,Bool.and_eq_true,beq_iff_eq] at hl;obtain ⟨hf,hl⟩:=hl;obtain ⟨q,h1,h2⟩:=h f (by simp);obtain ⟨ps,e1,e2⟩:=uq (K:=K) (S:=S) (cs:=cs) hl hc (fun f' hf'=>h f' (by simp [hf']));refine ⟨q::ps,⟨h1,e1⟩,?_⟩;simp only [List.flatMap_cons];have:=(R.cells h2).append e2;rw [hf] at this
   rwa [←List.drop_drop,List.take_append_drop] at this
theorem sd {T:List TypeId} (hT:CI P T=true):∀(n:Nat) (t:TypeId) (cs:List Value) (x:DataW H×List MemPlace),t∈T →
   DataW.trod enc P w base sp held n t cs=some x→∃p,sb P n t p∧R (KW w) true p cs
 | 0,t,cs,x,_,h=>by simp [DataW.trod] at h
 | n+1,t,cs,x,ht,h=>by
   have hp:=List.all_eq_true.1 hT t ht;simp only [sb];split at hp
   · rename_i hu;obtain ⟨b,rfl,_⟩:=DataW.trod_bool hu h;exact ⟨.bool b,by exact ⟨b,rfl⟩,by simp [R]⟩
   · rename_i k hu;obtain ⟨i,rfl,_,hw⟩:=DataW.trod_int hu h;exact ⟨.int k i,by exact ⟨i,rfl,hw⟩,by simp [R]⟩
   · rename_i hu;obtain ⟨s,rfl,_,hl⟩:=DataW.trod_string hu h;exact ⟨.str s.data.toList,by exact ⟨_,rfl,by simpa using hl⟩,by simp [R]⟩
   · rename_i e hu;simp only [Bool.and_eq_true,List.contains_iff_mem,decide_eq_true_eq] at hp;rcases DataW.trod_slice hu h with ⟨rfl,_⟩ | ⟨a,len,cap,elems,rest,m,e0,rfl,_,_,hlen,hcap,hel,hget,_,_⟩
     · exact ⟨.aI [],by exact ⟨[],rfl,by simp,by simp⟩,by simp only [R];exact ⟨none,0,0,rfl,Nat.le_refl _,rfl,.inl trivial⟩⟩
     · have hm:m=n:=(by omega);subst hm;by_cases h0:len=0
       · subst h0;exact ⟨.aI [],by exact ⟨[],rfl,by simp,by simp⟩,by simp only [R];exact ⟨some a,0,cap,rfl,hlen,rfl,.inl trivial⟩⟩
       · have key:∀i,i<len→∃vs q,vs.length=P.cellsOf e∧(a.add (i*P.cellsOf e)).spot=none∧At (KW w) (a.add (i*P.cellsOf e)).block (a.add (i*P.cellsOf e)).off vs∧sb P m e q∧R (KW w) true q vs:=by
           intro i hi;have hg:=hget i hi;rw [List.getElem?_eq_getElem (by omega)] at hg;simp only [Option.bind_eq_some_iff] at hg;obtain ⟨vs,h1,h2⟩:=hg;obtain ⟨c1,c2,c3⟩:=FM hp.2 h1;obtain ⟨q,q1,q2⟩:=sd hT m e vs _ hp.1 h2;exact ⟨vs,q,c1,c2,c3,q1,q2⟩
         have hspot:a.spot=none:=by
           obtain ⟨_,_,_,h2,_⟩:=key 0 (by omega);simpa [Addr.add] using h2
         obtain ⟨els,e1,e2,e3⟩:=CJ (K:=KW w) (S:=sb P m e) (b:=a.block) (sz:=P.cellsOf e) (n:=len) (o:=a.off) fun i hi=>by
           obtain ⟨vs,q,c1,c2,c3,q1,q2⟩:=key i hi;refine ⟨vs,q,c1,?_,q1,q2⟩
           have:(a.add (i*P.cellsOf e)).block=a.block∧(a.add (i*P.cellsOf e)).off=a.off+i*P.cellsOf e:=by
             unfold Addr.add;split
             · rename_i h0;simp [h0]
             · exact ⟨rfl,rfl⟩
           rwa [this.1,this.2] at c3
         refine ⟨.aI els,by exact ⟨els,rfl,by omega,e2⟩,?_⟩;simp only [R];refine ⟨some a,len,cap,rfl,hlen,e1,.inr ⟨a.block,a.off,P.cellsOf e,?_,e3⟩⟩;cases a;simp_all
   · rename_i fs hu;simp only [Bool.and_eq_true,List.all_eq_true,List.contains_iff_mem] at hp;obtain ⟨xs,m,e0,_,hcs,hxs,hget⟩:=DataW.trod_struct hu h;have hm:m=n:=by omega
     subst hm
     obtain ⟨ps,e1,e2⟩:=uq (K:=KW w) (S:=sb P m) (cs:=cs) hp.2 hcs fun f hf=>by
       obtain ⟨i,hi,NP⟩:=List.getElem_of_mem hf;have hg:=hget i f (by rw [←Array.getElem?_toList];rw [List.getElem?_eq_getElem hi,NP]);rw [List.getElem?_eq_getElem (by simp at hi;omega)] at hg;exact sd hT m f.type _ _ (hp.1 f hf) hg
     refine ⟨.agg (ps.flatMap bw),by exact ⟨ps,rfl,e1⟩,?_⟩;simp only [R];exact ⟨trivial,by simpa using e2⟩
   · cases hp
theorem Kx {T:List TypeId} (hT:CI P T=true) {t:TypeId} {v:Value} {d:DataW H} {ps:List MemPlace} {r:Reach} {b0:Nat} (ht:t∈T) (hv:Value.okWide P w r b0 t v)
   (h:DataW.Trod enc P w base sp held t v d ps):∃n p,sb P n t p∧Rel (KW w) p v:=by
 obtain ⟨n,hn⟩:=h;obtain ⟨p,h1,h2⟩:=sd hT n t _ _ ht hn;refine ⟨n,p,h1,?_⟩;have hp:=List.all_eq_true.1 hT t ht;cases n with
 | zero=>simp [sb] at h1
 | succ n=>
   simp only [sb] at h1;simp only [Value.okWide] at hv;split at hp
   · rename_i hu;rw [hu] at h1 hv;obtain ⟨b,rfl⟩:=h1;simp only [Cell.okWide,hu,Cell.ok] at hv;cases v<;>simp_all [Value.cells,R,Rel]
   · rename_i k hu;rw [hu] at h1 hv;obtain ⟨b,rfl,_⟩:=h1;simp only [Cell.okWide,hu,Cell.ok] at hv;cases v<;>simp_all [Value.cells,R,Rel]
   · rename_i hu;rw [hu] at h1 hv;obtain ⟨b,rfl,_⟩:=h1;simp only [Cell.okWide,hu,Cell.ok] at hv;cases v<;>simp_all [Value.cells,R,Rel]
   · rename_i e hu;rw [hu] at h1 hv;obtain ⟨b,rfl,_⟩:=h1;simp only [Cell.okWide,hu,Cell.ok] at hv;cases v with
     | slice a l c=>
       simp only [R] at h2;simp only [Rel,R];simpa [Value.cells] using h2
     | agg cs=>simp at hv
     | _=>simp_all [Value.cells,R]
   · rename_i fs hu;rw [hu] at h1 hv;obtain ⟨b,rfl,_⟩:=h1;obtain ⟨cs,rfl,_⟩:=hv;simp only [Value.cells,R] at h2;exact ⟨cs.toList,by simp,h2.2⟩
   · cases hp
def FN (P:Program):List TypeId→List PV→Prop
 | [],[]=>True
 | t::ts,p::ps=>(∃n,sb P n t p)∧FN P ts ps
 | _,_=>False
theorem yS {T:List TypeId} (hT:CI P T=true) {r:Reach} {b0:Nat}:∀{ts:List TypeId} {vs:List Value} {ds:List (DataW H)} {ps:List MemPlace},(∀t∈ts,t∈T) →
   (∀(j:Nat) t v,ts[j]?=some t→vs[j]?=some v→Value.okWide P w r b0 t v)→DataW.TrodAll enc P w base sp held ts vs ds ps→∃dC,FN P ts dC∧iZ (KW w) dC vs∧ds.length=ts.length
 | [],vs,ds,ps,_,_,h=>by
   obtain ⟨rfl,rfl,rfl⟩:=trodAll_nil h;exact ⟨[],by simp [FN],by simp [iZ],rfl⟩
 | t::ts,vs,ds,ps,hts,hv,h=>by
   obtain ⟨v,vs',d,ds',p,q,rfl,rfl,rfl,h1,h2⟩:=trodAll_cons h;obtain ⟨n,pv,a1,a2⟩:=Kx hT (hts t (by simp)) (hv 0 t v (by simp) (by simp)) h1;obtain ⟨dC,b1,b2,b3⟩:=yS hT (fun t ht=>hts t (by simp [ht])) (fun j t v hj hj'=>hv (j+1) t v (by simpa using hj) (by simpa using hj')) h2;exact ⟨pv::dC,⟨⟨n,a1⟩,b1⟩,⟨v,vs',rfl,a2,b2⟩,by simp [b3]⟩
theorem se {W W':World} (hl:laidOutB P=true) (hb:Below W.heap.size W W'):∀{ts:List TypeId} {vs:List Value} {ds:List (DataW H)} {ps:List MemPlace},(∀t∈ts,P.readableRec t=true∧t<P.types.size) →
   DataW.TrodAll enc P W 0 (fun _=>true) true ts vs ds ps→(∀x∈ps,x.block<W.heap.size)→∀{sp:Nat→Bool},(∀x∈ps,sp x.block=true)→DataW.TrodAll enc P W' 0 sp true ts vs ds ps
 | [],vs,ds,ps,_,h,_,_,_=>by
   obtain ⟨rfl,rfl,rfl⟩:=trodAll_nil h;exact trodAll_mk0
 | t::ts,vs,ds,ps,hts,h,hlt,sp,hs=>by
   obtain ⟨v,vs',d,ds',p,q,rfl,rfl,rfl,h1,h2⟩:=trodAll_cons h;refine trodAll_cons_mk ?_ (se hl hb (fun t ht=>hts t (by simp [ht])) h2 (fun x hx=>hlt x (by simp [hx])) (fun x hx=>hs x (by simp [hx])));exact WideElems.Trod_stays hl (hts t (by simp)).1 (hts t (by simp)).2 h1 (fun x hx=>hb.same (hlt x (by simp [hx]))) (fun x hx=>hs x (by simp [hx]))
end
theorem FO {H:Type} {enc:TypeId×Value→H} {P:Program} {f:Func} {s:ChangeSpec} {apart fresh handsOn again:Bool} {W W':World} {args:Array Value} {v:Value} {ds gs:List (DataW H)} {before:List MemPlace}
   (hW:DataW.Whole enc P f.params.toList s.vars apart W args.toList ds gs before)
   (gk:∀(b:Nat) (sp:Nat→Bool) (hd:Bool),DataW.TrodAll enc P W' b sp hd f.resultTypes.toList (v.resultList f.resultTypes.size) (s.fn H (ds++gs)).results [])
   (hargs:∀sp:Nat→Bool,(∀p∈before,sp p.block=true)→DataW.TrodAll enc P W' 0 sp true f.params.toList args.toList (s.fn H (ds++gs)).args before)
   (hvars:∀sp:Nat→Bool,DataW.TrodVars enc P W' sp s.vars (s.fn H (ds++gs)).vars []) (hB:Below W.heap.size W W')
   (hok:∀(j:Nat) (t:TypeId) (r:Value),f.resultTypes[j]?=some t→(v.resultList f.resultTypes.size)[j]?=some r→Value.okWide P W' .any 0 t r) :
   s.post enc P f apart fresh handsOn again W args v W':=by
 have hlt:∀p∈before,p.block<W.heap.size:=fun p hp=>by simpa using hW.lt p hp
 have hold:∀p∈before,(fun b=>decide (b<W.heap.size)) p.block=true:=fun p hp=>by simpa using hlt p hp
 refine ⟨ds,gs,before,[],before,[],hW,gk _ _ _,hargs _ hold,hvars _,World.keptBut_mono (fun p hp=>⟨hp,.inr (.inl hp)⟩) (hB.frame _),fun _=>⟨hok,_,_,([]++before)++[],⟨[]++before,[],trodAll_append (hargs _ (fun _ _=>rfl)) (gk _ _ _),hvars _,rfl,?_,?_⟩,?_⟩⟩
 · obtain ⟨_,_,_,_,_,hz,_⟩:=hW;intro b off hp;simp only [List.nil_append,List.append_nil] at hp;rw [hB.frozen (hlt _ hp)];exact hz b off hp
 · obtain ⟨_,_,_,_,_,_,hn⟩:=hW;intro ha;simpa using hn ha
 · intro p hp _;simpa using hp
theorem v5 {H:Type} {enc:TypeId×Value→H} {P:Program} {ns:Names} {AP:Nat→Option aD} (hI:Impl P ns AP) {f g:Nat} {fn:Func} {s:ChangeSpec} {T:List TypeId} {tb:TypeId}
   (hg:ns.of f=some g) (hvars:s.vars=[]) (gk:fn.resultTypes=#[tb]) (NQ:P.underlying tb=some .bool) (hl:laidOutB P=true)
   (hrd:∀t∈fn.params.toList,P.readableRec t=true∧t<P.types.size) (hT:CI P T=true) (hin:∀t∈fn.params.toList,t∈T)
   (hs:∀ds:List (DataW H),ds.length=fn.params.size→s.fn H ds={ results:=[.lit (.bool true)],args:=ds })
   (law:∀dC,FN P fn.params.toList dC→(aP AP).p g dC=some [.bool true])
   (W:World) (base:Nat) (args:Array Value) (ds gs:List (DataW H)) (before:List MemPlace)
   (hval:∀(j:Nat) t v,fn.params[j]?=some t→args[j]?=some v→Value.okWide P W .any base t v)
   (hW:DataW.Whole enc P fn.params.toList s.vars false W args.toList ds gs before)
   (hpin:mS ns.jS W:=by intro _ _ h;exact Option.noConfusion (show (none:Option (Array Value))=some _ from h)) :
   Calls P f args W fun e W'=>∃v,e=.returned v∧s.post enc P fn false true false false W args v W':=by
 have hW':=hW;obtain ⟨p,q,hA,hV,rfl,hfz,hnd⟩:=hW;rw [hvars] at hV;obtain ⟨rfl,rfl⟩:=trodVars_none hV;simp only [List.append_nil] at hW';obtain ⟨dC,h1,h2,h3⟩:=yS (r:=.any) (b0:=base) hT hin (fun j t v hj hj'=>hval j t v (by simpa using hj) (by simpa using hj')) hA;obtain ⟨n,hn⟩:=qt (law dC h1);have hC:=(uo hI n n).p g f dC _ hg hn (KW W) W args.toList hpin (Oy W) h2;rw [Array.toArray_toList] at hC;refine hC.mono ?_
 rintro e W' ⟨v,K',rfl,hr,_,_,_,hB⟩
 simp only [ic,Rel,R] at hr;obtain rfl:v=.bool true:=by simpa using hr
 have hlt:∀x∈p,x.block<W.heap.size:=fun x hx=>by simpa using hW'.lt x hx
 have hspec:=hs ds (by simpa using h3);refine ⟨_,rfl,FO hW' (fun _ _ _=>?_) (fun sp hsp=>?_) (fun _=>?_) hB (ok_one gk rfl (okWide_bool_mk NQ _))⟩
 · simp only [List.append_nil];rw [hspec,gk];exact trodAll_cons_mk (p:=[]) (p':=[]) (shut_bool NQ _) trodAll_mk0
 · simp only [List.append_nil];rw [hspec];exact se hl hB hrd hA hlt hsp
 · rw [hvars];simp only [List.append_nil];rw [hspec];rfl
end Go.Ab
