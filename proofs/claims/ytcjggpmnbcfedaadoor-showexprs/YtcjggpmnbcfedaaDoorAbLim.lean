import Derived.Test.YtcjggpmnbcfedaaDoorAbDefs
/-
  Without fuel: the limit of the evaluator.
-/
set_option linter.unusedVariables false
set_option linter.unusedSimpArgs false
set_option maxRecDepth 100000
set_option maxHeartbeats 8000000
namespace Go.Ab
def qJ {α:Type} (f:Nat→Option α):Prop:=∀k k' r,k≤k'→f k=some r→f k'=some r
open Classical in
noncomputable def zN {α:Type} (f:Nat→Option α):Option α:=if h:∃r k,f k=some r then some h.choose else none
theorem mB {α:Type} {f:Nat→Option α} (hf:qJ f) {k:Nat} {r:α} (h:f k=some r):zN f=some r:=by
 have hex:∃r k,f k=some r:=⟨r,k,h⟩
 unfold zN
 rw [dif_pos hex]
 obtain ⟨k',h'⟩:=hex.choose_spec
 have h1:=hf _ (max k k') _ (Nat.le_max_right _ _) h'
 have h2:=hf _ (max k k') _ (Nat.le_max_left _ _) h
 rw [h1] at h2
 exact h2
theorem eB {α:Type} {f:Nat→Option α} {r:α} (h:zN f=some r):∃k,f k=some r:=by
 unfold zN at h
 split at h
 · rename_i hex
   obtain ⟨k,hk⟩:=hex.choose_spec
   cases h
   exact ⟨k,hk⟩
 · simp at h
theorem mC {α:Type} {f:Nat→Option α} (h:∀k,f k=none):zN f=none:=by
 cases hl:zN f with
 | none=>rfl
 | some r=>obtain ⟨k,hk⟩:=eB hl;rw [h k] at hk;simp at hk
theorem i9 {α:Type} {f:Nat→Option α} (hf:qJ f) {o:Option α} (h1:∀k r,f k=some r→o=some r) (h2:∀r,o=some r→∃k,f k=some r):zN f=o:=by
 cases ho:o with
 | none=>exact mC fun k=>by cases hk:f k with | none=>rfl | some r=>rw [h1 k r hk] at ho;simp at ho
 | some r=>obtain ⟨k,hk⟩:=h2 r ho;exact mB hf hk
structure dC.le (a b:dC):Prop where
 p:∀g x r,a.p g x=some r→b.p g x=some r
 i:∀g x s t r,a.i g x s t=some r→b.i g x s t=some r
theorem dC.le_refl (a:dC):a.le a:=⟨fun _ _ _ h=>h,fun _ _ _ _ _ h=>h⟩
theorem gE {a b:dC} (h:a.le b) {g:Nat} {own:List Nat} {vals:List AV} {sh:Sh} {aa:au} {r:AV×Sh×au} (e:da a g own vals sh aa=some r):da b g own vals sh aa=some r:=by
 unfold da at *
 split at e
 · rename_i hp
   rw [if_pos hp]
   simp only [Option.map_eq_some_iff] at e ⊢
   obtain ⟨x,h1,h2⟩:=e
   exact ⟨x,h.i _ _ _ _ _ h1,h2⟩
 · simp at e
theorem xf {a b:dC} (h:a.le b) {op:AK} {vals:List AV} {cells:Option (List AV)} {sh:Sh} {aa:au} {r:Out} (e:exec a op vals cells sh aa=some r):exec b op vals cells sh aa=some r:=by
 cases op with
 | aA g=>
   simp only [exec] at e ⊢
   split at e
   · simp only [Option.map_eq_some_iff] at e ⊢
     obtain ⟨x,h1,h2⟩:=e
     exact ⟨x,h.p _ _ _ h1,h2⟩
   · simp at e
 | eK g=>
   simp only [exec] at e ⊢
   split at e
   · simp only [Option.map_eq_some_iff] at e ⊢
     obtain ⟨x,h1,h2⟩:=e
     exact ⟨x,h.p _ _ _ h1,h2⟩
   · simp at e
 | az g own=>
   simp only [exec,Option.map_eq_some_iff] at e ⊢
   obtain ⟨x,h1,h2⟩:=e
   exact ⟨x,gE h h1,h2⟩
 | gG g=>
   simp only [exec] at e ⊢
   split at e
   · split at e
     · rename_i rs ts h1
       rw [h.i _ _ _ _ _ h1]
       exact e
     · simp at e
   · simp at e
 | b_=>
   cases vals with
   | nil=>simp [exec] at e
   | cons f vals=>
     cases f with
     | fn g cap=>
       simp only [exec,Option.bind_eq_some_iff] at e ⊢
       obtain ⟨x,h1,h2⟩:=e
       exact ⟨x,gE h h1,h2⟩
     | _=>simp [exec] at e
 | gf=>
   cases vals with
   | nil=>simp [exec] at e
   | cons f vals=>
     cases f with
     | fn g cap=>
       simp only [exec,Option.map_eq_some_iff] at e ⊢
       obtain ⟨x,h1,h2⟩:=e
       exact ⟨x,gE h h1,h2⟩
     | _=>simp [exec] at e
 | _=>rw [←e];unfold exec;split<;>first | rfl | (rename_i heq;cases heq;done) | (simp at *;done)
theorem nT {a b:dC} (h:a.le b) {o:dd} {st r:St} (e:dp a o st=some r):dp b o st=some r:=by
 unfold dp at *
 cases hw:dQ st.env o.guard with
 | none=>rw [hw] at e;simp at e
 | some t=>
   cases t with
   | false=>rw [hw] at e;exact e
   | true=>
     rw [hw] at e
     dsimp only at e ⊢
     cases hv:dc st.env o.args with
     | none=>rw [hv] at e;simp at e
     | some vals=>
       rw [hv] at e
       dsimp only at e ⊢
       cases ho:exec a o.op vals (o.op.key.bind (look st.mem)) st.sh st.aa with
       | none=>rw [ho] at e;simp at e
       | some out=>
         rw [ho] at e
         rw [xf h ho]
         exact e
theorem jA {a b:dC} (h:a.le b):∀{l:List dd} {st r:St},bl a l st=some r→bl b l st=some r
 | [],_,_,e=>e
 | o::l,st,r,e=>by
   simp only [bl] at e ⊢
   split at e
   · simp at e
   · rename_i st' ho
     rw [nT h ho]
     exact jA h e
theorem fX {f f':St→Option (aH×St)} {pre:St→St} (h:∀s r,f s=some r→f' s=some r):∀{n n':Nat} {st:St} {r:aH×St},n≤n'→dJ f pre n st=some r→dJ f' pre n' st=some r
 | 0,_,_,_,_,e=>by simp [dJ] at e
 | n+1,0,_,_,hn,_=>by omega
 | n+1,n'+1,st,r,hn,e=>by
   simp only [dJ] at e ⊢
   cases hf:f (pre st) with
   | none=>rw [hf] at e;simp at e
   | some q=>
     rw [h _ _ hf]
     rw [hf] at e
     obtain ⟨x,s⟩:=q
     cases x with
     | normal=>exact fX h (by omega) e
     | ret=>exact e
     | exit id=>exact e
theorem jB {f f':St→Option (aH×St)} (h:∀s r,f s=some r→f' s=some r) {live:List Nat} {pi px sz:Nat} {ag:Bool} {env:List (Nat×AV)}:∀{l:List (PV×Nat)} {st:St} {r:aH×St},
   fw f live pi px sz ag env l st=some r→fw f' live pi px sz ag env l st=some r
 | [],_,_,e=>e
 | (el,i)::l,st,r,e=>by
   simp only [fw] at e ⊢
   cases hv:nd sz ag el with
   | none=>rw [hv] at e;simp at e
   | some v=>
     rw [hv] at e
     simp only at e ⊢
     cases hf:f (norm (restrict live { st with env:=cO (cO env pi (.pv (.int .i64 i))) px v })) with
     | none=>rw [hf] at e;simp at e
     | some q=>
       rw [h _ _ hf]
       rw [hf] at e
       obtain ⟨x,s⟩:=q
       cases x with
       | normal=>exact jB h e
       | ret=>exact e
       | exit id=>exact e
theorem nr {f f':St→Option (aH×St)} (h:∀s r,f s=some r→f' s=some r) {v:Option AV} {gb pi px sz:Nat} {ag:Bool} {live:List Nat} {st:St} {r:aH×St}
   (e:fC f v gb pi px sz ag live st=some r):fC f' v gb pi px sz ag live st=some r:=by
 unfold fC at e ⊢
 split at e
 · split at e
   · rename_i hg
     rw [if_pos hg]
     split at e
     · split at e
       · rename_i hl
         rw [if_pos hl]
         exact jB h e
       · simp at e
     · simp at e
   · simp at e
 · simp at e
theorem kl {f g f' g':St→Option (aH×St)} (h:∀s r,f s=some r→f' s=some r) (k:∀s r,g s=some r→g' s=some r):∀s r,andThen f g s=some r→andThen f' g' s=some r:=by
 intro s r e
 unfold andThen at e ⊢
 cases hf:f s with
 | none=>rw [hf] at e;simp at e
 | some q=>
   rw [h _ _ hf]
   rw [hf] at e
   obtain ⟨x,t⟩:=q
   cases x with
   | normal=>exact k _ _ e
   | ret=>simp at e
   | exit id=>simp at e
theorem bJ {a b:dC} (h:a.le b) {k k':Nat} (hk:k≤k'):∀{c:aE} {st:St} {r:aH×St},cI a k c st=some r→cI b k' c st=some r
 | .skip,_,_,e=>e
 | .eF _,_,_,e=>e
 | .aq ops live,st,r,e=>by
   simp only [cI] at e ⊢
   split at e
   · rename_i st' ho
     rw [jA h ho]
     exact e
   · simp at e
 | .seq x y,st,r,e=>by
   simp only [cI] at e ⊢
   cases hx:cI a k x st with
   | none=>rw [hx] at e;simp at e
   | some q=>
     rw [bJ h hk hx]
     rw [hx] at e
     obtain ⟨ex,s⟩:=q
     cases ex with
     | normal=>exact bJ h hk e
     | ret=>exact e
     | exit id=>exact e
 | .cond c x y,st,r,e=>by
   simp only [cI] at e ⊢
   split at e
   · rename_i t hc
     split at e
     · rename_i ht;rw [if_pos ht];exact bJ h hk e
     · rename_i ht;rw [if_neg ht];exact bJ h hk e
   · simp at e
 | .block id x,st,r,e=>by
   simp only [cI] at e ⊢
   cases hx:cI a k x st with
   | none=>rw [hx] at e;simp at e
   | some q=>
     rw [bJ h hk hx]
     rw [hx] at e
     exact e
 | .loop live x,st,r,e=>by
   simp only [cI] at e ⊢
   exact fX (fun s r hs=>bJ h hk hs) hk e
 | .exit id,_,_,e=>e
 | .ret,_,_,e=>e
 | .back c gb pi px sz ag live x y,st,r,e=>by
   simp only [cI] at e ⊢
   exact nr (kl (fun s r hs=>bJ h hk hs) (fun s r hs=>bJ h hk hs)) e
theorem dt {a b:dC} (h:a.le b) {k k':Nat} (hk:k≤k') {aF:Bool} {af:aB} {args:List AV} {sh:Sh} {ts:au} {r:List AV×Sh×au} (e:bG a k aF af args sh ts=some r):bG b k' aF af args sh ts=some r:=by
 unfold bG at *
 cases hc:cI a k af.body { env:=bF 0 args,mem:=[],sh,aa:=ts } with
 | none=>rw [hc] at e;simp at e
 | some q=>rw [bJ h hk hc];rw [hc] at e;exact e
variable {AP:Nat→Option aB}
theorem cS:∀{n n' k k':Nat},n≤n'→k≤k'→(run AP k n).le (run AP k' n')
 | 0,_,_,_,_,_=>⟨fun g x r e=>by simp [run] at e,fun g x s t r e=>by simp [run] at e⟩
 | n+1,0,_,_,h,_=>by omega
 | n+1,n'+1,k,k',h,hk=>by
   have ih:(run AP k n).le (run AP k' n'):=cS (by omega) hk
   refine ⟨fun g x r e=>?_,fun g x s t r e=>?_⟩
   · simp only [run] at e ⊢
     cases hg:AP g with
     | none=>rw [hg] at e;simp at e
     | some af=>
       rw [hg] at e
       dsimp only at e ⊢
       cases hp:af.lL with
       | some f=>rw [hp] at e;exact e
       | none=>
         rw [hp] at e
         dsimp only at e ⊢
         split at e
         · rename_i hc
           rw [if_pos hc]
           cases hb:bG (run AP k n) k false af (x.map .pv) [] [] with
           | none=>rw [hb] at e;simp at e
           | some q=>rw [dt ih hk hb];rw [hb] at e;exact e
         · simp at e
   · simp only [run] at e ⊢
     cases hg:AP g with
     | none=>rw [hg] at e;simp at e
     | some af=>
       rw [hg] at e
       dsimp only at e ⊢
       split at e
       · rename_i hc
         rw [if_pos hc]
         exact dt ih hk e
       · simp at e
noncomputable def aQ (AP:Nat→Option aB):dC where
 p:=fun g x=>zN fun n=>(run AP n n).p g x
 i:=fun g x s t=>zN fun n=>(run AP n n).i g x s t
theorem lU (g:Nat) (x:List PV):qJ fun n=>(run AP n n).p g x:=fun _ _ _ h e=>(cS h h).p _ _ _ e
theorem wk (g:Nat) (x:List AV) (s:Sh) (t:au):qJ fun n=>(run AP n n).i g x s t:=fun _ _ _ h e=>(cS h h).i _ _ _ _ _ e
theorem D4 (n:Nat):(run AP n n).le (aQ AP):=⟨fun g x _ e=>mB (lU g x) e,fun g x s t _ e=>mB (wk g x s t) e⟩
theorem oS {g:Nat} {x:List PV} {r:List PV} (h:(aQ AP).p g x=some r):∃n,(run AP n n).p g x=some r:=eB h
theorem wm {g:Nat} {x:List AV} {s:Sh} {t:au} {r:List AV×Sh×au} (h:(aQ AP).i g x s t=some r):∃n,(run AP n n).i g x s t=some r:=eB h
theorem jC {g:Nat} {own:List Nat} {vals:List AV} {sh:Sh} {aa:au} {r:AV×Sh×au} (e:da (aQ AP) g own vals sh aa=some r):∃n,da (run AP n n) g own vals sh aa=some r:=by
 unfold da at *
 split at e
 · rename_i hp
   simp only [Option.map_eq_some_iff] at e
   obtain ⟨x,h1,h2⟩:=e
   obtain ⟨n,hn⟩:=wm h1
   exact ⟨n,by rw [if_pos hp,hn];simp only [Option.map_some,h2]⟩
 · simp at e
theorem sR {op:AK} {vals:List AV} {cells:Option (List AV)} {sh:Sh} {aa:au} {r:Out} (e:exec (aQ AP) op vals cells sh aa=some r):∃n,exec (run AP n n) op vals cells sh aa=some r:=by
 cases op with
 | aA g=>
   simp only [exec] at e ⊢
   split at e
   · rename_i cd hp
     simp only [Option.map_eq_some_iff] at e
     obtain ⟨x,h1,h2⟩:=e
     obtain ⟨n,hn⟩:=oS h1
     exact ⟨n,by rw [hn];simp only [Option.map_some,h2]⟩
   · simp at e
 | eK g=>
   simp only [exec] at e ⊢
   split at e
   · rename_i cd hp
     simp only [Option.map_eq_some_iff] at e
     obtain ⟨x,h1,h2⟩:=e
     obtain ⟨n,hn⟩:=oS h1
     exact ⟨n,by rw [hn];simp only [Option.map_some,h2]⟩
   · simp at e
 | az g own=>
   simp only [exec,Option.map_eq_some_iff] at e ⊢
   obtain ⟨x,h1,h2⟩:=e
   obtain ⟨n,hn⟩:=jC h1
   exact ⟨n,x,hn,h2⟩
 | gG g=>
   simp only [exec] at e ⊢
   split at e
   · split at e
     · rename_i rs ts h1
       obtain ⟨n,hn⟩:=wm h1
       exact ⟨n,by rw [hn];exact e⟩
     · simp at e
   · simp at e
 | b_=>
   cases vals with
   | nil=>simp [exec] at e
   | cons f vals=>
     cases f with
     | fn g cap=>
       simp only [exec,Option.bind_eq_some_iff] at e ⊢
       obtain ⟨x,h1,h2⟩:=e
       obtain ⟨n,hn⟩:=jC h1
       exact ⟨n,x,hn,h2⟩
     | _=>simp [exec] at e
 | gf=>
   cases vals with
   | nil=>simp [exec] at e
   | cons f vals=>
     cases f with
     | fn g cap=>
       simp only [exec,Option.map_eq_some_iff] at e ⊢
       obtain ⟨x,h1,h2⟩:=e
       obtain ⟨n,hn⟩:=jC h1
       exact ⟨n,x,hn,h2⟩
     | _=>simp [exec] at e
 | _=>exact ⟨0,by rw [←e];unfold exec;split<;>first | rfl | (rename_i heq;cases heq;done) | (simp at *;done)⟩
theorem z3 {o:dd} {st r:St} (e:dp (aQ AP) o st=some r):∃n,dp (run AP n n) o st=some r:=by
 unfold dp at *
 cases hw:dQ st.env o.guard with
 | none=>rw [hw] at e;simp at e
 | some t=>
   cases t with
   | false=>rw [hw] at e;exact ⟨0,e⟩
   | true=>
     rw [hw] at e
     dsimp only at e ⊢
     cases hv:dc st.env o.args with
     | none=>rw [hv] at e;simp at e
     | some vals=>
       rw [hv] at e
       dsimp only at e ⊢
       cases ho:exec (aQ AP) o.op vals (o.op.key.bind (look st.mem)) st.sh st.aa with
       | none=>rw [ho] at e;simp at e
       | some out=>
         obtain ⟨n,hn⟩:=sR ho
         rw [ho] at e
         exact ⟨n,by rw [hn];exact e⟩
theorem nU:∀{l:List dd} {st r:St},bl (aQ AP) l st=some r→∃n,bl (run AP n n) l st=some r
 | [],_,_,e=>⟨0,e⟩
 | o::l,st,r,e=>by
   simp only [bl] at e ⊢
   cases ho:dp (aQ AP) o st with
   | none=>rw [ho] at e;simp at e
   | some s=>
     rw [ho] at e
     obtain ⟨n,hn⟩:=z3 ho
     obtain ⟨m,hm⟩:=nU (l:=l) e
     refine ⟨max n m,?_⟩
     rw [nT (cS (Nat.le_max_left n m) (Nat.le_max_left n m)) hn]
     exact jA (cS (Nat.le_max_right n m) (Nat.le_max_right n m)) hm
theorem mD {k:Nat} {c:aE} {pre:St→St} (ih:∀{st:St} {r:aH×St},cI (aQ AP) k c st=some r→∃n,cI (run AP n n) n c st=some r) :
   ∀{j:Nat} {st:St} {r:aH×St},dJ (cI (aQ AP) k c) pre j st=some r→∃n,dJ (cI (run AP n n) n c) pre n st=some r
 | 0,_,_,e=>by simp [dJ] at e
 | j+1,st,r,e=>by
   simp only [dJ] at e
   cases hf:cI (aQ AP) k c (pre st) with
   | none=>rw [hf] at e;simp at e
   | some q=>
     obtain ⟨n,hn⟩:=ih hf
     rw [hf] at e
     obtain ⟨x,s⟩:=q
     cases x with
     | normal=>
       obtain ⟨m,hm⟩:=mD ih e
       refine ⟨max n m+1,?_⟩
       simp only [dJ]
       rw [bJ (cS (n:=n) (n':=max n m+1) (by omega) (by omega)) (k:=n) (k':=max n m+1) (by omega) hn]
       exact fX (fun s r hs=>bJ (cS (n:=m) (by omega) (by omega)) (k:=m) (by omega) hs) (n:=m) (by omega) hm
     | ret=>
       refine ⟨n+1,?_⟩
       simp only [dJ]
       rw [bJ (cS (n:=n) (n':=n+1) (by omega) (by omega)) (k:=n) (k':=n+1) (by omega) hn]
       exact e
     | exit id=>
       refine ⟨n+1,?_⟩
       simp only [dJ]
       rw [bJ (cS (n:=n) (n':=n+1) (by omega) (by omega)) (k:=n) (k':=n+1) (by omega) hn]
       exact e
theorem kF {n m:Nat} (h:n≤m) {c:aE} {st:St} {r:aH×St} (e:cI (run AP n n) n c st=some r):cI (run AP m m) m c st=some r:=bJ (cS h h) h e
theorem nu {k:Nat} {x y:aE} (ihx:∀{st:St} {r:aH×St},cI (aQ AP) k x st=some r→∃n,cI (run AP n n) n x st=some r) (ihy:∀{st:St} {r:aH×St},cI (aQ AP) k y st=some r→∃n,cI (run AP n n) n y st=some r)
   {st:St} {r:aH×St} (e:andThen (cI (aQ AP) k x) (cI (aQ AP) k y) st=some r):∃n,andThen (cI (run AP n n) n x) (cI (run AP n n) n y) st=some r:=by
 unfold andThen at e ⊢
 cases hx:cI (aQ AP) k x st with
 | none=>rw [hx] at e;simp at e
 | some q=>
   obtain ⟨n,hn⟩:=ihx hx
   rw [hx] at e
   obtain ⟨ex,s⟩:=q
   cases ex with
   | normal=>
     obtain ⟨m,hm⟩:=ihy e
     exact ⟨max n m,by rw [kF (Nat.le_max_left n m) hn];exact kF (Nat.le_max_right n m) hm⟩
   | ret=>simp at e
   | exit id=>simp at e
theorem mE {F:St→Option (aH×St)} {f:Nat→St→Option (aH×St)} (hm:∀{n m:Nat},n≤m→∀s r,f n s=some r→f m s=some r) (ih:∀{st:St} {r:aH×St},F st=some r→∃n,f n st=some r)
   {live:List Nat} {pi px sz:Nat} {ag:Bool} {env:List (Nat×AV)}:∀{l:List (PV×Nat)} {st:St} {r:aH×St},fw F live pi px sz ag env l st=some r→∃n,fw (f n) live pi px sz ag env l st=some r
 | [],_,_,e=>⟨0,e⟩
 | (el,i)::l,st,r,e=>by
   simp only [fw] at e ⊢
   cases hv:nd sz ag el with
   | none=>rw [hv] at e;simp at e
   | some v=>
     rw [hv] at e
     simp only at e ⊢
     cases hf:F (norm (restrict live { st with env:=cO (cO env pi (.pv (.int .i64 i))) px v })) with
     | none=>rw [hf] at e;simp at e
     | some q=>
       obtain ⟨n,hn⟩:=ih hf
       rw [hf] at e
       obtain ⟨x,s⟩:=q
       cases x with
       | normal=>
         obtain ⟨m,hm'⟩:=mE hm ih e
         exact ⟨max n m,by rw [hm (Nat.le_max_left n m) _ _ hn];exact jB (hm (Nat.le_max_right n m)) hm'⟩
       | ret=>exact ⟨n,by rw [hn];exact e⟩
       | exit id=>exact ⟨n,by rw [hn];exact e⟩
theorem fo {k:Nat}:∀{c:aE} {st:St} {r:aH×St},cI (aQ AP) k c st=some r→∃n,cI (run AP n n) n c st=some r
 | .skip,_,_,e=>⟨0,e⟩
 | .eF _,_,_,e=>⟨0,e⟩
 | .aq ops live,st,r,e=>by
   simp only [cI] at e ⊢
   cases ho:bl (aQ AP) ops st with
   | none=>rw [ho] at e;simp at e
   | some s=>obtain ⟨n,hn⟩:=nU ho;rw [ho] at e;exact ⟨n,by rw [hn];exact e⟩
 | .seq x y,st,r,e=>by
   simp only [cI] at e ⊢
   cases hx:cI (aQ AP) k x st with
   | none=>rw [hx] at e;simp at e
   | some q=>
     obtain ⟨n,hn⟩:=fo hx
     rw [hx] at e
     obtain ⟨ex,s⟩:=q
     cases ex with
     | normal=>
       obtain ⟨m,hm⟩:=fo (c:=y) e
       exact ⟨max n m,by rw [kF (Nat.le_max_left n m) hn];exact kF (Nat.le_max_right n m) hm⟩
     | ret=>exact ⟨n,by rw [hn];exact e⟩
     | exit id=>exact ⟨n,by rw [hn];exact e⟩
 | .cond c x y,st,r,e=>by
   simp only [cI] at e ⊢
   split at e
   · rename_i t hc
     split at e
     · rename_i ht
       obtain ⟨n,hn⟩:=fo e
       exact ⟨n,by rw [if_pos ht];exact hn⟩
     · rename_i ht
       obtain ⟨n,hn⟩:=fo e
       exact ⟨n,by rw [if_neg ht];exact hn⟩
   · simp at e
 | .block id x,st,r,e=>by
   simp only [cI] at e ⊢
   cases hx:cI (aQ AP) k x st with
   | none=>rw [hx] at e;simp at e
   | some q=>
     obtain ⟨n,hn⟩:=fo hx
     rw [hx] at e
     exact ⟨n,by rw [hn];exact e⟩
 | .loop live x,st,r,e=>by
   simp only [cI] at e ⊢
   exact mD (fun h=>fo h) e
 | .exit id,_,_,e=>⟨0,e⟩
 | .ret,_,_,e=>⟨0,e⟩
 | .back c gb pi px sz ag live x y,st,r,e=>by
   simp only [cI] at e ⊢
   unfold fC at e ⊢
   split at e
   · split at e
     · rename_i hg
       split at e
       · split at e
         · rename_i hl
           obtain ⟨n,hn⟩:=mE (f:=fun n=>andThen (cI (run AP n n) n x) (cI (run AP n n) n y)) (fun h=>kl (fun s r hs=>kF h hs) (fun s r hs=>kF h hs)) (nu (fun h=>fo h) (fun h=>fo h)) e
           exact ⟨n,by rw [if_pos hg,if_pos hl];exact hn⟩
         · simp at e
       · simp at e
     · simp at e
   · simp at e
noncomputable def cl (AP:Nat→Option aB) (c:aE) (st:St):Option (aH×St):=zN fun k=>cI (aQ AP) k c st
theorem lV (c:aE) (st:St):qJ fun k=>cI (aQ AP) k c st:=fun _ _ _ h e=>bJ (dC.le_refl _) h e
theorem iN {c:aE} {st:St} {k:Nat} {r:aH×St} (h:cI (aQ AP) k c st=some r):cl AP c st=some r:=mB (lV c st) h
theorem Ct {st:St}:cl AP .skip st=some (.normal,st):=iN (k:=0) rfl
theorem Cu {id:Nat} {st:St}:cl AP (.exit id) st=some (.exit id,st):=iN (k:=0) rfl
theorem D5 {st:St}:cl AP .ret st=some (.ret,st):=iN (k:=0) rfl
theorem D6 {ops:List dd} {live:List Nat} {st:St}:cl AP (.aq ops live) st=(bl (aQ AP) ops st).map fun st'=>(.normal,restrict live st'):=by
 cases h:bl (aQ AP) ops st with
 | none=>exact mC fun k=>by simp only [cI,h]
 | some s=>exact iN (k:=0) (by simp only [cI,h])
def after (f:St→Option (aH×St)):Option (aH×St)→Option (aH×St)
 | some (.normal,st)=>f st
 | r=>r
theorem D7 {a b:aE} {st:St}:cl AP (.seq a b) st=after (cl AP b) (cl AP a st):=by
 refine i9 (lV _ _) (fun k r h=>?_) fun r h=>?_
 · simp only [cI] at h
   cases hx:cI (aQ AP) k a st with
   | none=>rw [hx] at h;simp at h
   | some q=>
     rw [iN hx]
     rw [hx] at h
     obtain ⟨ex,s⟩:=q
     cases ex with
     | normal=>exact iN h
     | ret=>exact h
     | exit id=>exact h
 · cases hx:cl AP a st with
   | none=>rw [hx] at h;simp [after] at h
   | some q=>
     obtain ⟨k,hk⟩:=eB hx
     rw [hx] at h
     obtain ⟨ex,s⟩:=q
     cases ex with
     | normal=>
       obtain ⟨k',hk'⟩:=eB (show zN (fun k=>cI (aQ AP) k b s)=some r from h)
       refine ⟨max k k',?_⟩
       simp only [cI]
       rw [bJ (dC.le_refl _) (Nat.le_max_left k k') hk]
       exact bJ (dC.le_refl _) (Nat.le_max_right k k') hk'
     | ret=>exact ⟨k,by simp only [cI];rw [hk];exact h⟩
     | exit id=>exact ⟨k,by simp only [cI];rw [hk];exact h⟩
theorem Cv {c:dD} {a b:aE} {st:St} {t:Bool} (h:eJ st.env c=some (.pv (.bool t))):cl AP (.cond c a b) st=if t then cl AP a st else cl AP b st:=by
 unfold cl
 simp only [cI,h]
 cases t<;>rfl
def leave (id:Nat):Option (aH×St)→Option (aH×St)
 | some (.exit id',st)=>if id'=id then some (.normal,st) else some (.exit id',st)
 | r=>r
theorem z4 {id:Nat} {b:aE} {st:St}:cl AP (.block id b) st=leave id (cl AP b st):=by
 refine i9 (lV _ _) (fun k r h=>?_) fun r h=>?_
 · simp only [cI] at h
   cases hx:cI (aQ AP) k b st with
   | none=>rw [hx] at h;simp at h
   | some q=>rw [iN hx];rw [hx] at h;exact h
 · cases hx:cl AP b st with
   | none=>rw [hx] at h;simp [leave] at h
   | some q=>
     obtain ⟨k,hk⟩:=eB hx
     rw [hx] at h
     exact ⟨k,by simp only [cI];rw [hk];exact h⟩
theorem aW {live:List Nat} {b:aE} {st:St}:cl AP (.loop live b) st=after (cl AP (.loop live b)) (cl AP b (norm (restrict live st))):=by
 refine i9 (lV _ _) (fun k r h=>?_) fun r h=>?_
 · simp only [cI] at h
   cases k with
   | zero=>simp [dJ] at h
   | succ k=>
     simp only [dJ] at h
     cases hx:cI (aQ AP) (k+1) b (norm (restrict live st)) with
     | none=>rw [hx] at h;simp at h
     | some q=>
       rw [iN hx]
       rw [hx] at h
       obtain ⟨ex,s⟩:=q
       cases ex with
       | normal=>exact iN (k:=k+1) (by simp only [cI];exact fX (fun _ _ h=>h) (Nat.le_succ k) h)
       | ret=>exact h
       | exit id=>exact h
 · cases hx:cl AP b (norm (restrict live st)) with
   | none=>rw [hx] at h;simp [after] at h
   | some q=>
     obtain ⟨k,hk⟩:=eB hx
     rw [hx] at h
     obtain ⟨ex,s⟩:=q
     have up:∀m,k≤m→cI (aQ AP) m b (norm (restrict live st))=some (ex,s):=fun m hm=>bJ (dC.le_refl _) hm hk
     cases ex with
     | normal=>
       obtain ⟨k',hk'⟩:=eB (show zN (fun k=>cI (aQ AP) k (.loop live b) s)=some r from h)
       refine ⟨max k k'+1,?_⟩
       simp only [cI,dJ]
       rw [up _ (by omega)]
       simp only [cI] at hk'
       exact fX (fun _ _ h=>bJ (dC.le_refl _) (by omega) h) (by omega) hk'
     | ret=>exact ⟨k+1,by simp only [cI,dJ];rw [up _ (by omega)];exact h⟩
     | exit id=>exact ⟨k+1,by simp only [cI,dJ];rw [up _ (by omega)];exact h⟩
def finish (aF:Bool) (af:aB) (sh:Sh):Option (aH×St)→Option (List AV×Sh×au)
 | some (e,st)=>
   if e=.ret∨e=.normal then
     match de st af.results with
     | some vs=>
       let rs:=bN aF af.ks st.sh vs
       let sh':=if rs.all (aw sh.length)=true then (dz aF af.ks st.sh vs).take sh.length else dz aF af.ks st.sh vs
       if rs.all bp=true then some ((cm st.aa rs sh').1,(cm st.aa rs sh').2.1,(cm st.aa rs sh').2.2.2) else none
     | none=>none
   else none
 | none=>none
theorem d_ {orc:dC} {k:Nat} {aF:Bool} {af:aB} {args:List AV} {sh:Sh} {ts:au}:bG orc k aF af args sh ts=finish aF af sh (cI orc k af.body { env:=bF 0 args,mem:=[],sh,aa:=ts }):=by
 unfold bG finish
 cases cI orc k af.body { env:=bF 0 args,mem:=[],sh,aa:=ts } with
 | none=>rfl
 | some q=>obtain ⟨e,st⟩:=q;rfl
noncomputable def jj (AP:Nat→Option aB) (aF:Bool) (af:aB) (args:List AV) (sh:Sh) (ts:au):Option (List AV×Sh×au):=
 finish aF af sh (cl AP af.body { env:=bF 0 args,mem:=[],sh,aa:=ts })
theorem nV {aF:Bool} {af:aB} {args:List AV} {sh:Sh} {ts:au} {r:List AV×Sh×au} (h:jj AP aF af args sh ts=some r):∃n,bG (run AP n n) n aF af args sh ts=some r:=by
 unfold jj at h
 cases hc:cl AP af.body { env:=bF 0 args,mem:=[],sh,aa:=ts } with
 | none=>rw [hc] at h;simp [finish] at h
 | some q=>
   obtain ⟨k,hk⟩:=eB hc
   obtain ⟨n,hn⟩:=fo hk
   exact ⟨n,by rw [d_,hn,←hc];exact h⟩
theorem wo {n:Nat} {aF:Bool} {af:aB} {args:List AV} {sh:Sh} {ts:au} {r:List AV×Sh×au} (h:bG (run AP n n) n aF af args sh ts=some r):jj AP aF af args sh ts=some r:=by
 rw [d_] at h
 unfold jj
 cases hc:cI (run AP n n) n af.body { env:=bF 0 args,mem:=[],sh,aa:=ts } with
 | none=>rw [hc] at h;simp [finish] at h
 | some q=>
   rw [iN (bJ (D4 n) (Nat.le_refl n) hc)]
   rw [hc] at h
   exact h
theorem DG {g:Nat} {af:aB} {x:List PV} (hg:AP g=some af) (hp:af.lL=none) (h1:x.length=af.nparams) (h2:x.length≤af.ntmps) :
   (aQ AP).p g x=(jj AP false af (x.map .pv) [] []).bind fun r=>d0 r.1:=by
 refine i9 (lU g x) (fun k r h=>?_) fun r h=>?_
 · cases k with
   | zero=>simp [run] at h
   | succ k=>
     simp only [run,hg,hp] at h
     rw [if_pos ⟨h1,h2⟩] at h
     cases hb:bG (run AP (k+1) k) (k+1) false af (x.map .pv) [] [] with
     | none=>rw [hb] at h;simp at h
     | some q=>
       rw [wo (n:=k+1) (dt (cS (Nat.le_succ k) (Nat.le_refl _)) (Nat.le_refl _) hb)]
       rw [hb] at h
       exact h
 · cases hb:jj AP false af (x.map .pv) [] [] with
   | none=>rw [hb] at h;simp at h
   | some q=>
     obtain ⟨n,hn⟩:=nV hb
     rw [hb] at h
     refine ⟨n+1,?_⟩
     simp only [run,hg,hp]
     rw [if_pos ⟨h1,h2⟩,dt (cS (n:=n) (n':=n) (k:=n) (k':=n+1) (Nat.le_refl _) (Nat.le_succ n)) (Nat.le_succ n) hn]
     exact h
theorem oT {g:Nat} {af:aB} {x:List PV} {f:List PV→Option (List PV)} (hg:AP g=some af) (hp:af.lL=some f):(aQ AP).p g x=f x:=by
 refine i9 (lU g x) (fun k r h=>?_) fun r h=>?_
 · cases k with
   | zero=>simp [run] at h
   | succ k=>simpa only [run,hg,hp] using h
 · exact ⟨1,by simpa only [run,hg,hp] using h⟩
theorem DH {g:Nat} {af:aB} {x:List AV} {sh:Sh} {ts:au} (hg:AP g=some af) (h2:x.length≤af.ntmps):(aQ AP).i g x sh ts=jj AP true af x sh ts:=by
 refine i9 (wk g x sh ts) (fun k r h=>?_) fun r h=>?_
 · cases k with
   | zero=>simp [run] at h
   | succ k=>
     simp only [run,hg] at h
     rw [if_pos h2] at h
     exact wo (n:=k+1) (dt (cS (Nat.le_succ k) (Nat.le_refl _)) (Nat.le_refl _) h)
 · obtain ⟨n,hn⟩:=nV h
   refine ⟨n+1,?_⟩
   simp only [run,hg]
   rw [if_pos h2]
   exact dt (cS (n:=n) (n':=n) (k:=n) (k':=n+1) (Nat.le_refl _) (Nat.le_succ n)) (Nat.le_succ n) hn
end Go.Ab
