import Derived.Test.YtfhhognolpjikaaGreatAbDefs
/-
  Without fuel: the limit of the evaluator.
-/
set_option linter.unusedVariables false
set_option linter.unusedSimpArgs false
set_option maxRecDepth 100000
set_option maxHeartbeats 8000000
namespace Go.Ab
def wq {α:Type} (f:Nat→Option α):Prop:=∀k k' r,k≤k'→f k=some r→f k'=some r
open Classical in
noncomputable def FZ {α:Type} (f:Nat→Option α):Option α:=if h:∃r k,f k=some r then some h.choose else none
theorem qH {α:Type} {f:Nat→Option α} (hf:wq f) {k:Nat} {r:α} (h:f k=some r):FZ f=some r:=by
 have hex:∃r k,f k=some r:=⟨r,k,h⟩
 unfold FZ
 rw [dif_pos hex]
 obtain ⟨k',h'⟩:=hex.choose_spec
 have h1:=hf _ (max k k') _ (Nat.le_max_right _ _) h'
 have h2:=hf _ (max k k') _ (Nat.le_max_left _ _) h
 rw [h1] at h2
 exact h2
theorem gq {α:Type} {f:Nat→Option α} {r:α} (h:FZ f=some r):∃k,f k=some r:=by
 unfold FZ at h
 split at h
 · rename_i hex
   obtain ⟨k,hk⟩:=hex.choose_spec
   cases h
   exact ⟨k,hk⟩
 · simp at h
theorem qI {α:Type} {f:Nat→Option α} (h:∀k,f k=none):FZ f=none:=by
 cases hl:FZ f with
 | none=>rfl
 | some r=>obtain ⟨k,hk⟩:=gq hl;rw [h k] at hk;simp at hk
theorem ly {α:Type} {f:Nat→Option α} (hf:wq f) {o:Option α} (h1:∀k r,f k=some r→o=some r) (h2:∀r,o=some r→∃k,f k=some r):FZ f=o:=by
 cases ho:o with
 | none=>exact qI fun k=>by cases hk:f k with | none=>rfl | some r=>rw [h1 k r hk] at ho;simp at ho
 | some r=>obtain ⟨k,hk⟩:=h2 r ho;exact qH hf hk
structure eM.le (a b:eM):Prop where
 p:∀g x r,a.p g x=some r→b.p g x=some r
 i:∀g x s t r,a.i g x s t=some r→b.i g x s t=some r
theorem eM.le_refl (a:eM):a.le a:=⟨fun _ _ _ h=>h,fun _ _ _ _ _ h=>h⟩
theorem lO {a b:eM} (h:a.le b) {g:Nat} {own:List Nat} {vals:List AV} {sh:Sh} {ah:aM} {r:AV×Sh×aM} (e:eA a g own vals sh ah=some r):eA b g own vals sh ah=some r:=by
 unfold eA at *
 split at e
 · rename_i hp
   rw [if_pos hp]
   simp only [Option.map_eq_some_iff] at e ⊢
   obtain ⟨x,h1,h2⟩:=e
   exact ⟨x,h.i _ _ _ _ _ h1,h2⟩
 · simp at e
theorem C6 {a b:eM} (h:a.le b) {op:AK} {vals:List AV} {cells:Option (List AV)} {sh:Sh} {ah:aM} {r:Out} (e:exec a op vals cells sh ah=some r):exec b op vals cells sh ah=some r:=by
 cases op with
 | aA g=>
   simp only [exec] at e ⊢
   split at e
   · simp only [Option.map_eq_some_iff] at e ⊢
     obtain ⟨x,h1,h2⟩:=e
     exact ⟨x,h.p _ _ _ h1,h2⟩
   · simp at e
 | dG g=>
   simp only [exec] at e ⊢
   split at e
   · simp only [Option.map_eq_some_iff] at e ⊢
     obtain ⟨x,h1,h2⟩:=e
     exact ⟨x,h.p _ _ _ h1,h2⟩
   · simp at e
 | aL g own=>
   simp only [exec,Option.map_eq_some_iff] at e ⊢
   obtain ⟨x,h1,h2⟩:=e
   exact ⟨x,lO h h1,h2⟩
 | jn g=>
   simp only [exec] at e ⊢
   split at e
   · split at e
     · rename_i rs ts h1
       rw [h.i _ _ _ _ _ h1]
       exact e
     · simp at e
   · simp at e
 | ff=>
   cases vals with
   | nil=>simp [exec] at e
   | cons f vals=>
     cases f with
     | fn g cap=>
       simp only [exec,Option.map_eq_some_iff] at e ⊢
       obtain ⟨x,h1,h2⟩:=e
       exact ⟨x,lO h h1,h2⟩
     | _=>simp [exec] at e
 | _=>rw [←e];unfold exec;split<;>first | rfl | (rename_i heq;cases heq;done) | (simp at *;done)
theorem sV {a b:eM} (h:a.le b) {o:d4} {st r:St} (e:eB a o st=some r):eB b o st=some r:=by
 unfold eB at *
 cases hw:eY st.env o.guard with
 | none=>rw [hw] at e;simp at e
 | some t=>
   cases t with
   | false=>rw [hw] at e;exact e
   | true=>
     rw [hw] at e
     dsimp only at e ⊢
     cases hv:d5 st.env o.args with
     | none=>rw [hv] at e;simp at e
     | some vals=>
       rw [hv] at e
       dsimp only at e ⊢
       cases ho:exec a o.op vals (o.op.key.bind (look st.mem)) st.sh st.ah with
       | none=>rw [ho] at e;simp at e
       | some out=>
         rw [ho] at e
         rw [C6 h ho]
         exact e
theorem mj {a b:eM} (h:a.le b):∀{l:List d4} {st r:St},bW a l st=some r→bW b l st=some r
 | [],_,_,e=>e
 | o::l,st,r,e=>by
   simp only [bW] at e ⊢
   split at e
   · simp at e
   · rename_i st' ho
     rw [sV h ho]
     exact mj h e
theorem iQ {f f':St→Option (bf×St)} {pre:St→St} (h:∀s r,f s=some r→f' s=some r):∀{n n':Nat} {st:St} {r:bf×St},n≤n'→eR f pre n st=some r→eR f' pre n' st=some r
 | 0,_,_,_,_,e=>by simp [eR] at e
 | n+1,0,_,_,hn,_=>by omega
 | n+1,n'+1,st,r,hn,e=>by
   simp only [eR] at e ⊢
   cases hf:f (pre st) with
   | none=>rw [hf] at e;simp at e
   | some q=>
     rw [h _ _ hf]
     rw [hf] at e
     obtain ⟨x,s⟩:=q
     cases x with
     | normal=>exact iQ h (by omega) e
     | ret=>exact e
     | exit id=>exact e
theorem ml {f f':St→Option (bf×St)} (h:∀s r,f s=some r→f' s=some r) {live:List Nat} {pi px sz:Nat} {ag:Bool} {env:List (Nat×AV)}:∀{l:List (PV×Nat)} {st:St} {r:bf×St},
   iC f live pi px sz ag env l st=some r→iC f' live pi px sz ag env l st=some r
 | [],_,_,e=>e
 | (el,i)::l,st,r,e=>by
   simp only [iC] at e ⊢
   cases hv:rX sz ag el with
   | none=>rw [hv] at e;simp at e
   | some v=>
     rw [hv] at e
     simp only at e ⊢
     cases hf:f (norm (restrict live { st with env:=dL (dL env pi (.pv (.int .i64 i))) px v })) with
     | none=>rw [hf] at e;simp at e
     | some q=>
       rw [h _ _ hf]
       rw [hf] at e
       obtain ⟨x,s⟩:=q
       cases x with
       | normal=>exact ml h e
       | ret=>exact e
       | exit id=>exact e
theorem sd {f f':St→Option (bf×St)} (h:∀s r,f s=some r→f' s=some r) {v:Option AV} {gb pi px sz:Nat} {ag:Bool} {live:List Nat} {st:St} {r:bf×St}
   (e:iD f v gb pi px sz ag live st=some r):iD f' v gb pi px sz ag live st=some r:=by
 unfold iD at e ⊢
 split at e
 · split at e
   · rename_i hg
     rw [if_pos hg]
     split at e
     · split at e
       · rename_i hl
         rw [if_pos hl]
         exact ml h e
       · simp at e
     · simp at e
   · simp at e
 · simp at e
theorem ng {f g f' g':St→Option (bf×St)} (h:∀s r,f s=some r→f' s=some r) (k:∀s r,g s=some r→g' s=some r):∀s r,andThen f g s=some r→andThen f' g' s=some r:=by
 intro s r e
 unfold andThen at e ⊢
 cases hf:f s with
 | none=>rw [hf] at e;simp at e
 | some q=>
   rw [h _ _ hf]
   rw [hf] at e
   obtain ⟨x,t⟩:=q
   cases x with
   | normal=>exact k _ _ e
   | ret=>simp at e
   | exit id=>simp at e
theorem cJ {a b:eM} (h:a.le b) {k k':Nat} (hk:k≤k'):∀{c:aw} {st:St} {r:bf×St},dF a k c st=some r→dF b k' c st=some r
 | .skip,_,_,e=>e
 | .c_ _,_,_,e=>e
 | .ae ops live,st,r,e=>by
   simp only [dF] at e ⊢
   split at e
   · rename_i st' ho
     rw [mj h ho]
     exact e
   · simp at e
 | .seq x y,st,r,e=>by
   simp only [dF] at e ⊢
   cases hx:dF a k x st with
   | none=>rw [hx] at e;simp at e
   | some q=>
     rw [cJ h hk hx]
     rw [hx] at e
     obtain ⟨ex,s⟩:=q
     cases ex with
     | normal=>exact cJ h hk e
     | ret=>exact e
     | exit id=>exact e
 | .cond c x y,st,r,e=>by
   simp only [dF] at e ⊢
   split at e
   · rename_i t hc
     split at e
     · rename_i ht;rw [if_pos ht];exact cJ h hk e
     · rename_i ht;rw [if_neg ht];exact cJ h hk e
   · simp at e
 | .block id x,st,r,e=>by
   simp only [dF] at e ⊢
   cases hx:dF a k x st with
   | none=>rw [hx] at e;simp at e
   | some q=>
     rw [cJ h hk hx]
     rw [hx] at e
     exact e
 | .loop live x,st,r,e=>by
   simp only [dF] at e ⊢
   exact iQ (fun s r hs=>cJ h hk hs) hk e
 | .exit id,_,_,e=>e
 | .ret,_,_,e=>e
 | .back c gb pi px sz ag live x y,st,r,e=>by
   simp only [dF] at e ⊢
   exact sd (ng (fun s r hs=>cJ h hk hs) (fun s r hs=>cJ h hk hs)) e
theorem eG {a b:eM} (h:a.le b) {k k':Nat} (hk:k≤k') {bg:Bool} {af:aJ} {args:List AV} {sh:Sh} {ts:aM} {r:List AV×Sh×aM} (e:cE a k bg af args sh ts=some r):cE b k' bg af args sh ts=some r:=by
 unfold cE at *
 cases hc:dF a k af.body { env:=cD 0 args,mem:=[],sh,ah:=ts } with
 | none=>rw [hc] at e;simp at e
 | some q=>rw [cJ h hk hc];rw [hc] at e;exact e
variable {AP:Nat→Option aJ}
theorem dQ:∀{n n' k k':Nat},n≤n'→k≤k'→(run AP k n).le (run AP k' n')
 | 0,_,_,_,_,_=>⟨fun g x r e=>by simp [run] at e,fun g x s t r e=>by simp [run] at e⟩
 | n+1,0,_,_,h,_=>by omega
 | n+1,n'+1,k,k',h,hk=>by
   have ih:(run AP k n).le (run AP k' n'):=dQ (by omega) hk
   refine ⟨fun g x r e=>?_,fun g x s t r e=>?_⟩
   · simp only [run] at e ⊢
     cases hg:AP g with
     | none=>rw [hg] at e;simp at e
     | some af=>
       rw [hg] at e
       dsimp only at e ⊢
       cases hp:af.qg with
       | some f=>rw [hp] at e;exact e
       | none=>
         rw [hp] at e
         dsimp only at e ⊢
         split at e
         · rename_i hc
           rw [if_pos hc]
           cases hb:cE (run AP k n) k false af (x.map .pv) [] [] with
           | none=>rw [hb] at e;simp at e
           | some q=>rw [eG ih hk hb];rw [hb] at e;exact e
         · simp at e
   · simp only [run] at e ⊢
     cases hg:AP g with
     | none=>rw [hg] at e;simp at e
     | some af=>
       rw [hg] at e
       dsimp only at e ⊢
       split at e
       · rename_i hc
         rw [if_pos hc]
         exact eG ih hk e
       · simp at e
noncomputable def aN (AP:Nat→Option aJ):eM where
 p:=fun g x=>FZ fun n=>(run AP n n).p g x
 i:=fun g x s t=>FZ fun n=>(run AP n n).i g x s t
theorem pT (g:Nat) (x:List PV):wq fun n=>(run AP n n).p g x:=fun _ _ _ h e=>(dQ h h).p _ _ _ e
theorem B5 (g:Nat) (x:List AV) (s:Sh) (t:aM):wq fun n=>(run AP n n).i g x s t:=fun _ _ _ h e=>(dQ h h).i _ _ _ _ _ e
theorem MT (n:Nat):(run AP n n).le (aN AP):=⟨fun g x _ e=>qH (pT g x) e,fun g x s t _ e=>qH (B5 g x s t) e⟩
theorem t_ {g:Nat} {x:List PV} {r:List PV} (h:(aN AP).p g x=some r):∃n,(run AP n n).p g x=some r:=gq h
theorem B6 {g:Nat} {x:List AV} {s:Sh} {t:aM} {r:List AV×Sh×aM} (h:(aN AP).i g x s t=some r):∃n,(run AP n n).i g x s t=some r:=gq h
theorem qJ {g:Nat} {own:List Nat} {vals:List AV} {sh:Sh} {ah:aM} {r:AV×Sh×aM} (e:eA (aN AP) g own vals sh ah=some r):∃n,eA (run AP n n) g own vals sh ah=some r:=by
 unfold eA at *
 split at e
 · rename_i hp
   simp only [Option.map_eq_some_iff] at e
   obtain ⟨x,h1,h2⟩:=e
   obtain ⟨n,hn⟩:=B6 h1
   exact ⟨n,by rw [if_pos hp,hn];simp only [Option.map_some,h2]⟩
 · simp at e
theorem yT {op:AK} {vals:List AV} {cells:Option (List AV)} {sh:Sh} {ah:aM} {r:Out} (e:exec (aN AP) op vals cells sh ah=some r):∃n,exec (run AP n n) op vals cells sh ah=some r:=by
 cases op with
 | aA g=>
   simp only [exec] at e ⊢
   split at e
   · rename_i dE hp
     simp only [Option.map_eq_some_iff] at e
     obtain ⟨x,h1,h2⟩:=e
     obtain ⟨n,hn⟩:=t_ h1
     exact ⟨n,by rw [hn];simp only [Option.map_some,h2]⟩
   · simp at e
 | dG g=>
   simp only [exec] at e ⊢
   split at e
   · rename_i dE hp
     simp only [Option.map_eq_some_iff] at e
     obtain ⟨x,h1,h2⟩:=e
     obtain ⟨n,hn⟩:=t_ h1
     exact ⟨n,by rw [hn];simp only [Option.map_some,h2]⟩
   · simp at e
 | aL g own=>
   simp only [exec,Option.map_eq_some_iff] at e ⊢
   obtain ⟨x,h1,h2⟩:=e
   obtain ⟨n,hn⟩:=qJ h1
   exact ⟨n,x,hn,h2⟩
 | jn g=>
   simp only [exec] at e ⊢
   split at e
   · split at e
     · rename_i rs ts h1
       obtain ⟨n,hn⟩:=B6 h1
       exact ⟨n,by rw [hn];exact e⟩
     · simp at e
   · simp at e
 | ff=>
   cases vals with
   | nil=>simp [exec] at e
   | cons f vals=>
     cases f with
     | fn g cap=>
       simp only [exec,Option.map_eq_some_iff] at e ⊢
       obtain ⟨x,h1,h2⟩:=e
       obtain ⟨n,hn⟩:=qJ h1
       exact ⟨n,x,hn,h2⟩
     | _=>simp [exec] at e
 | _=>exact ⟨0,by rw [←e];unfold exec;split<;>first | rfl | (rename_i heq;cases heq;done) | (simp at *;done)⟩
theorem Gg {o:d4} {st r:St} (e:eB (aN AP) o st=some r):∃n,eB (run AP n n) o st=some r:=by
 unfold eB at *
 cases hw:eY st.env o.guard with
 | none=>rw [hw] at e;simp at e
 | some t=>
   cases t with
   | false=>rw [hw] at e;exact ⟨0,e⟩
   | true=>
     rw [hw] at e
     dsimp only at e ⊢
     cases hv:d5 st.env o.args with
     | none=>rw [hv] at e;simp at e
     | some vals=>
       rw [hv] at e
       dsimp only at e ⊢
       cases ho:exec (aN AP) o.op vals (o.op.key.bind (look st.mem)) st.sh st.ah with
       | none=>rw [ho] at e;simp at e
       | some out=>
         obtain ⟨n,hn⟩:=yT ho
         rw [ho] at e
         exact ⟨n,by rw [hn];exact e⟩
theorem sW:∀{l:List d4} {st r:St},bW (aN AP) l st=some r→∃n,bW (run AP n n) l st=some r
 | [],_,_,e=>⟨0,e⟩
 | o::l,st,r,e=>by
   simp only [bW] at e ⊢
   cases ho:eB (aN AP) o st with
   | none=>rw [ho] at e;simp at e
   | some s=>
     rw [ho] at e
     obtain ⟨n,hn⟩:=Gg ho
     obtain ⟨m,hm⟩:=sW (l:=l) e
     refine ⟨max n m,?_⟩
     rw [sV (dQ (Nat.le_max_left n m) (Nat.le_max_left n m)) hn]
     exact mj (dQ (Nat.le_max_right n m) (Nat.le_max_right n m)) hm
theorem qK {k:Nat} {c:aw} {pre:St→St} (ih:∀{st:St} {r:bf×St},dF (aN AP) k c st=some r→∃n,dF (run AP n n) n c st=some r) :
   ∀{j:Nat} {st:St} {r:bf×St},eR (dF (aN AP) k c) pre j st=some r→∃n,eR (dF (run AP n n) n c) pre n st=some r
 | 0,_,_,e=>by simp [eR] at e
 | j+1,st,r,e=>by
   simp only [eR] at e
   cases hf:dF (aN AP) k c (pre st) with
   | none=>rw [hf] at e;simp at e
   | some q=>
     obtain ⟨n,hn⟩:=ih hf
     rw [hf] at e
     obtain ⟨x,s⟩:=q
     cases x with
     | normal=>
       obtain ⟨m,hm⟩:=qK ih e
       refine ⟨max n m+1,?_⟩
       simp only [eR]
       rw [cJ (dQ (n:=n) (n':=max n m+1) (by omega) (by omega)) (k:=n) (k':=max n m+1) (by omega) hn]
       exact iQ (fun s r hs=>cJ (dQ (n:=m) (by omega) (by omega)) (k:=m) (by omega) hs) (n:=m) (by omega) hm
     | ret=>
       refine ⟨n+1,?_⟩
       simp only [eR]
       rw [cJ (dQ (n:=n) (n':=n+1) (by omega) (by omega)) (k:=n) (k':=n+1) (by omega) hn]
       exact e
     | exit id=>
       refine ⟨n+1,?_⟩
       simp only [eR]
       rw [cJ (dQ (n:=n) (n':=n+1) (by omega) (by omega)) (k:=n) (k':=n+1) (by omega) hn]
       exact e
theorem og {n m:Nat} (h:n≤m) {c:aw} {st:St} {r:bf×St} (e:dF (run AP n n) n c st=some r):dF (run AP m m) m c st=some r:=cJ (dQ h h) h e
theorem se {k:Nat} {x y:aw} (ihx:∀{st:St} {r:bf×St},dF (aN AP) k x st=some r→∃n,dF (run AP n n) n x st=some r) (ihy:∀{st:St} {r:bf×St},dF (aN AP) k y st=some r→∃n,dF (run AP n n) n y st=some r)
   {st:St} {r:bf×St} (e:andThen (dF (aN AP) k x) (dF (aN AP) k y) st=some r):∃n,andThen (dF (run AP n n) n x) (dF (run AP n n) n y) st=some r:=by
 unfold andThen at e ⊢
 cases hx:dF (aN AP) k x st with
 | none=>rw [hx] at e;simp at e
 | some q=>
   obtain ⟨n,hn⟩:=ihx hx
   rw [hx] at e
   obtain ⟨ex,s⟩:=q
   cases ex with
   | normal=>
     obtain ⟨m,hm⟩:=ihy e
     exact ⟨max n m,by rw [og (Nat.le_max_left n m) hn];exact og (Nat.le_max_right n m) hm⟩
   | ret=>simp at e
   | exit id=>simp at e
theorem qL {F:St→Option (bf×St)} {f:Nat→St→Option (bf×St)} (hm:∀{n m:Nat},n≤m→∀s r,f n s=some r→f m s=some r) (ih:∀{st:St} {r:bf×St},F st=some r→∃n,f n st=some r)
   {live:List Nat} {pi px sz:Nat} {ag:Bool} {env:List (Nat×AV)}:∀{l:List (PV×Nat)} {st:St} {r:bf×St},iC F live pi px sz ag env l st=some r→∃n,iC (f n) live pi px sz ag env l st=some r
 | [],_,_,e=>⟨0,e⟩
 | (el,i)::l,st,r,e=>by
   simp only [iC] at e ⊢
   cases hv:rX sz ag el with
   | none=>rw [hv] at e;simp at e
   | some v=>
     rw [hv] at e
     simp only at e ⊢
     cases hf:F (norm (restrict live { st with env:=dL (dL env pi (.pv (.int .i64 i))) px v })) with
     | none=>rw [hf] at e;simp at e
     | some q=>
       obtain ⟨n,hn⟩:=ih hf
       rw [hf] at e
       obtain ⟨x,s⟩:=q
       cases x with
       | normal=>
         obtain ⟨m,hm'⟩:=qL hm ih e
         exact ⟨max n m,by rw [hm (Nat.le_max_left n m) _ _ hn];exact ml (hm (Nat.le_max_right n m)) hm'⟩
       | ret=>exact ⟨n,by rw [hn];exact e⟩
       | exit id=>exact ⟨n,by rw [hn];exact e⟩
theorem ix {k:Nat}:∀{c:aw} {st:St} {r:bf×St},dF (aN AP) k c st=some r→∃n,dF (run AP n n) n c st=some r
 | .skip,_,_,e=>⟨0,e⟩
 | .c_ _,_,_,e=>⟨0,e⟩
 | .ae ops live,st,r,e=>by
   simp only [dF] at e ⊢
   cases ho:bW (aN AP) ops st with
   | none=>rw [ho] at e;simp at e
   | some s=>obtain ⟨n,hn⟩:=sW ho;rw [ho] at e;exact ⟨n,by rw [hn];exact e⟩
 | .seq x y,st,r,e=>by
   simp only [dF] at e ⊢
   cases hx:dF (aN AP) k x st with
   | none=>rw [hx] at e;simp at e
   | some q=>
     obtain ⟨n,hn⟩:=ix hx
     rw [hx] at e
     obtain ⟨ex,s⟩:=q
     cases ex with
     | normal=>
       obtain ⟨m,hm⟩:=ix (c:=y) e
       exact ⟨max n m,by rw [og (Nat.le_max_left n m) hn];exact og (Nat.le_max_right n m) hm⟩
     | ret=>exact ⟨n,by rw [hn];exact e⟩
     | exit id=>exact ⟨n,by rw [hn];exact e⟩
 | .cond c x y,st,r,e=>by
   simp only [dF] at e ⊢
   split at e
   · rename_i t hc
     split at e
     · rename_i ht
       obtain ⟨n,hn⟩:=ix e
       exact ⟨n,by rw [if_pos ht];exact hn⟩
     · rename_i ht
       obtain ⟨n,hn⟩:=ix e
       exact ⟨n,by rw [if_neg ht];exact hn⟩
   · simp at e
 | .block id x,st,r,e=>by
   simp only [dF] at e ⊢
   cases hx:dF (aN AP) k x st with
   | none=>rw [hx] at e;simp at e
   | some q=>
     obtain ⟨n,hn⟩:=ix hx
     rw [hx] at e
     exact ⟨n,by rw [hn];exact e⟩
 | .loop live x,st,r,e=>by
   simp only [dF] at e ⊢
   exact qK (fun h=>ix h) e
 | .exit id,_,_,e=>⟨0,e⟩
 | .ret,_,_,e=>⟨0,e⟩
 | .back c gb pi px sz ag live x y,st,r,e=>by
   simp only [dF] at e ⊢
   unfold iD at e ⊢
   split at e
   · split at e
     · rename_i hg
       split at e
       · split at e
         · rename_i hl
           obtain ⟨n,hn⟩:=qL (f:=fun n=>andThen (dF (run AP n n) n x) (dF (run AP n n) n y)) (fun h=>ng (fun s r hs=>og h hs) (fun s r hs=>og h hs)) (se (fun h=>ix h) (fun h=>ix h)) e
           exact ⟨n,by rw [if_pos hg,if_pos hl];exact hn⟩
         · simp at e
       · simp at e
     · simp at e
   · simp at e
noncomputable def cl (AP:Nat→Option aJ) (c:aw) (st:St):Option (bf×St):=FZ fun k=>dF (aN AP) k c st
theorem pU (c:aw) (st:St):wq fun k=>dF (aN AP) k c st:=fun _ _ _ h e=>cJ (eM.le_refl _) h e
theorem kg {c:aw} {st:St} {k:Nat} {r:bf×St} (h:dF (aN AP) k c st=some r):cl AP c st=some r:=qH (pU c st) h
theorem JT {st:St}:cl AP .skip st=some (.normal,st):=kg (k:=0) rfl
theorem JU {id:Nat} {st:St}:cl AP (.exit id) st=some (.exit id,st):=kg (k:=0) rfl
theorem MU {ts:List Nat} {st:St}:cl AP (.c_ ts) st=some (.normal,kp ts st):=kg (k:=0) rfl
theorem MV {st:St}:cl AP .ret st=some (.ret,st):=kg (k:=0) rfl
theorem MW {ops:List d4} {live:List Nat} {st:St}:cl AP (.ae ops live) st=(bW (aN AP) ops st).map fun st'=>(.normal,restrict live st'):=by
 cases h:bW (aN AP) ops st with
 | none=>exact qI fun k=>by simp only [dF,h]
 | some s=>exact kg (k:=0) (by simp only [dF,h])
def after (f:St→Option (bf×St)):Option (bf×St)→Option (bf×St)
 | some (.normal,st)=>f st
 | r=>r
theorem MX {a b:aw} {st:St}:cl AP (.seq a b) st=after (cl AP b) (cl AP a st):=by
 refine ly (pU _ _) (fun k r h=>?_) fun r h=>?_
 · simp only [dF] at h
   cases hx:dF (aN AP) k a st with
   | none=>rw [hx] at h;simp at h
   | some q=>
     rw [kg hx]
     rw [hx] at h
     obtain ⟨ex,s⟩:=q
     cases ex with
     | normal=>exact kg h
     | ret=>exact h
     | exit id=>exact h
 · cases hx:cl AP a st with
   | none=>rw [hx] at h;simp [after] at h
   | some q=>
     obtain ⟨k,hk⟩:=gq hx
     rw [hx] at h
     obtain ⟨ex,s⟩:=q
     cases ex with
     | normal=>
       obtain ⟨k',hk'⟩:=gq (show FZ (fun k=>dF (aN AP) k b s)=some r from h)
       refine ⟨max k k',?_⟩
       simp only [dF]
       rw [cJ (eM.le_refl _) (Nat.le_max_left k k') hk]
       exact cJ (eM.le_refl _) (Nat.le_max_right k k') hk'
     | ret=>exact ⟨k,by simp only [dF];rw [hk];exact h⟩
     | exit id=>exact ⟨k,by simp only [dF];rw [hk];exact h⟩
theorem JV {c:eL} {a b:aw} {st:St} {t:Bool} (h:gJ st.env c=some (.pv (.bool t))):cl AP (.cond c a b) st=if t then cl AP a st else cl AP b st:=by
 unfold cl
 simp only [dF,h]
 cases t<;>rfl
def leave (id:Nat):Option (bf×St)→Option (bf×St)
 | some (.exit id',st)=>if id'=id then some (.normal,st) else some (.exit id',st)
 | r=>r
theorem Gi {id:Nat} {b:aw} {st:St}:cl AP (.block id b) st=leave id (cl AP b st):=by
 refine ly (pU _ _) (fun k r h=>?_) fun r h=>?_
 · simp only [dF] at h
   cases hx:dF (aN AP) k b st with
   | none=>rw [hx] at h;simp at h
   | some q=>rw [kg hx];rw [hx] at h;exact h
 · cases hx:cl AP b st with
   | none=>rw [hx] at h;simp [leave] at h
   | some q=>
     obtain ⟨k,hk⟩:=gq hx
     rw [hx] at h
     exact ⟨k,by simp only [dF];rw [hk];exact h⟩
theorem aG {live:List Nat} {b:aw} {st:St}:cl AP (.loop live b) st=after (cl AP (.loop live b)) (cl AP b (norm (restrict live st))):=by
 refine ly (pU _ _) (fun k r h=>?_) fun r h=>?_
 · simp only [dF] at h
   cases k with
   | zero=>simp [eR] at h
   | succ k=>
     simp only [eR] at h
     cases hx:dF (aN AP) (k+1) b (norm (restrict live st)) with
     | none=>rw [hx] at h;simp at h
     | some q=>
       rw [kg hx]
       rw [hx] at h
       obtain ⟨ex,s⟩:=q
       cases ex with
       | normal=>exact kg (k:=k+1) (by simp only [dF];exact iQ (fun _ _ h=>h) (Nat.le_succ k) h)
       | ret=>exact h
       | exit id=>exact h
 · cases hx:cl AP b (norm (restrict live st)) with
   | none=>rw [hx] at h;simp [after] at h
   | some q=>
     obtain ⟨k,hk⟩:=gq hx
     rw [hx] at h
     obtain ⟨ex,s⟩:=q
     have up:∀m,k≤m→dF (aN AP) m b (norm (restrict live st))=some (ex,s):=fun m hm=>cJ (eM.le_refl _) hm hk
     cases ex with
     | normal=>
       obtain ⟨k',hk'⟩:=gq (show FZ (fun k=>dF (aN AP) k (.loop live b) s)=some r from h)
       refine ⟨max k k'+1,?_⟩
       simp only [dF,eR]
       rw [up _ (by omega)]
       simp only [dF] at hk'
       exact iQ (fun _ _ h=>cJ (eM.le_refl _) (by omega) h) (by omega) hk'
     | ret=>exact ⟨k+1,by simp only [dF,eR];rw [up _ (by omega)];exact h⟩
     | exit id=>exact ⟨k+1,by simp only [dF,eR];rw [up _ (by omega)];exact h⟩
def finish (bg:Bool) (af:aJ) (sh:Sh):Option (bf×St)→Option (List AV×Sh×aM)
 | some (e,st)=>
   if e=.ret∨e=.normal then
     match eg st af.results with
     | some vs=>
       let rs:=cL bg af.ks st.sh vs
       let sh':=if rs.all (aS sh.length)=true then (eJ bg af.ks st.sh vs).take sh.length else eJ bg af.ks st.sh vs
       if rs.all ca=true then some ((dh st.ah rs sh').1,(dh st.ah rs sh').2.1,(dh st.ah rs sh').2.2.2) else none
     | none=>none
   else none
 | none=>none
theorem fH {orc:eM} {k:Nat} {bg:Bool} {af:aJ} {args:List AV} {sh:Sh} {ts:aM}:cE orc k bg af args sh ts=finish bg af sh (dF orc k af.body { env:=cD 0 args,mem:=[],sh,ah:=ts }):=by
 unfold cE finish
 cases dF orc k af.body { env:=cD 0 args,mem:=[],sh,ah:=ts } with
 | none=>rfl
 | some q=>obtain ⟨e,st⟩:=q;rfl
noncomputable def lP (AP:Nat→Option aJ) (bg:Bool) (af:aJ) (args:List AV) (sh:Sh) (ts:aM):Option (List AV×Sh×aM):=
 finish bg af sh (cl AP af.body { env:=cD 0 args,mem:=[],sh,ah:=ts })
theorem sX {bg:Bool} {af:aJ} {args:List AV} {sh:Sh} {ts:aM} {r:List AV×Sh×aM} (h:lP AP bg af args sh ts=some r):∃n,cE (run AP n n) n bg af args sh ts=some r:=by
 unfold lP at h
 cases hc:cl AP af.body { env:=cD 0 args,mem:=[],sh,ah:=ts } with
 | none=>rw [hc] at h;simp [finish] at h
 | some q=>
   obtain ⟨k,hk⟩:=gq hc
   obtain ⟨n,hn⟩:=ix hk
   exact ⟨n,by rw [fH,hn,←hc];exact h⟩
theorem B7 {n:Nat} {bg:Bool} {af:aJ} {args:List AV} {sh:Sh} {ts:aM} {r:List AV×Sh×aM} (h:cE (run AP n n) n bg af args sh ts=some r):lP AP bg af args sh ts=some r:=by
 rw [fH] at h
 unfold lP
 cases hc:dF (run AP n n) n af.body { env:=cD 0 args,mem:=[],sh,ah:=ts } with
 | none=>rw [hc] at h;simp [finish] at h
 | some q=>
   rw [kg (cJ (MT n) (Nat.le_refl n) hc)]
   rw [hc] at h
   exact h
theorem LK {g:Nat} {af:aJ} {x:List PV} (hg:AP g=some af) (hp:af.qg=none) (h1:x.length=af.nparams) (h2:x.length≤af.ntmps) :
   (aN AP).p g x=(lP AP false af (x.map .pv) [] []).bind fun r=>fq r.1:=by
 refine ly (pT g x) (fun k r h=>?_) fun r h=>?_
 · cases k with
   | zero=>simp [run] at h
   | succ k=>
     simp only [run,hg,hp] at h
     rw [if_pos ⟨h1,h2⟩] at h
     cases hb:cE (run AP (k+1) k) (k+1) false af (x.map .pv) [] [] with
     | none=>rw [hb] at h;simp at h
     | some q=>
       rw [B7 (n:=k+1) (eG (dQ (Nat.le_succ k) (Nat.le_refl _)) (Nat.le_refl _) hb)]
       rw [hb] at h
       exact h
 · cases hb:lP AP false af (x.map .pv) [] [] with
   | none=>rw [hb] at h;simp at h
   | some q=>
     obtain ⟨n,hn⟩:=sX hb
     rw [hb] at h
     refine ⟨n+1,?_⟩
     simp only [run,hg,hp]
     rw [if_pos ⟨h1,h2⟩,eG (dQ (n:=n) (n':=n) (k:=n) (k':=n+1) (Nat.le_refl _) (Nat.le_succ n)) (Nat.le_succ n) hn]
     exact h
theorem JW {g:Nat} {af:aJ} {x:List PV} {f:List PV→Option (List PV)} (hg:AP g=some af) (hp:af.qg=some f):(aN AP).p g x=f x:=by
 refine ly (pT g x) (fun k r h=>?_) fun r h=>?_
 · cases k with
   | zero=>simp [run] at h
   | succ k=>simpa only [run,hg,hp] using h
 · exact ⟨1,by simpa only [run,hg,hp] using h⟩
theorem LL {g:Nat} {af:aJ} {x:List AV} {sh:Sh} {ts:aM} (hg:AP g=some af) (h2:x.length≤af.ntmps):(aN AP).i g x sh ts=lP AP true af x sh ts:=by
 refine ly (B5 g x sh ts) (fun k r h=>?_) fun r h=>?_
 · cases k with
   | zero=>simp [run] at h
   | succ k=>
     simp only [run,hg] at h
     rw [if_pos h2] at h
     exact B7 (n:=k+1) (eG (dQ (Nat.le_succ k) (Nat.le_refl _)) (Nat.le_refl _) h)
 · obtain ⟨n,hn⟩:=sX h
   refine ⟨n+1,?_⟩
   simp only [run,hg]
   rw [if_pos h2]
   exact eG (dQ (n:=n) (n':=n) (k:=n) (k':=n+1) (Nat.le_refl _) (Nat.le_succ n)) (Nat.le_succ n) hn
end Go.Ab
