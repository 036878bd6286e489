import Derived.Test.YtfhhognolpjikaaAbDefs
/-
  Without fuel: the limit of the evaluator.
-/
set_option linter.unusedVariables false
set_option linter.unusedSimpArgs false
set_option maxRecDepth 100000
set_option maxHeartbeats 8000000
namespace Go.Ab
def rz {α:Type} (f:Nat→Option α):Prop:=∀k k' r,k≤k'→f k=some r→f k'=some r
open Classical in
noncomputable def AI {α:Type} (f:Nat→Option α):Option α:=if h:∃r k,f k=some r then some h.choose else none
theorem nb {α:Type} {f:Nat→Option α} (hf:rz f) {k:Nat} {r:α} (h:f k=some r):AI f=some r:=by
 have hex:∃r k,f k=some r:=⟨r,k,h⟩
 unfold AI
 rw [dif_pos hex]
 obtain ⟨k',h'⟩:=hex.choose_spec
 have h1:=hf _ (max k k') _ (Nat.le_max_right _ _) h'
 have h2:=hf _ (max k k') _ (Nat.le_max_left _ _) h
 rw [h1] at h2
 exact h2
theorem e6 {α:Type} {f:Nat→Option α} {r:α} (h:AI f=some r):∃k,f k=some r:=by
 unfold AI at h
 split at h
 · rename_i hex
   obtain ⟨k,hk⟩:=hex.choose_spec
   cases h
   exact ⟨k,hk⟩
 · simp at h
theorem nc {α:Type} {f:Nat→Option α} (h:∀k,f k=none):AI f=none:=by
 cases hl:AI f with
 | none=>rfl
 | some r=>obtain ⟨k,hk⟩:=e6 hl;rw [h k] at hk;simp at hk
theorem jy {α:Type} {f:Nat→Option α} (hf:rz f) {o:Option α} (h1:∀k r,f k=some r→o=some r) (h2:∀r,o=some r→∃k,f k=some r):AI f=o:=by
 cases ho:o with
 | none=>exact nc fun k=>by cases hk:f k with | none=>rfl | some r=>rw [h1 k r hk] at ho;simp at ho
 | some r=>obtain ⟨k,hk⟩:=h2 r ho;exact nb hf hk
structure d0.le (a b:d0):Prop where
 p:∀g x r,a.p g x=some r→b.p g x=some r
 i:∀g x s t r,a.i g x s t=some r→b.i g x s t=some r
theorem d0.le_refl (a:d0):a.le a:=⟨fun _ _ _ h=>h,fun _ _ _ _ _ h=>h⟩
theorem jL {a b:d0} (h:a.le b) {g:Nat} {own:List Nat} {vals:List AV} {sh:Sh} {aa:au} {r:AV×Sh×au} (e:dP a g own vals sh aa=some r):dP b g own vals sh aa=some r:=by
 unfold dP at *
 split at e
 · rename_i hp
   rw [if_pos hp]
   simp only [Option.map_eq_some_iff] at e ⊢
   obtain ⟨x,h1,h2⟩:=e
   exact ⟨x,h.i _ _ _ _ _ h1,h2⟩
 · simp at e
theorem ya {a b:d0} (h:a.le b) {op:AK} {vals:List AV} {cells:Option (List AV)} {sh:Sh} {aa:au} {r:Out} (e:exec a op vals cells sh aa=some r):exec b op vals cells sh aa=some r:=by
 cases op with
 | aB g=>
   simp only [exec] at e ⊢
   split at e
   · simp only [Option.map_eq_some_iff] at e ⊢
     obtain ⟨x,h1,h2⟩:=e
     exact ⟨x,h.p _ _ _ h1,h2⟩
   · simp at e
 | eI g=>
   simp only [exec] at e ⊢
   split at e
   · simp only [Option.map_eq_some_iff] at e ⊢
     obtain ⟨x,h1,h2⟩:=e
     exact ⟨x,h.p _ _ _ h1,h2⟩
   · simp at e
 | aA g own=>
   simp only [exec,Option.map_eq_some_iff] at e ⊢
   obtain ⟨x,h1,h2⟩:=e
   exact ⟨x,jL h h1,h2⟩
 | hP g=>
   simp only [exec] at e ⊢
   split at e
   · split at e
     · rename_i rs ts h1
       rw [h.i _ _ _ _ _ h1]
       exact e
     · simp at e
   · simp at e
 | eB=>
   cases vals with
   | nil=>simp [exec] at e
   | cons f vals=>
     cases f with
     | fn g cap=>
       simp only [exec,Option.map_eq_some_iff] at e ⊢
       obtain ⟨x,h1,h2⟩:=e
       exact ⟨x,jL h h1,h2⟩
     | _=>simp [exec] at e
 | _=>rw [←e];unfold exec;split<;>first | rfl | (rename_i heq;cases heq;done) | (simp at *;done)
theorem oM {a b:d0} (h:a.le b) {o:dt} {st r:St} (e:dQ a o st=some r):dQ b o st=some r:=by
 unfold dQ at *
 cases hw:eh st.env o.guard with
 | none=>rw [hw] at e;simp at e
 | some t=>
   cases t with
   | false=>rw [hw] at e;exact e
   | true=>
     rw [hw] at e
     dsimp only at e ⊢
     cases hv:dv st.env o.args with
     | none=>rw [hv] at e;simp at e
     | some vals=>
       rw [hv] at e
       dsimp only at e ⊢
       cases ho:exec a o.op vals (o.op.key.bind (look st.mem)) st.sh st.aa with
       | none=>rw [ho] at e;simp at e
       | some out=>
         rw [ho] at e
         rw [ya h ho]
         exact e
theorem j9 {a b:d0} (h:a.le b):∀{l:List dt} {st r:St},bA a l st=some r→bA b l st=some r
 | [],_,_,e=>e
 | o::l,st,r,e=>by
   simp only [bA] at e ⊢
   split at e
   · simp at e
   · rename_i st' ho
     rw [oM h ho]
     exact j9 h e
theorem gF {f f':St→Option (aO×St)} {pre:St→St} (h:∀s r,f s=some r→f' s=some r):∀{n n':Nat} {st:St} {r:aO×St},n≤n'→d8 f pre n st=some r→d8 f' pre n' st=some r
 | 0,_,_,_,_,e=>by simp [d8] at e
 | n+1,0,_,_,hn,_=>by omega
 | n+1,n'+1,st,r,hn,e=>by
   simp only [d8] at e ⊢
   cases hf:f (pre st) with
   | none=>rw [hf] at e;simp at e
   | some q=>
     rw [h _ _ hf]
     rw [hf] at e
     obtain ⟨x,s⟩:=q
     cases x with
     | normal=>exact gF h (by omega) e
     | ret=>exact e
     | exit id=>exact e
theorem j_ {f f':St→Option (aO×St)} (h:∀s r,f s=some r→f' s=some r) {live:List Nat} {pi px sz:Nat} {ag:Bool} {env:List (Nat×AV)}:∀{l:List (PV×Nat)} {st:St} {r:aO×St},
   gm f live pi px sz ag env l st=some r→gm f' live pi px sz ag env l st=some r
 | [],_,_,e=>e
 | (el,i)::l,st,r,e=>by
   simp only [gm] at e ⊢
   cases hv:nU sz ag el with
   | none=>rw [hv] at e;simp at e
   | some v=>
     rw [hv] at e
     simp only at e ⊢
     cases hf:f (norm (restrict live { st with env:=db (db env pi (.pv (.int .i64 i))) px v })) with
     | none=>rw [hf] at e;simp at e
     | some q=>
       rw [h _ _ hf]
       rw [hf] at e
       obtain ⟨x,s⟩:=q
       cases x with
       | normal=>exact j_ h e
       | ret=>exact e
       | exit id=>exact e
theorem oc {f f':St→Option (aO×St)} (h:∀s r,f s=some r→f' s=some r) {v:Option AV} {gb pi px sz:Nat} {ag:Bool} {live:List Nat} {st:St} {r:aO×St}
   (e:gn f v gb pi px sz ag live st=some r):gn f' v gb pi px sz ag live st=some r:=by
 unfold gn at e ⊢
 split at e
 · split at e
   · rename_i hg
     rw [if_pos hg]
     split at e
     · split at e
       · rename_i hl
         rw [if_pos hl]
         exact j_ h e
       · simp at e
     · simp at e
   · simp at e
 · simp at e
theorem kO {f g f' g':St→Option (aO×St)} (h:∀s r,f s=some r→f' s=some r) (k:∀s r,g s=some r→g' s=some r):∀s r,andThen f g s=some r→andThen f' g' s=some r:=by
 intro s r e
 unfold andThen at e ⊢
 cases hf:f s with
 | none=>rw [hf] at e;simp at e
 | some q=>
   rw [h _ _ hf]
   rw [hf] at e
   obtain ⟨x,t⟩:=q
   cases x with
   | normal=>exact k _ _ e
   | ret=>simp at e
   | exit id=>simp at e
theorem bT {a b:d0} (h:a.le b) {k k':Nat} (hk:k≤k'):∀{c:aw} {st:St} {r:aO×St},cV a k c st=some r→cV b k' c st=some r
 | .skip,_,_,e=>e
 | .eM _,_,_,e=>e
 | .ah ops live,st,r,e=>by
   simp only [cV] at e ⊢
   split at e
   · rename_i st' ho
     rw [j9 h ho]
     exact e
   · simp at e
 | .seq x y,st,r,e=>by
   simp only [cV] at e ⊢
   cases hx:cV a k x st with
   | none=>rw [hx] at e;simp at e
   | some q=>
     rw [bT h hk hx]
     rw [hx] at e
     obtain ⟨ex,s⟩:=q
     cases ex with
     | normal=>exact bT h hk e
     | ret=>exact e
     | exit id=>exact e
 | .cond c x y,st,r,e=>by
   simp only [cV] at e ⊢
   split at e
   · rename_i t hc
     split at e
     · rename_i ht;rw [if_pos ht];exact bT h hk e
     · rename_i ht;rw [if_neg ht];exact bT h hk e
   · simp at e
 | .block id x,st,r,e=>by
   simp only [cV] at e ⊢
   cases hx:cV a k x st with
   | none=>rw [hx] at e;simp at e
   | some q=>
     rw [bT h hk hx]
     rw [hx] at e
     exact e
 | .loop live x,st,r,e=>by
   simp only [cV] at e ⊢
   exact gF (fun s r hs=>bT h hk hs) hk e
 | .exit id,_,_,e=>e
 | .ret,_,_,e=>e
 | .back c gb pi px sz ag live x y,st,r,e=>by
   simp only [cV] at e ⊢
   exact oc (kO (fun s r hs=>bT h hk hs) (fun s r hs=>bT h hk hs)) e
theorem dT {a b:d0} (h:a.le b) {k k':Nat} (hk:k≤k') {aM:Bool} {af:aC} {args:List AV} {sh:Sh} {ts:au} {r:List AV×Sh×au} (e:bQ a k aM af args sh ts=some r):bQ b k' aM af args sh ts=some r:=by
 unfold bQ at *
 cases hc:cV a k af.body { env:=bP 0 args,mem:=[],sh,aa:=ts } with
 | none=>rw [hc] at e;simp at e
 | some q=>rw [bT h hk hc];rw [hc] at e;exact e
variable {AP:Nat→Option aC}
theorem dg:∀{n n' k k':Nat},n≤n'→k≤k'→(run AP k n).le (run AP k' n')
 | 0,_,_,_,_,_=>⟨fun g x r e=>by simp [run] at e,fun g x s t r e=>by simp [run] at e⟩
 | n+1,0,_,_,h,_=>by omega
 | n+1,n'+1,k,k',h,hk=>by
   have ih:(run AP k n).le (run AP k' n'):=dg (by omega) hk
   refine ⟨fun g x r e=>?_,fun g x s t r e=>?_⟩
   · simp only [run] at e ⊢
     cases hg:AP g with
     | none=>rw [hg] at e;simp at e
     | some af=>
       rw [hg] at e
       dsimp only at e ⊢
       cases hp:af.mI with
       | some f=>rw [hp] at e;exact e
       | none=>
         rw [hp] at e
         dsimp only at e ⊢
         split at e
         · rename_i hc
           rw [if_pos hc]
           cases hb:bQ (run AP k n) k false af (x.map .pv) [] [] with
           | none=>rw [hb] at e;simp at e
           | some q=>rw [dT ih hk hb];rw [hb] at e;exact e
         · simp at e
   · simp only [run] at e ⊢
     cases hg:AP g with
     | none=>rw [hg] at e;simp at e
     | some af=>
       rw [hg] at e
       dsimp only at e ⊢
       split at e
       · rename_i hc
         rw [if_pos hc]
         exact dT ih hk e
       · simp at e
noncomputable def aW (AP:Nat→Option aC):d0 where
 p:=fun g x=>AI fun n=>(run AP n n).p g x
 i:=fun g x s t=>AI fun n=>(run AP n n).i g x s t
theorem mB (g:Nat) (x:List PV):rz fun n=>(run AP n n).p g x:=fun _ _ _ h e=>(dg h h).p _ _ _ e
theorem xg (g:Nat) (x:List AV) (s:Sh) (t:au):rz fun n=>(run AP n n).i g x s t:=fun _ _ _ h e=>(dg h h).i _ _ _ _ _ e
theorem FH (n:Nat):(run AP n n).le (aW AP):=⟨fun g x _ e=>nb (mB g x) e,fun g x s t _ e=>nb (xg g x s t) e⟩
theorem pH {g:Nat} {x:List PV} {r:List PV} (h:(aW AP).p g x=some r):∃n,(run AP n n).p g x=some r:=e6 h
theorem xh {g:Nat} {x:List AV} {s:Sh} {t:au} {r:List AV×Sh×au} (h:(aW AP).i g x s t=some r):∃n,(run AP n n).i g x s t=some r:=e6 h
theorem nd {g:Nat} {own:List Nat} {vals:List AV} {sh:Sh} {aa:au} {r:AV×Sh×au} (e:dP (aW AP) g own vals sh aa=some r):∃n,dP (run AP n n) g own vals sh aa=some r:=by
 unfold dP at *
 split at e
 · rename_i hp
   simp only [Option.map_eq_some_iff] at e
   obtain ⟨x,h1,h2⟩:=e
   obtain ⟨n,hn⟩:=xh h1
   exact ⟨n,by rw [if_pos hp,hn];simp only [Option.map_some,h2]⟩
 · simp at e
theorem tN {op:AK} {vals:List AV} {cells:Option (List AV)} {sh:Sh} {aa:au} {r:Out} (e:exec (aW AP) op vals cells sh aa=some r):∃n,exec (run AP n n) op vals cells sh aa=some r:=by
 cases op with
 | aB g=>
   simp only [exec] at e ⊢
   split at e
   · rename_i cU hp
     simp only [Option.map_eq_some_iff] at e
     obtain ⟨x,h1,h2⟩:=e
     obtain ⟨n,hn⟩:=pH h1
     exact ⟨n,by rw [hn];simp only [Option.map_some,h2]⟩
   · simp at e
 | eI g=>
   simp only [exec] at e ⊢
   split at e
   · rename_i cU hp
     simp only [Option.map_eq_some_iff] at e
     obtain ⟨x,h1,h2⟩:=e
     obtain ⟨n,hn⟩:=pH h1
     exact ⟨n,by rw [hn];simp only [Option.map_some,h2]⟩
   · simp at e
 | aA g own=>
   simp only [exec,Option.map_eq_some_iff] at e ⊢
   obtain ⟨x,h1,h2⟩:=e
   obtain ⟨n,hn⟩:=nd h1
   exact ⟨n,x,hn,h2⟩
 | hP g=>
   simp only [exec] at e ⊢
   split at e
   · split at e
     · rename_i rs ts h1
       obtain ⟨n,hn⟩:=xh h1
       exact ⟨n,by rw [hn];exact e⟩
     · simp at e
   · simp at e
 | eB=>
   cases vals with
   | nil=>simp [exec] at e
   | cons f vals=>
     cases f with
     | fn g cap=>
       simp only [exec,Option.map_eq_some_iff] at e ⊢
       obtain ⟨x,h1,h2⟩:=e
       obtain ⟨n,hn⟩:=nd h1
       exact ⟨n,x,hn,h2⟩
     | _=>simp [exec] at e
 | _=>exact ⟨0,by rw [←e];unfold exec;split<;>first | rfl | (rename_i heq;cases heq;done) | (simp at *;done)⟩
theorem A2 {o:dt} {st r:St} (e:dQ (aW AP) o st=some r):∃n,dQ (run AP n n) o st=some r:=by
 unfold dQ at *
 cases hw:eh st.env o.guard with
 | none=>rw [hw] at e;simp at e
 | some t=>
   cases t with
   | false=>rw [hw] at e;exact ⟨0,e⟩
   | true=>
     rw [hw] at e
     dsimp only at e ⊢
     cases hv:dv st.env o.args with
     | none=>rw [hv] at e;simp at e
     | some vals=>
       rw [hv] at e
       dsimp only at e ⊢
       cases ho:exec (aW AP) o.op vals (o.op.key.bind (look st.mem)) st.sh st.aa with
       | none=>rw [ho] at e;simp at e
       | some out=>
         obtain ⟨n,hn⟩:=tN ho
         rw [ho] at e
         exact ⟨n,by rw [hn];exact e⟩
theorem oN:∀{l:List dt} {st r:St},bA (aW AP) l st=some r→∃n,bA (run AP n n) l st=some r
 | [],_,_,e=>⟨0,e⟩
 | o::l,st,r,e=>by
   simp only [bA] at e ⊢
   cases ho:dQ (aW AP) o st with
   | none=>rw [ho] at e;simp at e
   | some s=>
     rw [ho] at e
     obtain ⟨n,hn⟩:=A2 ho
     obtain ⟨m,hm⟩:=oN (l:=l) e
     refine ⟨max n m,?_⟩
     rw [oM (dg (Nat.le_max_left n m) (Nat.le_max_left n m)) hn]
     exact j9 (dg (Nat.le_max_right n m) (Nat.le_max_right n m)) hm
theorem nf {k:Nat} {c:aw} {pre:St→St} (ih:∀{st:St} {r:aO×St},cV (aW AP) k c st=some r→∃n,cV (run AP n n) n c st=some r) :
   ∀{j:Nat} {st:St} {r:aO×St},d8 (cV (aW AP) k c) pre j st=some r→∃n,d8 (cV (run AP n n) n c) pre n st=some r
 | 0,_,_,e=>by simp [d8] at e
 | j+1,st,r,e=>by
   simp only [d8] at e
   cases hf:cV (aW AP) k c (pre st) with
   | none=>rw [hf] at e;simp at e
   | some q=>
     obtain ⟨n,hn⟩:=ih hf
     rw [hf] at e
     obtain ⟨x,s⟩:=q
     cases x with
     | normal=>
       obtain ⟨m,hm⟩:=nf ih e
       refine ⟨max n m+1,?_⟩
       simp only [d8]
       rw [bT (dg (n:=n) (n':=max n m+1) (by omega) (by omega)) (k:=n) (k':=max n m+1) (by omega) hn]
       exact gF (fun s r hs=>bT (dg (n:=m) (by omega) (by omega)) (k:=m) (by omega) hs) (n:=m) (by omega) hm
     | ret=>
       refine ⟨n+1,?_⟩
       simp only [d8]
       rw [bT (dg (n:=n) (n':=n+1) (by omega) (by omega)) (k:=n) (k':=n+1) (by omega) hn]
       exact e
     | exit id=>
       refine ⟨n+1,?_⟩
       simp only [d8]
       rw [bT (dg (n:=n) (n':=n+1) (by omega) (by omega)) (k:=n) (k':=n+1) (by omega) hn]
       exact e
theorem lj {n m:Nat} (h:n≤m) {c:aw} {st:St} {r:aO×St} (e:cV (run AP n n) n c st=some r):cV (run AP m m) m c st=some r:=bT (dg h h) h e
theorem oe {k:Nat} {x y:aw} (ihx:∀{st:St} {r:aO×St},cV (aW AP) k x st=some r→∃n,cV (run AP n n) n x st=some r) (ihy:∀{st:St} {r:aO×St},cV (aW AP) k y st=some r→∃n,cV (run AP n n) n y st=some r)
   {st:St} {r:aO×St} (e:andThen (cV (aW AP) k x) (cV (aW AP) k y) st=some r):∃n,andThen (cV (run AP n n) n x) (cV (run AP n n) n y) st=some r:=by
 unfold andThen at e ⊢
 cases hx:cV (aW AP) k x st with
 | none=>rw [hx] at e;simp at e
 | some q=>
   obtain ⟨n,hn⟩:=ihx hx
   rw [hx] at e
   obtain ⟨ex,s⟩:=q
   cases ex with
   | normal=>
     obtain ⟨m,hm⟩:=ihy e
     exact ⟨max n m,by rw [lj (Nat.le_max_left n m) hn];exact lj (Nat.le_max_right n m) hm⟩
   | ret=>simp at e
   | exit id=>simp at e
theorem ng {F:St→Option (aO×St)} {f:Nat→St→Option (aO×St)} (hm:∀{n m:Nat},n≤m→∀s r,f n s=some r→f m s=some r) (ih:∀{st:St} {r:aO×St},F st=some r→∃n,f n st=some r)
   {live:List Nat} {pi px sz:Nat} {ag:Bool} {env:List (Nat×AV)}:∀{l:List (PV×Nat)} {st:St} {r:aO×St},gm F live pi px sz ag env l st=some r→∃n,gm (f n) live pi px sz ag env l st=some r
 | [],_,_,e=>⟨0,e⟩
 | (el,i)::l,st,r,e=>by
   simp only [gm] at e ⊢
   cases hv:nU sz ag el with
   | none=>rw [hv] at e;simp at e
   | some v=>
     rw [hv] at e
     simp only at e ⊢
     cases hf:F (norm (restrict live { st with env:=db (db env pi (.pv (.int .i64 i))) px v })) with
     | none=>rw [hf] at e;simp at e
     | some q=>
       obtain ⟨n,hn⟩:=ih hf
       rw [hf] at e
       obtain ⟨x,s⟩:=q
       cases x with
       | normal=>
         obtain ⟨m,hm'⟩:=ng hm ih e
         exact ⟨max n m,by rw [hm (Nat.le_max_left n m) _ _ hn];exact j_ (hm (Nat.le_max_right n m)) hm'⟩
       | ret=>exact ⟨n,by rw [hn];exact e⟩
       | exit id=>exact ⟨n,by rw [hn];exact e⟩
theorem gk {k:Nat}:∀{c:aw} {st:St} {r:aO×St},cV (aW AP) k c st=some r→∃n,cV (run AP n n) n c st=some r
 | .skip,_,_,e=>⟨0,e⟩
 | .eM _,_,_,e=>⟨0,e⟩
 | .ah ops live,st,r,e=>by
   simp only [cV] at e ⊢
   cases ho:bA (aW AP) ops st with
   | none=>rw [ho] at e;simp at e
   | some s=>obtain ⟨n,hn⟩:=oN ho;rw [ho] at e;exact ⟨n,by rw [hn];exact e⟩
 | .seq x y,st,r,e=>by
   simp only [cV] at e ⊢
   cases hx:cV (aW AP) k x st with
   | none=>rw [hx] at e;simp at e
   | some q=>
     obtain ⟨n,hn⟩:=gk hx
     rw [hx] at e
     obtain ⟨ex,s⟩:=q
     cases ex with
     | normal=>
       obtain ⟨m,hm⟩:=gk (c:=y) e
       exact ⟨max n m,by rw [lj (Nat.le_max_left n m) hn];exact lj (Nat.le_max_right n m) hm⟩
     | ret=>exact ⟨n,by rw [hn];exact e⟩
     | exit id=>exact ⟨n,by rw [hn];exact e⟩
 | .cond c x y,st,r,e=>by
   simp only [cV] at e ⊢
   split at e
   · rename_i t hc
     split at e
     · rename_i ht
       obtain ⟨n,hn⟩:=gk e
       exact ⟨n,by rw [if_pos ht];exact hn⟩
     · rename_i ht
       obtain ⟨n,hn⟩:=gk e
       exact ⟨n,by rw [if_neg ht];exact hn⟩
   · simp at e
 | .block id x,st,r,e=>by
   simp only [cV] at e ⊢
   cases hx:cV (aW AP) k x st with
   | none=>rw [hx] at e;simp at e
   | some q=>
     obtain ⟨n,hn⟩:=gk hx
     rw [hx] at e
     exact ⟨n,by rw [hn];exact e⟩
 | .loop live x,st,r,e=>by
   simp only [cV] at e ⊢
   exact nf (fun h=>gk h) e
 | .exit id,_,_,e=>⟨0,e⟩
 | .ret,_,_,e=>⟨0,e⟩
 | .back c gb pi px sz ag live x y,st,r,e=>by
   simp only [cV] at e ⊢
   unfold gn at e ⊢
   split at e
   · split at e
     · rename_i hg
       split at e
       · split at e
         · rename_i hl
           obtain ⟨n,hn⟩:=ng (f:=fun n=>andThen (cV (run AP n n) n x) (cV (run AP n n) n y)) (fun h=>kO (fun s r hs=>lj h hs) (fun s r hs=>lj h hs)) (oe (fun h=>gk h) (fun h=>gk h)) e
           exact ⟨n,by rw [if_pos hg,if_pos hl];exact hn⟩
         · simp at e
       · simp at e
     · simp at e
   · simp at e
noncomputable def cl (AP:Nat→Option aC) (c:aw) (st:St):Option (aO×St):=AI fun k=>cV (aW AP) k c st
theorem mC (c:aw) (st:St):rz fun k=>cV (aW AP) k c st:=fun _ _ _ h e=>bT (d0.le_refl _) h e
theorem jf {c:aw} {st:St} {k:Nat} {r:aO×St} (h:cV (aW AP) k c st=some r):cl AP c st=some r:=nb (mC c st) h
theorem Du {st:St}:cl AP .skip st=some (.normal,st):=jf (k:=0) rfl
theorem Dv {id:Nat} {st:St}:cl AP (.exit id) st=some (.exit id,st):=jf (k:=0) rfl
theorem FI {st:St}:cl AP .ret st=some (.ret,st):=jf (k:=0) rfl
theorem FJ {ops:List dt} {live:List Nat} {st:St}:cl AP (.ah ops live) st=(bA (aW AP) ops st).map fun st'=>(.normal,restrict live st'):=by
 cases h:bA (aW AP) ops st with
 | none=>exact nc fun k=>by simp only [cV,h]
 | some s=>exact jf (k:=0) (by simp only [cV,h])
def after (f:St→Option (aO×St)):Option (aO×St)→Option (aO×St)
 | some (.normal,st)=>f st
 | r=>r
theorem FK {a b:aw} {st:St}:cl AP (.seq a b) st=after (cl AP b) (cl AP a st):=by
 refine jy (mC _ _) (fun k r h=>?_) fun r h=>?_
 · simp only [cV] at h
   cases hx:cV (aW AP) k a st with
   | none=>rw [hx] at h;simp at h
   | some q=>
     rw [jf hx]
     rw [hx] at h
     obtain ⟨ex,s⟩:=q
     cases ex with
     | normal=>exact jf h
     | ret=>exact h
     | exit id=>exact h
 · cases hx:cl AP a st with
   | none=>rw [hx] at h;simp [after] at h
   | some q=>
     obtain ⟨k,hk⟩:=e6 hx
     rw [hx] at h
     obtain ⟨ex,s⟩:=q
     cases ex with
     | normal=>
       obtain ⟨k',hk'⟩:=e6 (show AI (fun k=>cV (aW AP) k b s)=some r from h)
       refine ⟨max k k',?_⟩
       simp only [cV]
       rw [bT (d0.le_refl _) (Nat.le_max_left k k') hk]
       exact bT (d0.le_refl _) (Nat.le_max_right k k') hk'
     | ret=>exact ⟨k,by simp only [cV];rw [hk];exact h⟩
     | exit id=>exact ⟨k,by simp only [cV];rw [hk];exact h⟩
theorem Dw {c:d3} {a b:aw} {st:St} {t:Bool} (h:ff st.env c=some (.pv (.bool t))):cl AP (.cond c a b) st=if t then cl AP a st else cl AP b st:=by
 unfold cl
 simp only [cV,h]
 cases t<;>rfl
def leave (id:Nat):Option (aO×St)→Option (aO×St)
 | some (.exit id',st)=>if id'=id then some (.normal,st) else some (.exit id',st)
 | r=>r
theorem A3 {id:Nat} {b:aw} {st:St}:cl AP (.block id b) st=leave id (cl AP b st):=by
 refine jy (mC _ _) (fun k r h=>?_) fun r h=>?_
 · simp only [cV] at h
   cases hx:cV (aW AP) k b st with
   | none=>rw [hx] at h;simp at h
   | some q=>rw [jf hx];rw [hx] at h;exact h
 · cases hx:cl AP b st with
   | none=>rw [hx] at h;simp [leave] at h
   | some q=>
     obtain ⟨k,hk⟩:=e6 hx
     rw [hx] at h
     exact ⟨k,by simp only [cV];rw [hk];exact h⟩
theorem aG {live:List Nat} {b:aw} {st:St}:cl AP (.loop live b) st=after (cl AP (.loop live b)) (cl AP b (norm (restrict live st))):=by
 refine jy (mC _ _) (fun k r h=>?_) fun r h=>?_
 · simp only [cV] at h
   cases k with
   | zero=>simp [d8] at h
   | succ k=>
     simp only [d8] at h
     cases hx:cV (aW AP) (k+1) b (norm (restrict live st)) with
     | none=>rw [hx] at h;simp at h
     | some q=>
       rw [jf hx]
       rw [hx] at h
       obtain ⟨ex,s⟩:=q
       cases ex with
       | normal=>exact jf (k:=k+1) (by simp only [cV];exact gF (fun _ _ h=>h) (Nat.le_succ k) h)
       | ret=>exact h
       | exit id=>exact h
 · cases hx:cl AP b (norm (restrict live st)) with
   | none=>rw [hx] at h;simp [after] at h
   | some q=>
     obtain ⟨k,hk⟩:=e6 hx
     rw [hx] at h
     obtain ⟨ex,s⟩:=q
     have up:∀m,k≤m→cV (aW AP) m b (norm (restrict live st))=some (ex,s):=fun m hm=>bT (d0.le_refl _) hm hk
     cases ex with
     | normal=>
       obtain ⟨k',hk'⟩:=e6 (show AI (fun k=>cV (aW AP) k (.loop live b) s)=some r from h)
       refine ⟨max k k'+1,?_⟩
       simp only [cV,d8]
       rw [up _ (by omega)]
       simp only [cV] at hk'
       exact gF (fun _ _ h=>bT (d0.le_refl _) (by omega) h) (by omega) hk'
     | ret=>exact ⟨k+1,by simp only [cV,d8];rw [up _ (by omega)];exact h⟩
     | exit id=>exact ⟨k+1,by simp only [cV,d8];rw [up _ (by omega)];exact h⟩
def finish (aM:Bool) (af:aC) (sh:Sh):Option (aO×St)→Option (List AV×Sh×au)
 | some (e,st)=>
   if e=.ret∨e=.normal then
     match dB st af.results with
     | some vs=>
       let rs:=bU aM af.ks st.sh vs
       let sh':=if rs.all (az sh.length)=true then (dX aM af.ks st.sh vs).take sh.length else dX aM af.ks st.sh vs
       if rs.all bD=true then some ((cr st.aa rs sh').1,(cr st.aa rs sh').2.1,(cr st.aa rs sh').2.2.2) else none
     | none=>none
   else none
 | none=>none
theorem eH {orc:d0} {k:Nat} {aM:Bool} {af:aC} {args:List AV} {sh:Sh} {ts:au}:bQ orc k aM af args sh ts=finish aM af sh (cV orc k af.body { env:=bP 0 args,mem:=[],sh,aa:=ts }):=by
 unfold bQ finish
 cases cV orc k af.body { env:=bP 0 args,mem:=[],sh,aa:=ts } with
 | none=>rfl
 | some q=>obtain ⟨e,st⟩:=q;rfl
noncomputable def jM (AP:Nat→Option aC) (aM:Bool) (af:aC) (args:List AV) (sh:Sh) (ts:au):Option (List AV×Sh×au):=
 finish aM af sh (cl AP af.body { env:=bP 0 args,mem:=[],sh,aa:=ts })
theorem oO {aM:Bool} {af:aC} {args:List AV} {sh:Sh} {ts:au} {r:List AV×Sh×au} (h:jM AP aM af args sh ts=some r):∃n,bQ (run AP n n) n aM af args sh ts=some r:=by
 unfold jM at h
 cases hc:cl AP af.body { env:=bP 0 args,mem:=[],sh,aa:=ts } with
 | none=>rw [hc] at h;simp [finish] at h
 | some q=>
   obtain ⟨k,hk⟩:=e6 hc
   obtain ⟨n,hn⟩:=gk hk
   exact ⟨n,by rw [eH,hn,←hc];exact h⟩
theorem xi {n:Nat} {aM:Bool} {af:aC} {args:List AV} {sh:Sh} {ts:au} {r:List AV×Sh×au} (h:bQ (run AP n n) n aM af args sh ts=some r):jM AP aM af args sh ts=some r:=by
 rw [eH] at h
 unfold jM
 cases hc:cV (run AP n n) n af.body { env:=bP 0 args,mem:=[],sh,aa:=ts } with
 | none=>rw [hc] at h;simp [finish] at h
 | some q=>
   rw [jf (bT (FH n) (Nat.le_refl n) hc)]
   rw [hc] at h
   exact h
theorem EX {g:Nat} {af:aC} {x:List PV} (hg:AP g=some af) (hp:af.mI=none) (h1:x.length=af.nparams) (h2:x.length≤af.ntmps) :
   (aW AP).p g x=(jM AP false af (x.map .pv) [] []).bind fun r=>ez r.1:=by
 refine jy (mB g x) (fun k r h=>?_) fun r h=>?_
 · cases k with
   | zero=>simp [run] at h
   | succ k=>
     simp only [run,hg,hp] at h
     rw [if_pos ⟨h1,h2⟩] at h
     cases hb:bQ (run AP (k+1) k) (k+1) false af (x.map .pv) [] [] with
     | none=>rw [hb] at h;simp at h
     | some q=>
       rw [xi (n:=k+1) (dT (dg (Nat.le_succ k) (Nat.le_refl _)) (Nat.le_refl _) hb)]
       rw [hb] at h
       exact h
 · cases hb:jM AP false af (x.map .pv) [] [] with
   | none=>rw [hb] at h;simp at h
   | some q=>
     obtain ⟨n,hn⟩:=oO hb
     rw [hb] at h
     refine ⟨n+1,?_⟩
     simp only [run,hg,hp]
     rw [if_pos ⟨h1,h2⟩,dT (dg (n:=n) (n':=n) (k:=n) (k':=n+1) (Nat.le_refl _) (Nat.le_succ n)) (Nat.le_succ n) hn]
     exact h
theorem Dx {g:Nat} {af:aC} {x:List PV} {f:List PV→Option (List PV)} (hg:AP g=some af) (hp:af.mI=some f):(aW AP).p g x=f x:=by
 refine jy (mB g x) (fun k r h=>?_) fun r h=>?_
 · cases k with
   | zero=>simp [run] at h
   | succ k=>simpa only [run,hg,hp] using h
 · exact ⟨1,by simpa only [run,hg,hp] using h⟩
theorem EY {g:Nat} {af:aC} {x:List AV} {sh:Sh} {ts:au} (hg:AP g=some af) (h2:x.length≤af.ntmps):(aW AP).i g x sh ts=jM AP true af x sh ts:=by
 refine jy (xg g x sh ts) (fun k r h=>?_) fun r h=>?_
 · cases k with
   | zero=>simp [run] at h
   | succ k=>
     simp only [run,hg] at h
     rw [if_pos h2] at h
     exact xi (n:=k+1) (dT (dg (Nat.le_succ k) (Nat.le_refl _)) (Nat.le_refl _) h)
 · obtain ⟨n,hn⟩:=oO h
   refine ⟨n+1,?_⟩
   simp only [run,hg]
   rw [if_pos h2]
   exact dT (dg (n:=n) (n':=n) (k:=n) (k':=n+1) (Nat.le_refl _) (Nat.le_succ n)) (Nat.le_succ n) hn
end Go.Ab
