import Derived.Test.YtcjggpmnbcfedaaGreatDoorAbDefs
/-
  Without fuel: the limit of the evaluator.
-/
set_option linter.unusedVariables false
set_option linter.unusedSimpArgs false
set_option linter.unnecessarySimpa false
set_option maxRecDepth 100000
set_option maxHeartbeats 8000000
namespace Go.Ab
def yU {α:Type} (f:Nat→Option α):Prop:=∀k k' r,k≤k'→f k=some r→f k'=some r
open Classical in
noncomputable def I2 {α:Type} (f:Nat→Option α):Option α:=if h:∃r k,f k=some r then some h.choose else none
theorem sJ {α:Type} {f:Nat→Option α} (hf:yU f) {k:Nat} {r:α} (h:f k=some r):I2 f=some r:=by
 have hex:∃r k,f k=some r:=⟨r,k,h⟩
 unfold I2
 rw [dif_pos hex]
 obtain ⟨k',h'⟩:=hex.choose_spec
 have h1:=hf _ (max k k') _ (Nat.le_max_right _ _) h'
 have h2:=hf _ (max k k') _ (Nat.le_max_left _ _) h
 rw [h1] at h2
 exact h2
theorem ia {α:Type} {f:Nat→Option α} {r:α} (h:I2 f=some r):∃k,f k=some r:=by
 unfold I2 at h
 split at h
 · rename_i hex
   obtain ⟨k,hk⟩:=hex.choose_spec
   cases h
   exact ⟨k,hk⟩
 · simp at h
theorem sK {α:Type} {f:Nat→Option α} (h:∀k,f k=none):I2 f=none:=by
 cases hl:I2 f with
 | none=>rfl
 | some r=>obtain ⟨k,hk⟩:=ia hl;rw [h k] at hk;simp at hk
theorem mQ {α:Type} {f:Nat→Option α} (hf:yU f) {o:Option α} (h1:∀k r,f k=some r→o=some r) (h2:∀r,o=some r→∃k,f k=some r):I2 f=o:=by
 cases ho:o with
 | none=>exact sK fun k=>by cases hk:f k with | none=>rfl | some r=>rw [h1 k r hk] at ho;simp at ho
 | some r=>obtain ⟨k,hk⟩:=h2 r ho;exact sJ hf hk
structure eu.le (a b:eu):Prop where
 p:∀g x r,a.p g x=some r→b.p g x=some r
 i:∀g x s t r,a.i g x s t=some r→b.i g x s t=some r
theorem eu.le_refl (a:eu):a.le a:=⟨fun _ _ _ h=>h,fun _ _ _ _ _ h=>h⟩
theorem kg {a b:eu} (h:a.le b) {g:Nat} {own:List Nat} {vals:List AV} {sh:Sh} {ae:aH} {r:AV×Sh×aH} (e:en a g own vals sh ae=some r):en b g own vals sh ae=some r:=by
 unfold en at *
 split at e
 · rename_i hp
   rw [if_pos hp]
   simp only [Option.map_eq_some_iff] at e ⊢
   obtain ⟨x,h1,h2⟩:=e
   exact ⟨x,h.i _ _ _ _ _ h1,h2⟩
 · simp at e
theorem FT {a b:eu} (h:a.le b) {op:AK} {vals:List AV} {cells:Option (List AV)} {sh:Sh} {ae:aH} {r:Out} (e:exec a op vals cells sh ae=some r):exec b op vals cells sh ae=some r:=by
 cases op with
 | aq g=>
   simp only [exec] at e ⊢
   split at e
   · simp only [Option.map_eq_some_iff] at e ⊢
     obtain ⟨x,h1,h2⟩:=e
     exact ⟨x,h.p _ _ _ h1,h2⟩
   · simp at e
 | d7 g=>
   simp only [exec] at e ⊢
   split at e
   · simp only [Option.map_eq_some_iff] at e ⊢
     obtain ⟨x,h1,h2⟩:=e
     exact ⟨x,h.p _ _ _ h1,h2⟩
   · simp at e
 | aF g own=>
   simp only [exec,Option.map_eq_some_iff] at e ⊢
   obtain ⟨x,h1,h2⟩:=e
   exact ⟨x,kg h h1,h2⟩
 | lA g=>
   simp only [exec] at e ⊢
   split at e
   · split at e
     · rename_i rs ts h1
       rw [h.i _ _ _ _ _ h1]
       exact e
     · simp at e
   · simp at e
 | dw=>
   cases vals with
   | nil=>simp [exec] at e
   | cons f vals=>
     cases f with
     | fn g cap=>
       simp only [exec,Option.bind_eq_some_iff] at e ⊢
       obtain ⟨x,h1,h2⟩:=e
       exact ⟨x,kg h h1,h2⟩
     | _=>simp [exec] at e
 | jG=>
   cases vals with
   | nil=>simp [exec] at e
   | cons f vals=>
     cases f with
     | fn g cap=>
       simp only [exec,Option.map_eq_some_iff] at e ⊢
       obtain ⟨x,h1,h2⟩:=e
       exact ⟨x,kg h h1,h2⟩
     | _=>simp [exec] at e
 | _=>rw [←e];unfold exec;split<;>first | rfl | (rename_i heq;cases heq;done) | (simp at *;done)
theorem uX {a b:eu} (h:a.le b) {o:dK} {st r:St} (e:eo a o st=some r):eo b o st=some r:=by
 unfold eo at *
 cases hw:f_ st.env o.guard with
 | none=>rw [hw] at e;simp at e
 | some t=>
   cases t with
   | false=>rw [hw] at e;exact e
   | true=>
     rw [hw] at e
     dsimp only at e ⊢
     cases hv:ew st.env o.args with
     | none=>rw [hv] at e;simp at e
     | some vals=>
       rw [hv] at e
       dsimp only at e ⊢
       cases ho:exec a o.op vals (o.op.key.bind (look st.mem)) st.sh st.ae with
       | none=>rw [ho] at e;simp at e
       | some out=>
         rw [ho] at e
         rw [FT h ho]
         exact e
theorem nK {a b:eu} (h:a.le b):∀{l:List dK} {st r:St},bE a l st=some r→bE b l st=some r
 | [],_,_,e=>e
 | o::l,st,r,e=>by
   simp only [bE] at e ⊢
   split at e
   · simp at e
   · rename_i st' ho
     rw [uX h ho]
     exact nK h e
theorem jA {f f':St→Option (bo×St)} {pre:St→St} (h:∀s r,f s=some r→f' s=some r):∀{n n':Nat} {st:St} {r:bo×St},n≤n'→fQ f pre n st=some r→fQ f' pre n' st=some r
 | 0,_,_,_,_,e=>by simp [fQ] at e
 | n+1,0,_,_,hn,_=>by omega
 | n+1,n'+1,st,r,hn,e=>by
   simp only [fQ] at e ⊢
   cases hf:f (pre st) with
   | none=>rw [hf] at e;simp at e
   | some q=>
     rw [h _ _ hf]
     rw [hf] at e
     obtain ⟨x,s⟩:=q
     cases x with
     | normal=>exact jA h (by omega) e
     | ret=>exact e
     | exit id=>exact e
theorem nM {f f':St→Option (bo×St)} (h:∀s r,f s=some r→f' s=some r) {live:List Nat} {pi px sz:Nat} {ag:Bool} {env:List (Nat×AV)}:∀{l:List (PV×Nat)} {st:St} {r:bo×St},
   jj f live pi px sz ag env l st=some r→jj f' live pi px sz ag env l st=some r
 | [],_,_,e=>e
 | (el,i)::l,st,r,e=>by
   simp only [jj] at e ⊢
   cases hv:ud sz ag el with
   | none=>rw [hv] at e;simp at e
   | some v=>
     rw [hv] at e
     simp only at e ⊢
     cases hf:f (norm (restrict live { st with env:=dt (dt env pi (.pv (.int .i64 i))) px v })) with
     | none=>rw [hf] at e;simp at e
     | some q=>
       rw [h _ _ hf]
       rw [hf] at e
       obtain ⟨x,s⟩:=q
       cases x with
       | normal=>exact nM h e
       | ret=>exact e
       | exit id=>exact e
theorem uq {f f':St→Option (bo×St)} (h:∀s r,f s=some r→f' s=some r) {v:Option AV} {gb pi px sz:Nat} {ag:Bool} {live:List Nat} {st:St} {r:bo×St}
   (e:jk f v gb pi px sz ag live st=some r):jk f' v gb pi px sz ag live st=some r:=by
 unfold jk at e ⊢
 split at e
 · split at e
   · rename_i hg
     rw [if_pos hg]
     split at e
     · split at e
       · rename_i hl
         rw [if_pos hl]
         exact nM h e
       · simp at e
     · simp at e
   · simp at e
 · simp at e
theorem oV {f g f' g':St→Option (bo×St)} (h:∀s r,f s=some r→f' s=some r) (k:∀s r,g s=some r→g' s=some r):∀s r,andThen f g s=some r→andThen f' g' s=some r:=by
 intro s r e
 unfold andThen at e ⊢
 cases hf:f s with
 | none=>rw [hf] at e;simp at e
 | some q=>
   rw [h _ _ hf]
   rw [hf] at e
   obtain ⟨x,t⟩:=q
   cases x with
   | normal=>exact k _ _ e
   | ret=>simp at e
   | exit id=>simp at e
theorem cQ {a b:eu} (h:a.le b) {k k':Nat} (hk:k≤k'):∀{c:aA} {st:St} {r:bo×St},dk a k c st=some r→dk b k' c st=some r
 | .skip,_,_,e=>e
 | .dL _,_,_,e=>e
 | .PB _,_,_,e=>e
 | .lS _,_,_,e=>e
 | .mF _,_,_,e=>e
 | .QQ _,_,_,e=>e
 | .bw ops live,st,r,e=>by
   simp only [dk] at e ⊢
   split at e
   · rename_i st' ho
     rw [nK h ho]
     exact e
   · simp at e
 | .seq x y,st,r,e=>by
   simp only [dk] at e ⊢
   cases hx:dk a k x st with
   | none=>rw [hx] at e;simp at e
   | some q=>
     rw [cQ h hk hx]
     rw [hx] at e
     obtain ⟨ex,s⟩:=q
     cases ex with
     | normal=>exact cQ h hk e
     | ret=>exact e
     | exit id=>exact e
 | .cond c x y,st,r,e=>by
   simp only [dk] at e ⊢
   split at e
   · rename_i t hc
     split at e
     · rename_i ht;rw [if_pos ht];exact cQ h hk e
     · rename_i ht;rw [if_neg ht];exact cQ h hk e
   · simp at e
 | .block id x,st,r,e=>by
   simp only [dk] at e ⊢
   cases hx:dk a k x st with
   | none=>rw [hx] at e;simp at e
   | some q=>
     rw [cQ h hk hx]
     rw [hx] at e
     exact e
 | .loop live x,st,r,e=>by
   simp only [dk] at e ⊢
   exact jA (fun s r hs=>cQ h hk hs) hk e
 | .exit id,_,_,e=>e
 | .ret,_,_,e=>e
 | .back c gb pi px sz ag live x y,st,r,e=>by
   simp only [dk] at e ⊢
   exact uq (oV (fun s r hs=>cQ h hk hs) (fun s r hs=>cQ h hk hs)) e
theorem fc {a b:eu} (h:a.le b) {k k':Nat} (hk:k≤k') {bl:Bool} {af:aD} {args:List AV} {sh:Sh} {ts:aH} {r:List AV×Sh×aH} (e:cL a k bl af args sh ts=some r):cL b k' bl af args sh ts=some r:=by
 unfold cL at *
 cases hc:dk a k af.body { env:=cK 0 args,mem:=[],sh,ae:=ts } with
 | none=>rw [hc] at e;simp at e
 | some q=>rw [cQ h hk hc];rw [hc] at e;exact e
variable {AP:Nat→Option aD}
theorem de:∀{n n' k k':Nat},n≤n'→k≤k'→(run AP k n).le (run AP k' n')
 | 0,_,_,_,_,_=>⟨fun g x r e=>by simp [run] at e,fun g x s t r e=>by simp [run] at e⟩
 | n+1,0,_,_,h,_=>by omega
 | n+1,n'+1,k,k',h,hk=>by
   have ih:(run AP k n).le (run AP k' n'):=de (by omega) hk
   refine ⟨fun g x r e=>?_,fun g x s t r e=>?_⟩
   · simp only [run] at e ⊢
     cases hg:AP g with
     | none=>rw [hg] at e;simp at e
     | some af=>
       rw [hg] at e
       dsimp only at e ⊢
       cases hp:af.pE with
       | some f=>rw [hp] at e;exact f.mono ih.p e
       | none=>
         rw [hp] at e
         dsimp only at e ⊢
         split at e
         · rename_i hc
           rw [if_pos hc]
           cases hb:cL (run AP k n) k false af (x.map .pv) [] [] with
           | none=>rw [hb] at e;simp at e
           | some q=>rw [fc ih hk hb];rw [hb] at e;exact e
         · simp at e
   · simp only [run] at e ⊢
     cases hg:AP g with
     | none=>rw [hg] at e;simp at e
     | some af=>
       rw [hg] at e
       dsimp only at e ⊢
       split at e
       · rename_i hc
         rw [if_pos hc]
         exact fc ih hk e
       · simp at e
noncomputable def aL (AP:Nat→Option aD):eu where
 p:=fun g x=>I2 fun n=>(run AP n n).p g x
 i:=fun g x s t=>I2 fun n=>(run AP n n).i g x s t
theorem rz (g:Nat) (x:List PV):yU fun n=>(run AP n n).p g x:=fun _ _ _ h e=>(de h h).p _ _ _ e
theorem Es (g:Nat) (x:List AV) (s:Sh) (t:aH):yU fun n=>(run AP n n).i g x s t:=fun _ _ _ h e=>(de h h).i _ _ _ _ _ e
theorem Jp (n:Nat):(run AP n n).le (aL AP):=⟨fun g x _ e=>sJ (rz g x) e,fun g x s t _ e=>sJ (Es g x s t) e⟩
theorem rA {g:Nat} {x:List PV} {r:List PV} (h:(aL AP).p g x=some r):∃n,(run AP n n).p g x=some r:=ia h
theorem Et {g:Nat} {x:List AV} {s:Sh} {t:aH} {r:List AV×Sh×aH} (h:(aL AP).i g x s t=some r):∃n,(run AP n n).i g x s t=some r:=ia h
theorem nN {g:Nat} {own:List Nat} {vals:List AV} {sh:Sh} {ae:aH} {r:AV×Sh×aH} (e:en (aL AP) g own vals sh ae=some r):∃n,en (run AP n n) g own vals sh ae=some r:=by
 unfold en at *
 split at e
 · rename_i hp
   simp only [Option.map_eq_some_iff] at e
   obtain ⟨x,h1,h2⟩:=e
   obtain ⟨n,hn⟩:=Et h1
   exact ⟨n,by rw [if_pos hp,hn];simp only [Option.map_some,h2]⟩
 · simp at e
theorem Bo {op:AK} {vals:List AV} {cells:Option (List AV)} {sh:Sh} {ae:aH} {r:Out} (e:exec (aL AP) op vals cells sh ae=some r):∃n,exec (run AP n n) op vals cells sh ae=some r:=by
 cases op with
 | aq g=>
   simp only [exec] at e ⊢
   split at e
   · rename_i dO hp
     simp only [Option.map_eq_some_iff] at e
     obtain ⟨x,h1,h2⟩:=e
     obtain ⟨n,hn⟩:=rA h1
     exact ⟨n,by rw [hn];simp only [Option.map_some,h2]⟩
   · simp at e
 | d7 g=>
   simp only [exec] at e ⊢
   split at e
   · rename_i dO hp
     simp only [Option.map_eq_some_iff] at e
     obtain ⟨x,h1,h2⟩:=e
     obtain ⟨n,hn⟩:=rA h1
     exact ⟨n,by rw [hn];simp only [Option.map_some,h2]⟩
   · simp at e
 | aF g own=>
   simp only [exec,Option.map_eq_some_iff] at e ⊢
   obtain ⟨x,h1,h2⟩:=e
   obtain ⟨n,hn⟩:=nN h1
   exact ⟨n,x,hn,h2⟩
 | lA g=>
   simp only [exec] at e ⊢
   split at e
   · split at e
     · rename_i rs ts h1
       obtain ⟨n,hn⟩:=Et h1
       exact ⟨n,by rw [hn];exact e⟩
     · simp at e
   · simp at e
 | dw=>
   cases vals with
   | nil=>simp [exec] at e
   | cons f vals=>
     cases f with
     | fn g cap=>
       simp only [exec,Option.bind_eq_some_iff] at e ⊢
       obtain ⟨x,h1,h2⟩:=e
       obtain ⟨n,hn⟩:=nN h1
       exact ⟨n,x,hn,h2⟩
     | _=>simp [exec] at e
 | jG=>
   cases vals with
   | nil=>simp [exec] at e
   | cons f vals=>
     cases f with
     | fn g cap=>
       simp only [exec,Option.map_eq_some_iff] at e ⊢
       obtain ⟨x,h1,h2⟩:=e
       obtain ⟨n,hn⟩:=nN h1
       exact ⟨n,x,hn,h2⟩
     | _=>simp [exec] at e
 | _=>exact ⟨0,by rw [←e];unfold exec;split<;>first | rfl | (rename_i heq;cases heq;done) | (simp at *;done)⟩
theorem Jq {o:dK} {st r:St} (e:eo (aL AP) o st=some r):∃n,eo (run AP n n) o st=some r:=by
 unfold eo at *
 cases hw:f_ st.env o.guard with
 | none=>rw [hw] at e;simp at e
 | some t=>
   cases t with
   | false=>rw [hw] at e;exact ⟨0,e⟩
   | true=>
     rw [hw] at e
     dsimp only at e ⊢
     cases hv:ew st.env o.args with
     | none=>rw [hv] at e;simp at e
     | some vals=>
       rw [hv] at e
       dsimp only at e ⊢
       cases ho:exec (aL AP) o.op vals (o.op.key.bind (look st.mem)) st.sh st.ae with
       | none=>rw [ho] at e;simp at e
       | some out=>
         obtain ⟨n,hn⟩:=Bo ho
         rw [ho] at e
         exact ⟨n,by rw [hn];exact e⟩
theorem uY:∀{l:List dK} {st r:St},bE (aL AP) l st=some r→∃n,bE (run AP n n) l st=some r
 | [],_,_,e=>⟨0,e⟩
 | o::l,st,r,e=>by
   simp only [bE] at e ⊢
   cases ho:eo (aL AP) o st with
   | none=>rw [ho] at e;simp at e
   | some s=>
     rw [ho] at e
     obtain ⟨n,hn⟩:=Jq ho
     obtain ⟨m,hm⟩:=uY (l:=l) e
     refine ⟨max n m,?_⟩
     rw [uX (de (Nat.le_max_left n m) (Nat.le_max_left n m)) hn]
     exact nK (de (Nat.le_max_right n m) (Nat.le_max_right n m)) hm
theorem sL {k:Nat} {c:aA} {pre:St→St} (ih:∀{st:St} {r:bo×St},dk (aL AP) k c st=some r→∃n,dk (run AP n n) n c st=some r) :
   ∀{j:Nat} {st:St} {r:bo×St},fQ (dk (aL AP) k c) pre j st=some r→∃n,fQ (dk (run AP n n) n c) pre n st=some r
 | 0,_,_,e=>by simp [fQ] at e
 | j+1,st,r,e=>by
   simp only [fQ] at e
   cases hf:dk (aL AP) k c (pre st) with
   | none=>rw [hf] at e;simp at e
   | some q=>
     obtain ⟨n,hn⟩:=ih hf
     rw [hf] at e
     obtain ⟨x,s⟩:=q
     cases x with
     | normal=>
       obtain ⟨m,hm⟩:=sL ih e
       refine ⟨max n m+1,?_⟩
       simp only [fQ]
       rw [cQ (de (n:=n) (n':=max n m+1) (by omega) (by omega)) (k:=n) (k':=max n m+1) (by omega) hn]
       exact jA (fun s r hs=>cQ (de (n:=m) (by omega) (by omega)) (k:=m) (by omega) hs) (n:=m) (by omega) hm
     | ret=>
       refine ⟨n+1,?_⟩
       simp only [fQ]
       rw [cQ (de (n:=n) (n':=n+1) (by omega) (by omega)) (k:=n) (k':=n+1) (by omega) hn]
       exact e
     | exit id=>
       refine ⟨n+1,?_⟩
       simp only [fQ]
       rw [cQ (de (n:=n) (n':=n+1) (by omega) (by omega)) (k:=n) (k':=n+1) (by omega) hn]
       exact e
theorem pP {n m:Nat} (h:n≤m) {c:aA} {st:St} {r:bo×St} (e:dk (run AP n n) n c st=some r):dk (run AP m m) m c st=some r:=cQ (de h h) h e
theorem ur {k:Nat} {x y:aA} (ihx:∀{st:St} {r:bo×St},dk (aL AP) k x st=some r→∃n,dk (run AP n n) n x st=some r) (ihy:∀{st:St} {r:bo×St},dk (aL AP) k y st=some r→∃n,dk (run AP n n) n y st=some r)
   {st:St} {r:bo×St} (e:andThen (dk (aL AP) k x) (dk (aL AP) k y) st=some r):∃n,andThen (dk (run AP n n) n x) (dk (run AP n n) n y) st=some r:=by
 unfold andThen at e ⊢
 cases hx:dk (aL AP) k x st with
 | none=>rw [hx] at e;simp at e
 | some q=>
   obtain ⟨n,hn⟩:=ihx hx
   rw [hx] at e
   obtain ⟨ex,s⟩:=q
   cases ex with
   | normal=>
     obtain ⟨m,hm⟩:=ihy e
     exact ⟨max n m,by rw [pP (Nat.le_max_left n m) hn];exact pP (Nat.le_max_right n m) hm⟩
   | ret=>simp at e
   | exit id=>simp at e
theorem sM {F:St→Option (bo×St)} {f:Nat→St→Option (bo×St)} (hm:∀{n m:Nat},n≤m→∀s r,f n s=some r→f m s=some r) (ih:∀{st:St} {r:bo×St},F st=some r→∃n,f n st=some r)
   {live:List Nat} {pi px sz:Nat} {ag:Bool} {env:List (Nat×AV)}:∀{l:List (PV×Nat)} {st:St} {r:bo×St},jj F live pi px sz ag env l st=some r→∃n,jj (f n) live pi px sz ag env l st=some r
 | [],_,_,e=>⟨0,e⟩
 | (el,i)::l,st,r,e=>by
   simp only [jj] at e ⊢
   cases hv:ud sz ag el with
   | none=>rw [hv] at e;simp at e
   | some v=>
     rw [hv] at e
     simp only at e ⊢
     cases hf:F (norm (restrict live { st with env:=dt (dt env pi (.pv (.int .i64 i))) px v })) with
     | none=>rw [hf] at e;simp at e
     | some q=>
       obtain ⟨n,hn⟩:=ih hf
       rw [hf] at e
       obtain ⟨x,s⟩:=q
       cases x with
       | normal=>
         obtain ⟨m,hm'⟩:=sM hm ih e
         exact ⟨max n m,by rw [hm (Nat.le_max_left n m) _ _ hn];exact nM (hm (Nat.le_max_right n m)) hm'⟩
       | ret=>exact ⟨n,by rw [hn];exact e⟩
       | exit id=>exact ⟨n,by rw [hn];exact e⟩
theorem jg {k:Nat}:∀{c:aA} {st:St} {r:bo×St},dk (aL AP) k c st=some r→∃n,dk (run AP n n) n c st=some r
 | .skip,_,_,e=>⟨0,e⟩
 | .dL _,_,_,e=>⟨0,e⟩
 | .PB _,_,_,e=>⟨0,e⟩
 | .lS _,_,_,e=>⟨0,e⟩
 | .mF _,_,_,e=>⟨0,e⟩
 | .QQ _,_,_,e=>⟨0,e⟩
 | .bw ops live,st,r,e=>by
   simp only [dk] at e ⊢
   cases ho:bE (aL AP) ops st with
   | none=>rw [ho] at e;simp at e
   | some s=>obtain ⟨n,hn⟩:=uY ho;rw [ho] at e;exact ⟨n,by rw [hn];exact e⟩
 | .seq x y,st,r,e=>by
   simp only [dk] at e ⊢
   cases hx:dk (aL AP) k x st with
   | none=>rw [hx] at e;simp at e
   | some q=>
     obtain ⟨n,hn⟩:=jg hx
     rw [hx] at e
     obtain ⟨ex,s⟩:=q
     cases ex with
     | normal=>
       obtain ⟨m,hm⟩:=jg (c:=y) e
       exact ⟨max n m,by rw [pP (Nat.le_max_left n m) hn];exact pP (Nat.le_max_right n m) hm⟩
     | ret=>exact ⟨n,by rw [hn];exact e⟩
     | exit id=>exact ⟨n,by rw [hn];exact e⟩
 | .cond c x y,st,r,e=>by
   simp only [dk] at e ⊢
   split at e
   · rename_i t hc
     split at e
     · rename_i ht
       obtain ⟨n,hn⟩:=jg e
       exact ⟨n,by rw [if_pos ht];exact hn⟩
     · rename_i ht
       obtain ⟨n,hn⟩:=jg e
       exact ⟨n,by rw [if_neg ht];exact hn⟩
   · simp at e
 | .block id x,st,r,e=>by
   simp only [dk] at e ⊢
   cases hx:dk (aL AP) k x st with
   | none=>rw [hx] at e;simp at e
   | some q=>
     obtain ⟨n,hn⟩:=jg hx
     rw [hx] at e
     exact ⟨n,by rw [hn];exact e⟩
 | .loop live x,st,r,e=>by
   simp only [dk] at e ⊢
   exact sL (fun h=>jg h) e
 | .exit id,_,_,e=>⟨0,e⟩
 | .ret,_,_,e=>⟨0,e⟩
 | .back c gb pi px sz ag live x y,st,r,e=>by
   simp only [dk] at e ⊢
   unfold jk at e ⊢
   split at e
   · split at e
     · rename_i hg
       split at e
       · split at e
         · rename_i hl
           obtain ⟨n,hn⟩:=sM (f:=fun n=>andThen (dk (run AP n n) n x) (dk (run AP n n) n y)) (fun h=>oV (fun s r hs=>pP h hs) (fun s r hs=>pP h hs)) (ur (fun h=>jg h) (fun h=>jg h)) e
           exact ⟨n,by rw [if_pos hg,if_pos hl];exact hn⟩
         · simp at e
       · simp at e
     · simp at e
   · simp at e
noncomputable def cl (AP:Nat→Option aD) (c:aA) (st:St):Option (bo×St):=I2 fun k=>dk (aL AP) k c st
theorem rB (c:aA) (st:St):yU fun k=>dk (aL AP) k c st:=fun _ _ _ h e=>cQ (eu.le_refl _) h e
theorem lE {c:aA} {st:St} {k:Nat} {r:bo×St} (h:dk (aL AP) k c st=some r):cl AP c st=some r:=sJ (rB c st) h
theorem MS {st:St}:cl AP .skip st=some (.normal,st):=lE (k:=0) rfl
theorem MT {id:Nat} {st:St}:cl AP (.exit id) st=some (.exit id,st):=lE (k:=0) rfl
theorem PO {ts:List Nat} {st:St}:cl AP (.dL ts) st=some (.normal,lU ts st):=lE (k:=0) rfl
theorem PQ {st:St}:cl AP .ret st=some (.ret,st):=lE (k:=0) rfl
theorem PR {ops:List dK} {live:List Nat} {st:St}:cl AP (.bw ops live) st=(bE (aL AP) ops st).map fun st'=>(.normal,restrict live st'):=by
 cases h:bE (aL AP) ops st with
 | none=>exact sK fun k=>by simp only [dk,h]
 | some s=>exact lE (k:=0) (by simp only [dk,h])
def after (f:St→Option (bo×St)):Option (bo×St)→Option (bo×St)
 | some (.normal,st)=>f st
 | r=>r
theorem PS {a b:aA} {st:St}:cl AP (.seq a b) st=after (cl AP b) (cl AP a st):=by
 refine mQ (rB _ _) (fun k r h=>?_) fun r h=>?_
 · simp only [dk] at h
   cases hx:dk (aL AP) k a st with
   | none=>rw [hx] at h;simp at h
   | some q=>
     rw [lE hx]
     rw [hx] at h
     obtain ⟨ex,s⟩:=q
     cases ex with
     | normal=>exact lE h
     | ret=>exact h
     | exit id=>exact h
 · cases hx:cl AP a st with
   | none=>rw [hx] at h;simp [after] at h
   | some q=>
     obtain ⟨k,hk⟩:=ia hx
     rw [hx] at h
     obtain ⟨ex,s⟩:=q
     cases ex with
     | normal=>
       obtain ⟨k',hk'⟩:=ia (show I2 (fun k=>dk (aL AP) k b s)=some r from h)
       refine ⟨max k k',?_⟩
       simp only [dk]
       rw [cQ (eu.le_refl _) (Nat.le_max_left k k') hk]
       exact cQ (eu.le_refl _) (Nat.le_max_right k k') hk'
     | ret=>exact ⟨k,by simp only [dk];rw [hk];exact h⟩
     | exit id=>exact ⟨k,by simp only [dk];rw [hk];exact h⟩
theorem MU {c:fF} {a b:aA} {st:St} {t:Bool} (h:ir st.env c=some (.pv (.bool t))):cl AP (.cond c a b) st=if t then cl AP a st else cl AP b st:=by
 unfold cl
 simp only [dk,h]
 cases t<;>rfl
def leave (id:Nat):Option (bo×St)→Option (bo×St)
 | some (.exit id',st)=>if id'=id then some (.normal,st) else some (.exit id',st)
 | r=>r
theorem Jr {id:Nat} {b:aA} {st:St}:cl AP (.block id b) st=leave id (cl AP b st):=by
 refine mQ (rB _ _) (fun k r h=>?_) fun r h=>?_
 · simp only [dk] at h
   cases hx:dk (aL AP) k b st with
   | none=>rw [hx] at h;simp at h
   | some q=>rw [lE hx];rw [hx] at h;exact h
 · cases hx:cl AP b st with
   | none=>rw [hx] at h;simp [leave] at h
   | some q=>
     obtain ⟨k,hk⟩:=ia hx
     rw [hx] at h
     exact ⟨k,by simp only [dk];rw [hk];exact h⟩
theorem aK {live:List Nat} {b:aA} {st:St}:cl AP (.loop live b) st=after (cl AP (.loop live b)) (cl AP b (norm (restrict live st))):=by
 refine mQ (rB _ _) (fun k r h=>?_) fun r h=>?_
 · simp only [dk] at h
   cases k with
   | zero=>simp [fQ] at h
   | succ k=>
     simp only [fQ] at h
     cases hx:dk (aL AP) (k+1) b (norm (restrict live st)) with
     | none=>rw [hx] at h;simp at h
     | some q=>
       rw [lE hx]
       rw [hx] at h
       obtain ⟨ex,s⟩:=q
       cases ex with
       | normal=>exact lE (k:=k+1) (by simp only [dk];exact jA (fun _ _ h=>h) (Nat.le_succ k) h)
       | ret=>exact h
       | exit id=>exact h
 · cases hx:cl AP b (norm (restrict live st)) with
   | none=>rw [hx] at h;simp [after] at h
   | some q=>
     obtain ⟨k,hk⟩:=ia hx
     rw [hx] at h
     obtain ⟨ex,s⟩:=q
     have up:∀m,k≤m→dk (aL AP) m b (norm (restrict live st))=some (ex,s):=fun m hm=>cQ (eu.le_refl _) hm hk
     cases ex with
     | normal=>
       obtain ⟨k',hk'⟩:=ia (show I2 (fun k=>dk (aL AP) k (.loop live b) s)=some r from h)
       refine ⟨max k k'+1,?_⟩
       simp only [dk,fQ]
       rw [up _ (by omega)]
       simp only [dk] at hk'
       exact jA (fun _ _ h=>cQ (eu.le_refl _) (by omega) h) (by omega) hk'
     | ret=>exact ⟨k+1,by simp only [dk,fQ];rw [up _ (by omega)];exact h⟩
     | exit id=>exact ⟨k+1,by simp only [dk,fQ];rw [up _ (by omega)];exact h⟩
def finish (bl:Bool) (af:aD) (sh:Sh):Option (bo×St)→Option (List AV×Sh×aH)
 | some (e,st)=>
   if e=.ret∨e=.normal then
     match eG st af.results with
     | some vs=>
       let rs:=cS bl af.ks st.sh vs
       let sh':=if rs.all (aM sh.length)=true then (fp bl af.ks st.sh vs).take sh.length else fp bl af.ks st.sh vs
       if rs.all cp=true then some ((dE st.ae rs sh').1,(dE st.ae rs sh').2.1,(dE st.ae rs sh').2.2.2) else none
     | none=>none
   else none
 | none=>none
theorem gJ {orc:eu} {k:Nat} {bl:Bool} {af:aD} {args:List AV} {sh:Sh} {ts:aH}:cL orc k bl af args sh ts=finish bl af sh (dk orc k af.body { env:=cK 0 args,mem:=[],sh,ae:=ts }):=by
 unfold cL finish
 cases dk orc k af.body { env:=cK 0 args,mem:=[],sh,ae:=ts } with
 | none=>rfl
 | some q=>obtain ⟨e,st⟩:=q;rfl
noncomputable def ni (AP:Nat→Option aD) (bl:Bool) (af:aD) (args:List AV) (sh:Sh) (ts:aH):Option (List AV×Sh×aH):=
 finish bl af sh (cl AP af.body { env:=cK 0 args,mem:=[],sh,ae:=ts })
theorem uZ {bl:Bool} {af:aD} {args:List AV} {sh:Sh} {ts:aH} {r:List AV×Sh×aH} (h:ni AP bl af args sh ts=some r):∃n,cL (run AP n n) n bl af args sh ts=some r:=by
 unfold ni at h
 cases hc:cl AP af.body { env:=cK 0 args,mem:=[],sh,ae:=ts } with
 | none=>rw [hc] at h;simp [finish] at h
 | some q=>
   obtain ⟨k,hk⟩:=ia hc
   obtain ⟨n,hn⟩:=jg hk
   exact ⟨n,by rw [gJ,hn,←hc];exact h⟩
theorem Eu {n:Nat} {bl:Bool} {af:aD} {args:List AV} {sh:Sh} {ts:aH} {r:List AV×Sh×aH} (h:cL (run AP n n) n bl af args sh ts=some r):ni AP bl af args sh ts=some r:=by
 rw [gJ] at h
 unfold ni
 cases hc:dk (run AP n n) n af.body { env:=cK 0 args,mem:=[],sh,ae:=ts } with
 | none=>rw [hc] at h;simp [finish] at h
 | some q=>
   rw [lE (cQ (Jp n) (Nat.le_refl n) hc)]
   rw [hc] at h
   exact h
theorem OP {g:Nat} {af:aD} {x:List PV} (hg:AP g=some af) (hp:af.pE=none) (h1:x.length=af.nparams) (h2:x.length≤af.ntmps) :
   (aL AP).p g x=(ni AP false af (x.map .pv) [] []).bind fun r=>gq r.1:=by
 refine mQ (rz g x) (fun k r h=>?_) fun r h=>?_
 · cases k with
   | zero=>simp [run] at h
   | succ k=>
     simp only [run,hg,hp] at h
     rw [if_pos ⟨h1,h2⟩] at h
     cases hb:cL (run AP (k+1) k) (k+1) false af (x.map .pv) [] [] with
     | none=>rw [hb] at h;simp at h
     | some q=>
       rw [Eu (n:=k+1) (fc (de (Nat.le_succ k) (Nat.le_refl _)) (Nat.le_refl _) hb)]
       rw [hb] at h
       exact h
 · cases hb:ni AP false af (x.map .pv) [] [] with
   | none=>rw [hb] at h;simp at h
   | some q=>
     obtain ⟨n,hn⟩:=uZ hb
     rw [hb] at h
     refine ⟨n+1,?_⟩
     simp only [run,hg,hp]
     rw [if_pos ⟨h1,h2⟩,fc (de (n:=n) (n':=n) (k:=n) (k':=n+1) (Nat.le_refl _) (Nat.le_succ n)) (Nat.le_succ n) hn]
     exact h
theorem u_:∀(l:List (Nat×List PV×List PV)),(∀c∈l,(aL AP).p c.1 c.2.1=some c.2.2)→∃n,∀c∈l,(run AP n n).p c.1 c.2.1=some c.2.2
 | [],_=>⟨0,by simp⟩
 | c::l,h=>by
   obtain ⟨n,hn⟩:=rA (h c (by simp))
   obtain ⟨m,hm⟩:=u_ l fun c' hc=>h c' (by simp [hc])
   refine ⟨max n m,fun c' hc=>?_⟩
   simp only [List.mem_cons] at hc
   rcases hc with rfl | hc
   · exact (de (Nat.le_max_left n m) (Nat.le_max_left n m)).p _ _ _ hn
   · exact (de (Nat.le_max_right n m) (Nat.le_max_right n m)).p _ _ _ (hm c' hc)
theorem wE {g:Nat} {af:aD} {x:List PV} {f:Prim} (hg:AP g=some af) (hp:af.pE=some f):(aL AP).p g x=f.f (aL AP).p x:=by
 refine mQ (rz g x) (fun k r h=>?_) fun r h=>?_
 · cases k with
   | zero=>simp [run] at h
   | succ k=>
     simp only [run,hg,hp] at h
     exact f.mono (fun g x r e=>(Jp (k+1)).p _ _ _ ((de (Nat.le_succ k) (Nat.le_refl _)).p _ _ _ e)) h
 · obtain ⟨l,h1,h2⟩:=f.fin _ _ _ h
   obtain ⟨n,hn⟩:=u_ l h1
   refine ⟨n+1,?_⟩
   simp only [run,hg,hp]
   exact h2 _ fun c hc=>(de (n:=n) (n':=n) (k:=n) (k':=n+1) (Nat.le_refl _) (Nat.le_succ n)).p _ _ _ (hn c hc)
theorem Ew {g:Nat} {af:aD} {x:List PV} {f:List PV→Option (List PV)} (hg:AP g=some af) (hp:af.pE=some (Prim.pure f)):(aL AP).p g x=f x:=wE hg hp
theorem OQ {g:Nat} {af:aD} {x:List AV} {sh:Sh} {ts:aH} (hg:AP g=some af) (h2:x.length≤af.ntmps):(aL AP).i g x sh ts=ni AP true af x sh ts:=by
 refine mQ (Es g x sh ts) (fun k r h=>?_) fun r h=>?_
 · cases k with
   | zero=>simp [run] at h
   | succ k=>
     simp only [run,hg] at h
     rw [if_pos h2] at h
     exact Eu (n:=k+1) (fc (de (Nat.le_succ k) (Nat.le_refl _)) (Nat.le_refl _) h)
 · obtain ⟨n,hn⟩:=uZ h
   refine ⟨n+1,?_⟩
   simp only [run,hg]
   rw [if_pos h2]
   exact fc (de (n:=n) (n':=n) (k:=n) (k':=n+1) (Nat.le_refl _) (Nat.le_succ n)) (Nat.le_succ n) hn
end Go.Ab
