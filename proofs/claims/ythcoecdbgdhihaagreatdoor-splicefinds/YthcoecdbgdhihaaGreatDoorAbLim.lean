import Derived.Test.YthcoecdbgdhihaaGreatDoorAbDefs
/-
  Without fuel: the limit of the evaluator.
-/
set_option linter.unusedVariables false
set_option linter.unusedSimpArgs false
set_option linter.unnecessarySimpa false
set_option maxRecDepth 100000
set_option maxHeartbeats 8000000
namespace Go.Ab
def xe {α:Type} (f:Nat→Option α):Prop:=∀k k' r,k≤k'→f k=some r→f k'=some r
open Classical in
noncomputable def FJ {α:Type} (f:Nat→Option α):Option α:=if h:∃r k,f k=some r then some h.choose else none
theorem re {α:Type} {f:Nat→Option α} (hf:xe f) {k:Nat} {r:α} (h:f k=some r):FJ f=some r:=by
 have hex:∃r k,f k=some r:=⟨r,k,h⟩
 unfold FJ
 rw [dif_pos hex]
 obtain ⟨k',h'⟩:=hex.choose_spec
 have h1:=hf _ (max k k') _ (Nat.le_max_right _ _) h'
 have h2:=hf _ (max k k') _ (Nat.le_max_left _ _) h
 rw [h1] at h2
 exact h2
theorem gL {α:Type} {f:Nat→Option α} {r:α} (h:FJ f=some r):∃k,f k=some r:=by
 unfold FJ at h
 split at h
 · rename_i hex
   obtain ⟨k,hk⟩:=hex.choose_spec
   cases h
   exact ⟨k,hk⟩
 · simp at h
theorem rf {α:Type} {f:Nat→Option α} (h:∀k,f k=none):FJ f=none:=by
 cases hl:FJ f with
 | none=>rfl
 | some r=>obtain ⟨k,hk⟩:=gL hl;rw [h k] at hk;simp at hk
theorem lT {α:Type} {f:Nat→Option α} (hf:xe f) {o:Option α} (h1:∀k r,f k=some r→o=some r) (h2:∀r,o=some r→∃k,f k=some r):FJ f=o:=by
 cases ho:o with
 | none=>exact rf fun k=>by cases hk:f k with | none=>rfl | some r=>rw [h1 k r hk] at ho;simp at ho
 | some r=>obtain ⟨k,hk⟩:=h2 r ho;exact re hf hk
structure ek.le (a b:ek):Prop where
 p:∀g x r,a.p g x=some r→b.p g x=some r
 i:∀g x s t r,a.i g x s t=some r→b.i g x s t=some r
theorem ek.le_refl (a:ek):a.le a:=⟨fun _ _ _ h=>h,fun _ _ _ _ _ h=>h⟩
theorem jB {a b:ek} (h:a.le b) {g:Nat} {own:List Nat} {vals:List AV} {sh:Sh} {ah:aN} {r:AV×Sh×aN} (e:en a g own vals sh ah=some r):en b g own vals sh ah=some r:=by
 unfold en at *
 split at e
 · rename_i hp
   rw [if_pos hp]
   simp only [Option.map_eq_some_iff] at e ⊢
   obtain ⟨x,h1,h2⟩:=e
   exact ⟨x,h.i _ _ _ _ _ h1,h2⟩
 · simp at e
theorem Dh {a b:ek} (h:a.le b) {op:AK} {vals:List AV} {cells:Option (List AV)} {sh:Sh} {ah:aN} {r:Out} (e:exec a op vals cells sh ah=some r):exec b op vals cells sh ah=some r:=by
 cases op with
 | aq g=>
   simp only [exec] at e ⊢
   split at e
   · simp only [Option.map_eq_some_iff] at e ⊢
     obtain ⟨x,h1,h2⟩:=e
     exact ⟨x,h.p _ _ _ h1,h2⟩
   · simp at e
 | dK g=>
   simp only [exec] at e ⊢
   split at e
   · simp only [Option.map_eq_some_iff] at e ⊢
     obtain ⟨x,h1,h2⟩:=e
     exact ⟨x,h.p _ _ _ h1,h2⟩
   · simp at e
 | aI g own=>
   simp only [exec,Option.map_eq_some_iff] at e ⊢
   obtain ⟨x,h1,h2⟩:=e
   exact ⟨x,jB h h1,h2⟩
 | kT g=>
   simp only [exec] at e ⊢
   split at e
   · split at e
     · rename_i rs ts h1
       rw [h.i _ _ _ _ _ h1]
       exact e
     · simp at e
   · simp at e
 | dw=>
   cases vals with
   | nil=>simp [exec] at e
   | cons f vals=>
     cases f with
     | fn g cap=>
       simp only [exec,Option.bind_eq_some_iff] at e ⊢
       obtain ⟨x,h1,h2⟩:=e
       exact ⟨x,jB h h1,h2⟩
     | _=>simp [exec] at e
 | fU=>
   cases vals with
   | nil=>simp [exec] at e
   | cons f vals=>
     cases f with
     | fn g cap=>
       simp only [exec,Option.map_eq_some_iff] at e ⊢
       obtain ⟨x,h1,h2⟩:=e
       exact ⟨x,jB h h1,h2⟩
     | _=>simp [exec] at e
 | _=>rw [←e];unfold exec;split<;>first | rfl | (rename_i heq;cases heq;done) | (simp at *;done)
theorem tL {a b:ek} (h:a.le b) {o:dq} {st r:St} (e:d_ a o st=some r):d_ b o st=some r:=by
 unfold d_ at *
 cases hw:fp st.env o.guard with
 | none=>rw [hw] at e;simp at e
 | some t=>
   cases t with
   | false=>rw [hw] at e;exact e
   | true=>
     rw [hw] at e
     dsimp only at e ⊢
     cases hv:ef st.env o.args with
     | none=>rw [hv] at e;simp at e
     | some vals=>
       rw [hv] at e
       dsimp only at e ⊢
       cases ho:exec a o.op vals (o.op.key.bind (look st.mem)) st.sh st.ah with
       | none=>rw [ho] at e;simp at e
       | some out=>
         rw [ho] at e
         rw [Dh h ho]
         exact e
theorem mI {a b:ek} (h:a.le b):∀{l:List dq} {st r:St},bM a l st=some r→bM b l st=some r
 | [],_,_,e=>e
 | o::l,st,r,e=>by
   simp only [bM] at e ⊢
   split at e
   · simp at e
   · rename_i st' ho
     rw [tL h ho]
     exact mI h e
theorem je {f f':St→Option (bG×St)} {pre:St→St} (h:∀s r,f s=some r→f' s=some r):∀{n n':Nat} {st:St} {r:bG×St},n≤n'→fe f pre n st=some r→fe f' pre n' st=some r
 | 0,_,_,_,_,e=>by simp [fe] at e
 | n+1,0,_,_,hn,_=>by omega
 | n+1,n'+1,st,r,hn,e=>by
   simp only [fe] at e ⊢
   cases hf:f (pre st) with
   | none=>rw [hf] at e;simp at e
   | some q=>
     rw [h _ _ hf]
     rw [hf] at e
     obtain ⟨x,s⟩:=q
     cases x with
     | normal=>exact je h (by omega) e
     | ret=>exact e
     | exit id=>exact e
theorem mJ {f f':St→Option (bG×St)} (h:∀s r,f s=some r→f' s=some r) {live:List Nat} {pi px sz:Nat} {ag:Bool} {env:List (Nat×AV)}:∀{l:List (PV×Nat)} {st:St} {r:bG×St},
   oQ f live pi px sz ag env l st=some r→oQ f' live pi px sz ag env l st=some r
 | [],_,_,e=>e
 | (el,i)::l,st,r,e=>by
   simp only [oQ] at e ⊢
   cases hv:Lx sz ag el with
   | none=>rw [hv] at e;simp at e
   | some v=>
     rw [hv] at e
     simp only at e ⊢
     cases hf:f (norm (restrict live { st with env:=dL (dL env pi (.pv (.int .i64 i))) px v })) with
     | none=>rw [hf] at e;simp at e
     | some q=>
       rw [h _ _ hf]
       rw [hf] at e
       obtain ⟨x,s⟩:=q
       cases x with
       | normal=>exact mJ h e
       | ret=>exact e
       | exit id=>exact e
theorem sR {f f':St→Option (bG×St)} (h:∀s r,f s=some r→f' s=some r) {v:Option AV} {gb pi px sz:Nat} {ag:Bool} {live:List Nat} {st:St} {r:bG×St}
   (e:kX f v gb pi px sz ag live st=some r):kX f' v gb pi px sz ag live st=some r:=by
 unfold kX at e ⊢
 split at e
 · split at e
   · rename_i hg
     rw [if_pos hg]
     split at e
     · split at e
       · rename_i hl
         rw [if_pos hl]
         exact mJ h e
       · simp at e
     · simp at e
   · simp at e
 · simp at e
theorem nB {f g f' g':St→Option (bG×St)} (h:∀s r,f s=some r→f' s=some r) (k:∀s r,g s=some r→g' s=some r):∀s r,andThen f g s=some r→andThen f' g' s=some r:=by
 intro s r e
 unfold andThen at e ⊢
 cases hf:f s with
 | none=>rw [hf] at e;simp at e
 | some q=>
   rw [h _ _ hf]
   rw [hf] at e
   obtain ⟨x,t⟩:=q
   cases x with
   | normal=>exact k _ _ e
   | ret=>simp at e
   | exit id=>simp at e
theorem cM {a b:ek} (h:a.le b) {k k':Nat} (hk:k≤k'):∀{c:au} {st:St} {r:bG×St},dd a k c st=some r→dd b k' c st=some r
 | .skip,_,_,e=>e
 | .dO _,_,_,e=>e
 | .Lu _,_,_,e=>e
 | .kR _,_,_,e=>e
 | .kU _,_,_,e=>e
 | .Lv _,_,_,e=>e
 | .bn ops live,st,r,e=>by
   simp only [dd] at e ⊢
   split at e
   · rename_i st' ho
     rw [mI h ho]
     exact e
   · simp at e
 | .seq x y,st,r,e=>by
   simp only [dd] at e ⊢
   cases hx:dd a k x st with
   | none=>rw [hx] at e;simp at e
   | some q=>
     rw [cM h hk hx]
     rw [hx] at e
     obtain ⟨ex,s⟩:=q
     cases ex with
     | normal=>exact cM h hk e
     | ret=>exact e
     | exit id=>exact e
 | .cond c x y,st,r,e=>by
   simp only [dd] at e ⊢
   split at e
   · rename_i t hc
     split at e
     · rename_i ht;rw [if_pos ht];exact cM h hk e
     · rename_i ht;rw [if_neg ht];exact cM h hk e
   · simp at e
 | .block id x,st,r,e=>by
   simp only [dd] at e ⊢
   cases hx:dd a k x st with
   | none=>rw [hx] at e;simp at e
   | some q=>
     rw [cM h hk hx]
     rw [hx] at e
     exact e
 | .loop live x,st,r,e=>by
   simp only [dd] at e ⊢
   exact je (fun s r hs=>cM h hk hs) hk e
 | .exit id,_,_,e=>e
 | .ret,_,_,e=>e
 | .back c gb pi px sz ag live x y,st,r,e=>by
   simp only [dd] at e ⊢
   exact sR (nB (fun s r hs=>cM h hk hs) (fun s r hs=>cM h hk hs)) e
theorem eM {a b:ek} (h:a.le b) {k k':Nat} (hk:k≤k') {bq:Bool} {af:aD} {args:List AV} {sh:Sh} {ts:aN} {r:List AV×Sh×aN} (e:cG a k bq af args sh ts=some r):cG b k' bq af args sh ts=some r:=by
 unfold cG at *
 cases hc:dd a k af.body { env:=cE 0 args,mem:=[],sh,ah:=ts } with
 | none=>rw [hc] at e;simp at e
 | some q=>rw [cM h hk hc];rw [hc] at e;exact e
variable {AP:Nat→Option aD}
theorem cX:∀{n n' k k':Nat},n≤n'→k≤k'→(run AP k n).le (run AP k' n')
 | 0,_,_,_,_,_=>⟨fun g x r e=>by simp [run] at e,fun g x s t r e=>by simp [run] at e⟩
 | n+1,0,_,_,h,_=>by omega
 | n+1,n'+1,k,k',h,hk=>by
   have ih:(run AP k n).le (run AP k' n'):=cX (by omega) hk
   refine ⟨fun g x r e=>?_,fun g x s t r e=>?_⟩
   · simp only [run] at e ⊢
     cases hg:AP g with
     | none=>rw [hg] at e;simp at e
     | some af=>
       rw [hg] at e
       dsimp only at e ⊢
       cases hp:af.pO with
       | some f=>rw [hp] at e;exact f.mono ih.p e
       | none=>
         rw [hp] at e
         dsimp only at e ⊢
         split at e
         · rename_i hc
           rw [if_pos hc]
           cases hb:cG (run AP k n) k false af (x.map .pv) [] [] with
           | none=>rw [hb] at e;simp at e
           | some q=>rw [eM ih hk hb];rw [hb] at e;exact e
         · simp at e
   · simp only [run] at e ⊢
     cases hg:AP g with
     | none=>rw [hg] at e;simp at e
     | some af=>
       rw [hg] at e
       dsimp only at e ⊢
       split at e
       · rename_i hc
         rw [if_pos hc]
         exact eM ih hk e
       · simp at e
noncomputable def aQ (AP:Nat→Option aD):ek where
 p:=fun g x=>FJ fun n=>(run AP n n).p g x
 i:=fun g x s t=>FJ fun n=>(run AP n n).i g x s t
theorem p9 (g:Nat) (x:List PV):xe fun n=>(run AP n n).p g x:=fun _ _ _ h e=>(cX h h).p _ _ _ e
theorem B3 (g:Nat) (x:List AV) (s:Sh) (t:aN):xe fun n=>(run AP n n).i g x s t:=fun _ _ _ h e=>(cX h h).i _ _ _ _ _ e
theorem F7 (n:Nat):(run AP n n).le (aQ AP):=⟨fun g x _ e=>re (p9 g x) e,fun g x s t _ e=>re (B3 g x s t) e⟩
theorem p_ {g:Nat} {x:List PV} {r:List PV} (h:(aQ AP).p g x=some r):∃n,(run AP n n).p g x=some r:=gL h
theorem B4 {g:Nat} {x:List AV} {s:Sh} {t:aN} {r:List AV×Sh×aN} (h:(aQ AP).i g x s t=some r):∃n,(run AP n n).i g x s t=some r:=gL h
theorem mK {g:Nat} {own:List Nat} {vals:List AV} {sh:Sh} {ah:aN} {r:AV×Sh×aN} (e:en (aQ AP) g own vals sh ah=some r):∃n,en (run AP n n) g own vals sh ah=some r:=by
 unfold en at *
 split at e
 · rename_i hp
   simp only [Option.map_eq_some_iff] at e
   obtain ⟨x,h1,h2⟩:=e
   obtain ⟨n,hn⟩:=B4 h1
   exact ⟨n,by rw [if_pos hp,hn];simp only [Option.map_some,h2]⟩
 · simp at e
theorem zx {op:AK} {vals:List AV} {cells:Option (List AV)} {sh:Sh} {ah:aN} {r:Out} (e:exec (aQ AP) op vals cells sh ah=some r):∃n,exec (run AP n n) op vals cells sh ah=some r:=by
 cases op with
 | aq g=>
   simp only [exec] at e ⊢
   split at e
   · rename_i dt hp
     simp only [Option.map_eq_some_iff] at e
     obtain ⟨x,h1,h2⟩:=e
     obtain ⟨n,hn⟩:=p_ h1
     exact ⟨n,by rw [hn];simp only [Option.map_some,h2]⟩
   · simp at e
 | dK g=>
   simp only [exec] at e ⊢
   split at e
   · rename_i dt hp
     simp only [Option.map_eq_some_iff] at e
     obtain ⟨x,h1,h2⟩:=e
     obtain ⟨n,hn⟩:=p_ h1
     exact ⟨n,by rw [hn];simp only [Option.map_some,h2]⟩
   · simp at e
 | aI g own=>
   simp only [exec,Option.map_eq_some_iff] at e ⊢
   obtain ⟨x,h1,h2⟩:=e
   obtain ⟨n,hn⟩:=mK h1
   exact ⟨n,x,hn,h2⟩
 | kT g=>
   simp only [exec] at e ⊢
   split at e
   · split at e
     · rename_i rs ts h1
       obtain ⟨n,hn⟩:=B4 h1
       exact ⟨n,by rw [hn];exact e⟩
     · simp at e
   · simp at e
 | dw=>
   cases vals with
   | nil=>simp [exec] at e
   | cons f vals=>
     cases f with
     | fn g cap=>
       simp only [exec,Option.bind_eq_some_iff] at e ⊢
       obtain ⟨x,h1,h2⟩:=e
       obtain ⟨n,hn⟩:=mK h1
       exact ⟨n,x,hn,h2⟩
     | _=>simp [exec] at e
 | fU=>
   cases vals with
   | nil=>simp [exec] at e
   | cons f vals=>
     cases f with
     | fn g cap=>
       simp only [exec,Option.map_eq_some_iff] at e ⊢
       obtain ⟨x,h1,h2⟩:=e
       obtain ⟨n,hn⟩:=mK h1
       exact ⟨n,x,hn,h2⟩
     | _=>simp [exec] at e
 | _=>exact ⟨0,by rw [←e];unfold exec;split<;>first | rfl | (rename_i heq;cases heq;done) | (simp at *;done)⟩
theorem F8 {o:dq} {st r:St} (e:d_ (aQ AP) o st=some r):∃n,d_ (run AP n n) o st=some r:=by
 unfold d_ at *
 cases hw:fp st.env o.guard with
 | none=>rw [hw] at e;simp at e
 | some t=>
   cases t with
   | false=>rw [hw] at e;exact ⟨0,e⟩
   | true=>
     rw [hw] at e
     dsimp only at e ⊢
     cases hv:ef st.env o.args with
     | none=>rw [hv] at e;simp at e
     | some vals=>
       rw [hv] at e
       dsimp only at e ⊢
       cases ho:exec (aQ AP) o.op vals (o.op.key.bind (look st.mem)) st.sh st.ah with
       | none=>rw [ho] at e;simp at e
       | some out=>
         obtain ⟨n,hn⟩:=zx ho
         rw [ho] at e
         exact ⟨n,by rw [hn];exact e⟩
theorem tM:∀{l:List dq} {st r:St},bM (aQ AP) l st=some r→∃n,bM (run AP n n) l st=some r
 | [],_,_,e=>⟨0,e⟩
 | o::l,st,r,e=>by
   simp only [bM] at e ⊢
   cases ho:d_ (aQ AP) o st with
   | none=>rw [ho] at e;simp at e
   | some s=>
     rw [ho] at e
     obtain ⟨n,hn⟩:=F8 ho
     obtain ⟨m,hm⟩:=tM (l:=l) e
     refine ⟨max n m,?_⟩
     rw [tL (cX (Nat.le_max_left n m) (Nat.le_max_left n m)) hn]
     exact mI (cX (Nat.le_max_right n m) (Nat.le_max_right n m)) hm
theorem rh {k:Nat} {c:au} {pre:St→St} (ih:∀{st:St} {r:bG×St},dd (aQ AP) k c st=some r→∃n,dd (run AP n n) n c st=some r) :
   ∀{j:Nat} {st:St} {r:bG×St},fe (dd (aQ AP) k c) pre j st=some r→∃n,fe (dd (run AP n n) n c) pre n st=some r
 | 0,_,_,e=>by simp [fe] at e
 | j+1,st,r,e=>by
   simp only [fe] at e
   cases hf:dd (aQ AP) k c (pre st) with
   | none=>rw [hf] at e;simp at e
   | some q=>
     obtain ⟨n,hn⟩:=ih hf
     rw [hf] at e
     obtain ⟨x,s⟩:=q
     cases x with
     | normal=>
       obtain ⟨m,hm⟩:=rh ih e
       refine ⟨max n m+1,?_⟩
       simp only [fe]
       rw [cM (cX (n:=n) (n':=max n m+1) (by omega) (by omega)) (k:=n) (k':=max n m+1) (by omega) hn]
       exact je (fun s r hs=>cM (cX (n:=m) (by omega) (by omega)) (k:=m) (by omega) hs) (n:=m) (by omega) hm
     | ret=>
       refine ⟨n+1,?_⟩
       simp only [fe]
       rw [cM (cX (n:=n) (n':=n+1) (by omega) (by omega)) (k:=n) (k':=n+1) (by omega) hn]
       exact e
     | exit id=>
       refine ⟨n+1,?_⟩
       simp only [fe]
       rw [cM (cX (n:=n) (n':=n+1) (by omega) (by omega)) (k:=n) (k':=n+1) (by omega) hn]
       exact e
theorem oo {n m:Nat} (h:n≤m) {c:au} {st:St} {r:bG×St} (e:dd (run AP n n) n c st=some r):dd (run AP m m) m c st=some r:=cM (cX h h) h e
theorem sT {k:Nat} {x y:au} (ihx:∀{st:St} {r:bG×St},dd (aQ AP) k x st=some r→∃n,dd (run AP n n) n x st=some r) (ihy:∀{st:St} {r:bG×St},dd (aQ AP) k y st=some r→∃n,dd (run AP n n) n y st=some r)
   {st:St} {r:bG×St} (e:andThen (dd (aQ AP) k x) (dd (aQ AP) k y) st=some r):∃n,andThen (dd (run AP n n) n x) (dd (run AP n n) n y) st=some r:=by
 unfold andThen at e ⊢
 cases hx:dd (aQ AP) k x st with
 | none=>rw [hx] at e;simp at e
 | some q=>
   obtain ⟨n,hn⟩:=ihx hx
   rw [hx] at e
   obtain ⟨ex,s⟩:=q
   cases ex with
   | normal=>
     obtain ⟨m,hm⟩:=ihy e
     exact ⟨max n m,by rw [oo (Nat.le_max_left n m) hn];exact oo (Nat.le_max_right n m) hm⟩
   | ret=>simp at e
   | exit id=>simp at e
theorem ri {F:St→Option (bG×St)} {f:Nat→St→Option (bG×St)} (hm:∀{n m:Nat},n≤m→∀s r,f n s=some r→f m s=some r) (ih:∀{st:St} {r:bG×St},F st=some r→∃n,f n st=some r)
   {live:List Nat} {pi px sz:Nat} {ag:Bool} {env:List (Nat×AV)}:∀{l:List (PV×Nat)} {st:St} {r:bG×St},oQ F live pi px sz ag env l st=some r→∃n,oQ (f n) live pi px sz ag env l st=some r
 | [],_,_,e=>⟨0,e⟩
 | (el,i)::l,st,r,e=>by
   simp only [oQ] at e ⊢
   cases hv:Lx sz ag el with
   | none=>rw [hv] at e;simp at e
   | some v=>
     rw [hv] at e
     simp only at e ⊢
     cases hf:F (norm (restrict live { st with env:=dL (dL env pi (.pv (.int .i64 i))) px v })) with
     | none=>rw [hf] at e;simp at e
     | some q=>
       obtain ⟨n,hn⟩:=ih hf
       rw [hf] at e
       obtain ⟨x,s⟩:=q
       cases x with
       | normal=>
         obtain ⟨m,hm'⟩:=ri hm ih e
         exact ⟨max n m,by rw [hm (Nat.le_max_left n m) _ _ hn];exact mJ (hm (Nat.le_max_right n m)) hm'⟩
       | ret=>exact ⟨n,by rw [hn];exact e⟩
       | exit id=>exact ⟨n,by rw [hn];exact e⟩
theorem iO {k:Nat}:∀{c:au} {st:St} {r:bG×St},dd (aQ AP) k c st=some r→∃n,dd (run AP n n) n c st=some r
 | .skip,_,_,e=>⟨0,e⟩
 | .dO _,_,_,e=>⟨0,e⟩
 | .Lu _,_,_,e=>⟨0,e⟩
 | .kR _,_,_,e=>⟨0,e⟩
 | .kU _,_,_,e=>⟨0,e⟩
 | .Lv _,_,_,e=>⟨0,e⟩
 | .bn ops live,st,r,e=>by
   simp only [dd] at e ⊢
   cases ho:bM (aQ AP) ops st with
   | none=>rw [ho] at e;simp at e
   | some s=>obtain ⟨n,hn⟩:=tM ho;rw [ho] at e;exact ⟨n,by rw [hn];exact e⟩
 | .seq x y,st,r,e=>by
   simp only [dd] at e ⊢
   cases hx:dd (aQ AP) k x st with
   | none=>rw [hx] at e;simp at e
   | some q=>
     obtain ⟨n,hn⟩:=iO hx
     rw [hx] at e
     obtain ⟨ex,s⟩:=q
     cases ex with
     | normal=>
       obtain ⟨m,hm⟩:=iO (c:=y) e
       exact ⟨max n m,by rw [oo (Nat.le_max_left n m) hn];exact oo (Nat.le_max_right n m) hm⟩
     | ret=>exact ⟨n,by rw [hn];exact e⟩
     | exit id=>exact ⟨n,by rw [hn];exact e⟩
 | .cond c x y,st,r,e=>by
   simp only [dd] at e ⊢
   split at e
   · rename_i t hc
     split at e
     · rename_i ht
       obtain ⟨n,hn⟩:=iO e
       exact ⟨n,by rw [if_pos ht];exact hn⟩
     · rename_i ht
       obtain ⟨n,hn⟩:=iO e
       exact ⟨n,by rw [if_neg ht];exact hn⟩
   · simp at e
 | .block id x,st,r,e=>by
   simp only [dd] at e ⊢
   cases hx:dd (aQ AP) k x st with
   | none=>rw [hx] at e;simp at e
   | some q=>
     obtain ⟨n,hn⟩:=iO hx
     rw [hx] at e
     exact ⟨n,by rw [hn];exact e⟩
 | .loop live x,st,r,e=>by
   simp only [dd] at e ⊢
   exact rh (fun h=>iO h) e
 | .exit id,_,_,e=>⟨0,e⟩
 | .ret,_,_,e=>⟨0,e⟩
 | .back c gb pi px sz ag live x y,st,r,e=>by
   simp only [dd] at e ⊢
   unfold kX at e ⊢
   split at e
   · split at e
     · rename_i hg
       split at e
       · split at e
         · rename_i hl
           obtain ⟨n,hn⟩:=ri (f:=fun n=>andThen (dd (run AP n n) n x) (dd (run AP n n) n y)) (fun h=>nB (fun s r hs=>oo h hs) (fun s r hs=>oo h hs)) (sT (fun h=>iO h) (fun h=>iO h)) e
           exact ⟨n,by rw [if_pos hg,if_pos hl];exact hn⟩
         · simp at e
       · simp at e
     · simp at e
   · simp at e
noncomputable def cl (AP:Nat→Option aD) (c:au) (st:St):Option (bG×St):=FJ fun k=>dd (aQ AP) k c st
theorem qa (c:au) (st:St):xe fun k=>dd (aQ AP) k c st:=fun _ _ _ h e=>cM (ek.le_refl _) h e
theorem kH {c:au} {st:St} {k:Nat} {r:bG×St} (h:dd (aQ AP) k c st=some r):cl AP c st=some r:=re (qa c st) h
theorem I6 {st:St}:cl AP .skip st=some (.normal,st):=kH (k:=0) rfl
theorem I7 {id:Nat} {st:St}:cl AP (.exit id) st=some (.exit id,st):=kH (k:=0) rfl
theorem LM {ts:List Nat} {st:St}:cl AP (.dO ts) st=some (.normal,mw ts st):=kH (k:=0) rfl
theorem LN {st:St}:cl AP .ret st=some (.ret,st):=kH (k:=0) rfl
theorem LO {ops:List dq} {live:List Nat} {st:St}:cl AP (.bn ops live) st=(bM (aQ AP) ops st).map fun st'=>(.normal,restrict live st'):=by
 cases h:bM (aQ AP) ops st with
 | none=>exact rf fun k=>by simp only [dd,h]
 | some s=>exact kH (k:=0) (by simp only [dd,h])
def after (f:St→Option (bG×St)):Option (bG×St)→Option (bG×St)
 | some (.normal,st)=>f st
 | r=>r
theorem LP {a b:au} {st:St}:cl AP (.seq a b) st=after (cl AP b) (cl AP a st):=by
 refine lT (qa _ _) (fun k r h=>?_) fun r h=>?_
 · simp only [dd] at h
   cases hx:dd (aQ AP) k a st with
   | none=>rw [hx] at h;simp at h
   | some q=>
     rw [kH hx]
     rw [hx] at h
     obtain ⟨ex,s⟩:=q
     cases ex with
     | normal=>exact kH h
     | ret=>exact h
     | exit id=>exact h
 · cases hx:cl AP a st with
   | none=>rw [hx] at h;simp [after] at h
   | some q=>
     obtain ⟨k,hk⟩:=gL hx
     rw [hx] at h
     obtain ⟨ex,s⟩:=q
     cases ex with
     | normal=>
       obtain ⟨k',hk'⟩:=gL (show FJ (fun k=>dd (aQ AP) k b s)=some r from h)
       refine ⟨max k k',?_⟩
       simp only [dd]
       rw [cM (ek.le_refl _) (Nat.le_max_left k k') hk]
       exact cM (ek.le_refl _) (Nat.le_max_right k k') hk'
     | ret=>exact ⟨k,by simp only [dd];rw [hk];exact h⟩
     | exit id=>exact ⟨k,by simp only [dd];rw [hk];exact h⟩
theorem I8 {c:eU} {a b:au} {st:St} {t:Bool} (h:gT st.env c=some (.pv (.bool t))):cl AP (.cond c a b) st=if t then cl AP a st else cl AP b st:=by
 unfold cl
 simp only [dd,h]
 cases t<;>rfl
def leave (id:Nat):Option (bG×St)→Option (bG×St)
 | some (.exit id',st)=>if id'=id then some (.normal,st) else some (.exit id',st)
 | r=>r
theorem F9 {id:Nat} {b:au} {st:St}:cl AP (.block id b) st=leave id (cl AP b st):=by
 refine lT (qa _ _) (fun k r h=>?_) fun r h=>?_
 · simp only [dd] at h
   cases hx:dd (aQ AP) k b st with
   | none=>rw [hx] at h;simp at h
   | some q=>rw [kH hx];rw [hx] at h;exact h
 · cases hx:cl AP b st with
   | none=>rw [hx] at h;simp [leave] at h
   | some q=>
     obtain ⟨k,hk⟩:=gL hx
     rw [hx] at h
     exact ⟨k,by simp only [dd];rw [hk];exact h⟩
theorem aF {live:List Nat} {b:au} {st:St}:cl AP (.loop live b) st=after (cl AP (.loop live b)) (cl AP b (norm (restrict live st))):=by
 refine lT (qa _ _) (fun k r h=>?_) fun r h=>?_
 · simp only [dd] at h
   cases k with
   | zero=>simp [fe] at h
   | succ k=>
     simp only [fe] at h
     cases hx:dd (aQ AP) (k+1) b (norm (restrict live st)) with
     | none=>rw [hx] at h;simp at h
     | some q=>
       rw [kH hx]
       rw [hx] at h
       obtain ⟨ex,s⟩:=q
       cases ex with
       | normal=>exact kH (k:=k+1) (by simp only [dd];exact je (fun _ _ h=>h) (Nat.le_succ k) h)
       | ret=>exact h
       | exit id=>exact h
 · cases hx:cl AP b (norm (restrict live st)) with
   | none=>rw [hx] at h;simp [after] at h
   | some q=>
     obtain ⟨k,hk⟩:=gL hx
     rw [hx] at h
     obtain ⟨ex,s⟩:=q
     have up:∀m,k≤m→dd (aQ AP) m b (norm (restrict live st))=some (ex,s):=fun m hm=>cM (ek.le_refl _) hm hk
     cases ex with
     | normal=>
       obtain ⟨k',hk'⟩:=gL (show FJ (fun k=>dd (aQ AP) k (.loop live b) s)=some r from h)
       refine ⟨max k k'+1,?_⟩
       simp only [dd,fe]
       rw [up _ (by omega)]
       simp only [dd] at hk'
       exact je (fun _ _ h=>cM (ek.le_refl _) (by omega) h) (by omega) hk'
     | ret=>exact ⟨k+1,by simp only [dd,fe];rw [up _ (by omega)];exact h⟩
     | exit id=>exact ⟨k+1,by simp only [dd,fe];rw [up _ (by omega)];exact h⟩
def finish (bq:Bool) (af:aD) (sh:Sh):Option (bG×St)→Option (List AV×Sh×aN)
 | some (e,st)=>
   if e=.ret∨e=.normal then
     match eo st af.results with
     | some vs=>
       let rs:=cN bq af.ks st.sh vs
       let sh':=if rs.all (aV sh.length)=true then (eQ bq af.ks st.sh vs).take sh.length else eQ bq af.ks st.sh vs
       if rs.all cr=true then some ((dj st.ah rs sh').1,(dj st.ah rs sh').2.1,(dj st.ah rs sh').2.2.2) else none
     | none=>none
   else none
 | none=>none
theorem gk {orc:ek} {k:Nat} {bq:Bool} {af:aD} {args:List AV} {sh:Sh} {ts:aN}:cG orc k bq af args sh ts=finish bq af sh (dd orc k af.body { env:=cE 0 args,mem:=[],sh,ah:=ts }):=by
 unfold cG finish
 cases dd orc k af.body { env:=cE 0 args,mem:=[],sh,ah:=ts } with
 | none=>rfl
 | some q=>obtain ⟨e,st⟩:=q;rfl
noncomputable def ml (AP:Nat→Option aD) (bq:Bool) (af:aD) (args:List AV) (sh:Sh) (ts:aN):Option (List AV×Sh×aN):=
 finish bq af sh (cl AP af.body { env:=cE 0 args,mem:=[],sh,ah:=ts })
theorem tN {bq:Bool} {af:aD} {args:List AV} {sh:Sh} {ts:aN} {r:List AV×Sh×aN} (h:ml AP bq af args sh ts=some r):∃n,cG (run AP n n) n bq af args sh ts=some r:=by
 unfold ml at h
 cases hc:cl AP af.body { env:=cE 0 args,mem:=[],sh,ah:=ts } with
 | none=>rw [hc] at h;simp [finish] at h
 | some q=>
   obtain ⟨k,hk⟩:=gL hc
   obtain ⟨n,hn⟩:=iO hk
   exact ⟨n,by rw [gk,hn,←hc];exact h⟩
theorem B5 {n:Nat} {bq:Bool} {af:aD} {args:List AV} {sh:Sh} {ts:aN} {r:List AV×Sh×aN} (h:cG (run AP n n) n bq af args sh ts=some r):ml AP bq af args sh ts=some r:=by
 rw [gk] at h
 unfold ml
 cases hc:dd (run AP n n) n af.body { env:=cE 0 args,mem:=[],sh,ah:=ts } with
 | none=>rw [hc] at h;simp [finish] at h
 | some q=>
   rw [kH (cM (F7 n) (Nat.le_refl n) hc)]
   rw [hc] at h
   exact h
theorem KF {g:Nat} {af:aD} {x:List PV} (hg:AP g=some af) (hp:af.pO=none) (h1:x.length=af.nparams) (h2:x.length≤af.ntmps) :
   (aQ AP).p g x=(ml AP false af (x.map .pv) [] []).bind fun r=>fK r.1:=by
 refine lT (p9 g x) (fun k r h=>?_) fun r h=>?_
 · cases k with
   | zero=>simp [run] at h
   | succ k=>
     simp only [run,hg,hp] at h
     rw [if_pos ⟨h1,h2⟩] at h
     cases hb:cG (run AP (k+1) k) (k+1) false af (x.map .pv) [] [] with
     | none=>rw [hb] at h;simp at h
     | some q=>
       rw [B5 (n:=k+1) (eM (cX (Nat.le_succ k) (Nat.le_refl _)) (Nat.le_refl _) hb)]
       rw [hb] at h
       exact h
 · cases hb:ml AP false af (x.map .pv) [] [] with
   | none=>rw [hb] at h;simp at h
   | some q=>
     obtain ⟨n,hn⟩:=tN hb
     rw [hb] at h
     refine ⟨n+1,?_⟩
     simp only [run,hg,hp]
     rw [if_pos ⟨h1,h2⟩,eM (cX (n:=n) (n':=n) (k:=n) (k':=n+1) (Nat.le_refl _) (Nat.le_succ n)) (Nat.le_succ n) hn]
     exact h
theorem tO:∀(l:List (Nat×List PV×List PV)),(∀c∈l,(aQ AP).p c.1 c.2.1=some c.2.2)→∃n,∀c∈l,(run AP n n).p c.1 c.2.1=some c.2.2
 | [],_=>⟨0,by simp⟩
 | c::l,h=>by
   obtain ⟨n,hn⟩:=p_ (h c (by simp))
   obtain ⟨m,hm⟩:=tO l fun c' hc=>h c' (by simp [hc])
   refine ⟨max n m,fun c' hc=>?_⟩
   simp only [List.mem_cons] at hc
   rcases hc with rfl | hc
   · exact (cX (Nat.le_max_left n m) (Nat.le_max_left n m)).p _ _ _ hn
   · exact (cX (Nat.le_max_right n m) (Nat.le_max_right n m)).p _ _ _ (hm c' hc)
theorem I9 {g:Nat} {af:aD} {x:List PV} {f:Prim} (hg:AP g=some af) (hp:af.pO=some f):(aQ AP).p g x=f.f (aQ AP).p x:=by
 refine lT (p9 g x) (fun k r h=>?_) fun r h=>?_
 · cases k with
   | zero=>simp [run] at h
   | succ k=>
     simp only [run,hg,hp] at h
     exact f.mono (fun g x r e=>(F7 (k+1)).p _ _ _ ((cX (Nat.le_succ k) (Nat.le_refl _)).p _ _ _ e)) h
 · obtain ⟨l,h1,h2⟩:=f.fin _ _ _ h
   obtain ⟨n,hn⟩:=tO l h1
   refine ⟨n+1,?_⟩
   simp only [run,hg,hp]
   exact h2 _ fun c hc=>(cX (n:=n) (n':=n) (k:=n) (k':=n+1) (Nat.le_refl _) (Nat.le_succ n)).p _ _ _ (hn c hc)
theorem KH {g:Nat} {af:aD} {x:List AV} {sh:Sh} {ts:aN} (hg:AP g=some af) (h2:x.length≤af.ntmps):(aQ AP).i g x sh ts=ml AP true af x sh ts:=by
 refine lT (B3 g x sh ts) (fun k r h=>?_) fun r h=>?_
 · cases k with
   | zero=>simp [run] at h
   | succ k=>
     simp only [run,hg] at h
     rw [if_pos h2] at h
     exact B5 (n:=k+1) (eM (cX (Nat.le_succ k) (Nat.le_refl _)) (Nat.le_refl _) h)
 · obtain ⟨n,hn⟩:=tN h
   refine ⟨n+1,?_⟩
   simp only [run,hg]
   rw [if_pos h2]
   exact eM (cX (n:=n) (n':=n) (k:=n) (k':=n+1) (Nat.le_refl _) (Nat.le_succ n)) (Nat.le_succ n) hn
end Go.Ab
