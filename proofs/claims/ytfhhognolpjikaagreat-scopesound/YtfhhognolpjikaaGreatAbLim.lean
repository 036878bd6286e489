import Derived.Test.YtfhhognolpjikaaGreatAbDefs
/-
  Without fuel: the limit of the evaluator.
-/
set_option linter.unusedVariables false
set_option linter.unusedSimpArgs false
set_option maxRecDepth 100000
set_option maxHeartbeats 8000000
namespace Go.Ab
def wc {α:Type} (f:Nat→Option α):Prop:=∀k k' r,k≤k'→f k=some r→f k'=some r
open Classical in
noncomputable def Gd {α:Type} (f:Nat→Option α):Option α:=if h:∃r k,f k=some r then some h.choose else none
theorem qy {α:Type} {f:Nat→Option α} (hf:wc f) {k:Nat} {r:α} (h:f k=some r):Gd f=some r:=by
 have hex:∃r k,f k=some r:=⟨r,k,h⟩
 unfold Gd
 rw [dif_pos hex]
 obtain ⟨k',h'⟩:=hex.choose_spec
 have h1:=hf _ (max k k') _ (Nat.le_max_right _ _) h'
 have h2:=hf _ (max k k') _ (Nat.le_max_left _ _) h
 rw [h1] at h2
 exact h2
theorem gi {α:Type} {f:Nat→Option α} {r:α} (h:Gd f=some r):∃k,f k=some r:=by
 unfold Gd at h
 split at h
 · rename_i hex
   obtain ⟨k,hk⟩:=hex.choose_spec
   cases h
   exact ⟨k,hk⟩
 · simp at h
theorem qz {α:Type} {f:Nat→Option α} (h:∀k,f k=none):Gd f=none:=by
 cases hl:Gd f with
 | none=>rfl
 | some r=>obtain ⟨k,hk⟩:=gi hl;rw [h k] at hk;simp at hk
theorem lp {α:Type} {f:Nat→Option α} (hf:wc f) {o:Option α} (h1:∀k r,f k=some r→o=some r) (h2:∀r,o=some r→∃k,f k=some r):Gd f=o:=by
 cases ho:o with
 | none=>exact qz fun k=>by cases hk:f k with | none=>rfl | some r=>rw [h1 k r hk] at ho;simp at ho
 | some r=>obtain ⟨k,hk⟩:=h2 r ho;exact qy hf hk
structure eI.le (a b:eI):Prop where
 p:∀g x r,a.p g x=some r→b.p g x=some r
 i:∀g x s t r,a.i g x s t=some r→b.i g x s t=some r
theorem eI.le_refl (a:eI):a.le a:=⟨fun _ _ _ h=>h,fun _ _ _ _ _ h=>h⟩
theorem lL {a b:eI} (h:a.le b) {g:Nat} {own:List Nat} {vals:List AV} {sh:Sh} {ah:aL} {r:AV×Sh×aL} (e:en a g own vals sh ah=some r):en b g own vals sh ah=some r:=by
 unfold en at *
 split at e
 · rename_i hp
   rw [if_pos hp]
   simp only [Option.map_eq_some_iff] at e ⊢
   obtain ⟨x,h1,h2⟩:=e
   exact ⟨x,h.i _ _ _ _ _ h1,h2⟩
 · simp at e
theorem C7 {a b:eI} (h:a.le b) {op:AK} {vals:List AV} {cells:Option (List AV)} {sh:Sh} {ah:aL} {r:Out} (e:exec a op vals cells sh ah=some r):exec b op vals cells sh ah=some r:=by
 cases op with
 | aB g=>
   simp only [exec] at e ⊢
   split at e
   · simp only [Option.map_eq_some_iff] at e ⊢
     obtain ⟨x,h1,h2⟩:=e
     exact ⟨x,h.p _ _ _ h1,h2⟩
   · simp at e
 | dW g=>
   simp only [exec] at e ⊢
   split at e
   · simp only [Option.map_eq_some_iff] at e ⊢
     obtain ⟨x,h1,h2⟩:=e
     exact ⟨x,h.p _ _ _ h1,h2⟩
   · simp at e
 | aI g own=>
   simp only [exec,Option.map_eq_some_iff] at e ⊢
   obtain ⟨x,h1,h2⟩:=e
   exact ⟨x,lL h h1,h2⟩
 | jh g=>
   simp only [exec] at e ⊢
   split at e
   · split at e
     · rename_i rs ts h1
       rw [h.i _ _ _ _ _ h1]
       exact e
     · simp at e
   · simp at e
 | eK=>
   cases vals with
   | nil=>simp [exec] at e
   | cons f vals=>
     cases f with
     | fn g cap=>
       simp only [exec,Option.map_eq_some_iff] at e ⊢
       obtain ⟨x,h1,h2⟩:=e
       exact ⟨x,lL h h1,h2⟩
     | _=>simp [exec] at e
 | _=>rw [←e];unfold exec;split<;>first | rfl | (rename_i heq;cases heq;done) | (simp at *;done)
theorem sN {a b:eI} (h:a.le b) {o:dV} {st r:St} (e:eo a o st=some r):eo b o st=some r:=by
 unfold eo at *
 cases hw:eX st.env o.guard with
 | none=>rw [hw] at e;simp at e
 | some t=>
   cases t with
   | false=>rw [hw] at e;exact e
   | true=>
     rw [hw] at e
     dsimp only at e ⊢
     cases hv:dX st.env o.args with
     | none=>rw [hv] at e;simp at e
     | some vals=>
       rw [hv] at e
       dsimp only at e ⊢
       cases ho:exec a o.op vals (o.op.key.bind (look st.mem)) st.sh st.ah with
       | none=>rw [ho] at e;simp at e
       | some out=>
         rw [ho] at e
         rw [C7 h ho]
         exact e
theorem l8 {a b:eI} (h:a.le b):∀{l:List dV} {st r:St},bU a l st=some r→bU b l st=some r
 | [],_,_,e=>e
 | o::l,st,r,e=>by
   simp only [bU] at e ⊢
   split at e
   · simp at e
   · rename_i st' ho
     rw [sN h ho]
     exact l8 h e
theorem iM {f f':St→Option (a6×St)} {pre:St→St} (h:∀s r,f s=some r→f' s=some r):∀{n n':Nat} {st:St} {r:a6×St},n≤n'→eP f pre n st=some r→eP f' pre n' st=some r
 | 0,_,_,_,_,e=>by simp [eP] at e
 | n+1,0,_,_,hn,_=>by omega
 | n+1,n'+1,st,r,hn,e=>by
   simp only [eP] at e ⊢
   cases hf:f (pre st) with
   | none=>rw [hf] at e;simp at e
   | some q=>
     rw [h _ _ hf]
     rw [hf] at e
     obtain ⟨x,s⟩:=q
     cases x with
     | normal=>exact iM h (by omega) e
     | ret=>exact e
     | exit id=>exact e
theorem l9 {f f':St→Option (a6×St)} (h:∀s r,f s=some r→f' s=some r) {live:List Nat} {pi px sz:Nat} {ag:Bool} {env:List (Nat×AV)}:∀{l:List (PV×Nat)} {st:St} {r:a6×St},
   iy f live pi px sz ag env l st=some r→iy f' live pi px sz ag env l st=some r
 | [],_,_,e=>e
 | (el,i)::l,st,r,e=>by
   simp only [iy] at e ⊢
   cases hv:rQ sz ag el with
   | none=>rw [hv] at e;simp at e
   | some v=>
     rw [hv] at e
     simp only at e ⊢
     cases hf:f (norm (restrict live { st with env:=dC (dC env pi (.pv (.int .i64 i))) px v })) with
     | none=>rw [hf] at e;simp at e
     | some q=>
       rw [h _ _ hf]
       rw [hf] at e
       obtain ⟨x,s⟩:=q
       cases x with
       | normal=>exact l9 h e
       | ret=>exact e
       | exit id=>exact e
theorem rX {f f':St→Option (a6×St)} (h:∀s r,f s=some r→f' s=some r) {v:Option AV} {gb pi px sz:Nat} {ag:Bool} {live:List Nat} {st:St} {r:a6×St}
   (e:iz f v gb pi px sz ag live st=some r):iz f' v gb pi px sz ag live st=some r:=by
 unfold iz at e ⊢
 split at e
 · split at e
   · rename_i hg
     rw [if_pos hg]
     split at e
     · split at e
       · rename_i hl
         rw [if_pos hl]
         exact l9 h e
       · simp at e
     · simp at e
   · simp at e
 · simp at e
theorem mZ {f g f' g':St→Option (a6×St)} (h:∀s r,f s=some r→f' s=some r) (k:∀s r,g s=some r→g' s=some r):∀s r,andThen f g s=some r→andThen f' g' s=some r:=by
 intro s r e
 unfold andThen at e ⊢
 cases hf:f s with
 | none=>rw [hf] at e;simp at e
 | some q=>
   rw [h _ _ hf]
   rw [hf] at e
   obtain ⟨x,t⟩:=q
   cases x with
   | normal=>exact k _ _ e
   | ret=>simp at e
   | exit id=>simp at e
theorem cB {a b:eI} (h:a.le b) {k k':Nat} (hk:k≤k'):∀{c:aw} {st:St} {r:a6×St},du a k c st=some r→du b k' c st=some r
 | .skip,_,_,e=>e
 | .de _,_,_,e=>e
 | .ae ops live,st,r,e=>by
   simp only [du] at e ⊢
   split at e
   · rename_i st' ho
     rw [l8 h ho]
     exact e
   · simp at e
 | .seq x y,st,r,e=>by
   simp only [du] at e ⊢
   cases hx:du a k x st with
   | none=>rw [hx] at e;simp at e
   | some q=>
     rw [cB h hk hx]
     rw [hx] at e
     obtain ⟨ex,s⟩:=q
     cases ex with
     | normal=>exact cB h hk e
     | ret=>exact e
     | exit id=>exact e
 | .cond c x y,st,r,e=>by
   simp only [du] at e ⊢
   split at e
   · rename_i t hc
     split at e
     · rename_i ht;rw [if_pos ht];exact cB h hk e
     · rename_i ht;rw [if_neg ht];exact cB h hk e
   · simp at e
 | .block id x,st,r,e=>by
   simp only [du] at e ⊢
   cases hx:du a k x st with
   | none=>rw [hx] at e;simp at e
   | some q=>
     rw [cB h hk hx]
     rw [hx] at e
     exact e
 | .loop live x,st,r,e=>by
   simp only [du] at e ⊢
   exact iM (fun s r hs=>cB h hk hs) hk e
 | .exit id,_,_,e=>e
 | .ret,_,_,e=>e
 | .back c gb pi px sz ag live x y,st,r,e=>by
   simp only [du] at e ⊢
   exact rX (mZ (fun s r hs=>cB h hk hs) (fun s r hs=>cB h hk hs)) e
theorem ez {a b:eI} (h:a.le b) {k k':Nat} (hk:k≤k') {a9:Bool} {af:aH} {args:List AV} {sh:Sh} {ts:aL} {r:List AV×Sh×aL} (e:ct a k a9 af args sh ts=some r):ct b k' a9 af args sh ts=some r:=by
 unfold ct at *
 cases hc:du a k af.body { env:=cr 0 args,mem:=[],sh,ah:=ts } with
 | none=>rw [hc] at e;simp at e
 | some q=>rw [cB h hk hc];rw [hc] at e;exact e
variable {AP:Nat→Option aH}
theorem dH:∀{n n' k k':Nat},n≤n'→k≤k'→(run AP k n).le (run AP k' n')
 | 0,_,_,_,_,_=>⟨fun g x r e=>by simp [run] at e,fun g x s t r e=>by simp [run] at e⟩
 | n+1,0,_,_,h,_=>by omega
 | n+1,n'+1,k,k',h,hk=>by
   have ih:(run AP k n).le (run AP k' n'):=dH (by omega) hk
   refine ⟨fun g x r e=>?_,fun g x s t r e=>?_⟩
   · simp only [run] at e ⊢
     cases hg:AP g with
     | none=>rw [hg] at e;simp at e
     | some af=>
       rw [hg] at e
       dsimp only at e ⊢
       cases hp:af.p8 with
       | some f=>rw [hp] at e;exact e
       | none=>
         rw [hp] at e
         dsimp only at e ⊢
         split at e
         · rename_i hc
           rw [if_pos hc]
           cases hb:ct (run AP k n) k false af (x.map .pv) [] [] with
           | none=>rw [hb] at e;simp at e
           | some q=>rw [ez ih hk hb];rw [hb] at e;exact e
         · simp at e
   · simp only [run] at e ⊢
     cases hg:AP g with
     | none=>rw [hg] at e;simp at e
     | some af=>
       rw [hg] at e
       dsimp only at e ⊢
       split at e
       · rename_i hc
         rw [if_pos hc]
         exact ez ih hk e
       · simp at e
noncomputable def aP (AP:Nat→Option aH):eI where
 p:=fun g x=>Gd fun n=>(run AP n n).p g x
 i:=fun g x s t=>Gd fun n=>(run AP n n).i g x s t
theorem pI (g:Nat) (x:List PV):wc fun n=>(run AP n n).p g x:=fun _ _ _ h e=>(dH h h).p _ _ _ e
theorem B0 (g:Nat) (x:List AV) (s:Sh) (t:aL):wc fun n=>(run AP n n).i g x s t:=fun _ _ _ h e=>(dH h h).i _ _ _ _ _ e
theorem M4 (n:Nat):(run AP n n).le (aP AP):=⟨fun g x _ e=>qy (pI g x) e,fun g x s t _ e=>qy (B0 g x s t) e⟩
theorem tZ {g:Nat} {x:List PV} {r:List PV} (h:(aP AP).p g x=some r):∃n,(run AP n n).p g x=some r:=gi h
theorem B1 {g:Nat} {x:List AV} {s:Sh} {t:aL} {r:List AV×Sh×aL} (h:(aP AP).i g x s t=some r):∃n,(run AP n n).i g x s t=some r:=gi h
theorem qA {g:Nat} {own:List Nat} {vals:List AV} {sh:Sh} {ah:aL} {r:AV×Sh×aL} (e:en (aP AP) g own vals sh ah=some r):∃n,en (run AP n n) g own vals sh ah=some r:=by
 unfold en at *
 split at e
 · rename_i hp
   simp only [Option.map_eq_some_iff] at e
   obtain ⟨x,h1,h2⟩:=e
   obtain ⟨n,hn⟩:=B1 h1
   exact ⟨n,by rw [if_pos hp,hn];simp only [Option.map_some,h2]⟩
 · simp at e
theorem yP {op:AK} {vals:List AV} {cells:Option (List AV)} {sh:Sh} {ah:aL} {r:Out} (e:exec (aP AP) op vals cells sh ah=some r):∃n,exec (run AP n n) op vals cells sh ah=some r:=by
 cases op with
 | aB g=>
   simp only [exec] at e ⊢
   split at e
   · rename_i dt hp
     simp only [Option.map_eq_some_iff] at e
     obtain ⟨x,h1,h2⟩:=e
     obtain ⟨n,hn⟩:=tZ h1
     exact ⟨n,by rw [hn];simp only [Option.map_some,h2]⟩
   · simp at e
 | dW g=>
   simp only [exec] at e ⊢
   split at e
   · rename_i dt hp
     simp only [Option.map_eq_some_iff] at e
     obtain ⟨x,h1,h2⟩:=e
     obtain ⟨n,hn⟩:=tZ h1
     exact ⟨n,by rw [hn];simp only [Option.map_some,h2]⟩
   · simp at e
 | aI g own=>
   simp only [exec,Option.map_eq_some_iff] at e ⊢
   obtain ⟨x,h1,h2⟩:=e
   obtain ⟨n,hn⟩:=qA h1
   exact ⟨n,x,hn,h2⟩
 | jh g=>
   simp only [exec] at e ⊢
   split at e
   · split at e
     · rename_i rs ts h1
       obtain ⟨n,hn⟩:=B1 h1
       exact ⟨n,by rw [hn];exact e⟩
     · simp at e
   · simp at e
 | eK=>
   cases vals with
   | nil=>simp [exec] at e
   | cons f vals=>
     cases f with
     | fn g cap=>
       simp only [exec,Option.map_eq_some_iff] at e ⊢
       obtain ⟨x,h1,h2⟩:=e
       obtain ⟨n,hn⟩:=qA h1
       exact ⟨n,x,hn,h2⟩
     | _=>simp [exec] at e
 | _=>exact ⟨0,by rw [←e];unfold exec;split<;>first | rfl | (rename_i heq;cases heq;done) | (simp at *;done)⟩
theorem Gw {o:dV} {st r:St} (e:eo (aP AP) o st=some r):∃n,eo (run AP n n) o st=some r:=by
 unfold eo at *
 cases hw:eX st.env o.guard with
 | none=>rw [hw] at e;simp at e
 | some t=>
   cases t with
   | false=>rw [hw] at e;exact ⟨0,e⟩
   | true=>
     rw [hw] at e
     dsimp only at e ⊢
     cases hv:dX st.env o.args with
     | none=>rw [hv] at e;simp at e
     | some vals=>
       rw [hv] at e
       dsimp only at e ⊢
       cases ho:exec (aP AP) o.op vals (o.op.key.bind (look st.mem)) st.sh st.ah with
       | none=>rw [ho] at e;simp at e
       | some out=>
         obtain ⟨n,hn⟩:=yP ho
         rw [ho] at e
         exact ⟨n,by rw [hn];exact e⟩
theorem sO:∀{l:List dV} {st r:St},bU (aP AP) l st=some r→∃n,bU (run AP n n) l st=some r
 | [],_,_,e=>⟨0,e⟩
 | o::l,st,r,e=>by
   simp only [bU] at e ⊢
   cases ho:eo (aP AP) o st with
   | none=>rw [ho] at e;simp at e
   | some s=>
     rw [ho] at e
     obtain ⟨n,hn⟩:=Gw ho
     obtain ⟨m,hm⟩:=sO (l:=l) e
     refine ⟨max n m,?_⟩
     rw [sN (dH (Nat.le_max_left n m) (Nat.le_max_left n m)) hn]
     exact l8 (dH (Nat.le_max_right n m) (Nat.le_max_right n m)) hm
theorem qB {k:Nat} {c:aw} {pre:St→St} (ih:∀{st:St} {r:a6×St},du (aP AP) k c st=some r→∃n,du (run AP n n) n c st=some r) :
   ∀{j:Nat} {st:St} {r:a6×St},eP (du (aP AP) k c) pre j st=some r→∃n,eP (du (run AP n n) n c) pre n st=some r
 | 0,_,_,e=>by simp [eP] at e
 | j+1,st,r,e=>by
   simp only [eP] at e
   cases hf:du (aP AP) k c (pre st) with
   | none=>rw [hf] at e;simp at e
   | some q=>
     obtain ⟨n,hn⟩:=ih hf
     rw [hf] at e
     obtain ⟨x,s⟩:=q
     cases x with
     | normal=>
       obtain ⟨m,hm⟩:=qB ih e
       refine ⟨max n m+1,?_⟩
       simp only [eP]
       rw [cB (dH (n:=n) (n':=max n m+1) (by omega) (by omega)) (k:=n) (k':=max n m+1) (by omega) hn]
       exact iM (fun s r hs=>cB (dH (n:=m) (by omega) (by omega)) (k:=m) (by omega) hs) (n:=m) (by omega) hm
     | ret=>
       refine ⟨n+1,?_⟩
       simp only [eP]
       rw [cB (dH (n:=n) (n':=n+1) (by omega) (by omega)) (k:=n) (k':=n+1) (by omega) hn]
       exact e
     | exit id=>
       refine ⟨n+1,?_⟩
       simp only [eP]
       rw [cB (dH (n:=n) (n':=n+1) (by omega) (by omega)) (k:=n) (k':=n+1) (by omega) hn]
       exact e
theorem nP {n m:Nat} (h:n≤m) {c:aw} {st:St} {r:a6×St} (e:du (run AP n n) n c st=some r):du (run AP m m) m c st=some r:=cB (dH h h) h e
theorem rY {k:Nat} {x y:aw} (ihx:∀{st:St} {r:a6×St},du (aP AP) k x st=some r→∃n,du (run AP n n) n x st=some r) (ihy:∀{st:St} {r:a6×St},du (aP AP) k y st=some r→∃n,du (run AP n n) n y st=some r)
   {st:St} {r:a6×St} (e:andThen (du (aP AP) k x) (du (aP AP) k y) st=some r):∃n,andThen (du (run AP n n) n x) (du (run AP n n) n y) st=some r:=by
 unfold andThen at e ⊢
 cases hx:du (aP AP) k x st with
 | none=>rw [hx] at e;simp at e
 | some q=>
   obtain ⟨n,hn⟩:=ihx hx
   rw [hx] at e
   obtain ⟨ex,s⟩:=q
   cases ex with
   | normal=>
     obtain ⟨m,hm⟩:=ihy e
     exact ⟨max n m,by rw [nP (Nat.le_max_left n m) hn];exact nP (Nat.le_max_right n m) hm⟩
   | ret=>simp at e
   | exit id=>simp at e
theorem qC {F:St→Option (a6×St)} {f:Nat→St→Option (a6×St)} (hm:∀{n m:Nat},n≤m→∀s r,f n s=some r→f m s=some r) (ih:∀{st:St} {r:a6×St},F st=some r→∃n,f n st=some r)
   {live:List Nat} {pi px sz:Nat} {ag:Bool} {env:List (Nat×AV)}:∀{l:List (PV×Nat)} {st:St} {r:a6×St},iy F live pi px sz ag env l st=some r→∃n,iy (f n) live pi px sz ag env l st=some r
 | [],_,_,e=>⟨0,e⟩
 | (el,i)::l,st,r,e=>by
   simp only [iy] at e ⊢
   cases hv:rQ sz ag el with
   | none=>rw [hv] at e;simp at e
   | some v=>
     rw [hv] at e
     simp only at e ⊢
     cases hf:F (norm (restrict live { st with env:=dC (dC env pi (.pv (.int .i64 i))) px v })) with
     | none=>rw [hf] at e;simp at e
     | some q=>
       obtain ⟨n,hn⟩:=ih hf
       rw [hf] at e
       obtain ⟨x,s⟩:=q
       cases x with
       | normal=>
         obtain ⟨m,hm'⟩:=qC hm ih e
         exact ⟨max n m,by rw [hm (Nat.le_max_left n m) _ _ hn];exact l9 (hm (Nat.le_max_right n m)) hm'⟩
       | ret=>exact ⟨n,by rw [hn];exact e⟩
       | exit id=>exact ⟨n,by rw [hn];exact e⟩
theorem ir {k:Nat}:∀{c:aw} {st:St} {r:a6×St},du (aP AP) k c st=some r→∃n,du (run AP n n) n c st=some r
 | .skip,_,_,e=>⟨0,e⟩
 | .de _,_,_,e=>⟨0,e⟩
 | .ae ops live,st,r,e=>by
   simp only [du] at e ⊢
   cases ho:bU (aP AP) ops st with
   | none=>rw [ho] at e;simp at e
   | some s=>obtain ⟨n,hn⟩:=sO ho;rw [ho] at e;exact ⟨n,by rw [hn];exact e⟩
 | .seq x y,st,r,e=>by
   simp only [du] at e ⊢
   cases hx:du (aP AP) k x st with
   | none=>rw [hx] at e;simp at e
   | some q=>
     obtain ⟨n,hn⟩:=ir hx
     rw [hx] at e
     obtain ⟨ex,s⟩:=q
     cases ex with
     | normal=>
       obtain ⟨m,hm⟩:=ir (c:=y) e
       exact ⟨max n m,by rw [nP (Nat.le_max_left n m) hn];exact nP (Nat.le_max_right n m) hm⟩
     | ret=>exact ⟨n,by rw [hn];exact e⟩
     | exit id=>exact ⟨n,by rw [hn];exact e⟩
 | .cond c x y,st,r,e=>by
   simp only [du] at e ⊢
   split at e
   · rename_i t hc
     split at e
     · rename_i ht
       obtain ⟨n,hn⟩:=ir e
       exact ⟨n,by rw [if_pos ht];exact hn⟩
     · rename_i ht
       obtain ⟨n,hn⟩:=ir e
       exact ⟨n,by rw [if_neg ht];exact hn⟩
   · simp at e
 | .block id x,st,r,e=>by
   simp only [du] at e ⊢
   cases hx:du (aP AP) k x st with
   | none=>rw [hx] at e;simp at e
   | some q=>
     obtain ⟨n,hn⟩:=ir hx
     rw [hx] at e
     exact ⟨n,by rw [hn];exact e⟩
 | .loop live x,st,r,e=>by
   simp only [du] at e ⊢
   exact qB (fun h=>ir h) e
 | .exit id,_,_,e=>⟨0,e⟩
 | .ret,_,_,e=>⟨0,e⟩
 | .back c gb pi px sz ag live x y,st,r,e=>by
   simp only [du] at e ⊢
   unfold iz at e ⊢
   split at e
   · split at e
     · rename_i hg
       split at e
       · split at e
         · rename_i hl
           obtain ⟨n,hn⟩:=qC (f:=fun n=>andThen (du (run AP n n) n x) (du (run AP n n) n y)) (fun h=>mZ (fun s r hs=>nP h hs) (fun s r hs=>nP h hs)) (rY (fun h=>ir h) (fun h=>ir h)) e
           exact ⟨n,by rw [if_pos hg,if_pos hl];exact hn⟩
         · simp at e
       · simp at e
     · simp at e
   · simp at e
noncomputable def cl (AP:Nat→Option aH) (c:aw) (st:St):Option (a6×St):=Gd fun k=>du (aP AP) k c st
theorem pJ (c:aw) (st:St):wc fun k=>du (aP AP) k c st:=fun _ _ _ h e=>cB (eI.le_refl _) h e
theorem ka {c:aw} {st:St} {k:Nat} {r:a6×St} (h:du (aP AP) k c st=some r):cl AP c st=some r:=qy (pJ c st) h
theorem Kd {st:St}:cl AP .skip st=some (.normal,st):=ka (k:=0) rfl
theorem Ke {id:Nat} {st:St}:cl AP (.exit id) st=some (.exit id,st):=ka (k:=0) rfl
theorem M5 {ts:List Nat} {st:St}:cl AP (.de ts) st=some (.normal,kj ts st):=ka (k:=0) rfl
theorem M6 {st:St}:cl AP .ret st=some (.ret,st):=ka (k:=0) rfl
theorem M7 {ops:List dV} {live:List Nat} {st:St}:cl AP (.ae ops live) st=(bU (aP AP) ops st).map fun st'=>(.normal,restrict live st'):=by
 cases h:bU (aP AP) ops st with
 | none=>exact qz fun k=>by simp only [du,h]
 | some s=>exact ka (k:=0) (by simp only [du,h])
def after (f:St→Option (a6×St)):Option (a6×St)→Option (a6×St)
 | some (.normal,st)=>f st
 | r=>r
theorem M8 {a b:aw} {st:St}:cl AP (.seq a b) st=after (cl AP b) (cl AP a st):=by
 refine lp (pJ _ _) (fun k r h=>?_) fun r h=>?_
 · simp only [du] at h
   cases hx:du (aP AP) k a st with
   | none=>rw [hx] at h;simp at h
   | some q=>
     rw [ka hx]
     rw [hx] at h
     obtain ⟨ex,s⟩:=q
     cases ex with
     | normal=>exact ka h
     | ret=>exact h
     | exit id=>exact h
 · cases hx:cl AP a st with
   | none=>rw [hx] at h;simp [after] at h
   | some q=>
     obtain ⟨k,hk⟩:=gi hx
     rw [hx] at h
     obtain ⟨ex,s⟩:=q
     cases ex with
     | normal=>
       obtain ⟨k',hk'⟩:=gi (show Gd (fun k=>du (aP AP) k b s)=some r from h)
       refine ⟨max k k',?_⟩
       simp only [du]
       rw [cB (eI.le_refl _) (Nat.le_max_left k k') hk]
       exact cB (eI.le_refl _) (Nat.le_max_right k k') hk'
     | ret=>exact ⟨k,by simp only [du];rw [hk];exact h⟩
     | exit id=>exact ⟨k,by simp only [du];rw [hk];exact h⟩
theorem Kf {c:eH} {a b:aw} {st:St} {t:Bool} (h:gG st.env c=some (.pv (.bool t))):cl AP (.cond c a b) st=if t then cl AP a st else cl AP b st:=by
 unfold cl
 simp only [du,h]
 cases t<;>rfl
def leave (id:Nat):Option (a6×St)→Option (a6×St)
 | some (.exit id',st)=>if id'=id then some (.normal,st) else some (.exit id',st)
 | r=>r
theorem Gx {id:Nat} {b:aw} {st:St}:cl AP (.block id b) st=leave id (cl AP b st):=by
 refine lp (pJ _ _) (fun k r h=>?_) fun r h=>?_
 · simp only [du] at h
   cases hx:du (aP AP) k b st with
   | none=>rw [hx] at h;simp at h
   | some q=>rw [ka hx];rw [hx] at h;exact h
 · cases hx:cl AP b st with
   | none=>rw [hx] at h;simp [leave] at h
   | some q=>
     obtain ⟨k,hk⟩:=gi hx
     rw [hx] at h
     exact ⟨k,by simp only [du];rw [hk];exact h⟩
theorem aF {live:List Nat} {b:aw} {st:St}:cl AP (.loop live b) st=after (cl AP (.loop live b)) (cl AP b (norm (restrict live st))):=by
 refine lp (pJ _ _) (fun k r h=>?_) fun r h=>?_
 · simp only [du] at h
   cases k with
   | zero=>simp [eP] at h
   | succ k=>
     simp only [eP] at h
     cases hx:du (aP AP) (k+1) b (norm (restrict live st)) with
     | none=>rw [hx] at h;simp at h
     | some q=>
       rw [ka hx]
       rw [hx] at h
       obtain ⟨ex,s⟩:=q
       cases ex with
       | normal=>exact ka (k:=k+1) (by simp only [du];exact iM (fun _ _ h=>h) (Nat.le_succ k) h)
       | ret=>exact h
       | exit id=>exact h
 · cases hx:cl AP b (norm (restrict live st)) with
   | none=>rw [hx] at h;simp [after] at h
   | some q=>
     obtain ⟨k,hk⟩:=gi hx
     rw [hx] at h
     obtain ⟨ex,s⟩:=q
     have up:∀m,k≤m→du (aP AP) m b (norm (restrict live st))=some (ex,s):=fun m hm=>cB (eI.le_refl _) hm hk
     cases ex with
     | normal=>
       obtain ⟨k',hk'⟩:=gi (show Gd (fun k=>du (aP AP) k (.loop live b) s)=some r from h)
       refine ⟨max k k'+1,?_⟩
       simp only [du,eP]
       rw [up _ (by omega)]
       simp only [du] at hk'
       exact iM (fun _ _ h=>cB (eI.le_refl _) (by omega) h) (by omega) hk'
     | ret=>exact ⟨k+1,by simp only [du,eP];rw [up _ (by omega)];exact h⟩
     | exit id=>exact ⟨k+1,by simp only [du,eP];rw [up _ (by omega)];exact h⟩
def finish (a9:Bool) (af:aH) (sh:Sh):Option (a6×St)→Option (List AV×Sh×aL)
 | some (e,st)=>
   if e=.ret∨e=.normal then
     match d5 st af.results with
     | some vs=>
       let rs:=cD a9 af.ks st.sh vs
       let sh':=if rs.all (aR sh.length)=true then (eF a9 af.ks st.sh vs).take sh.length else eF a9 af.ks st.sh vs
       if rs.all bX=true then some ((cZ st.ah rs sh').1,(cZ st.ah rs sh').2.1,(cZ st.ah rs sh').2.2.2) else none
     | none=>none
   else none
 | none=>none
theorem fE {orc:eI} {k:Nat} {a9:Bool} {af:aH} {args:List AV} {sh:Sh} {ts:aL}:ct orc k a9 af args sh ts=finish a9 af sh (du orc k af.body { env:=cr 0 args,mem:=[],sh,ah:=ts }):=by
 unfold ct finish
 cases du orc k af.body { env:=cr 0 args,mem:=[],sh,ah:=ts } with
 | none=>rfl
 | some q=>obtain ⟨e,st⟩:=q;rfl
noncomputable def lM (AP:Nat→Option aH) (a9:Bool) (af:aH) (args:List AV) (sh:Sh) (ts:aL):Option (List AV×Sh×aL):=
 finish a9 af sh (cl AP af.body { env:=cr 0 args,mem:=[],sh,ah:=ts })
theorem sP {a9:Bool} {af:aH} {args:List AV} {sh:Sh} {ts:aL} {r:List AV×Sh×aL} (h:lM AP a9 af args sh ts=some r):∃n,ct (run AP n n) n a9 af args sh ts=some r:=by
 unfold lM at h
 cases hc:cl AP af.body { env:=cr 0 args,mem:=[],sh,ah:=ts } with
 | none=>rw [hc] at h;simp [finish] at h
 | some q=>
   obtain ⟨k,hk⟩:=gi hc
   obtain ⟨n,hn⟩:=ir hk
   exact ⟨n,by rw [fE,hn,←hc];exact h⟩
theorem B2 {n:Nat} {a9:Bool} {af:aH} {args:List AV} {sh:Sh} {ts:aL} {r:List AV×Sh×aL} (h:ct (run AP n n) n a9 af args sh ts=some r):lM AP a9 af args sh ts=some r:=by
 rw [fE] at h
 unfold lM
 cases hc:du (run AP n n) n af.body { env:=cr 0 args,mem:=[],sh,ah:=ts } with
 | none=>rw [hc] at h;simp [finish] at h
 | some q=>
   rw [ka (cB (M4 n) (Nat.le_refl n) hc)]
   rw [hc] at h
   exact h
theorem L2 {g:Nat} {af:aH} {x:List PV} (hg:AP g=some af) (hp:af.p8=none) (h1:x.length=af.nparams) (h2:x.length≤af.ntmps) :
   (aP AP).p g x=(lM AP false af (x.map .pv) [] []).bind fun r=>fm r.1:=by
 refine lp (pI g x) (fun k r h=>?_) fun r h=>?_
 · cases k with
   | zero=>simp [run] at h
   | succ k=>
     simp only [run,hg,hp] at h
     rw [if_pos ⟨h1,h2⟩] at h
     cases hb:ct (run AP (k+1) k) (k+1) false af (x.map .pv) [] [] with
     | none=>rw [hb] at h;simp at h
     | some q=>
       rw [B2 (n:=k+1) (ez (dH (Nat.le_succ k) (Nat.le_refl _)) (Nat.le_refl _) hb)]
       rw [hb] at h
       exact h
 · cases hb:lM AP false af (x.map .pv) [] [] with
   | none=>rw [hb] at h;simp at h
   | some q=>
     obtain ⟨n,hn⟩:=sP hb
     rw [hb] at h
     refine ⟨n+1,?_⟩
     simp only [run,hg,hp]
     rw [if_pos ⟨h1,h2⟩,ez (dH (n:=n) (n':=n) (k:=n) (k':=n+1) (Nat.le_refl _) (Nat.le_succ n)) (Nat.le_succ n) hn]
     exact h
theorem Kg {g:Nat} {af:aH} {x:List PV} {f:List PV→Option (List PV)} (hg:AP g=some af) (hp:af.p8=some f):(aP AP).p g x=f x:=by
 refine lp (pI g x) (fun k r h=>?_) fun r h=>?_
 · cases k with
   | zero=>simp [run] at h
   | succ k=>simpa only [run,hg,hp] using h
 · exact ⟨1,by simpa only [run,hg,hp] using h⟩
theorem L3 {g:Nat} {af:aH} {x:List AV} {sh:Sh} {ts:aL} (hg:AP g=some af) (h2:x.length≤af.ntmps):(aP AP).i g x sh ts=lM AP true af x sh ts:=by
 refine lp (B0 g x sh ts) (fun k r h=>?_) fun r h=>?_
 · cases k with
   | zero=>simp [run] at h
   | succ k=>
     simp only [run,hg] at h
     rw [if_pos h2] at h
     exact B2 (n:=k+1) (ez (dH (Nat.le_succ k) (Nat.le_refl _)) (Nat.le_refl _) h)
 · obtain ⟨n,hn⟩:=sP h
   refine ⟨n+1,?_⟩
   simp only [run,hg]
   rw [if_pos h2]
   exact ez (dH (n:=n) (n':=n) (k:=n) (k':=n+1) (Nat.le_refl _) (Nat.le_succ n)) (Nat.le_succ n) hn
end Go.Ab
