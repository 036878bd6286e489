import Derived.Test.YthcoecdbgdhihaaGreatDoorAbDefs
/-
  Without fuel: the limit of the evaluator.
-/
set_option linter.unusedVariables false
set_option linter.unusedSimpArgs false
set_option linter.unnecessarySimpa false
set_option maxRecDepth 100000
set_option maxHeartbeats 8000000
namespace Go.Ab
def xN {α:Type} (f:Nat→Option α):Prop:=∀k k' r,k≤k'→f k=some r→f k'=some r
open Classical in
noncomputable def Gq {α:Type} (f:Nat→Option α):Option α:=if h:∃r k,f k=some r then some h.choose else none
theorem rJ {α:Type} {f:Nat→Option α} (hf:xN f) {k:Nat} {r:α} (h:f k=some r):Gq f=some r:=by
 have hex:∃r k,f k=some r:=⟨r,k,h⟩;unfold Gq;rw [dif_pos hex];obtain ⟨k',h'⟩:=hex.choose_spec;have h1:=hf _ (max k k') _ (Nat.le_max_right _ _) h';have h2:=hf _ (max k k') _ (Nat.le_max_left _ _) h;rw [h1] at h2;exact h2
theorem gQ {α:Type} {f:Nat→Option α} {r:α} (h:Gq f=some r):∃k,f k=some r:=by
 unfold Gq at h;split at h
 · rename_i hex;obtain ⟨k,hk⟩:=hex.choose_spec;cases h;exact ⟨k,hk⟩
 · simp at h
theorem rK {α:Type} {f:Nat→Option α} (h:∀k,f k=none):Gq f=none:=by
 cases hl:Gq f with
 | none=>rfl
 | some r=>obtain ⟨k,hk⟩:=gQ hl;rw [h k] at hk;simp at hk
theorem l8 {α:Type} {f:Nat→Option α} (hf:xN f) {o:Option α} (h1:∀k r,f k=some r→o=some r) (h2:∀r,o=some r→∃k,f k=some r):Gq f=o:=by
 cases ho:o with
 | none=>exact rK fun k=>by cases hk:f k with | none=>rfl | some r=>rw [h1 k r hk] at ho;simp at ho
 | some r=>obtain ⟨k,hk⟩:=h2 r ho;exact rJ hf hk
structure ep.le (a b:ep):Prop where
 p:∀g x r,a.p g x=some r→b.p g x=some r
 i:∀g x s t r,a.i g x s t=some r→b.i g x s t=some r
theorem ep.le_refl (a:ep):a.le a:=⟨fun _ _ _ h=>h,fun _ _ _ _ _ h=>h⟩
theorem jG {a b:ep} (h:a.le b) {g:Nat} {own:List Nat} {vals:List AV} {sh:Sh} {ah:aN} {r:AV×Sh×aN} (e:er a g own vals sh ah=some r):er b g own vals sh ah=some r:=by
 unfold er at *;split at e
 · rename_i hp;rw [if_pos hp];simp only [Option.map_eq_some_iff] at e ⊢;obtain ⟨x,h1,h2⟩:=e;exact ⟨x,h.i _ _ _ _ _ h1,h2⟩
 · simp at e
theorem DV {a b:ep} (h:a.le b) {op:AK} {vals:List AV} {cells:Option (List AV)} {sh:Sh} {ah:aN} {r:Out} (e:exec a op vals cells sh ah=some r):exec b op vals cells sh ah=some r:=by
 cases op with
 | aq g=>
   simp only [exec] at e ⊢;split at e
   · simp only [Option.map_eq_some_iff] at e ⊢;obtain ⟨x,h1,h2⟩:=e;exact ⟨x,h.p _ _ _ h1,h2⟩
   · simp at e
 | dN g=>
   simp only [exec] at e ⊢;split at e
   · simp only [Option.map_eq_some_iff] at e ⊢;obtain ⟨x,h1,h2⟩:=e;exact ⟨x,h.p _ _ _ h1,h2⟩
   · simp at e
 | aJ g own=>
   simp only [exec,Option.map_eq_some_iff] at e ⊢;obtain ⟨x,h1,h2⟩:=e;exact ⟨x,jG h h1,h2⟩
 | lg g=>
   simp only [exec] at e ⊢;split at e
   · split at e
     · rename_i rs ts h1;rw [h.i _ _ _ _ _ h1];exact e
     · simp at e
   · simp at e
 | dE=>
   cases vals with
   | nil=>simp [exec] at e
   | cons f vals=>
     cases f with
     | fn g cap=>
       simp only [exec,Option.bind_eq_some_iff] at e ⊢;obtain ⟨x,h1,h2⟩:=e;exact ⟨x,jG h h1,h2⟩
     | _=>simp [exec] at e
 | eV=>
   cases vals with
   | nil=>simp [exec] at e
   | cons f vals=>
     cases f with
     | fn g cap=>
       simp only [exec,Option.map_eq_some_iff] at e ⊢;obtain ⟨x,h1,h2⟩:=e;exact ⟨x,jG h h1,h2⟩
     | _=>simp [exec] at e
 | _=>rw [←e];unfold exec;split<;>first | rfl | (rename_i heq;cases heq;done) | (simp at *;done)
theorem uc {a b:ep} (h:a.le b) {o:dv} {st r:St} (e:eg a o st=some r):eg b o st=some r:=by
 unfold eg at *;cases hw:fG st.env o.guard with
 | none=>rw [hw] at e;simp at e
 | some t=>
   cases t with
   | false=>rw [hw] at e;exact e
   | true=>
     rw [hw] at e;dsimp only at e ⊢;cases hv:ei st.env o.args with
     | none=>rw [hv] at e;simp at e
     | some vals=>
       rw [hv] at e;dsimp only at e ⊢;cases ho:exec a o.op vals (o.op.key.bind (look st.mem)) st.sh st.ah with
       | none=>rw [ho] at e;simp at e
       | some out=>
         rw [ho] at e;rw [DV h ho];exact e
theorem mX {a b:ep} (h:a.le b):∀{l:List dv} {st r:St},bQ a l st=some r→bQ b l st=some r
 | [],_,_,e=>e
 | o::l,st,r,e=>by
   simp only [bQ] at e ⊢;split at e
   · simp at e
   · rename_i st' ho;rw [uc h ho];exact mX h e
theorem ji {f f':St→Option (bH×St)} {pre:St→St} (h:∀s r,f s=some r→f' s=some r):∀{n n':Nat} {st:St} {r:bH×St},n≤n'→fu f pre n st=some r→fu f' pre n' st=some r
 | 0,_,_,_,_,e=>by simp [fu] at e
 | n+1,0,_,_,hn,_=>by omega
 | n+1,n'+1,st,r,hn,e=>by
   simp only [fu] at e ⊢;cases hf:f (pre st) with
   | none=>rw [hf] at e;simp at e
   | some q=>
     rw [h _ _ hf];rw [hf] at e;obtain ⟨x,s⟩:=q;cases x with
     | normal=>exact ji h (by omega) e
     | ret=>exact e
     | exit id=>exact e
theorem mY {f f':St→Option (bH×St)} (h:∀s r,f s=some r→f' s=some r) {live:List Nat} {pi px sz:Nat} {ag:Bool} {env:List (Nat×AV)}:∀{l:List (PV×Nat)} {st:St} {r:bH×St},
   ph f live pi px sz ag env l st=some r→ph f' live pi px sz ag env l st=some r
 | [],_,_,e=>e
 | (el,i)::l,st,r,e=>by
   simp only [ph] at e ⊢;cases hv:Mp sz ag el with
   | none=>rw [hv] at e;simp at e
   | some v=>
     rw [hv] at e;simp only at e ⊢;cases hf:f (norm (restrict live { st with env:=dO (dO env pi (.pv (.int .i64 i))) px v })) with
     | none=>rw [hf] at e;simp at e
     | some q=>
       rw [h _ _ hf];rw [hf] at e;obtain ⟨x,s⟩:=q;cases x with
       | normal=>exact mY h e
       | ret=>exact e
       | exit id=>exact e
theorem tz {f f':St→Option (bH×St)} (h:∀s r,f s=some r→f' s=some r) {v:Option AV} {gb pi px sz:Nat} {ag:Bool} {live:List Nat} {st:St} {r:bH×St}
   (e:ll f v gb pi px sz ag live st=some r):ll f' v gb pi px sz ag live st=some r:=by
 unfold ll at e ⊢;split at e
 · split at e
   · rename_i hg;rw [if_pos hg];split at e
     · split at e
       · rename_i hl;rw [if_pos hl];exact mY h e
       · simp at e
     · simp at e
   · simp at e
 · simp at e
theorem nQ {f g f' g':St→Option (bH×St)} (h:∀s r,f s=some r→f' s=some r) (k:∀s r,g s=some r→g' s=some r):∀s r,andThen f g s=some r→andThen f' g' s=some r:=by
 intro s r e;unfold andThen at e ⊢;cases hf:f s with
 | none=>rw [hf] at e;simp at e
 | some q=>
   rw [h _ _ hf];rw [hf] at e;obtain ⟨x,t⟩:=q;cases x with
   | normal=>exact k _ _ e
   | ret=>simp at e
   | exit id=>simp at e
theorem cN {a b:ep} (h:a.le b) {k k':Nat} (hk:k≤k'):∀{c:au} {st:St} {r:bH×St},de a k c st=some r→de b k' c st=some r
 | .skip,_,_,e=>e
 | .dR _,_,_,e=>e
 | .Mn _,_,_,e=>e
 | .lb _,_,_,e=>e
 | .lh _,_,_,e=>e
 | .Mo _,_,_,e=>e
 | .bl ops live,st,r,e=>by
   simp only [de] at e ⊢;split at e
   · rename_i st' ho;rw [mX h ho];exact e
   · simp at e
 | .seq x y,st,r,e=>by
   simp only [de] at e ⊢;cases hx:de a k x st with
   | none=>rw [hx] at e;simp at e
   | some q=>
     rw [cN h hk hx];rw [hx] at e;obtain ⟨ex,s⟩:=q;cases ex with
     | normal=>exact cN h hk e
     | ret=>exact e
     | exit id=>exact e
 | .cond c x y,st,r,e=>by
   simp only [de] at e ⊢;split at e
   · rename_i t hc;split at e
     · rename_i ht;rw [if_pos ht];exact cN h hk e
     · rename_i ht;rw [if_neg ht];exact cN h hk e
   · simp at e
 | .block id x,st,r,e=>by
   simp only [de] at e ⊢;cases hx:de a k x st with
   | none=>rw [hx] at e;simp at e
   | some q=>
     rw [cN h hk hx];rw [hx] at e;exact e
 | .loop live x,st,r,e=>by
   simp only [de] at e ⊢;exact ji (fun s r hs=>cN h hk hs) hk e
 | .exit id,_,_,e=>e
 | .ret,_,_,e=>e
 | .back c gb pi px sz ag live x y,st,r,e=>by
   simp only [de] at e ⊢;exact tz (nQ (fun s r hs=>cN h hk hs) (fun s r hs=>cN h hk hs)) e
theorem eQ {a b:ep} (h:a.le b) {k k':Nat} (hk:k≤k') {bq:Bool} {af:aD} {args:List AV} {sh:Sh} {ts:aN} {r:List AV×Sh×aN} (e:cH a k bq af args sh ts=some r):cH b k' bq af args sh ts=some r:=by
 unfold cH at *;cases hc:de a k af.body { env:=cG 0 args,mem:=[],sh,ah:=ts } with
 | none=>rw [hc] at e;simp at e
 | some q=>rw [cN h hk hc];rw [hc] at e;exact e
variable {AP:Nat→Option aD}
theorem c_:∀{n n' k k':Nat},n≤n'→k≤k'→(run AP k n).le (run AP k' n')
 | 0,_,_,_,_,_=>⟨fun g x r e=>by simp [run] at e,fun g x s t r e=>by simp [run] at e⟩
 | n+1,0,_,_,h,_=>by omega
 | n+1,n'+1,k,k',h,hk=>by
   have ih:(run AP k n).le (run AP k' n'):=c_ (by omega) hk;refine ⟨fun g x r e=>?_,fun g x s t r e=>?_⟩
   · simp only [run] at e ⊢;cases hg:AP g with
     | none=>rw [hg] at e;simp at e
     | some af=>
       rw [hg] at e;dsimp only at e ⊢;cases hp:af.qb with
       | some f=>rw [hp] at e;exact f.mono ih.p e
       | none=>
         rw [hp] at e;dsimp only at e ⊢;split at e
         · rename_i hc;rw [if_pos hc];cases hb:cH (run AP k n) k false af (x.map .pv) [] [] with
           | none=>rw [hb] at e;simp at e
           | some q=>rw [eQ ih hk hb];rw [hb] at e;exact e
         · simp at e
   · simp only [run] at e ⊢;cases hg:AP g with
     | none=>rw [hg] at e;simp at e
     | some af=>
       rw [hg] at e;dsimp only at e ⊢;split at e
       · rename_i hc;rw [if_pos hc];exact eQ ih hk e
       · simp at e
noncomputable def aP (AP:Nat→Option aD):ep where
 p:=fun g x=>Gq fun n=>(run AP n n).p g x
 i:=fun g x s t=>Gq fun n=>(run AP n n).i g x s t
theorem qq (g:Nat) (x:List PV):xN fun n=>(run AP n n).p g x:=fun _ _ _ h e=>(c_ h h).p _ _ _ e
theorem CB (g:Nat) (x:List AV) (s:Sh) (t:aN):xN fun n=>(run AP n n).i g x s t:=fun _ _ _ h e=>(c_ h h).i _ _ _ _ _ e
theorem GM (n:Nat):(run AP n n).le (aP AP):=⟨fun g x _ e=>rJ (qq g x) e,fun g x s t _ e=>rJ (CB g x s t) e⟩
theorem qt {g:Nat} {x:List PV} {r:List PV} (h:(aP AP).p g x=some r):∃n,(run AP n n).p g x=some r:=gQ h
theorem CC {g:Nat} {x:List AV} {s:Sh} {t:aN} {r:List AV×Sh×aN} (h:(aP AP).i g x s t=some r):∃n,(run AP n n).i g x s t=some r:=gQ h
theorem mZ {g:Nat} {own:List Nat} {vals:List AV} {sh:Sh} {ah:aN} {r:AV×Sh×aN} (e:er (aP AP) g own vals sh ah=some r):∃n,er (run AP n n) g own vals sh ah=some r:=by
 unfold er at *;split at e
 · rename_i hp;simp only [Option.map_eq_some_iff] at e;obtain ⟨x,h1,h2⟩:=e;obtain ⟨n,hn⟩:=CC h1;exact ⟨n,by rw [if_pos hp,hn];simp only [Option.map_some,h2]⟩
 · simp at e
theorem Ac {op:AK} {vals:List AV} {cells:Option (List AV)} {sh:Sh} {ah:aN} {r:Out} (e:exec (aP AP) op vals cells sh ah=some r):∃n,exec (run AP n n) op vals cells sh ah=some r:=by
 cases op with
 | aq g=>
   simp only [exec] at e ⊢;split at e
   · rename_i dC hp;simp only [Option.map_eq_some_iff] at e;obtain ⟨x,h1,h2⟩:=e;obtain ⟨n,hn⟩:=qt h1;exact ⟨n,by rw [hn];simp only [Option.map_some,h2]⟩
   · simp at e
 | dN g=>
   simp only [exec] at e ⊢;split at e
   · rename_i dC hp;simp only [Option.map_eq_some_iff] at e;obtain ⟨x,h1,h2⟩:=e;obtain ⟨n,hn⟩:=qt h1;exact ⟨n,by rw [hn];simp only [Option.map_some,h2]⟩
   · simp at e
 | aJ g own=>
   simp only [exec,Option.map_eq_some_iff] at e ⊢;obtain ⟨x,h1,h2⟩:=e;obtain ⟨n,hn⟩:=mZ h1;exact ⟨n,x,hn,h2⟩
 | lg g=>
   simp only [exec] at e ⊢;split at e
   · split at e
     · rename_i rs ts h1;obtain ⟨n,hn⟩:=CC h1;exact ⟨n,by rw [hn];exact e⟩
     · simp at e
   · simp at e
 | dE=>
   cases vals with
   | nil=>simp [exec] at e
   | cons f vals=>
     cases f with
     | fn g cap=>
       simp only [exec,Option.bind_eq_some_iff] at e ⊢;obtain ⟨x,h1,h2⟩:=e;obtain ⟨n,hn⟩:=mZ h1;exact ⟨n,x,hn,h2⟩
     | _=>simp [exec] at e
 | eV=>
   cases vals with
   | nil=>simp [exec] at e
   | cons f vals=>
     cases f with
     | fn g cap=>
       simp only [exec,Option.map_eq_some_iff] at e ⊢;obtain ⟨x,h1,h2⟩:=e;obtain ⟨n,hn⟩:=mZ h1;exact ⟨n,x,hn,h2⟩
     | _=>simp [exec] at e
 | _=>exact ⟨0,by rw [←e];unfold exec;split<;>first | rfl | (rename_i heq;cases heq;done) | (simp at *;done)⟩
theorem GN {o:dv} {st r:St} (e:eg (aP AP) o st=some r):∃n,eg (run AP n n) o st=some r:=by
 unfold eg at *;cases hw:fG st.env o.guard with
 | none=>rw [hw] at e;simp at e
 | some t=>
   cases t with
   | false=>rw [hw] at e;exact ⟨0,e⟩
   | true=>
     rw [hw] at e;dsimp only at e ⊢;cases hv:ei st.env o.args with
     | none=>rw [hv] at e;simp at e
     | some vals=>
       rw [hv] at e;dsimp only at e ⊢;cases ho:exec (aP AP) o.op vals (o.op.key.bind (look st.mem)) st.sh st.ah with
       | none=>rw [ho] at e;simp at e
       | some out=>
         obtain ⟨n,hn⟩:=Ac ho;rw [ho] at e;exact ⟨n,by rw [hn];exact e⟩
theorem ud:∀{l:List dv} {st r:St},bQ (aP AP) l st=some r→∃n,bQ (run AP n n) l st=some r
 | [],_,_,e=>⟨0,e⟩
 | o::l,st,r,e=>by
   simp only [bQ] at e ⊢;cases ho:eg (aP AP) o st with
   | none=>rw [ho] at e;simp at e
   | some s=>
     rw [ho] at e;obtain ⟨n,hn⟩:=GN ho;obtain ⟨m,hm⟩:=ud (l:=l) e;refine ⟨max n m,?_⟩;rw [uc (c_ (Nat.le_max_left n m) (Nat.le_max_left n m)) hn];exact mX (c_ (Nat.le_max_right n m) (Nat.le_max_right n m)) hm
theorem rL {k:Nat} {c:au} {pre:St→St} (ih:∀{st:St} {r:bH×St},de (aP AP) k c st=some r→∃n,de (run AP n n) n c st=some r) :
   ∀{j:Nat} {st:St} {r:bH×St},fu (de (aP AP) k c) pre j st=some r→∃n,fu (de (run AP n n) n c) pre n st=some r
 | 0,_,_,e=>by simp [fu] at e
 | j+1,st,r,e=>by
   simp only [fu] at e;cases hf:de (aP AP) k c (pre st) with
   | none=>rw [hf] at e;simp at e
   | some q=>
     obtain ⟨n,hn⟩:=ih hf;rw [hf] at e;obtain ⟨x,s⟩:=q;cases x with
     | normal=>
       obtain ⟨m,hm⟩:=rL ih e;refine ⟨max n m+1,?_⟩;simp only [fu];rw [cN (c_ (n:=n) (n':=max n m+1) (by omega) (by omega)) (k:=n) (k':=max n m+1) (by omega) hn];exact ji (fun s r hs=>cN (c_ (n:=m) (by omega) (by omega)) (k:=m) (by omega) hs) (n:=m) (by omega) hm
     | ret=>
       refine ⟨n+1,?_⟩;simp only [fu];rw [cN (c_ (n:=n) (n':=n+1) (by omega) (by omega)) (k:=n) (k':=n+1) (by omega) hn];exact e
     | exit id=>
       refine ⟨n+1,?_⟩;simp only [fu];rw [cN (c_ (n:=n) (n':=n+1) (by omega) (by omega)) (k:=n) (k':=n+1) (by omega) hn];exact e
theorem oM {n m:Nat} (h:n≤m) {c:au} {st:St} {r:bH×St} (e:de (run AP n n) n c st=some r):de (run AP m m) m c st=some r:=cN (c_ h h) h e
theorem tD {k:Nat} {x y:au} (ihx:∀{st:St} {r:bH×St},de (aP AP) k x st=some r→∃n,de (run AP n n) n x st=some r) (ihy:∀{st:St} {r:bH×St},de (aP AP) k y st=some r→∃n,de (run AP n n) n y st=some r)
   {st:St} {r:bH×St} (e:andThen (de (aP AP) k x) (de (aP AP) k y) st=some r):∃n,andThen (de (run AP n n) n x) (de (run AP n n) n y) st=some r:=by
 unfold andThen at e ⊢;cases hx:de (aP AP) k x st with
 | none=>rw [hx] at e;simp at e
 | some q=>
   obtain ⟨n,hn⟩:=ihx hx;rw [hx] at e;obtain ⟨ex,s⟩:=q;cases ex with
   | normal=>
     obtain ⟨m,hm⟩:=ihy e;exact ⟨max n m,by rw [oM (Nat.le_max_left n m) hn];exact oM (Nat.le_max_right n m) hm⟩
   | ret=>simp at e
   | exit id=>simp at e
theorem rM {F:St→Option (bH×St)} {f:Nat→St→Option (bH×St)} (hm:∀{n m:Nat},n≤m→∀s r,f n s=some r→f m s=some r) (ih:∀{st:St} {r:bH×St},F st=some r→∃n,f n st=some r)
   {live:List Nat} {pi px sz:Nat} {ag:Bool} {env:List (Nat×AV)}:∀{l:List (PV×Nat)} {st:St} {r:bH×St},ph F live pi px sz ag env l st=some r→∃n,ph (f n) live pi px sz ag env l st=some r
 | [],_,_,e=>⟨0,e⟩
 | (el,i)::l,st,r,e=>by
   simp only [ph] at e ⊢;cases hv:Mp sz ag el with
   | none=>rw [hv] at e;simp at e
   | some v=>
     rw [hv] at e;simp only at e ⊢;cases hf:F (norm (restrict live { st with env:=dO (dO env pi (.pv (.int .i64 i))) px v })) with
     | none=>rw [hf] at e;simp at e
     | some q=>
       obtain ⟨n,hn⟩:=ih hf;rw [hf] at e;obtain ⟨x,s⟩:=q;cases x with
       | normal=>
         obtain ⟨m,hm'⟩:=rM hm ih e;exact ⟨max n m,by rw [hm (Nat.le_max_left n m) _ _ hn];exact mY (hm (Nat.le_max_right n m)) hm'⟩
       | ret=>exact ⟨n,by rw [hn];exact e⟩
       | exit id=>exact ⟨n,by rw [hn];exact e⟩
theorem iS {k:Nat}:∀{c:au} {st:St} {r:bH×St},de (aP AP) k c st=some r→∃n,de (run AP n n) n c st=some r
 | .skip,_,_,e=>⟨0,e⟩
 | .dR _,_,_,e=>⟨0,e⟩
 | .Mn _,_,_,e=>⟨0,e⟩
 | .lb _,_,_,e=>⟨0,e⟩
 | .lh _,_,_,e=>⟨0,e⟩
 | .Mo _,_,_,e=>⟨0,e⟩
 | .bl ops live,st,r,e=>by
   simp only [de] at e ⊢;cases ho:bQ (aP AP) ops st with
   | none=>rw [ho] at e;simp at e
   | some s=>obtain ⟨n,hn⟩:=ud ho;rw [ho] at e;exact ⟨n,by rw [hn];exact e⟩
 | .seq x y,st,r,e=>by
   simp only [de] at e ⊢;cases hx:de (aP AP) k x st with
   | none=>rw [hx] at e;simp at e
   | some q=>
     obtain ⟨n,hn⟩:=iS hx;rw [hx] at e;obtain ⟨ex,s⟩:=q;cases ex with
     | normal=>
       obtain ⟨m,hm⟩:=iS (c:=y) e;exact ⟨max n m,by rw [oM (Nat.le_max_left n m) hn];exact oM (Nat.le_max_right n m) hm⟩
     | ret=>exact ⟨n,by rw [hn];exact e⟩
     | exit id=>exact ⟨n,by rw [hn];exact e⟩
 | .cond c x y,st,r,e=>by
   simp only [de] at e ⊢;split at e
   · rename_i t hc;split at e
     · rename_i ht;obtain ⟨n,hn⟩:=iS e;exact ⟨n,by rw [if_pos ht];exact hn⟩
     · rename_i ht;obtain ⟨n,hn⟩:=iS e;exact ⟨n,by rw [if_neg ht];exact hn⟩
   · simp at e
 | .block id x,st,r,e=>by
   simp only [de] at e ⊢;cases hx:de (aP AP) k x st with
   | none=>rw [hx] at e;simp at e
   | some q=>
     obtain ⟨n,hn⟩:=iS hx;rw [hx] at e;exact ⟨n,by rw [hn];exact e⟩
 | .loop live x,st,r,e=>by
   simp only [de] at e ⊢;exact rL (fun h=>iS h) e
 | .exit id,_,_,e=>⟨0,e⟩
 | .ret,_,_,e=>⟨0,e⟩
 | .back c gb pi px sz ag live x y,st,r,e=>by
   simp only [de] at e ⊢;unfold ll at e ⊢;split at e
   · split at e
     · rename_i hg;split at e
       · split at e
         · rename_i hl;obtain ⟨n,hn⟩:=rM (f:=fun n=>andThen (de (run AP n n) n x) (de (run AP n n) n y)) (fun h=>nQ (fun s r hs=>oM h hs) (fun s r hs=>oM h hs)) (tD (fun h=>iS h) (fun h=>iS h)) e;exact ⟨n,by rw [if_pos hg,if_pos hl];exact hn⟩
         · simp at e
       · simp at e
     · simp at e
   · simp at e
noncomputable def cl (AP:Nat→Option aD) (c:au) (st:St):Option (bH×St):=Gq fun k=>de (aP AP) k c st
theorem qu (c:au) (st:St):xN fun k=>de (aP AP) k c st:=fun _ _ _ h e=>cN (ep.le_refl _) h e
theorem kP {c:au} {st:St} {k:Nat} {r:bH×St} (h:de (aP AP) k c st=some r):cl AP c st=some r:=rJ (qu c st) h
theorem JR {st:St}:cl AP .skip st=some (.normal,st):=kP (k:=0) rfl
theorem JS {id:Nat} {st:St}:cl AP (.exit id) st=some (.exit id,st):=kP (k:=0) rfl
theorem ME {ts:List Nat} {st:St}:cl AP (.dR ts) st=some (.normal,mN ts st):=kP (k:=0) rfl
theorem MF {st:St}:cl AP .ret st=some (.ret,st):=kP (k:=0) rfl
theorem MG {ops:List dv} {live:List Nat} {st:St}:cl AP (.bl ops live) st=(bQ (aP AP) ops st).map fun st'=>(.normal,restrict live st'):=by
 cases h:bQ (aP AP) ops st with
 | none=>exact rK fun k=>by simp only [de,h]
 | some s=>exact kP (k:=0) (by simp only [de,h])
def after (f:St→Option (bH×St)):Option (bH×St)→Option (bH×St)
 | some (.normal,st)=>f st
 | r=>r
theorem MH {a b:au} {st:St}:cl AP (.seq a b) st=after (cl AP b) (cl AP a st):=by
 refine l8 (qu _ _) (fun k r h=>?_) fun r h=>?_
 · simp only [de] at h;cases hx:de (aP AP) k a st with
   | none=>rw [hx] at h;simp at h
   | some q=>
     rw [kP hx];rw [hx] at h;obtain ⟨ex,s⟩:=q;cases ex with
     | normal=>exact kP h
     | ret=>exact h
     | exit id=>exact h
 · cases hx:cl AP a st with
   | none=>rw [hx] at h;simp [after] at h
   | some q=>
     obtain ⟨k,hk⟩:=gQ hx;rw [hx] at h;obtain ⟨ex,s⟩:=q;cases ex with
     | normal=>
       obtain ⟨k',hk'⟩:=gQ (show Gq (fun k=>de (aP AP) k b s)=some r from h);refine ⟨max k k',?_⟩;simp only [de];rw [cN (ep.le_refl _) (Nat.le_max_left k k') hk];exact cN (ep.le_refl _) (Nat.le_max_right k k') hk'
     | ret=>exact ⟨k,by simp only [de];rw [hk];exact h⟩
     | exit id=>exact ⟨k,by simp only [de];rw [hk];exact h⟩
theorem JT {c:e8} {a b:au} {st:St} {t:Bool} (h:gY st.env c=some (.pv (.bool t))):cl AP (.cond c a b) st=if t then cl AP a st else cl AP b st:=by
 unfold cl;simp only [de,h];cases t<;>rfl
def leave (id:Nat):Option (bH×St)→Option (bH×St)
 | some (.exit id',st)=>if id'=id then some (.normal,st) else some (.exit id',st)
 | r=>r
theorem GO {id:Nat} {b:au} {st:St}:cl AP (.block id b) st=leave id (cl AP b st):=by
 refine l8 (qu _ _) (fun k r h=>?_) fun r h=>?_
 · simp only [de] at h;cases hx:de (aP AP) k b st with
   | none=>rw [hx] at h;simp at h
   | some q=>rw [kP hx];rw [hx] at h;exact h
 · cases hx:cl AP b st with
   | none=>rw [hx] at h;simp [leave] at h
   | some q=>
     obtain ⟨k,hk⟩:=gQ hx;rw [hx] at h;exact ⟨k,by simp only [de];rw [hk];exact h⟩
theorem aF {live:List Nat} {b:au} {st:St}:cl AP (.loop live b) st=after (cl AP (.loop live b)) (cl AP b (norm (restrict live st))):=by
 refine l8 (qu _ _) (fun k r h=>?_) fun r h=>?_
 · simp only [de] at h;cases k with
   | zero=>simp [fu] at h
   | succ k=>
     simp only [fu] at h;cases hx:de (aP AP) (k+1) b (norm (restrict live st)) with
     | none=>rw [hx] at h;simp at h
     | some q=>
       rw [kP hx];rw [hx] at h;obtain ⟨ex,s⟩:=q;cases ex with
       | normal=>exact kP (k:=k+1) (by simp only [de];exact ji (fun _ _ h=>h) (Nat.le_succ k) h)
       | ret=>exact h
       | exit id=>exact h
 · cases hx:cl AP b (norm (restrict live st)) with
   | none=>rw [hx] at h;simp [after] at h
   | some q=>
     obtain ⟨k,hk⟩:=gQ hx;rw [hx] at h;obtain ⟨ex,s⟩:=q;have up:∀m,k≤m→de (aP AP) m b (norm (restrict live st))=some (ex,s):=fun m hm=>cN (ep.le_refl _) hm hk
     cases ex with
     | normal=>
       obtain ⟨k',hk'⟩:=gQ (show Gq (fun k=>de (aP AP) k (.loop live b) s)=some r from h);refine ⟨max k k'+1,?_⟩;simp only [de,fu];rw [up _ (by omega)];simp only [de] at hk';exact ji (fun _ _ h=>cN (ep.le_refl _) (by omega) h) (by omega) hk'
     | ret=>exact ⟨k+1,by simp only [de,fu];rw [up _ (by omega)];exact h⟩
     | exit id=>exact ⟨k+1,by simp only [de,fu];rw [up _ (by omega)];exact h⟩
def finish (bq:Bool) (af:aD) (sh:Sh):Option (bH×St)→Option (List AV×Sh×aN)
 | some (e,st)=>
   if e=.ret∨e=.normal then
     match et st af.results with
     | some vs=>
       let rs:=cP bq af.ks st.sh vs
       let sh':=if rs.all (aW sh.length)=true then (eW bq af.ks st.sh vs).take sh.length else eW bq af.ks st.sh vs
       if rs.all ct=true then some ((dm st.ah rs sh').1,(dm st.ah rs sh').2.1,(dm st.ah rs sh').2.2.2) else none
     | none=>none
   else none
 | none=>none
theorem gv {orc:ep} {k:Nat} {bq:Bool} {af:aD} {args:List AV} {sh:Sh} {ts:aN}:cH orc k bq af args sh ts=finish bq af sh (de orc k af.body { env:=cG 0 args,mem:=[],sh,ah:=ts }):=by
 unfold cH finish;cases de orc k af.body { env:=cG 0 args,mem:=[],sh,ah:=ts } with
 | none=>rfl
 | some q=>obtain ⟨e,st⟩:=q;rfl
noncomputable def mH (AP:Nat→Option aD) (bq:Bool) (af:aD) (args:List AV) (sh:Sh) (ts:aN):Option (List AV×Sh×aN):=
 finish bq af sh (cl AP af.body { env:=cG 0 args,mem:=[],sh,ah:=ts })
theorem ue {bq:Bool} {af:aD} {args:List AV} {sh:Sh} {ts:aN} {r:List AV×Sh×aN} (h:mH AP bq af args sh ts=some r):∃n,cH (run AP n n) n bq af args sh ts=some r:=by
 unfold mH at h;cases hc:cl AP af.body { env:=cG 0 args,mem:=[],sh,ah:=ts } with
 | none=>rw [hc] at h;simp [finish] at h
 | some q=>
   obtain ⟨k,hk⟩:=gQ hc;obtain ⟨n,hn⟩:=iS hk;exact ⟨n,by rw [gv,hn,←hc];exact h⟩
theorem CD {n:Nat} {bq:Bool} {af:aD} {args:List AV} {sh:Sh} {ts:aN} {r:List AV×Sh×aN} (h:cH (run AP n n) n bq af args sh ts=some r):mH AP bq af args sh ts=some r:=by
 rw [gv] at h;unfold mH;cases hc:de (run AP n n) n af.body { env:=cG 0 args,mem:=[],sh,ah:=ts } with
 | none=>rw [hc] at h;simp [finish] at h
 | some q=>
   rw [kP (cN (GM n) (Nat.le_refl n) hc)];rw [hc] at h;exact h
theorem LB {g:Nat} {af:aD} {x:List PV} (hg:AP g=some af) (hp:af.qb=none) (h1:x.length=af.nparams) (h2:x.length≤af.ntmps) :
   (aP AP).p g x=(mH AP false af (x.map .pv) [] []).bind fun r=>fZ r.1:=by
 refine l8 (qq g x) (fun k r h=>?_) fun r h=>?_
 · cases k with
   | zero=>simp [run] at h
   | succ k=>
     simp only [run,hg,hp] at h;rw [if_pos ⟨h1,h2⟩] at h;cases hb:cH (run AP (k+1) k) (k+1) false af (x.map .pv) [] [] with
     | none=>rw [hb] at h;simp at h
     | some q=>
       rw [CD (n:=k+1) (eQ (c_ (Nat.le_succ k) (Nat.le_refl _)) (Nat.le_refl _) hb)];rw [hb] at h;exact h
 · cases hb:mH AP false af (x.map .pv) [] [] with
   | none=>rw [hb] at h;simp at h
   | some q=>
     obtain ⟨n,hn⟩:=ue hb;rw [hb] at h;refine ⟨n+1,?_⟩;simp only [run,hg,hp];rw [if_pos ⟨h1,h2⟩,eQ (c_ (n:=n) (n':=n) (k:=n) (k':=n+1) (Nat.le_refl _) (Nat.le_succ n)) (Nat.le_succ n) hn];exact h
theorem uf:∀(l:List (Nat×List PV×List PV)),(∀c∈l,(aP AP).p c.1 c.2.1=some c.2.2)→∃n,∀c∈l,(run AP n n).p c.1 c.2.1=some c.2.2
 | [],_=>⟨0,by simp⟩
 | c::l,h=>by
   obtain ⟨n,hn⟩:=qt (h c (by simp));obtain ⟨m,hm⟩:=uf l fun c' hc=>h c' (by simp [hc])
   refine ⟨max n m,fun c' hc=>?_⟩;simp only [List.mem_cons] at hc;rcases hc with rfl | hc
   · exact (c_ (Nat.le_max_left n m) (Nat.le_max_left n m)).p _ _ _ hn
   · exact (c_ (Nat.le_max_right n m) (Nat.le_max_right n m)).p _ _ _ (hm c' hc)
theorem JU {g:Nat} {af:aD} {x:List PV} {f:Prim} (hg:AP g=some af) (hp:af.qb=some f):(aP AP).p g x=f.f (aP AP).p x:=by
 refine l8 (qq g x) (fun k r h=>?_) fun r h=>?_
 · cases k with
   | zero=>simp [run] at h
   | succ k=>
     simp only [run,hg,hp] at h;exact f.mono (fun g x r e=>(GM (k+1)).p _ _ _ ((c_ (Nat.le_succ k) (Nat.le_refl _)).p _ _ _ e)) h
 · obtain ⟨l,h1,h2⟩:=f.fin _ _ _ h;obtain ⟨n,hn⟩:=uf l h1;refine ⟨n+1,?_⟩;simp only [run,hg,hp];exact h2 _ fun c hc=>(c_ (n:=n) (n':=n) (k:=n) (k':=n+1) (Nat.le_refl _) (Nat.le_succ n)).p _ _ _ (hn c hc)
theorem LC {g:Nat} {af:aD} {x:List AV} {sh:Sh} {ts:aN} (hg:AP g=some af) (h2:x.length≤af.ntmps):(aP AP).i g x sh ts=mH AP true af x sh ts:=by
 refine l8 (CB g x sh ts) (fun k r h=>?_) fun r h=>?_
 · cases k with
   | zero=>simp [run] at h
   | succ k=>
     simp only [run,hg] at h;rw [if_pos h2] at h;exact CD (n:=k+1) (eQ (c_ (Nat.le_succ k) (Nat.le_refl _)) (Nat.le_refl _) h)
 · obtain ⟨n,hn⟩:=ue h;refine ⟨n+1,?_⟩;simp only [run,hg];rw [if_pos h2];exact eQ (c_ (n:=n) (n':=n) (k:=n) (k':=n+1) (Nat.le_refl _) (Nat.le_succ n)) (Nat.le_succ n) hn
end Go.Ab
