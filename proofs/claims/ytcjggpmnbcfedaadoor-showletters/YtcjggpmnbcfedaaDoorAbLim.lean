import Derived.Test.YtcjggpmnbcfedaaDoorAbDefs
/-
  Without fuel: the limit of the evaluator.
-/
set_option linter.unusedVariables false
set_option linter.unusedSimpArgs false
set_option linter.unnecessarySimpa false
set_option maxRecDepth 100000
set_option maxHeartbeats 8000000
namespace Go.Ab
def pT {α:Type} (f:Nat→Option α):Prop:=∀k k' r,k≤k'→f k=some r→f k'=some r
open Classical in
noncomputable def wS {α:Type} (f:Nat→Option α):Option α:=if h:∃r k,f k=some r then some h.choose else none
theorem lQ {α:Type} {f:Nat→Option α} (hf:pT f) {k:Nat} {r:α} (h:f k=some r):wS f=some r:=by
 have hex:∃r k,f k=some r:=⟨r,k,h⟩
 unfold wS
 rw [dif_pos hex]
 obtain ⟨k',h'⟩:=hex.choose_spec
 have h1:=hf _ (max k k') _ (Nat.le_max_right _ _) h'
 have h2:=hf _ (max k k') _ (Nat.le_max_left _ _) h
 rw [h1] at h2
 exact h2
theorem dU {α:Type} {f:Nat→Option α} {r:α} (h:wS f=some r):∃k,f k=some r:=by
 unfold wS at h
 split at h
 · rename_i hex
   obtain ⟨k,hk⟩:=hex.choose_spec
   cases h
   exact ⟨k,hk⟩
 · simp at h
theorem lR {α:Type} {f:Nat→Option α} (h:∀k,f k=none):wS f=none:=by
 cases hl:wS f with
 | none=>rfl
 | some r=>obtain ⟨k,hk⟩:=dU hl;rw [h k] at hk;simp at hk
theorem jD {α:Type} {f:Nat→Option α} (hf:pT f) {o:Option α} (h1:∀k r,f k=some r→o=some r) (h2:∀r,o=some r→∃k,f k=some r):wS f=o:=by
 cases ho:o with
 | none=>exact lR fun k=>by cases hk:f k with | none=>rfl | some r=>rw [h1 k r hk] at ho;simp at ho
 | some r=>obtain ⟨k,hk⟩:=h2 r ho;exact lQ hf hk
structure cZ.le (a b:cZ):Prop where
 p:∀g x r,a.p g x=some r→b.p g x=some r
 i:∀g x s t r,a.i g x s t=some r→b.i g x s t=some r
theorem cZ.le_refl (a:cZ):a.le a:=⟨fun _ _ _ h=>h,fun _ _ _ _ _ h=>h⟩
theorem f_ {a b:cZ} (h:a.le b) {g:Nat} {own:List Nat} {vals:List AV} {sh:Sh} {aa:al} {r:AV×Sh×al} (e:dd a g own vals sh aa=some r):dd b g own vals sh aa=some r:=by
 unfold dd at *
 split at e
 · rename_i hp
   rw [if_pos hp]
   simp only [Option.map_eq_some_iff] at e ⊢
   obtain ⟨x,h1,h2⟩:=e
   exact ⟨x,h.i _ _ _ _ _ h1,h2⟩
 · simp at e
theorem uH {a b:cZ} (h:a.le b) {op:AK} {vals:List AV} {cells:Option (List AV)} {sh:Sh} {aa:al} {r:Out} (e:exec a op vals cells sh aa=some r):exec b op vals cells sh aa=some r:=by
 cases op with
 | aQ g=>
   simp only [exec] at e ⊢
   split at e
   · simp only [Option.map_eq_some_iff] at e ⊢
     obtain ⟨x,h1,h2⟩:=e
     exact ⟨x,h.p _ _ _ h1,h2⟩
   · simp at e
 | eo g=>
   simp only [exec] at e ⊢
   split at e
   · simp only [Option.map_eq_some_iff] at e ⊢
     obtain ⟨x,h1,h2⟩:=e
     exact ⟨x,h.p _ _ _ h1,h2⟩
   · simp at e
 | gQ g own=>
   simp only [exec,Option.map_eq_some_iff] at e ⊢
   obtain ⟨x,h1,h2⟩:=e
   exact ⟨x,f_ h h1,h2⟩
 | gY g=>
   simp only [exec] at e ⊢
   split at e
   · split at e
     · rename_i rs ts h1
       rw [h.i _ _ _ _ _ h1]
       exact e
     · simp at e
   · simp at e
 | bP=>
   cases vals with
   | nil=>simp [exec] at e
   | cons f vals=>
     cases f with
     | fn g cap=>
       simp only [exec,Option.bind_eq_some_iff] at e ⊢
       obtain ⟨x,h1,h2⟩:=e
       exact ⟨x,f_ h h1,h2⟩
     | _=>simp [exec] at e
 | fq=>
   cases vals with
   | nil=>simp [exec] at e
   | cons f vals=>
     cases f with
     | fn g cap=>
       simp only [exec,Option.map_eq_some_iff] at e ⊢
       obtain ⟨x,h1,h2⟩:=e
       exact ⟨x,f_ h h1,h2⟩
     | _=>simp [exec] at e
 | _=>rw [←e];unfold exec;split<;>first | rfl | (rename_i heq;cases heq;done) | (simp at *;done)
theorem m8 {a b:cZ} (h:a.le b) {o:bN} {st r:St} (e:cr a o st=some r):cr b o st=some r:=by
 unfold cr at *
 cases hw:dm st.env o.guard with
 | none=>rw [hw] at e;simp at e
 | some t=>
   cases t with
   | false=>rw [hw] at e;exact e
   | true=>
     rw [hw] at e
     dsimp only at e ⊢
     cases hv:cB st.env o.args with
     | none=>rw [hv] at e;simp at e
     | some vals=>
       rw [hv] at e
       dsimp only at e ⊢
       cases ho:exec a o.op vals (o.op.key.bind (look st.mem)) st.sh st.aa with
       | none=>rw [ho] at e;simp at e
       | some out=>
         rw [ho] at e
         rw [uH h ho]
         exact e
theorem iX {a b:cZ} (h:a.le b):∀{l:List bN} {st r:St},aJ a l st=some r→aJ b l st=some r
 | [],_,_,e=>e
 | o::l,st,r,e=>by
   simp only [aJ] at e ⊢
   split at e
   · simp at e
   · rename_i st' ho
     rw [m8 h ho]
     exact iX h e
theorem fg {f f':St→Option (aE×St)} {pre:St→St} (h:∀s r,f s=some r→f' s=some r):∀{n n':Nat} {st:St} {r:aE×St},n≤n'→df f pre n st=some r→df f' pre n' st=some r
 | 0,_,_,_,_,e=>by simp [df] at e
 | n+1,0,_,_,hn,_=>by omega
 | n+1,n'+1,st,r,hn,e=>by
   simp only [df] at e ⊢
   cases hf:f (pre st) with
   | none=>rw [hf] at e;simp at e
   | some q=>
     rw [h _ _ hf]
     rw [hf] at e
     obtain ⟨x,s⟩:=q
     cases x with
     | normal=>exact fg h (by omega) e
     | ret=>exact e
     | exit id=>exact e
theorem iY {f f':St→Option (aE×St)} (h:∀s r,f s=some r→f' s=some r) {live:List Nat} {pi px sz:Nat} {ag:Bool} {env:List (Nat×AV)}:∀{l:List (PV×Nat)} {st:St} {r:aE×St},
   gS f live pi px sz ag env l st=some r→gS f' live pi px sz ag env l st=some r
 | [],_,_,e=>e
 | (el,i)::l,st,r,e=>by
   simp only [gS] at e ⊢
   cases hv:mo sz ag el with
   | none=>rw [hv] at e;simp at e
   | some v=>
     rw [hv] at e
     simp only at e ⊢
     cases hf:f (norm (restrict live { st with env:=bV (bV env pi (.pv (.int .i64 i))) px v })) with
     | none=>rw [hf] at e;simp at e
     | some q=>
       rw [h _ _ hf]
       rw [hf] at e
       obtain ⟨x,s⟩:=q
       cases x with
       | normal=>exact iY h e
       | ret=>exact e
       | exit id=>exact e
theorem mF {f f':St→Option (aE×St)} (h:∀s r,f s=some r→f' s=some r) {v:Option AV} {gb pi px sz:Nat} {ag:Bool} {live:List Nat} {st:St} {r:aE×St}
   (e:eQ f v gb pi px sz ag live st=some r):eQ f' v gb pi px sz ag live st=some r:=by
 unfold eQ at e ⊢
 split at e
 · split at e
   · rename_i hg
     rw [if_pos hg]
     split at e
     · split at e
       · rename_i hl
         rw [if_pos hl]
         exact iY h e
       · simp at e
     · simp at e
   · simp at e
 · simp at e
theorem jE {f g f' g':St→Option (aE×St)} (h:∀s r,f s=some r→f' s=some r) (k:∀s r,g s=some r→g' s=some r):∀s r,andThen f g s=some r→andThen f' g' s=some r:=by
 intro s r e
 unfold andThen at e ⊢
 cases hf:f s with
 | none=>rw [hf] at e;simp at e
 | some q=>
   rw [h _ _ hf]
   rw [hf] at e
   obtain ⟨x,t⟩:=q
   cases x with
   | normal=>exact k _ _ e
   | ret=>simp at e
   | exit id=>simp at e
theorem bj {a b:cZ} (h:a.le b) {k k':Nat} (hk:k≤k'):∀{c:aR} {st:St} {r:aE×St},bB a k c st=some r→bB b k' c st=some r
 | .skip,_,_,e=>e
 | .gX _,_,_,e=>e
 | .AB _,_,_,e=>e
 | .gZ _,_,_,e=>e
 | .ix _,_,_,e=>e
 | .Bq _,_,_,e=>e
 | .iL ops live,st,r,e=>by
   simp only [bB] at e ⊢
   split at e
   · rename_i st' ho
     rw [iX h ho]
     exact e
   · simp at e
 | .seq x y,st,r,e=>by
   simp only [bB] at e ⊢
   cases hx:bB a k x st with
   | none=>rw [hx] at e;simp at e
   | some q=>
     rw [bj h hk hx]
     rw [hx] at e
     obtain ⟨ex,s⟩:=q
     cases ex with
     | normal=>exact bj h hk e
     | ret=>exact e
     | exit id=>exact e
 | .cond c x y,st,r,e=>by
   simp only [bB] at e ⊢
   split at e
   · rename_i t hc
     split at e
     · rename_i ht;rw [if_pos ht];exact bj h hk e
     · rename_i ht;rw [if_neg ht];exact bj h hk e
   · simp at e
 | .block id x,st,r,e=>by
   simp only [bB] at e ⊢
   cases hx:bB a k x st with
   | none=>rw [hx] at e;simp at e
   | some q=>
     rw [bj h hk hx]
     rw [hx] at e
     exact e
 | .loop live x,st,r,e=>by
   simp only [bB] at e ⊢
   exact fg (fun s r hs=>bj h hk hs) hk e
 | .exit id,_,_,e=>e
 | .ret,_,_,e=>e
 | .back c gb pi px sz ag live x y,st,r,e=>by
   simp only [bB] at e ⊢
   exact mF (jE (fun s r hs=>bj h hk hs) (fun s r hs=>bj h hk hs)) e
theorem eb {a b:cZ} (h:a.le b) {k k':Nat} (hk:k≤k') {aw:Bool} {af:aK} {args:List AV} {sh:Sh} {ts:al} {r:List AV×Sh×al} (e:bo a k aw af args sh ts=some r):bo b k' aw af args sh ts=some r:=by
 unfold bo at *
 cases hc:bB a k af.body { env:=bh 0 args,mem:=[],sh,aa:=ts } with
 | none=>rw [hc] at e;simp at e
 | some q=>rw [bj h hk hc];rw [hc] at e;exact e
variable {AP:Nat→Option aK}
theorem bL:∀{n n' k k':Nat},n≤n'→k≤k'→(run AP k n).le (run AP k' n')
 | 0,_,_,_,_,_=>⟨fun g x r e=>by simp [run] at e,fun g x s t r e=>by simp [run] at e⟩
 | n+1,0,_,_,h,_=>by omega
 | n+1,n'+1,k,k',h,hk=>by
   have ih:(run AP k n).le (run AP k' n'):=bL (by omega) hk
   refine ⟨fun g x r e=>?_,fun g x s t r e=>?_⟩
   · simp only [run] at e ⊢
     cases hg:AP g with
     | none=>rw [hg] at e;simp at e
     | some af=>
       rw [hg] at e
       dsimp only at e ⊢
       cases hp:af.kX with
       | some f=>rw [hp] at e;exact f.mono ih.p e
       | none=>
         rw [hp] at e
         dsimp only at e ⊢
         split at e
         · rename_i hc
           rw [if_pos hc]
           cases hb:bo (run AP k n) k false af (x.map .pv) [] [] with
           | none=>rw [hb] at e;simp at e
           | some q=>rw [eb ih hk hb];rw [hb] at e;exact e
         · simp at e
   · simp only [run] at e ⊢
     cases hg:AP g with
     | none=>rw [hg] at e;simp at e
     | some af=>
       rw [hg] at e
       dsimp only at e ⊢
       split at e
       · rename_i hc
         rw [if_pos hc]
         exact eb ih hk e
       · simp at e
noncomputable def bQ (AP:Nat→Option aK):cZ where
 p:=fun g x=>wS fun n=>(run AP n n).p g x
 i:=fun g x s t=>wS fun n=>(run AP n n).i g x s t
theorem kP (g:Nat) (x:List PV):pT fun n=>(run AP n n).p g x:=fun _ _ _ h e=>(bL h h).p _ _ _ e
theorem zj (g:Nat) (x:List AV) (s:Sh) (t:al):pT fun n=>(run AP n n).i g x s t:=fun _ _ _ h e=>(bL h h).i _ _ _ _ _ e
theorem xf (n:Nat):(run AP n n).le (bQ AP):=⟨fun g x _ e=>lQ (kP g x) e,fun g x s t _ e=>lQ (zj g x s t) e⟩
theorem kQ {g:Nat} {x:List PV} {r:List PV} (h:(bQ AP).p g x=some r):∃n,(run AP n n).p g x=some r:=dU h
theorem tU {g:Nat} {x:List AV} {s:Sh} {t:al} {r:List AV×Sh×al} (h:(bQ AP).i g x s t=some r):∃n,(run AP n n).i g x s t=some r:=dU h
theorem iZ {g:Nat} {own:List Nat} {vals:List AV} {sh:Sh} {aa:al} {r:AV×Sh×al} (e:dd (bQ AP) g own vals sh aa=some r):∃n,dd (run AP n n) g own vals sh aa=some r:=by
 unfold dd at *
 split at e
 · rename_i hp
   simp only [Option.map_eq_some_iff] at e
   obtain ⟨x,h1,h2⟩:=e
   obtain ⟨n,hn⟩:=tU h1
   exact ⟨n,by rw [if_pos hp,hn];simp only [Option.map_some,h2]⟩
 · simp at e
theorem rA {op:AK} {vals:List AV} {cells:Option (List AV)} {sh:Sh} {aa:al} {r:Out} (e:exec (bQ AP) op vals cells sh aa=some r):∃n,exec (run AP n n) op vals cells sh aa=some r:=by
 cases op with
 | aQ g=>
   simp only [exec] at e ⊢
   split at e
   · rename_i cv hp
     simp only [Option.map_eq_some_iff] at e
     obtain ⟨x,h1,h2⟩:=e
     obtain ⟨n,hn⟩:=kQ h1
     exact ⟨n,by rw [hn];simp only [Option.map_some,h2]⟩
   · simp at e
 | eo g=>
   simp only [exec] at e ⊢
   split at e
   · rename_i cv hp
     simp only [Option.map_eq_some_iff] at e
     obtain ⟨x,h1,h2⟩:=e
     obtain ⟨n,hn⟩:=kQ h1
     exact ⟨n,by rw [hn];simp only [Option.map_some,h2]⟩
   · simp at e
 | gQ g own=>
   simp only [exec,Option.map_eq_some_iff] at e ⊢
   obtain ⟨x,h1,h2⟩:=e
   obtain ⟨n,hn⟩:=iZ h1
   exact ⟨n,x,hn,h2⟩
 | gY g=>
   simp only [exec] at e ⊢
   split at e
   · split at e
     · rename_i rs ts h1
       obtain ⟨n,hn⟩:=tU h1
       exact ⟨n,by rw [hn];exact e⟩
     · simp at e
   · simp at e
 | bP=>
   cases vals with
   | nil=>simp [exec] at e
   | cons f vals=>
     cases f with
     | fn g cap=>
       simp only [exec,Option.bind_eq_some_iff] at e ⊢
       obtain ⟨x,h1,h2⟩:=e
       obtain ⟨n,hn⟩:=iZ h1
       exact ⟨n,x,hn,h2⟩
     | _=>simp [exec] at e
 | fq=>
   cases vals with
   | nil=>simp [exec] at e
   | cons f vals=>
     cases f with
     | fn g cap=>
       simp only [exec,Option.map_eq_some_iff] at e ⊢
       obtain ⟨x,h1,h2⟩:=e
       obtain ⟨n,hn⟩:=iZ h1
       exact ⟨n,x,hn,h2⟩
     | _=>simp [exec] at e
 | _=>exact ⟨0,by rw [←e];unfold exec;split<;>first | rfl | (rename_i heq;cases heq;done) | (simp at *;done)⟩
theorem xg {o:bN} {st r:St} (e:cr (bQ AP) o st=some r):∃n,cr (run AP n n) o st=some r:=by
 unfold cr at *
 cases hw:dm st.env o.guard with
 | none=>rw [hw] at e;simp at e
 | some t=>
   cases t with
   | false=>rw [hw] at e;exact ⟨0,e⟩
   | true=>
     rw [hw] at e
     dsimp only at e ⊢
     cases hv:cB st.env o.args with
     | none=>rw [hv] at e;simp at e
     | some vals=>
       rw [hv] at e
       dsimp only at e ⊢
       cases ho:exec (bQ AP) o.op vals (o.op.key.bind (look st.mem)) st.sh st.aa with
       | none=>rw [ho] at e;simp at e
       | some out=>
         obtain ⟨n,hn⟩:=rA ho
         rw [ho] at e
         exact ⟨n,by rw [hn];exact e⟩
theorem m9:∀{l:List bN} {st r:St},aJ (bQ AP) l st=some r→∃n,aJ (run AP n n) l st=some r
 | [],_,_,e=>⟨0,e⟩
 | o::l,st,r,e=>by
   simp only [aJ] at e ⊢
   cases ho:cr (bQ AP) o st with
   | none=>rw [ho] at e;simp at e
   | some s=>
     rw [ho] at e
     obtain ⟨n,hn⟩:=xg ho
     obtain ⟨m,hm⟩:=m9 (l:=l) e
     refine ⟨max n m,?_⟩
     rw [m8 (bL (Nat.le_max_left n m) (Nat.le_max_left n m)) hn]
     exact iX (bL (Nat.le_max_right n m) (Nat.le_max_right n m)) hm
theorem lS {k:Nat} {c:aR} {pre:St→St} (ih:∀{st:St} {r:aE×St},bB (bQ AP) k c st=some r→∃n,bB (run AP n n) n c st=some r) :
   ∀{j:Nat} {st:St} {r:aE×St},df (bB (bQ AP) k c) pre j st=some r→∃n,df (bB (run AP n n) n c) pre n st=some r
 | 0,_,_,e=>by simp [df] at e
 | j+1,st,r,e=>by
   simp only [df] at e
   cases hf:bB (bQ AP) k c (pre st) with
   | none=>rw [hf] at e;simp at e
   | some q=>
     obtain ⟨n,hn⟩:=ih hf
     rw [hf] at e
     obtain ⟨x,s⟩:=q
     cases x with
     | normal=>
       obtain ⟨m,hm⟩:=lS ih e
       refine ⟨max n m+1,?_⟩
       simp only [df]
       rw [bj (bL (n:=n) (n':=max n m+1) (by omega) (by omega)) (k:=n) (k':=max n m+1) (by omega) hn]
       exact fg (fun s r hs=>bj (bL (n:=m) (by omega) (by omega)) (k:=m) (by omega) hs) (n:=m) (by omega) hm
     | ret=>
       refine ⟨n+1,?_⟩
       simp only [df]
       rw [bj (bL (n:=n) (n':=n+1) (by omega) (by omega)) (k:=n) (k':=n+1) (by omega) hn]
       exact e
     | exit id=>
       refine ⟨n+1,?_⟩
       simp only [df]
       rw [bj (bL (n:=n) (n':=n+1) (by omega) (by omega)) (k:=n) (k':=n+1) (by omega) hn]
       exact e
theorem jS {n m:Nat} (h:n≤m) {c:aR} {st:St} {r:aE×St} (e:bB (run AP n n) n c st=some r):bB (run AP m m) m c st=some r:=bj (bL h h) h e
theorem mG {k:Nat} {x y:aR} (ihx:∀{st:St} {r:aE×St},bB (bQ AP) k x st=some r→∃n,bB (run AP n n) n x st=some r) (ihy:∀{st:St} {r:aE×St},bB (bQ AP) k y st=some r→∃n,bB (run AP n n) n y st=some r)
   {st:St} {r:aE×St} (e:andThen (bB (bQ AP) k x) (bB (bQ AP) k y) st=some r):∃n,andThen (bB (run AP n n) n x) (bB (run AP n n) n y) st=some r:=by
 unfold andThen at e ⊢
 cases hx:bB (bQ AP) k x st with
 | none=>rw [hx] at e;simp at e
 | some q=>
   obtain ⟨n,hn⟩:=ihx hx
   rw [hx] at e
   obtain ⟨ex,s⟩:=q
   cases ex with
   | normal=>
     obtain ⟨m,hm⟩:=ihy e
     exact ⟨max n m,by rw [jS (Nat.le_max_left n m) hn];exact jS (Nat.le_max_right n m) hm⟩
   | ret=>simp at e
   | exit id=>simp at e
theorem lT {F:St→Option (aE×St)} {f:Nat→St→Option (aE×St)} (hm:∀{n m:Nat},n≤m→∀s r,f n s=some r→f m s=some r) (ih:∀{st:St} {r:aE×St},F st=some r→∃n,f n st=some r)
   {live:List Nat} {pi px sz:Nat} {ag:Bool} {env:List (Nat×AV)}:∀{l:List (PV×Nat)} {st:St} {r:aE×St},gS F live pi px sz ag env l st=some r→∃n,gS (f n) live pi px sz ag env l st=some r
 | [],_,_,e=>⟨0,e⟩
 | (el,i)::l,st,r,e=>by
   simp only [gS] at e ⊢
   cases hv:mo sz ag el with
   | none=>rw [hv] at e;simp at e
   | some v=>
     rw [hv] at e
     simp only at e ⊢
     cases hf:F (norm (restrict live { st with env:=bV (bV env pi (.pv (.int .i64 i))) px v })) with
     | none=>rw [hf] at e;simp at e
     | some q=>
       obtain ⟨n,hn⟩:=ih hf
       rw [hf] at e
       obtain ⟨x,s⟩:=q
       cases x with
       | normal=>
         obtain ⟨m,hm'⟩:=lT hm ih e
         exact ⟨max n m,by rw [hm (Nat.le_max_left n m) _ _ hn];exact iY (hm (Nat.le_max_right n m)) hm'⟩
       | ret=>exact ⟨n,by rw [hn];exact e⟩
       | exit id=>exact ⟨n,by rw [hn];exact e⟩
theorem eL {k:Nat}:∀{c:aR} {st:St} {r:aE×St},bB (bQ AP) k c st=some r→∃n,bB (run AP n n) n c st=some r
 | .skip,_,_,e=>⟨0,e⟩
 | .gX _,_,_,e=>⟨0,e⟩
 | .AB _,_,_,e=>⟨0,e⟩
 | .gZ _,_,_,e=>⟨0,e⟩
 | .ix _,_,_,e=>⟨0,e⟩
 | .Bq _,_,_,e=>⟨0,e⟩
 | .iL ops live,st,r,e=>by
   simp only [bB] at e ⊢
   cases ho:aJ (bQ AP) ops st with
   | none=>rw [ho] at e;simp at e
   | some s=>obtain ⟨n,hn⟩:=m9 ho;rw [ho] at e;exact ⟨n,by rw [hn];exact e⟩
 | .seq x y,st,r,e=>by
   simp only [bB] at e ⊢
   cases hx:bB (bQ AP) k x st with
   | none=>rw [hx] at e;simp at e
   | some q=>
     obtain ⟨n,hn⟩:=eL hx
     rw [hx] at e
     obtain ⟨ex,s⟩:=q
     cases ex with
     | normal=>
       obtain ⟨m,hm⟩:=eL (c:=y) e
       exact ⟨max n m,by rw [jS (Nat.le_max_left n m) hn];exact jS (Nat.le_max_right n m) hm⟩
     | ret=>exact ⟨n,by rw [hn];exact e⟩
     | exit id=>exact ⟨n,by rw [hn];exact e⟩
 | .cond c x y,st,r,e=>by
   simp only [bB] at e ⊢
   split at e
   · rename_i t hc
     split at e
     · rename_i ht
       obtain ⟨n,hn⟩:=eL e
       exact ⟨n,by rw [if_pos ht];exact hn⟩
     · rename_i ht
       obtain ⟨n,hn⟩:=eL e
       exact ⟨n,by rw [if_neg ht];exact hn⟩
   · simp at e
 | .block id x,st,r,e=>by
   simp only [bB] at e ⊢
   cases hx:bB (bQ AP) k x st with
   | none=>rw [hx] at e;simp at e
   | some q=>
     obtain ⟨n,hn⟩:=eL hx
     rw [hx] at e
     exact ⟨n,by rw [hn];exact e⟩
 | .loop live x,st,r,e=>by
   simp only [bB] at e ⊢
   exact lS (fun h=>eL h) e
 | .exit id,_,_,e=>⟨0,e⟩
 | .ret,_,_,e=>⟨0,e⟩
 | .back c gb pi px sz ag live x y,st,r,e=>by
   simp only [bB] at e ⊢
   unfold eQ at e ⊢
   split at e
   · split at e
     · rename_i hg
       split at e
       · split at e
         · rename_i hl
           obtain ⟨n,hn⟩:=lT (f:=fun n=>andThen (bB (run AP n n) n x) (bB (run AP n n) n y)) (fun h=>jE (fun s r hs=>jS h hs) (fun s r hs=>jS h hs)) (mG (fun h=>eL h) (fun h=>eL h)) e
           exact ⟨n,by rw [if_pos hg,if_pos hl];exact hn⟩
         · simp at e
       · simp at e
     · simp at e
   · simp at e
noncomputable def cl (AP:Nat→Option aK) (c:aR) (st:St):Option (aE×St):=wS fun k=>bB (bQ AP) k c st
theorem kR (c:aR) (st:St):pT fun k=>bB (bQ AP) k c st:=fun _ _ _ h e=>bj (cZ.le_refl _) h e
theorem iP {c:aR} {st:St} {k:Nat} {r:aE×St} (h:bB (bQ AP) k c st=some r):cl AP c st=some r:=lQ (kR c st) h
theorem zk {st:St}:cl AP .skip st=some (.normal,st):=iP (k:=0) rfl
theorem zm {id:Nat} {st:St}:cl AP (.exit id) st=some (.exit id,st):=iP (k:=0) rfl
theorem AO {st:St}:cl AP .ret st=some (.ret,st):=iP (k:=0) rfl
theorem AR {ops:List bN} {live:List Nat} {st:St}:cl AP (.iL ops live) st=(aJ (bQ AP) ops st).map fun st'=>(.normal,restrict live st'):=by
 cases h:aJ (bQ AP) ops st with
 | none=>exact lR fun k=>by simp only [bB,h]
 | some s=>exact iP (k:=0) (by simp only [bB,h])
def after (f:St→Option (aE×St)):Option (aE×St)→Option (aE×St)
 | some (.normal,st)=>f st
 | r=>r
theorem AS {a b:aR} {st:St}:cl AP (.seq a b) st=after (cl AP b) (cl AP a st):=by
 refine jD (kR _ _) (fun k r h=>?_) fun r h=>?_
 · simp only [bB] at h
   cases hx:bB (bQ AP) k a st with
   | none=>rw [hx] at h;simp at h
   | some q=>
     rw [iP hx]
     rw [hx] at h
     obtain ⟨ex,s⟩:=q
     cases ex with
     | normal=>exact iP h
     | ret=>exact h
     | exit id=>exact h
 · cases hx:cl AP a st with
   | none=>rw [hx] at h;simp [after] at h
   | some q=>
     obtain ⟨k,hk⟩:=dU hx
     rw [hx] at h
     obtain ⟨ex,s⟩:=q
     cases ex with
     | normal=>
       obtain ⟨k',hk'⟩:=dU (show wS (fun k=>bB (bQ AP) k b s)=some r from h)
       refine ⟨max k k',?_⟩
       simp only [bB]
       rw [bj (cZ.le_refl _) (Nat.le_max_left k k') hk]
       exact bj (cZ.le_refl _) (Nat.le_max_right k k') hk'
     | ret=>exact ⟨k,by simp only [bB];rw [hk];exact h⟩
     | exit id=>exact ⟨k,by simp only [bB];rw [hk];exact h⟩
theorem zn {c:c_} {a b:aR} {st:St} {t:Bool} (h:dZ st.env c=some (.pv (.bool t))):cl AP (.cond c a b) st=if t then cl AP a st else cl AP b st:=by
 unfold cl
 simp only [bB,h]
 cases t<;>rfl
def leave (id:Nat):Option (aE×St)→Option (aE×St)
 | some (.exit id',st)=>if id'=id then some (.normal,st) else some (.exit id',st)
 | r=>r
theorem xh {id:Nat} {b:aR} {st:St}:cl AP (.block id b) st=leave id (cl AP b st):=by
 refine jD (kR _ _) (fun k r h=>?_) fun r h=>?_
 · simp only [bB] at h
   cases hx:bB (bQ AP) k b st with
   | none=>rw [hx] at h;simp at h
   | some q=>rw [iP hx];rw [hx] at h;exact h
 · cases hx:cl AP b st with
   | none=>rw [hx] at h;simp [leave] at h
   | some q=>
     obtain ⟨k,hk⟩:=dU hx
     rw [hx] at h
     exact ⟨k,by simp only [bB];rw [hk];exact h⟩
theorem nW {live:List Nat} {b:aR} {st:St}:cl AP (.loop live b) st=after (cl AP (.loop live b)) (cl AP b (norm (restrict live st))):=by
 refine jD (kR _ _) (fun k r h=>?_) fun r h=>?_
 · simp only [bB] at h
   cases k with
   | zero=>simp [df] at h
   | succ k=>
     simp only [df] at h
     cases hx:bB (bQ AP) (k+1) b (norm (restrict live st)) with
     | none=>rw [hx] at h;simp at h
     | some q=>
       rw [iP hx]
       rw [hx] at h
       obtain ⟨ex,s⟩:=q
       cases ex with
       | normal=>exact iP (k:=k+1) (by simp only [bB];exact fg (fun _ _ h=>h) (Nat.le_succ k) h)
       | ret=>exact h
       | exit id=>exact h
 · cases hx:cl AP b (norm (restrict live st)) with
   | none=>rw [hx] at h;simp [after] at h
   | some q=>
     obtain ⟨k,hk⟩:=dU hx
     rw [hx] at h
     obtain ⟨ex,s⟩:=q
     have up:∀m,k≤m→bB (bQ AP) m b (norm (restrict live st))=some (ex,s):=fun m hm=>bj (cZ.le_refl _) hm hk
     cases ex with
     | normal=>
       obtain ⟨k',hk'⟩:=dU (show wS (fun k=>bB (bQ AP) k (.loop live b) s)=some r from h)
       refine ⟨max k k'+1,?_⟩
       simp only [bB,df]
       rw [up _ (by omega)]
       simp only [bB] at hk'
       exact fg (fun _ _ h=>bj (cZ.le_refl _) (by omega) h) (by omega) hk'
     | ret=>exact ⟨k+1,by simp only [bB,df];rw [up _ (by omega)];exact h⟩
     | exit id=>exact ⟨k+1,by simp only [bB,df];rw [up _ (by omega)];exact h⟩
def finish (aw:Bool) (af:aK) (sh:Sh):Option (aE×St)→Option (List AV×Sh×al)
 | some (e,st)=>
   if e=.ret∨e=.normal then
     match cE st af.results with
     | some vs=>
       let rs:=bf aw af.ks st.sh vs
       let sh':=if rs.all (aq sh.length)=true then (cU aw af.ks st.sh vs).take sh.length else cU aw af.ks st.sh vs
       if rs.all aY=true then some ((bR st.aa rs sh').1,(bR st.aa rs sh').2.1,(bR st.aa rs sh').2.2.2) else none
     | none=>none
   else none
 | none=>none
theorem eA {orc:cZ} {k:Nat} {aw:Bool} {af:aK} {args:List AV} {sh:Sh} {ts:al}:bo orc k aw af args sh ts=finish aw af sh (bB orc k af.body { env:=bh 0 args,mem:=[],sh,aa:=ts }):=by
 unfold bo finish
 cases bB orc k af.body { env:=bh 0 args,mem:=[],sh,aa:=ts } with
 | none=>rfl
 | some q=>obtain ⟨e,st⟩:=q;rfl
noncomputable def lU (AP:Nat→Option aK) (aw:Bool) (af:aK) (args:List AV) (sh:Sh) (ts:al):Option (List AV×Sh×al):=
 finish aw af sh (cl AP af.body { env:=bh 0 args,mem:=[],sh,aa:=ts })
theorem uI {aw:Bool} {af:aK} {args:List AV} {sh:Sh} {ts:al} {r:List AV×Sh×al} (h:lU AP aw af args sh ts=some r):∃n,bo (run AP n n) n aw af args sh ts=some r:=by
 unfold lU at h
 cases hc:cl AP af.body { env:=bh 0 args,mem:=[],sh,aa:=ts } with
 | none=>rw [hc] at h;simp [finish] at h
 | some q=>
   obtain ⟨k,hk⟩:=dU hc
   obtain ⟨n,hn⟩:=eL hk
   exact ⟨n,by rw [eA,hn,←hc];exact h⟩
theorem zo {n:Nat} {aw:Bool} {af:aK} {args:List AV} {sh:Sh} {ts:al} {r:List AV×Sh×al} (h:bo (run AP n n) n aw af args sh ts=some r):lU AP aw af args sh ts=some r:=by
 rw [eA] at h
 unfold lU
 cases hc:bB (run AP n n) n af.body { env:=bh 0 args,mem:=[],sh,aa:=ts } with
 | none=>rw [hc] at h;simp [finish] at h
 | some q=>
   rw [iP (bj (xf n) (Nat.le_refl n) hc)]
   rw [hc] at h
   exact h
theorem BE {g:Nat} {af:aK} {x:List PV} (hg:AP g=some af) (hp:af.kX=none) (h1:x.length=af.nparams) (h2:x.length≤af.ntmps) :
   (bQ AP).p g x=(lU AP false af (x.map .pv) [] []).bind fun r=>dD r.1:=by
 refine jD (kP g x) (fun k r h=>?_) fun r h=>?_
 · cases k with
   | zero=>simp [run] at h
   | succ k=>
     simp only [run,hg,hp] at h
     rw [if_pos ⟨h1,h2⟩] at h
     cases hb:bo (run AP (k+1) k) (k+1) false af (x.map .pv) [] [] with
     | none=>rw [hb] at h;simp at h
     | some q=>
       rw [zo (n:=k+1) (eb (bL (Nat.le_succ k) (Nat.le_refl _)) (Nat.le_refl _) hb)]
       rw [hb] at h
       exact h
 · cases hb:lU AP false af (x.map .pv) [] [] with
   | none=>rw [hb] at h;simp at h
   | some q=>
     obtain ⟨n,hn⟩:=uI hb
     rw [hb] at h
     refine ⟨n+1,?_⟩
     simp only [run,hg,hp]
     rw [if_pos ⟨h1,h2⟩,eb (bL (n:=n) (n':=n) (k:=n) (k':=n+1) (Nat.le_refl _) (Nat.le_succ n)) (Nat.le_succ n) hn]
     exact h
theorem m_:∀(l:List (Nat×List PV×List PV)),(∀c∈l,(bQ AP).p c.1 c.2.1=some c.2.2)→∃n,∀c∈l,(run AP n n).p c.1 c.2.1=some c.2.2
 | [],_=>⟨0,by simp⟩
 | c::l,h=>by
   obtain ⟨n,hn⟩:=kQ (h c (by simp))
   obtain ⟨m,hm⟩:=m_ l fun c' hc=>h c' (by simp [hc])
   refine ⟨max n m,fun c' hc=>?_⟩
   simp only [List.mem_cons] at hc
   rcases hc with rfl | hc
   · exact (bL (Nat.le_max_left n m) (Nat.le_max_left n m)).p _ _ _ hn
   · exact (bL (Nat.le_max_right n m) (Nat.le_max_right n m)).p _ _ _ (hm c' hc)
theorem zp {g:Nat} {af:aK} {x:List PV} {f:Prim} (hg:AP g=some af) (hp:af.kX=some f):(bQ AP).p g x=f.f (bQ AP).p x:=by
 refine jD (kP g x) (fun k r h=>?_) fun r h=>?_
 · cases k with
   | zero=>simp [run] at h
   | succ k=>
     simp only [run,hg,hp] at h
     exact f.mono (fun g x r e=>(xf (k+1)).p _ _ _ ((bL (Nat.le_succ k) (Nat.le_refl _)).p _ _ _ e)) h
 · obtain ⟨l,h1,h2⟩:=f.fin _ _ _ h
   obtain ⟨n,hn⟩:=m_ l h1
   refine ⟨n+1,?_⟩
   simp only [run,hg,hp]
   exact h2 _ fun c hc=>(bL (n:=n) (n':=n) (k:=n) (k':=n+1) (Nat.le_refl _) (Nat.le_succ n)).p _ _ _ (hn c hc)
theorem zq {g:Nat} {af:aK} {x:List PV} {f:List PV→Option (List PV)} (hg:AP g=some af) (hp:af.kX=some (Prim.pure f)):(bQ AP).p g x=f x:=zp hg hp
end Go.Ab
