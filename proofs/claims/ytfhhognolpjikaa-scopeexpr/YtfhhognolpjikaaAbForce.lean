import Derived.Test.YtfhhognolpjikaaAbLim
/-
  The evaluator for the kernel: what an operation lays is brought to its last form at once. It answers as the evaluator does.
-/
set_option linter.unusedVariables false
set_option linter.unusedSimpArgs false
set_option maxRecDepth 100000
set_option maxHeartbeats 8000000
namespace Go.Ab.Fc
variable {α:Type}
def fN (n:Nat) (K:Nat→Option α):Option α:=match n with
 | 0=>K 0
 | m+1=>K (m+1)
theorem mj {n:Nat} {K:Nat→Option α}:fN n K=K n:=by cases n<;>rfl
def fI (n:Int) (K:Int→Option α):Option α:=match n with
 | .ofNat m=>fN m fun m=>K (.ofNat m)
 | .negSucc m=>fN m fun m=>K (.negSucc m)
theorem CE {n:Int} {K:Int→Option α}:fI n K=K n:=by cases n<;>simp [fI,mj]
def fB (b:Bool) (K:Bool→Option α):Option α:=match b with
 | true=>K true
 | false=>K false
theorem nI {b:Bool} {K:Bool→Option α}:fB b K=K b:=by cases b<;>rfl
def fS {β:Type}:List β→(List β→Option α)→Option α
 | [],K=>K []
 | a::r,K=>fS r fun r=>K (a::r)
theorem sZ {β:Type}:∀{l:List β} {K:List β→Option α},fS l K=K l
 | [],_=>rfl
 | a::r,K=>by simp only [fS];rw [sZ]
def fL (p:PV) (K:PV→Option α):Option α:=match p with
 | .bool b=>fB b fun b=>K (.bool b)
 | .int k n=>fI n fun n=>K (.int k n)
 | .str s=>K (.str s)
 | .agg cs=>K (.agg cs)
 | .aI l=>K (.aI l)
theorem EZ {p:PV} {K:PV→Option α}:fL p K=K p:=by cases p<;>simp [fL,nI,CE]
def G6:List PV→(List PV→Option α)→Option α
 | [],K=>K []
 | a::r,K=>fL a fun a=>G6 r fun r=>K (a::r)
theorem wQ:∀{l:List PV} {K:List PV→Option α},G6 l K=K l
 | [],_=>rfl
 | a::r,K=>by simp only [G6];rw [EZ,wQ]
def fP (p:PV) (K:PV→Option α):Option α:=match p with
 | .agg cs=>G6 cs fun cs=>K (.agg cs)
 | p=>fL p K
theorem CF {p:PV} {K:PV→Option α}:fP p K=K p:=by cases p<;>simp [fP,wQ,EZ]
def HO (v:AV) (K:AV→Option α):Option α:=match v with
 | .un=>K .un
 | .pv p=>fP p fun p=>K (.pv p)
 | .bR l=>K (.bR l)
 | .own l τ=>fN τ fun τ=>K (.own l τ)
 | .agg cs=>K (.agg cs)
 | .jH cs=>K (.jH cs)
 | .aT a b=>fN a fun a=>fN b fun b=>K (.aT a b)
 | .ba a b=>fN a fun a=>fN b fun b=>K (.ba a b)
 | .cQ cs=>fS cs fun cs=>K (.cQ cs)
 | .bd a b c d=>fN a fun a=>fN c fun c=>K (.bd a b c d)
 | .fn g c=>K (.fn g c)
 | .cM=>K .cM
 | .ck s=>fN s fun s=>K (.ck s)
 | .da kvs=>fS kvs fun kvs=>K (.da kvs)
 | .jS a b c=>fN a fun a=>fN b fun b=>fN c fun c=>K (.jS a b c)
theorem CG {v:AV} {K:AV→Option α}:HO v K=K v:=by cases v<;>simp [HO,CF,mj,sZ]
def Eh:List AV→(List AV→Option α)→Option α
 | [],K=>K []
 | a::r,K=>HO a fun a=>Eh r fun r=>K (a::r)
theorem nJ:∀{l:List AV} {K:List AV→Option α},Eh l K=K l
 | [],_=>rfl
 | a::r,K=>by simp only [Eh];rw [CG,nJ]
def fA (v:AV) (K:AV→Option α):Option α:=match v with
 | .agg cs=>Eh cs fun cs=>K (.agg cs)
 | .jH cs=>Eh cs fun cs=>K (.jH cs)
 | .fn g cs=>Eh cs fun cs=>K (.fn g cs)
 | v=>HO v K
theorem ml {v:AV} {K:AV→Option α}:fA v K=K v:=by cases v<;>simp [fA,nJ,CG]
def G7:List AV→(List AV→Option α)→Option α
 | [],K=>K []
 | a::r,K=>fA a fun a=>G7 r fun r=>K (a::r)
theorem nK:∀{l:List AV} {K:List AV→Option α},G7 l K=K l
 | [],_=>rfl
 | a::r,K=>by simp only [G7];rw [ml,nK]
def fV (v:AV) (K:AV→Option α):Option α:=match v with
 | .pv (.str s)=>fS s fun s=>K (.pv (.str s))
 | .pv (.aI l)=>fS l fun l=>K (.pv (.aI l))
 | .bR l=>fS l fun l=>G6 l fun l=>K (.bR l)
 | .own l τ=>fS l fun l=>fN τ fun τ=>K (.own l τ)
 | v=>fA v K
theorem CH {v:AV} {K:AV→Option α}:fV v K=K v:=by
 cases v with
 | pv p=>cases p<;>simp [fV,sZ,ml]
 | _=>simp [fV,sZ,ml,wQ,mj]
def G8:List PV→(List PV→Option α)→Option α
 | [],K=>K []
 | a::r,K=>fP a fun a=>G8 r fun r=>K (a::r)
theorem CI:∀{l:List PV} {K:List PV→Option α},G8 l K=K l
 | [],_=>rfl
 | a::r,K=>by simp only [G8];rw [CF,CI]
def fresh:AK→Bool
 | .v (.a6 _) | .v (.slice ..) | .append .. | .v (.bin .add)=>true
 | _=>false
def Iq (op:AK) (v:AV) (K:AV→Option α):Option α:=match op,v with
 | .v (.a6 _),.bR l=>G8 l fun l=>K (.bR l)
 | op,v=>if fresh op then fV v K else fA v K
def fO {β:Type} (f:β→(β→Option α)→Option α) (o:Option β) (K:Option β→Option α):Option α:=match o with
 | none=>K none
 | some x=>f x fun x=>K (some x)
theorem G9 {β:Type} {f:β→(β→Option α)→Option α} (hf:∀x K,f x K=K x) {o:Option β} {K:Option β→Option α}:fO f o K=K o:=by cases o<;>simp [fO,hf]
def Gr:Sh→(Sh→Option α)→Option α
 | [],K=>K []
 | a::r,K=>fO Eh a fun a=>Gr r fun r=>K (a::r)
theorem ly:∀{l:Sh} {K:Sh→Option α},Gr l K=K l
 | [],_=>rfl
 | a::r,K=>by simp only [Gr];rw [G9 (fun _ _=>nJ),ly]
def fT:au→(au→Option α)→Option α
 | [],K=>K []
 | a::r,K=>fN a fun a=>fT r fun r=>K (a::r)
theorem oY:∀{l:au} {K:au→Option α},fT l K=K l
 | [],_=>rfl
 | a::r,K=>by simp only [fT];rw [mj,oY]
def HZ {β:Type}:List (Nat×β)→Nat→β→(List (Nat×β)→Option α)→Option α
 | [],t,u,K=>K [(t,u)]
 | (k,v)::r,t,u,K=>if k=t then K ((k,u)::r) else HZ r t u fun r=>K ((k,v)::r)
def Ei:List (Nat×AV)→(List (Nat×AV)→Option α)→Option α
 | [],K=>K []
 | (t,v)::r,K=>fA v fun v=>Ei r fun r=>K ((t,v)::r)
theorem xp:∀{l:List (Nat×AV)} {K:List (Nat×AV)→Option α},Ei l K=K l
 | [],_=>rfl
 | (t,v)::r,K=>by simp only [Ei];rw [ml,xp]
def Ej:List (Nat×List AV)→(List (Nat×List AV)→Option α)→Option α
 | [],K=>K []
 | (t,v)::r,K=>Eh v fun v=>Ej r fun r=>K ((t,v)::r)
theorem xq:∀{l:List (Nat×List AV)} {K:List (Nat×List AV)→Option α},Ej l K=K l
 | [],_=>rfl
 | (t,v)::r,K=>by simp only [Ej];rw [nJ,xq]
def HP (st:St) (K:St→Option α):Option α:=match st with
 | ⟨env,mem,sh,aa⟩=>Ei env fun env=>Ej mem fun mem=>Gr sh fun sh=>fT aa fun aa=>K ⟨env,mem,sh,aa⟩
theorem CJ {st:St} {K:St→Option α}:HP st K=K st:=by
 obtain ⟨env,mem,sh,aa⟩:=st
 simp only [HP];rw [xp,xq,ly,oY]
def lk {β:Type}:List (Nat×β)→Nat→Option β
 | [],_=>none
 | (k,v)::r,t=>bif Nat.beq k t then some v else lk r t
theorem oZ {β:Type}:∀{l:List (Nat×β)} {t:Nat},lk l t=look l t
 | [],_=>rfl
 | (k,v)::r,t=>by
   simp only [lk,look]
   rw [oZ]
   by_cases h:k=t
   · subst h;simp
   · rw [if_neg h,show Nat.beq k t=false from by rw [Bool.eq_false_iff];intro e;exact h (Nat.eq_of_beq_eq_true e)]
     rfl
def pt {β:Type}:List (Nat×β)→Nat→β→(List (Nat×β)→Option α)→Option α
 | [],t,u,K=>K [(t,u)]
 | (k,v)::r,t,u,K=>bif Nat.beq k t then K ((k,u)::r) else pt r t u fun r=>K ((k,v)::r)
theorem CL {β:Type}:∀{l:List (Nat×β)} {t:Nat} {u:β} {K:List (Nat×β)→Option α},pt l t u K=K (db l t u)
 | [],_,_,_=>rfl
 | (k,v)::r,t,u,K=>by
   simp only [pt,db]
   by_cases h:k=t
   · subst h;simp
   · rw [if_neg h,show Nat.beq k t=false from by rw [Bool.eq_false_iff];intro e;exact h (Nat.eq_of_beq_eq_true e)]
     exact CL
def od (env:List (Nat×AV)) (x:d3) (K:AV→Option α):Option α:=match x with
 | .t n=>match lk env n with
   | some v=>K v
   | none=>none
 | .c v=>K v
theorem G_ {env:List (Nat×AV)} {x:d3} {K:AV→Option α}:od env x K=(ff env x).bind K:=by
 cases x with
 | t n=>simp only [od,ff,oZ];cases look env n<;>rfl
 | c v=>rfl
def Gt (env:List (Nat×AV)):List d3→(List AV→Option α)→Option α
 | [],K=>K []
 | x::r,K=>od env x fun v=>Gt env r fun vs=>K (v::vs)
theorem CM {env:List (Nat×AV)}:∀{l:List d3} {K:List AV→Option α},Gt env l K=(dv env l).bind K
 | [],_=>rfl
 | x::r,K=>by
   simp only [Gt,dv]
   rw [G_]
   cases ff env x with
   | none=>rfl
   | some v=>
     dsimp only [Option.bind_some]
     rw [CM]
     cases dv env r<;>rfl
def F7:IntKind→Nat
 | .i8=>0 | .i16=>1 | .i32=>2 | .i64=>3 | .u8=>4 | .u16=>5 | .u32=>6 | .u64=>7
theorem Ek {a b:IntKind} (h:Nat.beq (F7 a) (F7 b)=true):a=b:=by
 have:=Nat.eq_of_beq_eq_true h
 cases a<;>cases b<;>first | rfl | (simp [F7] at this)
def HQ:Int→Int→Bool
 | .ofNat a,.ofNat b=>Nat.beq a b
 | .negSucc a,.negSucc b=>Nat.beq a b
 | _,_=>false
theorem H0 {a b:Nat}:Nat.beq a b=decide (a=b):=by
 by_cases h:a=b
 · subst h;simp
 · rw [decide_eq_false h,Bool.eq_false_iff];intro e;exact h (Nat.eq_of_beq_eq_true e)
theorem CN {a b:Int}:HQ a b=(a == b):=by
 cases a<;>cases b<;>(rw [Bool.eq_iff_iff];simp [HQ,H0])<;>omega
def Gu:Int→Int→Bool
 | .ofNat a,.ofNat b=>Nat.blt a b
 | .negSucc a,.negSucc b=>Nat.blt b a
 | .negSucc _,.ofNat _=>true
 | .ofNat _,.negSucc _=>false
theorem qi {a b:Int}:Gu a b=decide (a<b):=by
 cases a<;>cases b<;>(rw [Bool.eq_iff_iff];simp [Gu,Nat.blt_eq])<;>omega
def F8 (k:IntKind) (a b:Int) (K:Int→Option α):Option α:=match k,a,b with
 | .i64,.ofNat x,.ofNat y=>bif Nat.blt (x+y) 4611686018427387904 then fN (x+y) fun n=>K (.ofNat n) else fI (IntKind.i64.wrap (.ofNat x+.ofNat y)) K
 | k,a,b=>fI (k.wrap (a+b)) K
theorem Em {k:IntKind} {a b:Int} {K:Int→Option α}:F8 k a b K=K (k.wrap (a+b)):=by
 unfold F8
 split
 · rename_i x y
   cases h:Nat.blt (x+y) 4611686018427387904 with
   | false=>simp only [cond_false];exact CE
   | true=>
     simp only [cond_true,mj]
     have:x+y<4611686018427387904:=by simpa [Nat.blt_eq] using h
     congr 1
     simp [IntKind.wrap,IntKind.bits,IntKind.signed]
     omega
 · exact CE
def F9 (op:BinOp) (a b:AV) (K:AV→Option α):Option α:=match a with
 | .pv (.int k x)=>match b with
   | .pv (.int k' y)=>bif Nat.beq (F7 k) (F7 k') then (match op with
       | .eql=>fB (HQ x y) fun c=>K (.pv (.bool c))
       | .neq=>fB (!HQ x y) fun c=>K (.pv (.bool c))
       | .lss=>fB (Gu x y) fun c=>K (.pv (.bool c))
       | .gtr=>fB (Gu y x) fun c=>K (.pv (.bool c))
       | .geq=>fB (!Gu x y) fun c=>K (.pv (.bool c))
       | .leq=>fB (!Gu y x) fun c=>K (.pv (.bool c))
       | .add=>F8 k x y fun n=>K (.pv (.int k n))
       | op=>(cK op a b).bind fun v=>fV v K)
     else (cK op a b).bind fun v=>fV v K
   | b=>(cK op a b).bind fun v=>fV v K
 | a=>(cK op a b).bind fun v=>fV v K
theorem Eo {op:BinOp} {a b:AV} {K:AV→Option α}:F9 op a b K=(cK op a b).bind K:=by
 have dflt:((cK op a b).bind fun v=>fV v K)=(cK op a b).bind K:=by
   congr 1;funext v;exact CH
 unfold F9
 split
 · rename_i k x
   split
   · rename_i k' y
     cases hk:Nat.beq (F7 k) (F7 k') with
     | false=>exact dflt
     | true=>
       obtain rfl:=Ek hk
       simp only [cond_true]
       split
       · simp [nI,CN,cK]
       · simp [nI,CN,cK,bne]
       · simp [nI,qi,cK]
       · simp [nI,qi,cK]
       · simp [nI,qi,cK,←decide_not,Int.not_lt]
       · simp [nI,qi,cK,←decide_not,Int.not_lt]
       · simp [Em,cK]
       · exact dflt
   · exact dflt
 · exact dflt
def Ib (off:Nat) (x:AV) (K:AV→Option α):Option α:=match x with
 | .aT d o=>fN (o+off) fun n=>K (.aT d n)
 | .ba b o=>fN (o+off) fun n=>K (.ba b n)
 | .cQ cs=>fS (cs.drop off) fun cs=>K (.cQ cs)
 | _=>none
def nth {β:Type}:List β→Nat→Option β
 | [],_=>none
 | a::r,n=>match n with
   | 0=>some a
   | n+1=>nth r n
theorem wR {β:Type}:∀{l:List β} {n:Nat},nth l n=l[n]?
 | [],n=>by simp [nth]
 | a::r,0=>rfl
 | a::r,n+1=>by simp only [nth,List.getElem?_cons_succ];exact wR
def ln {β:Type}:List β→Nat→(Nat→Option α)→Option α
 | [],n,K=>K n
 | _::r,n,K=>fN (n+1) fun n=>ln r n K
theorem xt {β:Type}:∀{l:List β} {n:Nat} {K:Nat→Option α},ln l n K=K (n+l.length)
 | [],n,K=>rfl
 | _::r,n,K=>by
   simp only [ln];rw [mj,xt];congr 1;simp;omega
def xV (o:AH) (vals:List AV) (K:AV→Option α):Option α:=match o with
 | .mv=>match vals with
   | [x]=>K x
   | vals=>(bq .mv vals).bind fun v=>fA v K
 | .bin op=>match vals with
   | [a,b]=>F9 op a b K
   | vals=>(bq (.bin op) vals).bind fun v=>fA v K
 | .b_ off=>match vals with
   | [x]=>Ib off x K
   | vals=>(bq (.b_ off) vals).bind fun v=>fA v K
 | .aQ=>match vals with
   | [.aT a b]=>K (.aT a b)
   | [.ba a b]=>K (.ba a b)
   | vals=>(bq .aQ vals).bind fun v=>fA v K
 | .index=>match vals with
   | [.pv (.str s),.pv (.int _ (.ofNat i))]=>match nth s i with
     | some b=>fN b.toNat fun n=>K (.pv (.int .u8 (.ofNat n)))
     | none=>none
   | vals=>(bq .index vals).bind fun v=>fA v K
 | .il=>match vals with
   | [.pv (.str s)]=>ln s 0 fun n=>K (.pv (.int .i64 (.ofNat n)))
   | vals=>(bq .il vals).bind fun v=>fA v K
 | .len=>match vals with
   | [.pv (.aI l)]=>ln l 0 fun n=>K (.pv (.int .i64 (.ofNat n)))
   | [.own l _]=>ln l 0 fun n=>K (.pv (.int .i64 (.ofNat n)))
   | vals=>(bq .len vals).bind fun v=>fA v K
 | .a6 sz=>match bq (.a6 sz) vals with
   | some (.bR l)=>G8 l fun l=>K (.bR l)
   | some v=>K v
   | none=>none
 | .slice a b c d e=>(bq (.slice a b c d e) vals).bind fun v=>fV v K
 | o=>(bq o vals).bind fun v=>fA v K
theorem Ha {o:AH} {vals:List AV} {K:AV→Option α}:xV o vals K=(bq o vals).bind K:=by
 have dA:∀o vals,((bq o vals).bind fun v=>fA v K)=(bq o vals).bind K:=by
   intro o vals;congr 1;funext v;exact ml
 unfold xV
 split
 · split
   · rfl
   · exact dA _ _
 · split
   · exact Eo
   · exact dA _ _
 · split
   · rename_i x
     cases x<;>simp [Ib,bq,mj,sZ]
   · exact dA _ _
 · split
   · rfl
   · rfl
   · exact dA _ _
 · split
   · rename_i s k i
     rw [wR]
     have hi:¬(Int.ofNat i<0):=by simp
     simp only [bq]
     rw [if_neg hi]
     simp only [Int.toNat_natCast,Int.ofNat_eq_natCast]
     cases s[i]? with
     | none=>rfl
     | some b=>simp [mj]
   · exact dA _ _
 · split
   · simp [xt,bq]
   · exact dA _ _
 · split
   · simp [xt,bq,cC]
   · simp [xt,bq,cC]
   · exact dA _ _
 · split
   · rename_i l h;rw [h,CI];rfl
   · rename_i h;rw [h];rfl
   · rename_i h;rw [h];rfl
 · congr 1;funext v;exact CH
 · exact dA _ _
def lay (env:List (Nat×AV)) (mem:List (Nat×List AV)) (sh:Sh) (aa:au) (d:Option Nat) (v:AV) (K:St→Option α):Option α:=match d with
 | some d=>pt env d v fun env=>K ⟨env,mem,sh,aa⟩
 | none=>K ⟨env,mem,sh,aa⟩
theorem ji {env:List (Nat×AV)} {mem:List (Nat×List AV)} {sh:Sh} {aa:au} {d:Option Nat} {v:AV} {K:St→Option α}:lay env mem sh aa d v K=K ⟨eU env d v,mem,sh,aa⟩:=by
 cases d<;>simp [lay,eU,CL]
def F' (mem:List (Nat×List AV)) (k:Nat) (cs:Option (List AV)) (K:List (Nat×List AV)→Option α):Option α:=match cs with
 | some cs=>Eh cs fun cs=>pt mem k cs K
 | none=>K mem
theorem Ep {mem:List (Nat×List AV)} {k:Nat} {cs:Option (List AV)} {K:List (Nat×List AV)→Option α}:F' mem k cs K=K (ew mem (some k) cs):=by
 cases cs<;>simp [F',ew,nJ,CL]
def CO (orc:d0) (op:AK) (d:Option Nat) (vals:List AV) (env:List (Nat×AV)) (mem:List (Nat×List AV)) (sh:Sh) (aa:au) (K:St→Option α):Option α:=
 match exec orc op vals (op.key.bind (look mem)) sh aa with
 | none=>none
 | some ⟨val,cells,sh',toks'⟩=>fV val fun val=>(match op.key with | some k=>F' mem k cells | none=>fun K=>K mem) fun mem=>Gr sh' fun sh'=>fT toks' fun toks'=>lay env mem sh' toks' d val K
theorem qj {orc:d0} {op:AK} {d:Option Nat} {vals:List AV} {env:List (Nat×AV)} {mem:List (Nat×List AV)} {sh:Sh} {aa:au} {K:St→Option α} :
   CO orc op d vals env mem sh aa K=(match exec orc op vals (op.key.bind (look mem)) sh aa with
     | none=>none
     | some out=>some (⟨eU env d out.val,ew mem op.key out.cells,out.sh,out.aa⟩:St)).bind K:=by
 unfold CO
 cases exec orc op vals (op.key.bind (look mem)) sh aa with
 | none=>rfl
 | some out=>
   obtain ⟨val,cells,sh',toks'⟩:=out
   simp only [CH,Option.bind_some]
   cases op.key with
   | none=>simp only [ly,oY,ji];cases cells<;>rfl
   | some k=>simp only [Ep,ly,oY,ji]
def xP (orc:d0) (g:Nat) (vals:List AV) (K:AV→Option α):Option α:=match cp [] vals with
 | some cU=>match orc.p g cU with
   | some rs=>fA (mo rs) K
   | none=>none
 | none=>none
def x1 (orc:d0) (op:AK) (d:Option Nat) (vals:List AV) (env:List (Nat×AV)) (mem:List (Nat×List AV)) (sh:Sh) (aa:au) (K:St→Option α):Option α:=match op with
 | .v o=>xV o vals fun v=>lay env mem sh aa d v K
 | .aB g=>xP orc g vals fun v=>lay env mem sh aa d v K
 | .de key off sz ag=>match vals with
   | [.aT d' o]=>match lk mem key with
     | some cs=>bif Nat.beq d' key && Nat.beq o off then (match bN ag sz cs off with
         | some v=>fA v fun v=>lay env mem sh aa d v K
         | none=>none) else none
     | none=>none
   | vals=>CO orc (.de key off sz ag) d vals env mem sh aa K
 | .aR sz ag=>match vals with
   | [.ba b off]=>match nth sh b with
     | some (some cs)=>bif cA cs then none else (match bN ag sz cs off with
         | some v=>fA v fun v=>lay env mem sh aa d v K
         | none=>none)
     | _=>none
   | vals=>CO orc (.aR sz ag) d vals env mem sh aa K
 | op=>CO orc op d vals env mem sh aa K
theorem Hb {orc:d0} {op:AK} {d:Option Nat} {vals:List AV} {env:List (Nat×AV)} {mem:List (Nat×List AV)} {sh:Sh} {aa:au} {K:St→Option α} :
   x1 orc op d vals env mem sh aa K=(match exec orc op vals (op.key.bind (look mem)) sh aa with
     | none=>none
     | some out=>some (⟨eU env d out.val,ew mem op.key out.cells,out.sh,out.aa⟩:St)).bind K:=by
 unfold x1
 split
 · rename_i o
   simp only [Ha,ji,exec]
   cases bq o vals with
   | none=>rfl
   | some v=>rfl
 · rename_i g
   simp only [xP,exec]
   cases cp [] vals with
   | none=>rfl
   | some cU=>
     dsimp only
     cases orc.p g cU with
     | none=>rfl
     | some rs=>simp only [ml,ji];rfl
 · rename_i key off sz ag
   split
   · rename_i d' o
     rw [oZ]
     have hk:((AK.de key off sz ag).key.bind (look mem))=look mem key:=rfl
     rw [hk]
     cases look mem key with
     | none=>simp [exec]
     | some cs=>
       simp only [exec]
       by_cases h:d'=key∧o=off
       · obtain ⟨rfl,rfl⟩:=h
         simp only [Nat.beq_refl,Bool.and_self,cond_true,and_self,if_true]
         cases bN ag sz cs o with
         | none=>rfl
         | some v=>simp only [ml,ji];rfl
       · rw [if_neg h]
         have:(Nat.beq d' key && Nat.beq o off)=false:=by
           rw [Bool.eq_false_iff];intro e
           simp only [Bool.and_eq_true] at e
           exact h ⟨Nat.eq_of_beq_eq_true e.1,Nat.eq_of_beq_eq_true e.2⟩
         rw [this];rfl
   · exact qj
 · rename_i sz ag
   split
   · rename_i b off
     rw [wR]
     simp only [exec]
     split
     · rename_i cs h
       rw [h]
       dsimp only
       cases cA cs with
       | true=>rfl
       | false=>
         simp only [cond_false,Bool.false_eq_true,if_false]
         cases bN ag sz cs off with
         | none=>rfl
         | some v=>simp only [ml,ji];rfl
     · rename_i h
       split
       · rfl
       · rename_i e1 e2 e3
         split at e3
         · rename_i cs e4;exact absurd e4 (h cs)
         · cases e3
   · exact qj
 · exact qj
def HR (orc:d0) (o:dt) (st:St) (K:St→Option α):Option α:=match st with
 | ⟨env,mem,sh,aa⟩=>match o with
   | ⟨d,g,args,op⟩=>match g with
     | none=>Gt env args fun vals=>x1 orc op d vals env mem sh aa K
     | some (t,b)=>match lk env t with
       | some (.pv (.bool c))=>bif c == b then Gt env args fun vals=>x1 orc op d vals env mem sh aa K else lay env mem sh aa d .un K
       | some .un=>lay env mem sh aa d .un K
       | _=>none
theorem Ga {orc:d0} {o:dt} {st:St} {K:St→Option α}:HR orc o st K=(dQ orc o st).bind K:=by
 obtain ⟨env,mem,sh,aa⟩:=st
 obtain ⟨d,g,args,op⟩:=o
 have run:(Gt env args fun vals=>x1 orc op d vals env mem sh aa K)=(match dv env args with
     | none=>none
     | some vals=>match exec orc op vals (op.key.bind (look mem)) sh aa with
       | none=>none
       | some out=>some (⟨eU env d out.val,ew mem op.key out.cells,out.sh,out.aa⟩:St)).bind K:=by
   rw [CM]
   cases dv env args with
   | none=>rfl
   | some vals=>exact Hb
 cases g with
 | none=>simp only [HR,dQ,eh];exact run
 | some p=>
   obtain ⟨t,b⟩:=p
   simp only [HR,dQ,eh,oZ]
   split
   · rename_i c h
     rw [h]
     dsimp only
     cases hc:(c == b) with
     | true=>simp only [cond_true];exact run
     | false=>simp only [cond_false,ji];rfl
   · rename_i h
     rw [h]
     simp only [ji];rfl
   · rename_i h1 h2
     split
     · rfl
     · rename_i e;split at e<;>simp_all
     · rename_i e;split at e<;>simp_all
def Er (orc:d0):List dt→St→(St→Option α)→Option α
 | [],st,K=>K st
 | o::r,st,K=>HR orc o st fun st=>Er orc r st K
theorem xu {orc:d0}:∀{l:List dt} {st:St} {K:St→Option α},Er orc l st K=(bA orc l st).bind K
 | [],_,_=>rfl
 | o::r,st,K=>by
   simp only [Er,bA]
   rw [Ga]
   cases dQ orc o st with
   | none=>rfl
   | some s=>exact xu
def xv (f:St→(aO→St→Option α)→Option α) (pre:St→St):Nat→St→(aO→St→Option α)→Option α
 | 0,_,_=>none
 | n+1,st,K=>HP (pre st) fun st=>f st fun e st=>match e with
   | .normal=>xv f pre n st K
   | e=>K e st
def E_ (live:List Nat) (v:AV):Bool:=match v with
 | .aT d _=>live.contains d
 | .pv _=>true
 | .own ..=>true
 | .agg cs=>eJ cs
 | v=>bg v
theorem CP {live:List Nat} {v:AV}:E_ live v=dI live v:=by cases v<;>rfl
def Hc (live:List Nat) (env:List (Nat×AV)):List Nat→(List (Nat×AV)→Option α)→Option α
 | [],K=>K []
 | t::r,K=>match lk env t with
   | some v=>Hc live env r fun e=>bif E_ live v then K ((t,v)::e) else K e
   | none=>Hc live env r K
theorem wS {live:List Nat} {env:List (Nat×AV)}:∀{l:List Nat} {K:List (Nat×AV)→Option α},Hc live env l K=K (bB live env l)
 | [],_=>rfl
 | t::r,K=>by
   simp only [Hc,bB,oZ]
   cases look env t with
   | none=>exact wS
   | some v=>
     dsimp only
     rw [wS,CP]
     cases dI live v<;>simp
def Hd (mem:List (Nat×List AV)):List Nat→(List (Nat×List AV)→Option α)→Option α
 | [],K=>K []
 | t::r,K=>match lk mem t with
   | some v=>Hd mem r fun e=>K ((t,v)::e)
   | none=>Hd mem r K
theorem wT {mem:List (Nat×List AV)}:∀{l:List Nat} {K:List (Nat×List AV)→Option α},Hd mem l K=K (bC mem l)
 | [],_=>rfl
 | t::r,K=>by
   simp only [Hd,bC,oZ]
   cases look mem t with
   | none=>exact wT
   | some v=>exact wT
def rs (live:List Nat) (st:St) (K:St→Option α):Option α:=match st with
 | ⟨env,mem,sh,aa⟩=>Hc live env live fun env=>Hd mem live fun mem=>K ⟨env,mem,sh,aa⟩
theorem He {live:List Nat} {st:St} {K:St→Option α}:rs live st K=K (restrict live st):=by
 obtain ⟨env,mem,sh,aa⟩:=st
 simp only [rs];rw [wS,wT];rfl
def Fa (K:aO→St→Option α):Option (aO×St)→Option α
 | some (e,st)=>K e st
 | none=>none
def cF (orc:d0) (k:Nat):aw→St→(aO→St→Option α)→Option α
 | .skip,st,K=>K .normal st
 | .ah ops live,st,K=>Er orc ops st fun st=>rs live st fun st=>K .normal st
 | .seq a b,st,K=>cF orc k a st fun e st=>match e with
   | .normal=>cF orc k b st K
   | e=>K e st
 | .cond c a b,st,K=>match ff st.env c with
   | some (.pv (.bool t))=>match t with
     | true=>cF orc k a st K
     | false=>cF orc k b st K
   | _=>none
 | .block id b,st,K=>cF orc k b st fun e st=>match e with
   | .exit id'=>if id'=id then K .normal st else K (.exit id') st
   | e=>K e st
 | .loop live b,st,K=>xv (cF orc k b) (fun s=>norm (restrict live s)) k st K
 | .back c gb pi px sz ag live x y,st,K=>Fa K (cV orc k (.back c gb pi px sz ag live x y) st)
 | .exit id,st,K=>K (.exit id) st
 | .ret,st,K=>K .ret st
 | .eM ts,st,K=>K .normal (jG ts st)
theorem s4 {f:St→(aO→St→Option α)→Option α} {g:St→Option (aO×St)} {pre:St→St} (h:∀st K,f st K=Fa K (g st)):∀{n:Nat} {st:St} {K:aO→St→Option α},xv f pre n st K=Fa K (d8 g pre n st)
 | 0,_,_=>rfl
 | n+1,st,K=>by
   simp only [xv,d8]
   rw [CJ,h]
   cases g (pre st) with
   | none=>rfl
   | some q=>
     obtain ⟨e,s⟩:=q
     cases e with
     | normal=>exact s4 h
     | ret=>rfl
     | exit id=>rfl
theorem nL {orc:d0} {k:Nat}:∀{c:aw} {st:St} {K:aO→St→Option α},cF orc k c st K=Fa K (cV orc k c st)
 | .skip,_,_=>rfl
 | .ah ops live,st,K=>by
   simp only [cF,cV]
   rw [xu]
   cases bA orc ops st with
   | none=>rfl
   | some s=>simp only [Option.bind_some,He,Fa]
 | .seq a b,st,K=>by
   simp only [cF,cV]
   rw [nL]
   cases cV orc k a st with
   | none=>rfl
   | some q=>
     obtain ⟨e,s⟩:=q
     cases e with
     | normal=>simp only [Fa];exact nL
     | ret=>rfl
     | exit id=>rfl
 | .cond c a b,st,K=>by
   simp only [cF,cV]
   split
   · rename_i t h
     rw [h]
     cases t with
     | true=>exact nL
     | false=>exact nL
   · rename_i h
     split
     · rename_i t h';exact absurd h' (h t)
     · rfl
 | .block id b,st,K=>by
   simp only [cF,cV]
   rw [nL]
   cases cV orc k b st with
   | none=>rfl
   | some q=>
     obtain ⟨e,s⟩:=q
     cases e with
     | normal=>rfl
     | ret=>rfl
     | exit id'=>
       simp only [Fa]
       split<;>rfl
 | .loop live b,st,K=>by
   simp only [cF,cV]
   exact s4 (g:=cV orc k b) fun _ _=>nL
 | .back c gb pi px sz ag live x y,_,_=>by simp only [cF]
 | .exit id,_,_=>rfl
 | .ret,_,_=>rfl
 | .eM _,_,_=>rfl
def Es (aM:Bool) (af:aC) (sh0:Sh) (e:aO) (st:St) (K:List AV→Sh→au→Option α):Option α:=
 match e with
 | .exit _=>none
 | _=>match dB st af.results with
   | some vs=>
     G7 (bU aM af.ks st.sh vs) fun rs=>
     let sh':=if rs.all (az sh0.length)=true then (dX aM af.ks st.sh vs).take sh0.length else dX aM af.ks st.sh vs
     if rs.all bD=true then
       match cr st.aa rs sh' with
       | (rs,sh,_,ts)=>G7 rs fun rs=>Gr sh fun sh=>fT ts fun ts=>K rs sh ts
     else none
   | none=>none
def AB (K:List AV→Sh→au→Option α):Option (List AV×Sh×au)→Option α
 | some (a,b,c)=>K a b c
 | none=>none
theorem Et {aM:Bool} {af:aC} {sh0:Sh} {e:aO} {st:St} {K:List AV→Sh→au→Option α}:Es aM af sh0 e st K=AB K (finish aM af sh0 (some (e,st))):=by
 cases e with
 | exit id=>rfl
 | normal=>
   simp only [Es,finish]
   cases dB st af.results with
   | none=>rfl
   | some vs=>
     simp only [nK,or_true,if_true]
     split
     · simp only [nK,ly,oY,AB]
     · rfl
 | ret=>
   simp only [Es,finish]
   cases dB st af.results with
   | none=>rfl
   | some vs=>
     simp only [nK,true_or,if_true]
     split
     · simp only [nK,ly,oY,AB]
     · rfl
def o5 (orc:d0) (k:Nat) (aM:Bool) (af:aC) (args:List AV) (sh:Sh) (ts:au) (K:List AV→Sh→au→Option α):Option α:=
 HP { env:=bP 0 args,mem:=[],sh,aa:=ts } fun st=>cF orc k af.body st fun e st=>Es aM af sh e st K
theorem kQ {orc:d0} {k:Nat} {aM:Bool} {af:aC} {args:List AV} {sh:Sh} {ts:au} {K:List AV→Sh→au→Option α}:o5 orc k aM af args sh ts K=AB K (bQ orc k aM af args sh ts):=by
 unfold o5
 rw [CJ,nL,eH]
 cases cV orc k af.body { env:=bP 0 args,mem:=[],sh,aa:=ts } with
 | none=>rfl
 | some q=>obtain ⟨e,s⟩:=q;simp only [Fa];exact Et
def CQ (AP:Nat→Option aC) (k:Nat):Nat→d0
 | 0=>{ p:=fun _ _=>none,i:=fun _ _ _ _=>none }
 | n+1=>
   { p:=fun g cU=>match AP g with
       | some af=>match af.mI with
         | some f=>f cU
         | none=>if cU.length=af.nparams∧cU.length≤af.ntmps then o5 (CQ AP k n) k false af (cU.map .pv) [] [] fun rs _ _=>ez rs else none
       | none=>none
     i:=fun g args sh ts=>match AP g with
       | some af=>if args.length≤af.ntmps then o5 (CQ AP k n) k true af args sh ts fun a b c=>some (a,b,c) else none
       | none=>none }
theorem xw {AP:Nat→Option aC} {k:Nat}:∀n,CQ AP k n=run AP k n
 | 0=>rfl
 | n+1=>by
   have ih:=xw (AP:=AP) (k:=k) n
   simp only [CQ,run]
   congr 1
   · funext g cU
     cases AP g with
     | none=>rfl
     | some af=>
       dsimp only
       cases af.mI with
       | some f=>rfl
       | none=>
         dsimp only
         split
         · rw [kQ,ih]
           cases bQ (run AP k n) k false af (cU.map .pv) [] [] with
           | none=>rfl
           | some q=>rfl
         · rfl
   · funext g args sh ts
     cases AP g with
     | none=>rfl
     | some af=>
       dsimp only
       split
       · rw [kQ,ih]
         cases bQ (run AP k n) k true af args sh ts with
         | none=>rfl
         | some q=>rfl
       · rfl
theorem H2 {AP:Nat→Option aC} {k n g:Nat} {x rs:List PV} (h:(CQ AP k n).p g x=some rs):(aW AP).p g x=some rs:=by
 rw [xw] at h
 exact nb (mB g x) (show (run AP (max k n) (max k n)).p g x=some rs from (dg (Nat.le_max_right k n) (Nat.le_max_left k n)).p _ _ _ h)
def qk (AP:Nat→Option aC) (ov:Nat→List PV→Option (List PV)) (k:Nat):Nat→d0
 | 0=>{ p:=ov,i:=fun _ _ _ _=>none }
 | n+1=>
   { p:=fun g cU=>match ov g cU with
       | some r=>some r
       | none=>match AP g with
         | some af=>match af.mI with
           | some f=>f cU
           | none=>if cU.length=af.nparams∧cU.length≤af.ntmps then o5 (qk AP ov k n) k false af (cU.map .pv) [] [] fun rs _ _=>ez rs else none
         | none=>none
     i:=fun g args sh ts=>match AP g with
       | some af=>if args.length≤af.ntmps then o5 (qk AP ov k n) k true af args sh ts fun a b c=>some (a,b,c) else none
       | none=>none }
theorem s5 {AP:Nat→Option aC} {orc:d0} {k:Nat} {aM:Bool} {af:aC} {args:List AV} {sh:Sh} {ts:au} {r:List AV×Sh×au} (hle:orc.le (aW AP)) (h:bQ orc k aM af args sh ts=some r):jM AP aM af args sh ts=some r:=by
 rw [eH] at h
 unfold jM
 cases hc:cV orc k af.body { env:=bP 0 args,mem:=[],sh,aa:=ts } with
 | none=>rw [hc] at h;simp [finish] at h
 | some q=>
   rw [jf (bT hle (Nat.le_refl k) hc)]
   rw [hc] at h
   exact h
theorem xx {AP:Nat→Option aC} {ov:Nat→List PV→Option (List PV)} {k:Nat} (hov:∀g x r,ov g x=some r→(aW AP).p g x=some r):∀n,(qk AP ov k n).le (aW AP)
 | 0=>⟨hov,fun g x s t r h=>by simp [qk] at h⟩
 | n+1=>by
   have ih:=xx (k:=k) hov n
   refine ⟨fun g x r h=>?_,fun g x s t r h=>?_⟩
   · simp only [qk] at h
     split at h
     · rename_i r' e;rw [←h];exact hov g x r' e
     · split at h
       · rename_i af hg
         cases hp:af.mI with
         | some f=>rw [hp] at h;rw [Dx hg hp];exact h
         | none=>
           rw [hp] at h
           simp only [Option.ite_none_right_eq_some] at h
           obtain ⟨⟨h1,h2⟩,h⟩:=h
           rw [kQ] at h
           rw [EX hg hp h1 h2]
           cases hb:bQ (qk AP ov k n) k false af (x.map .pv) [] [] with
           | none=>rw [hb] at h;simp [AB] at h
           | some q=>rw [s5 ih hb];rw [hb] at h;exact h
       · cases h
   · simp only [qk] at h
     split at h
     · rename_i af hg
       simp only [Option.ite_none_right_eq_some] at h
       obtain ⟨h2,h⟩:=h
       rw [kQ] at h
       rw [EY hg h2]
       cases hb:bQ (qk AP ov k n) k true af x s t with
       | none=>rw [hb] at h;simp [AB] at h
       | some q=>rw [s5 ih hb];rw [hb] at h;exact h
     · cases h
theorem Fb {AP:Nat→Option aC} {ov:Nat→List PV→Option (List PV)} {k n g:Nat} {x rs:List PV} (hov:∀g x r,ov g x=some r→(aW AP).p g x=some r) (h:(qk AP ov k n).p g x=some rs):(aW AP).p g x=some rs:=(xx hov n).p _ _ _ h
end Go.Ab.Fc
