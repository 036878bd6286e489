import Derived.Test.YthcoecdbgdhihaaGreatDoorAbLim
/-
  The evaluator for the kernel: what an operation lays is brought to its last form at once. It answers as the evaluator does.
-/
set_option linter.unusedVariables false
set_option linter.unusedSimpArgs false
set_option linter.unnecessarySimpa false
set_option maxRecDepth 100000
set_option maxHeartbeats 8000000
namespace Go.Ab.Fc
variable {α:Type}
def fN (n:Nat) (K:Nat→Option α):Option α:=match n with
 | 0=>K 0
 | m+1=>K (m+1)
theorem pF {n:Nat} {K:Nat→Option α}:fN n K=K n:=by cases n<;>rfl
def fI (n:Int) (K:Int→Option α):Option α:=match n with
 | .ofNat m=>fN m fun m=>K (.ofNat m)
 | .negSucc m=>fN m fun m=>K (.negSucc m)
theorem Hq {n:Int} {K:Int→Option α}:fI n K=K n:=by cases n<;>simp [fI,pF]
def fB (b:Bool) (K:Bool→Option α):Option α:=match b with
 | true=>K true
 | false=>K false
theorem rN {b:Bool} {K:Bool→Option α}:fB b K=K b:=by cases b<;>rfl
def fS {β:Type}:List β→(List β→Option α)→Option α
 | [],K=>K []
 | a::r,K=>fS r fun r=>K (a::r)
theorem ym {β:Type}:∀{l:List β} {K:List β→Option α},fS l K=K l
 | [],_=>rfl
 | a::r,K=>by simp only [fS];rw [ym]
def fL (p:PV) (K:PV→Option α):Option α:=match p with
 | .bool b=>fB b fun b=>K (.bool b)
 | .int k n=>fI n fun n=>K (.int k n)
 | .str s=>K (.str s)
 | .agg cs=>K (.agg cs)
 | .aJ l=>K (.aJ l)
theorem KJ {p:PV} {K:PV→Option α}:fL p K=K p:=by cases p<;>simp [fL,rN,Hq]
def Nz:List PV→(List PV→Option α)→Option α
 | [],K=>K []
 | a::r,K=>fL a fun a=>Nz r fun r=>K (a::r)
theorem Bu:∀{l:List PV} {K:List PV→Option α},Nz l K=K l
 | [],_=>rfl
 | a::r,K=>by simp only [Nz];rw [KJ,Bu]
def fP (p:PV) (K:PV→Option α):Option α:=match p with
 | .agg cs=>Nz cs fun cs=>K (.agg cs)
 | p=>fL p K
theorem Hr {p:PV} {K:PV→Option α}:fP p K=K p:=by cases p<;>simp [fP,Bu,KJ]
def Pf (v:AV) (K:AV→Option α):Option α:=match v with
 | .un=>K .un
 | .pv p=>fP p fun p=>K (.pv p)
 | .bN l=>K (.bN l)
 | .own l τ=>fN τ fun τ=>K (.own l τ)
 | .agg cs=>K (.agg cs)
 | .oP cs=>K (.oP cs)
 | .aG a b=>fN a fun a=>fN b fun b=>K (.aG a b)
 | .bu a b=>fN a fun a=>fN b fun b=>K (.bu a b)
 | .fR cs=>fS cs fun cs=>K (.fR cs)
 | .bI a b c d=>fN a fun a=>fN c fun c=>K (.bI a b c d)
 | .fn g c=>K (.fn g c)
 | .jI=>K .jI
 | .jJ s=>fN s fun s=>K (.jJ s)
 | .fo kvs=>fS kvs fun kvs=>K (.fo kvs)
 | .pN a b c=>fN a fun a=>fN b fun b=>fN c fun c=>K (.pN a b c)
 | .jK a b=>fN a fun a=>fN b fun b=>K (.jK a b)
theorem Hs {v:AV} {K:AV→Option α}:Pf v K=K v:=by cases v<;>simp [Pf,Hr,pF,ym]
def JK:List AV→(List AV→Option α)→Option α
 | [],K=>K []
 | a::r,K=>Pf a fun a=>JK r fun r=>K (a::r)
theorem rO:∀{l:List AV} {K:List AV→Option α},JK l K=K l
 | [],_=>rfl
 | a::r,K=>by simp only [JK];rw [Hs,rO]
def fA (v:AV) (K:AV→Option α):Option α:=match v with
 | .agg cs=>JK cs fun cs=>K (.agg cs)
 | .oP cs=>JK cs fun cs=>K (.oP cs)
 | .fn g cs=>JK cs fun cs=>K (.fn g cs)
 | v=>Pf v K
theorem pG {v:AV} {K:AV→Option α}:fA v K=K v:=by cases v<;>simp [fA,rO,Hs]
def NA:List AV→(List AV→Option α)→Option α
 | [],K=>K []
 | a::r,K=>fA a fun a=>NA r fun r=>K (a::r)
theorem rP:∀{l:List AV} {K:List AV→Option α},NA l K=K l
 | [],_=>rfl
 | a::r,K=>by simp only [NA];rw [pG,rP]
def fV (v:AV) (K:AV→Option α):Option α:=match v with
 | .pv (.str s)=>fS s fun s=>K (.pv (.str s))
 | .pv (.aJ l)=>fS l fun l=>K (.pv (.aJ l))
 | .bN l=>fS l fun l=>Nz l fun l=>K (.bN l)
 | .own l τ=>fS l fun l=>fN τ fun τ=>K (.own l τ)
 | v=>fA v K
theorem Ht {v:AV} {K:AV→Option α}:fV v K=K v:=by
 cases v with
 | pv p=>cases p<;>simp [fV,ym,pG]
 | _=>simp [fV,ym,pG,Bu,pF]
def NB:List PV→(List PV→Option α)→Option α
 | [],K=>K []
 | a::r,K=>fP a fun a=>NB r fun r=>K (a::r)
theorem Hu:∀{l:List PV} {K:List PV→Option α},NB l K=K l
 | [],_=>rfl
 | a::r,K=>by simp only [NB];rw [Hr,Hu]
def fresh:AK→Bool
 | .v (.aU _) | .v (.slice ..) | .append .. | .v (.bin .add)=>true
 | _=>false
def Qi (op:AK) (v:AV) (K:AV→Option α):Option α:=match op,v with
 | .v (.aU _),.bN l=>NB l fun l=>K (.bN l)
 | op,v=>if fresh op then fV v K else fA v K
def fO {β:Type} (f:β→(β→Option α)→Option α) (o:Option β) (K:Option β→Option α):Option α:=match o with
 | none=>K none
 | some x=>f x fun x=>K (some x)
theorem NC {β:Type} {f:β→(β→Option α)→Option α} (hf:∀x K,f x K=K x) {o:Option β} {K:Option β→Option α}:fO f o K=K o:=by cases o<;>simp [fO,hf]
def MS:Sh→(Sh→Option α)→Option α
 | [],K=>K []
 | a::r,K=>fO JK a fun a=>MS r fun r=>K (a::r)
theorem oE:∀{l:Sh} {K:Sh→Option α},MS l K=K l
 | [],_=>rfl
 | a::r,K=>by simp only [MS];rw [NC (fun _ _=>rO),oE]
def fT:aN→(aN→Option α)→Option α
 | [],K=>K []
 | a::r,K=>fN a fun a=>fT r fun r=>K (a::r)
theorem tX:∀{l:aN} {K:aN→Option α},fT l K=K l
 | [],_=>rfl
 | a::r,K=>by simp only [fT];rw [pF,tX]
def PE {β:Type}:List (Nat×β)→Nat→β→(List (Nat×β)→Option α)→Option α
 | [],t,u,K=>K [(t,u)]
 | (k,v)::r,t,u,K=>if k=t then K ((k,u)::r) else PE r t u fun r=>K ((k,v)::r)
def JL:List (Nat×AV)→(List (Nat×AV)→Option α)→Option α
 | [],K=>K []
 | (t,v)::r,K=>fA v fun v=>JL r fun r=>K ((t,v)::r)
theorem Cb:∀{l:List (Nat×AV)} {K:List (Nat×AV)→Option α},JL l K=K l
 | [],_=>rfl
 | (t,v)::r,K=>by simp only [JL];rw [pG,Cb]
def JM:List (Nat×List AV)→(List (Nat×List AV)→Option α)→Option α
 | [],K=>K []
 | (t,v)::r,K=>JK v fun v=>JM r fun r=>K ((t,v)::r)
theorem Cc:∀{l:List (Nat×List AV)} {K:List (Nat×List AV)→Option α},JM l K=K l
 | [],_=>rfl
 | (t,v)::r,K=>by simp only [JM];rw [rO,Cc]
def L4 (st:St) (K:St→Option α):Option α:=match st with
 | ⟨env,mem,sh,ah⟩=>JL env fun env=>JM mem fun mem=>MS sh fun sh=>fT ah fun ah=>K ⟨env,mem,sh,ah⟩
theorem rQ {st:St} {K:St→Option α}:L4 st K=K st:=by
 obtain ⟨env,mem,sh,ah⟩:=st
 simp only [L4];rw [Cb,Cc,oE,tX]
def lk {β:Type}:List (Nat×β)→Nat→Option β
 | [],_=>none
 | (k,v)::r,t=>bif Nat.beq k t then some v else lk r t
theorem tY {β:Type}:∀{l:List (Nat×β)} {t:Nat},lk l t=look l t
 | [],_=>rfl
 | (k,v)::r,t=>by
   simp only [lk,look]
   rw [tY]
   by_cases h:k=t
   · subst h;simp
   · rw [if_neg h,show Nat.beq k t=false from by rw [Bool.eq_false_iff];intro e;exact h (Nat.eq_of_beq_eq_true e)]
     rfl
def pt {β:Type}:List (Nat×β)→Nat→β→(List (Nat×β)→Option α)→Option α
 | [],t,u,K=>K [(t,u)]
 | (k,v)::r,t,u,K=>bif Nat.beq k t then K ((k,u)::r) else pt r t u fun r=>K ((k,v)::r)
theorem Hv {β:Type}:∀{l:List (Nat×β)} {t:Nat} {u:β} {K:List (Nat×β)→Option α},pt l t u K=K (dL l t u)
 | [],_,_,_=>rfl
 | (k,v)::r,t,u,K=>by
   simp only [pt,dL]
   by_cases h:k=t
   · subst h;simp
   · rw [if_neg h,show Nat.beq k t=false from by rw [Bool.eq_false_iff];intro e;exact h (Nat.eq_of_beq_eq_true e)]
     exact Hv
def od (env:List (Nat×AV)) (x:eU) (K:AV→Option α):Option α:=match x with
 | .t n=>match lk env n with
   | some v=>K v
   | none=>none
 | .c v=>K v
theorem ND {env:List (Nat×AV)} {x:eU} {K:AV→Option α}:od env x K=(gT env x).bind K:=by
 cases x with
 | t n=>simp only [od,gT,tY];cases look env n<;>rfl
 | c v=>rfl
def MT (env:List (Nat×AV)):List eU→(List AV→Option α)→Option α
 | [],K=>K []
 | x::r,K=>od env x fun v=>MT env r fun vs=>K (v::vs)
theorem Hw {env:List (Nat×AV)}:∀{l:List eU} {K:List AV→Option α},MT env l K=(ef env l).bind K
 | [],_=>rfl
 | x::r,K=>by
   simp only [MT,ef]
   rw [ND]
   cases gT env x with
   | none=>rfl
   | some v=>
     dsimp only [Option.bind_some]
     rw [Hw]
     cases ef env r<;>rfl
def L5:IntKind→Nat
 | .i8=>0 | .i16=>1 | .i32=>2 | .i64=>3 | .u8=>4 | .u16=>5 | .u32=>6 | .u64=>7
theorem JN {a b:IntKind} (h:Nat.beq (L5 a) (L5 b)=true):a=b:=by
 have:=Nat.eq_of_beq_eq_true h
 cases a<;>cases b<;>first | rfl | (simp [L5] at this)
def Pg:Int→Int→Bool
 | .ofNat a,.ofNat b=>Nat.beq a b
 | .negSucc a,.negSucc b=>Nat.beq a b
 | _,_=>false
theorem PF {a b:Nat}:Nat.beq a b=decide (a=b):=by
 by_cases h:a=b
 · subst h;simp
 · rw [decide_eq_false h,Bool.eq_false_iff];intro e;exact h (Nat.eq_of_beq_eq_true e)
theorem Hx {a b:Int}:Pg a b=(a == b):=by
 cases a<;>cases b<;>(rw [Bool.eq_iff_iff];simp [Pg,PF])<;>omega
def MU:Int→Int→Bool
 | .ofNat a,.ofNat b=>Nat.blt a b
 | .negSucc a,.negSucc b=>Nat.blt b a
 | .negSucc _,.ofNat _=>true
 | .ofNat _,.negSucc _=>false
theorem vD {a b:Int}:MU a b=decide (a<b):=by
 cases a<;>cases b<;>(rw [Bool.eq_iff_iff];simp [MU,Nat.blt_eq])<;>omega
def L6 (k:IntKind) (a b:Int) (K:Int→Option α):Option α:=match k,a,b with
 | .i64,.ofNat x,.ofNat y=>bif Nat.blt (x+y) 4611686018427387904 then fN (x+y) fun n=>K (.ofNat n) else fI (IntKind.i64.wrap (.ofNat x+.ofNat y)) K
 | k,a,b=>fI (k.wrap (a+b)) K
theorem JO {k:IntKind} {a b:Int} {K:Int→Option α}:L6 k a b K=K (k.wrap (a+b)):=by
 unfold L6
 split
 · rename_i x y
   cases h:Nat.blt (x+y) 4611686018427387904 with
   | false=>simp only [cond_false];exact Hq
   | true=>
     simp only [cond_true,pF]
     have:x+y<4611686018427387904:=by simpa [Nat.blt_eq] using h
     congr 1
     simp [IntKind.wrap,IntKind.bits,IntKind.signed]
     omega
 · exact Hq
def L7 (op:BinOp) (a b:AV) (K:AV→Option α):Option α:=match a with
 | .pv (.int k x)=>match b with
   | .pv (.int k' y)=>bif Nat.beq (L5 k) (L5 k') then (match op with
       | .eql=>fB (Pg x y) fun c=>K (.pv (.bool c))
       | .neq=>fB (!Pg x y) fun c=>K (.pv (.bool c))
       | .lss=>fB (MU x y) fun c=>K (.pv (.bool c))
       | .gtr=>fB (MU y x) fun c=>K (.pv (.bool c))
       | .geq=>fB (!MU x y) fun c=>K (.pv (.bool c))
       | .leq=>fB (!MU y x) fun c=>K (.pv (.bool c))
       | .add=>L6 k x y fun n=>K (.pv (.int k n))
       | op=>(dR op a b).bind fun v=>fV v K)
     else (dR op a b).bind fun v=>fV v K
   | b=>(dR op a b).bind fun v=>fV v K
 | a=>(dR op a b).bind fun v=>fV v K
theorem JP {op:BinOp} {a b:AV} {K:AV→Option α}:L7 op a b K=(dR op a b).bind K:=by
 have dflt:((dR op a b).bind fun v=>fV v K)=(dR op a b).bind K:=by
   congr 1;funext v;exact Ht
 unfold L7
 split
 · rename_i k x
   split
   · rename_i k' y
     cases hk:Nat.beq (L5 k) (L5 k') with
     | false=>exact dflt
     | true=>
       obtain rfl:=JN hk
       simp only [cond_true]
       split
       · simp [rN,Hx,dR]
       · simp [rN,Hx,dR,bne]
       · simp [rN,vD,dR]
       · simp [rN,vD,dR]
       · simp [rN,vD,dR,←decide_not,Int.not_lt]
       · simp [rN,vD,dR,←decide_not,Int.not_lt]
       · simp [JO,dR]
       · exact dflt
   · exact dflt
 · exact dflt
def P4 (off:Nat) (x:AV) (K:AV→Option α):Option α:=match x with
 | .aG d o=>fN (o+off) fun n=>K (.aG d n)
 | .bu b o=>fN (o+off) fun n=>K (.bu b n)
 | .fR cs=>fS (cs.drop off) fun cs=>K (.fR cs)
 | _=>none
def nth {β:Type}:List β→Nat→Option β
 | [],_=>none
 | a::r,n=>match n with
   | 0=>some a
   | n+1=>nth r n
theorem Bv {β:Type}:∀{l:List β} {n:Nat},nth l n=l[n]?
 | [],n=>by simp [nth]
 | a::r,0=>rfl
 | a::r,n+1=>by simp only [nth,List.getElem?_cons_succ];exact Bv
def ln {β:Type}:List β→Nat→(Nat→Option α)→Option α
 | [],n,K=>K n
 | _::r,n,K=>fN (n+1) fun n=>ln r n K
theorem Cd {β:Type}:∀{l:List β} {n:Nat} {K:Nat→Option α},ln l n K=K (n+l.length)
 | [],n,K=>rfl
 | _::r,n,K=>by
   simp only [ln];rw [pF,Cd];congr 1;simp;omega
def xV (o:sH) (vals:List AV) (K:AV→Option α):Option α:=match o with
 | .mv=>match vals with
   | [x]=>K x
   | vals=>(cd .mv vals).bind fun v=>fA v K
 | .bin op=>match vals with
   | [a,b]=>L7 op a b K
   | vals=>(cd (.bin op) vals).bind fun v=>fA v K
 | .aR off=>match vals with
   | [x]=>P4 off x K
   | vals=>(cd (.aR off) vals).bind fun v=>fA v K
 | .bm=>match vals with
   | [.aG a b]=>K (.aG a b)
   | [.bu a b]=>K (.bu a b)
   | vals=>(cd .bm vals).bind fun v=>fA v K
 | .index=>match vals with
   | [.pv (.str s),.pv (.int _ (.ofNat i))]=>match nth s i with
     | some b=>fN b.toNat fun n=>K (.pv (.int .u8 (.ofNat n)))
     | none=>none
   | vals=>(cd .index vals).bind fun v=>fA v K
 | .ji=>match vals with
   | [.pv (.str s)]=>ln s 0 fun n=>K (.pv (.int .i64 (.ofNat n)))
   | vals=>(cd .ji vals).bind fun v=>fA v K
 | .len=>match vals with
   | [.pv (.aJ l)]=>ln l 0 fun n=>K (.pv (.int .i64 (.ofNat n)))
   | [.own l _]=>ln l 0 fun n=>K (.pv (.int .i64 (.ofNat n)))
   | vals=>(cd .len vals).bind fun v=>fA v K
 | .aU sz=>match cd (.aU sz) vals with
   | some (.bN l)=>NB l fun l=>K (.bN l)
   | some v=>K v
   | none=>none
 | .slice a b c d e=>(cd (.slice a b c d e) vals).bind fun v=>fV v K
 | o=>(cd o vals).bind fun v=>fA v K
theorem NF {o:sH} {vals:List AV} {K:AV→Option α}:xV o vals K=(cd o vals).bind K:=by
 have dA:∀o vals,((cd o vals).bind fun v=>fA v K)=(cd o vals).bind K:=by
   intro o vals;congr 1;funext v;exact pG
 unfold xV
 split
 · split
   · rfl
   · exact dA _ _
 · split
   · exact JP
   · exact dA _ _
 · split
   · rename_i x
     cases x<;>simp [P4,cd,pF,ym]
   · exact dA _ _
 · split
   · rfl
   · rfl
   · exact dA _ _
 · split
   · rename_i s k i
     rw [Bv]
     have hi:¬(Int.ofNat i<0):=by simp
     simp only [cd]
     rw [if_neg hi]
     simp only [Int.toNat_natCast,Int.ofNat_eq_natCast]
     cases s[i]? with
     | none=>rfl
     | some b=>simp [pF]
   · exact dA _ _
 · split
   · simp [Cd,cd]
   · exact dA _ _
 · split
   · simp [Cd,cd,cS]
   · simp [Cd,cd,cS]
   · exact dA _ _
 · split
   · rename_i l h;rw [h,Hu];rfl
   · rename_i h;rw [h];rfl
   · rename_i h;rw [h];rfl
 · congr 1;funext v;exact Ht
 · exact dA _ _
def lay (env:List (Nat×AV)) (mem:List (Nat×List AV)) (sh:Sh) (ah:aN) (d:Option Nat) (v:AV) (K:St→Option α):Option α:=match d with
 | some d=>pt env d v fun env=>K ⟨env,mem,sh,ah⟩
 | none=>K ⟨env,mem,sh,ah⟩
theorem ly {env:List (Nat×AV)} {mem:List (Nat×List AV)} {sh:Sh} {ah:aN} {d:Option Nat} {v:AV} {K:St→Option α}:lay env mem sh ah d v K=K ⟨fJ env d v,mem,sh,ah⟩:=by
 cases d<;>simp [lay,fJ,Hv]
def L8 (mem:List (Nat×List AV)) (k:Nat) (cs:Option (List AV)) (K:List (Nat×List AV)→Option α):Option α:=match cs with
 | some cs=>JK cs fun cs=>pt mem k cs K
 | none=>K mem
theorem JQ {mem:List (Nat×List AV)} {k:Nat} {cs:Option (List AV)} {K:List (Nat×List AV)→Option α}:L8 mem k cs K=K (eV mem (some k) cs):=by
 cases cs<;>simp [L8,eV,rO,Hv]
def Hy (orc:ek) (op:AK) (d:Option Nat) (vals:List AV) (env:List (Nat×AV)) (mem:List (Nat×List AV)) (sh:Sh) (ah:aN) (K:St→Option α):Option α:=
 match exec orc op vals (op.key.bind (look mem)) sh ah with
 | none=>none
 | some ⟨val,cells,sh',toks'⟩=>fV val fun val=>(match op.key with | some k=>L8 mem k cells | none=>fun K=>K mem) fun mem=>MS sh' fun sh'=>fT toks' fun toks'=>lay env mem sh' toks' d val K
theorem vE {orc:ek} {op:AK} {d:Option Nat} {vals:List AV} {env:List (Nat×AV)} {mem:List (Nat×List AV)} {sh:Sh} {ah:aN} {K:St→Option α} :
   Hy orc op d vals env mem sh ah K=(match exec orc op vals (op.key.bind (look mem)) sh ah with
     | none=>none
     | some out=>some (⟨fJ env d out.val,eV mem op.key out.cells,out.sh,out.ah⟩:St)).bind K:=by
 unfold Hy
 cases exec orc op vals (op.key.bind (look mem)) sh ah with
 | none=>rfl
 | some out=>
   obtain ⟨val,cells,sh',toks'⟩:=out
   simp only [Ht,Option.bind_some]
   cases op.key with
   | none=>simp only [oE,tX,ly];cases cells<;>rfl
   | some k=>simp only [JQ,oE,tX,ly]
def xP (orc:ek) (g:Nat) (vals:List AV) (K:AV→Option α):Option α:=match dz [] vals with
 | some dt=>match orc.p g dt with
   | some rs=>fA (qy rs) K
   | none=>none
 | none=>none
def x1 (orc:ek) (op:AK) (d:Option Nat) (vals:List AV) (env:List (Nat×AV)) (mem:List (Nat×List AV)) (sh:Sh) (ah:aN) (K:St→Option α):Option α:=match op with
 | .v o=>xV o vals fun v=>lay env mem sh ah d v K
 | .aq g=>xP orc g vals fun v=>lay env mem sh ah d v K
 | .aS key off sz ag=>match vals with
   | [.aG d' o]=>match lk mem key with
     | some cs=>bif Nat.beq d' key && Nat.beq o off then (match cz ag sz cs off with
         | some v=>fA v fun v=>lay env mem sh ah d v K
         | none=>none) else none
     | none=>none
   | vals=>Hy orc (.aS key off sz ag) d vals env mem sh ah K
 | .bf sz ag=>match vals with
   | [.bu b off]=>match nth sh b with
     | some (some cs)=>bif dC cs then none else (match cz ag sz cs off with
         | some v=>fA v fun v=>lay env mem sh ah d v K
         | none=>none)
     | _=>none
   | vals=>Hy orc (.bf sz ag) d vals env mem sh ah K
 | op=>Hy orc op d vals env mem sh ah K
theorem NG {orc:ek} {op:AK} {d:Option Nat} {vals:List AV} {env:List (Nat×AV)} {mem:List (Nat×List AV)} {sh:Sh} {ah:aN} {K:St→Option α} :
   x1 orc op d vals env mem sh ah K=(match exec orc op vals (op.key.bind (look mem)) sh ah with
     | none=>none
     | some out=>some (⟨fJ env d out.val,eV mem op.key out.cells,out.sh,out.ah⟩:St)).bind K:=by
 unfold x1
 split
 · rename_i o
   simp only [NF,ly,exec]
   cases cd o vals with
   | none=>rfl
   | some v=>rfl
 · rename_i g
   simp only [xP,exec]
   cases dz [] vals with
   | none=>rfl
   | some dt=>
     dsimp only
     cases orc.p g dt with
     | none=>rfl
     | some rs=>simp only [pG,ly];rfl
 · rename_i key off sz ag
   split
   · rename_i d' o
     rw [tY]
     have hk:((AK.aS key off sz ag).key.bind (look mem))=look mem key:=rfl
     rw [hk]
     cases look mem key with
     | none=>simp [exec]
     | some cs=>
       simp only [exec]
       by_cases h:d'=key∧o=off
       · obtain ⟨rfl,rfl⟩:=h
         simp only [Nat.beq_refl,Bool.and_self,cond_true,and_self,if_true]
         cases cz ag sz cs o with
         | none=>rfl
         | some v=>simp only [pG,ly];rfl
       · rw [if_neg h]
         have:(Nat.beq d' key && Nat.beq o off)=false:=by
           rw [Bool.eq_false_iff];intro e
           simp only [Bool.and_eq_true] at e
           exact h ⟨Nat.eq_of_beq_eq_true e.1,Nat.eq_of_beq_eq_true e.2⟩
         rw [this];rfl
   · exact vE
 · rename_i sz ag
   split
   · rename_i b off
     rw [Bv]
     simp only [exec]
     split
     · rename_i cs h
       rw [h]
       dsimp only
       cases dC cs with
       | true=>rfl
       | false=>
         simp only [cond_false,Bool.false_eq_true,if_false]
         cases cz ag sz cs off with
         | none=>rfl
         | some v=>simp only [pG,ly];rfl
     · rename_i h
       split
       · rfl
       · rename_i e1 e2 e3
         split at e3
         · rename_i cs e4;exact absurd e4 (h cs)
         · cases e3
   · exact vE
 · exact vE
def Ph (orc:ek) (o:dq) (st:St) (K:St→Option α):Option α:=match st with
 | ⟨env,mem,sh,ah⟩=>match o with
   | ⟨d,g,args,op⟩=>match g with
     | none=>MT env args fun vals=>x1 orc op d vals env mem sh ah K
     | some (t,b)=>match lk env t with
       | some (.pv (.bool c))=>bif c == b then MT env args fun vals=>x1 orc op d vals env mem sh ah K else lay env mem sh ah d .un K
       | some .un=>lay env mem sh ah d .un K
       | _=>none
theorem L9 {orc:ek} {o:dq} {st:St} {K:St→Option α}:Ph orc o st K=(d_ orc o st).bind K:=by
 obtain ⟨env,mem,sh,ah⟩:=st
 obtain ⟨d,g,args,op⟩:=o
 have run:(MT env args fun vals=>x1 orc op d vals env mem sh ah K)=(match ef env args with
     | none=>none
     | some vals=>match exec orc op vals (op.key.bind (look mem)) sh ah with
       | none=>none
       | some out=>some (⟨fJ env d out.val,eV mem op.key out.cells,out.sh,out.ah⟩:St)).bind K:=by
   rw [Hw]
   cases ef env args with
   | none=>rfl
   | some vals=>exact NG
 cases g with
 | none=>simp only [Ph,d_,fp];exact run
 | some p=>
   obtain ⟨t,b⟩:=p
   simp only [Ph,d_,fp,tY]
   split
   · rename_i c h
     rw [h]
     dsimp only
     cases hc:(c == b) with
     | true=>simp only [cond_true];exact run
     | false=>simp only [cond_false,ly];rfl
   · rename_i h
     rw [h]
     simp only [ly];rfl
   · rename_i h1 h2
     split
     · rfl
     · rename_i e;split at e<;>simp_all
     · rename_i e;split at e<;>simp_all
def JR (orc:ek):List dq→St→(St→Option α)→Option α
 | [],st,K=>K st
 | o::r,st,K=>Ph orc o st fun st=>JR orc r st K
theorem Ce {orc:ek}:∀{l:List dq} {st:St} {K:St→Option α},JR orc l st K=(bM orc l st).bind K
 | [],_,_=>rfl
 | o::r,st,K=>by
   simp only [JR,bM]
   rw [L9]
   cases d_ orc o st with
   | none=>rfl
   | some s=>exact Ce
def Cf (f:St→(bG→St→Option α)→Option α) (pre:St→St):Nat→St→(bG→St→Option α)→Option α
 | 0,_,_=>none
 | n+1,st,K=>L4 (pre st) fun st=>f st fun e st=>match e with
   | .normal=>Cf f pre n st K
   | e=>K e st
def KK (live:List Nat) (v:AV):Bool:=match v with
 | .aG d _=>live.contains d
 | .jK d _=>live.contains d
 | .pv _=>true
 | .own ..=>true
 | .agg cs=>fD cs
 | v=>cy v
theorem Hz {live:List Nat} {v:AV}:KK live v=ei live v:=by cases v<;>rfl
def NH (live:List Nat) (env:List (Nat×AV)):List Nat→(List (Nat×AV)→Option α)→Option α
 | [],K=>K []
 | t::r,K=>match lk env t with
   | some v=>NH live env r fun e=>bif KK live v then K ((t,v)::e) else K e
   | none=>NH live env r K
theorem Bw {live:List Nat} {env:List (Nat×AV)}:∀{l:List Nat} {K:List (Nat×AV)→Option α},NH live env l K=K (ca live env l)
 | [],_=>rfl
 | t::r,K=>by
   simp only [NH,ca,tY]
   cases look env t with
   | none=>exact Bw
   | some v=>
     dsimp only
     rw [Bw,Hz]
     cases ei live v<;>simp
def NI (mem:List (Nat×List AV)):List Nat→(List (Nat×List AV)→Option α)→Option α
 | [],K=>K []
 | t::r,K=>match lk mem t with
   | some v=>NI mem r fun e=>K ((t,v)::e)
   | none=>NI mem r K
theorem Bx {mem:List (Nat×List AV)}:∀{l:List Nat} {K:List (Nat×List AV)→Option α},NI mem l K=K (cg mem l)
 | [],_=>rfl
 | t::r,K=>by
   simp only [NI,cg,tY]
   cases look mem t with
   | none=>exact Bx
   | some v=>exact Bx
def rs (live:List Nat) (st:St) (K:St→Option α):Option α:=match st with
 | ⟨env,mem,sh,ah⟩=>NH live env live fun env=>NI mem live fun mem=>K ⟨env,mem,sh,ah⟩
theorem NJ {live:List Nat} {st:St} {K:St→Option α}:rs live st K=K (restrict live st):=by
 obtain ⟨env,mem,sh,ah⟩:=st
 simp only [rs];rw [Bw,Bx];rfl
def KL (K:bG→St→Option α):Option (bG×St)→Option α
 | some (e,st)=>K e st
 | none=>none
def cF (orc:ek) (k:Nat):au→St→(bG→St→Option α)→Option α
 | .skip,st,K=>K .normal st
 | .bn ops live,st,K=>JR orc ops st fun st=>rs live st fun st=>K .normal st
 | .seq a b,st,K=>cF orc k a st fun e st=>match e with
   | .normal=>cF orc k b st K
   | e=>K e st
 | .cond c a b,st,K=>match gT st.env c with
   | some (.pv (.bool t))=>match t with
     | true=>cF orc k a st K
     | false=>cF orc k b st K
   | _=>none
 | .block id b,st,K=>cF orc k b st fun e st=>match e with
   | .exit id'=>if id'=id then K .normal st else K (.exit id') st
   | e=>K e st
 | .loop live b,st,K=>Cf (cF orc k b) (fun s=>norm (restrict live s)) k st K
 | .back c gb pi px sz ag live x y,st,K=>KL K (dd orc k (.back c gb pi px sz ag live x y) st)
 | .exit id,st,K=>K (.exit id) st
 | .ret,st,K=>K .ret st
 | .dO ts,st,K=>K .normal (mw ts st)
 | .Lu ds,st,K=>bif iB st.env ds then K .normal st else none
 | .kR ps,st,K=>L4 (FO ps st) fun st=>K .normal st
 | .kU ts,st,K=>L4 (FP ts st) fun st=>K .normal st
 | .Lv ts,st,K=>L4 (m8 ts st) fun st=>K .normal st
theorem yn {f:St→(bG→St→Option α)→Option α} {g:St→Option (bG×St)} {pre:St→St} (h:∀st K,f st K=KL K (g st)):∀{n:Nat} {st:St} {K:bG→St→Option α},Cf f pre n st K=KL K (fe g pre n st)
 | 0,_,_=>rfl
 | n+1,st,K=>by
   simp only [Cf,fe]
   rw [rQ,h]
   cases g (pre st) with
   | none=>rfl
   | some q=>
     obtain ⟨e,s⟩:=q
     cases e with
     | normal=>exact yn h
     | ret=>rfl
     | exit id=>rfl
theorem rR {orc:ek} {k:Nat}:∀{c:au} {st:St} {K:bG→St→Option α},cF orc k c st K=KL K (dd orc k c st)
 | .skip,_,_=>rfl
 | .bn ops live,st,K=>by
   simp only [cF,dd]
   rw [Ce]
   cases bM orc ops st with
   | none=>rfl
   | some s=>simp only [Option.bind_some,NJ,KL]
 | .seq a b,st,K=>by
   simp only [cF,dd]
   rw [rR]
   cases dd orc k a st with
   | none=>rfl
   | some q=>
     obtain ⟨e,s⟩:=q
     cases e with
     | normal=>simp only [KL];exact rR
     | ret=>rfl
     | exit id=>rfl
 | .cond c a b,st,K=>by
   simp only [cF,dd]
   split
   · rename_i t h
     rw [h]
     cases t with
     | true=>exact rR
     | false=>exact rR
   · rename_i h
     split
     · rename_i t h';exact absurd h' (h t)
     · rfl
 | .block id b,st,K=>by
   simp only [cF,dd]
   rw [rR]
   cases dd orc k b st with
   | none=>rfl
   | some q=>
     obtain ⟨e,s⟩:=q
     cases e with
     | normal=>rfl
     | ret=>rfl
     | exit id'=>
       simp only [KL]
       split<;>rfl
 | .loop live b,st,K=>by
   simp only [cF,dd]
   exact yn (g:=dd orc k b) fun _ _=>rR
 | .back c gb pi px sz ag live x y,_,_=>by simp only [cF]
 | .exit id,_,_=>rfl
 | .ret,_,_=>rfl
 | .dO _,_,_=>rfl
 | .Lu ds,st,K=>by
   simp only [cF,dd]
   cases iB st.env ds<;>rfl
 | .kR ps,st,K=>by
   simp only [cF,dd];rw [rQ];rfl
 | .kU ps,st,K=>by
   simp only [cF,dd];rw [rQ];rfl
 | .Lv ps,st,K=>by
   simp only [cF,dd];rw [rQ];rfl
def JS (bq:Bool) (af:aD) (sh0:Sh) (e:bG) (st:St) (K:List AV→Sh→aN→Option α):Option α:=
 match e with
 | .exit _=>none
 | _=>match eo st af.results with
   | some vs=>
     NA (cN bq af.ks st.sh vs) fun rs=>
     let sh':=if rs.all (aV sh0.length)=true then (eQ bq af.ks st.sh vs).take sh0.length else eQ bq af.ks st.sh vs
     if rs.all cr=true then
       match dj st.ah rs sh' with
       | (rs,sh,_,ts)=>NA rs fun rs=>MS sh fun sh=>fT ts fun ts=>K rs sh ts
     else none
   | none=>none
def Fa (K:List AV→Sh→aN→Option α):Option (List AV×Sh×aN)→Option α
 | some (a,b,c)=>K a b c
 | none=>none
theorem JT {bq:Bool} {af:aD} {sh0:Sh} {e:bG} {st:St} {K:List AV→Sh→aN→Option α}:JS bq af sh0 e st K=Fa K (finish bq af sh0 (some (e,st))):=by
 cases e with
 | exit id=>rfl
 | normal=>
   simp only [JS,finish]
   cases eo st af.results with
   | none=>rfl
   | some vs=>
     simp only [rP,or_true,if_true]
     split
     · simp only [rP,oE,tX,Fa]
     · rfl
 | ret=>
   simp only [JS,finish]
   cases eo st af.results with
   | none=>rfl
   | some vs=>
     simp only [rP,true_or,if_true]
     split
     · simp only [rP,oE,tX,Fa]
     · rfl
def tZ (orc:ek) (k:Nat) (bq:Bool) (af:aD) (args:List AV) (sh:Sh) (ts:aN) (K:List AV→Sh→aN→Option α):Option α:=
 L4 { env:=cE 0 args,mem:=[],sh,ah:=ts } fun st=>cF orc k af.body st fun e st=>JS bq af sh e st K
theorem nG {orc:ek} {k:Nat} {bq:Bool} {af:aD} {args:List AV} {sh:Sh} {ts:aN} {K:List AV→Sh→aN→Option α}:tZ orc k bq af args sh ts K=Fa K (cG orc k bq af args sh ts):=by
 unfold tZ
 rw [rQ,rR,gk]
 cases dd orc k af.body { env:=cE 0 args,mem:=[],sh,ah:=ts } with
 | none=>rfl
 | some q=>obtain ⟨e,s⟩:=q;simp only [KL];exact JT
def Fb (AP:Nat→Option aD) (k:Nat):Nat→ek
 | 0=>{ p:=fun _ _=>none,i:=fun _ _ _ _=>none }
 | n+1=>
   { p:=fun g dt=>match AP g with
       | some af=>match af.pO with
         | some f=>f.f (Fb AP k n).p dt
         | none=>if dt.length=af.nparams∧dt.length≤af.ntmps then tZ (Fb AP k n) k false af (dt.map .pv) [] [] fun rs _ _=>fK rs else none
       | none=>none
     i:=fun g args sh ts=>match AP g with
       | some af=>if args.length≤af.ntmps then tZ (Fb AP k n) k true af args sh ts fun a b c=>some (a,b,c) else none
       | none=>none }
theorem Cg {AP:Nat→Option aD} {k:Nat}:∀n,Fb AP k n=run AP k n
 | 0=>rfl
 | n+1=>by
   have ih:=Cg (AP:=AP) (k:=k) n
   simp only [Fb,run]
   congr 1
   · funext g dt
     cases AP g with
     | none=>rfl
     | some af=>
       dsimp only
       cases af.pO with
       | some f=>dsimp only;rw [ih]
       | none=>
         dsimp only
         split
         · rw [nG,ih]
           cases cG (run AP k n) k false af (dt.map .pv) [] [] with
           | none=>rfl
           | some q=>rfl
         · rfl
   · funext g args sh ts
     cases AP g with
     | none=>rfl
     | some af=>
       dsimp only
       split
       · rw [nG,ih]
         cases cG (run AP k n) k true af args sh ts with
         | none=>rfl
         | some q=>rfl
       · rfl
theorem L_ {AP:Nat→Option aD} {k n g:Nat} {x rs:List PV} (h:(Fb AP k n).p g x=some rs):(aQ AP).p g x=some rs:=by
 rw [Cg] at h
 exact re (p9 g x) (show (run AP (max k n) (max k n)).p g x=some rs from (cX (Nat.le_max_right k n) (Nat.le_max_left k n)).p _ _ _ h)
def sZ (AP:Nat→Option aD) (ov:Nat→List PV→Option (List PV)) (k:Nat):Nat→ek
 | 0=>{ p:=ov,i:=fun _ _ _ _=>none }
 | n+1=>
   { p:=fun g dt=>match ov g dt with
       | some r=>some r
       | none=>match AP g with
         | some af=>match af.pO with
           | some f=>f.f (sZ AP ov k n).p dt
           | none=>if dt.length=af.nparams∧dt.length≤af.ntmps then tZ (sZ AP ov k n) k false af (dt.map .pv) [] [] fun rs _ _=>fK rs else none
         | none=>none
     i:=fun g args sh ts=>match AP g with
       | some af=>if args.length≤af.ntmps then tZ (sZ AP ov k n) k true af args sh ts fun a b c=>some (a,b,c) else none
       | none=>none }
theorem yp {AP:Nat→Option aD} {orc:ek} {k:Nat} {bq:Bool} {af:aD} {args:List AV} {sh:Sh} {ts:aN} {r:List AV×Sh×aN} (hle:orc.le (aQ AP)) (h:cG orc k bq af args sh ts=some r):ml AP bq af args sh ts=some r:=by
 rw [gk] at h
 unfold ml
 cases hc:dd orc k af.body { env:=cE 0 args,mem:=[],sh,ah:=ts } with
 | none=>rw [hc] at h;simp [finish] at h
 | some q=>
   rw [kH (cM hle (Nat.le_refl k) hc)]
   rw [hc] at h
   exact h
theorem Ci {AP:Nat→Option aD} {ov:Nat→List PV→Option (List PV)} {k:Nat} (hov:∀g x r,ov g x=some r→(aQ AP).p g x=some r):∀n,(sZ AP ov k n).le (aQ AP)
 | 0=>⟨hov,fun g x s t r h=>by simp [sZ] at h⟩
 | n+1=>by
   have ih:=Ci (k:=k) hov n
   refine ⟨fun g x r h=>?_,fun g x s t r h=>?_⟩
   · simp only [sZ] at h
     split at h
     · rename_i r' e;rw [←h];exact hov g x r' e
     · split at h
       · rename_i af hg
         cases hp:af.pO with
         | some f=>rw [hp] at h;rw [I9 hg hp];exact f.mono ih.p h
         | none=>
           rw [hp] at h
           simp only [Option.ite_none_right_eq_some] at h
           obtain ⟨⟨h1,h2⟩,h⟩:=h
           rw [nG] at h
           rw [KF hg hp h1 h2]
           cases hb:cG (sZ AP ov k n) k false af (x.map .pv) [] [] with
           | none=>rw [hb] at h;simp [Fa] at h
           | some q=>rw [yp ih hb];rw [hb] at h;exact h
       · cases h
   · simp only [sZ] at h
     split at h
     · rename_i af hg
       simp only [Option.ite_none_right_eq_some] at h
       obtain ⟨h2,h⟩:=h
       rw [nG] at h
       rw [KH hg h2]
       cases hb:cG (sZ AP ov k n) k true af x s t with
       | none=>rw [hb] at h;simp [Fa] at h
       | some q=>rw [yp ih hb];rw [hb] at h;exact h
     · cases h
theorem KM {AP:Nat→Option aD} {ov:Nat→List PV→Option (List PV)} {k n g:Nat} {x rs:List PV} (hov:∀g x r,ov g x=some r→(aQ AP).p g x=some r) (h:(sZ AP ov k n).p g x=some rs):(aQ AP).p g x=some rs:=(Ci hov n).p _ _ _ h
end Go.Ab.Fc
