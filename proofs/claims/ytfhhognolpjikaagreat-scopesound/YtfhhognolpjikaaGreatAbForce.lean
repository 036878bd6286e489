import Derived.Test.YtfhhognolpjikaaGreatAbLim
/-
  The evaluator for the kernel: what an operation lays is brought to its last form at once. It answers as the evaluator does.
-/
set_option linter.unusedVariables false
set_option linter.unusedSimpArgs false
set_option maxRecDepth 100000
set_option maxHeartbeats 8000000
namespace Go.Ab.Fc
variable {α:Type}
def fN (n:Nat) (K:Nat→Option α):Option α:=match n with
 | 0=>K 0
 | m+1=>K (m+1)
theorem pk {n:Nat} {K:Nat→Option α}:fN n K=K n:=by cases n<;>rfl
def fI (n:Int) (K:Int→Option α):Option α:=match n with
 | .ofNat m=>fN m fun m=>K (.ofNat m)
 | .negSucc m=>fN m fun m=>K (.negSucc m)
theorem Il {n:Int} {K:Int→Option α}:fI n K=K n:=by cases n<;>simp [fI,pk]
def fB (b:Bool) (K:Bool→Option α):Option α:=match b with
 | true=>K true
 | false=>K false
theorem qX {b:Bool} {K:Bool→Option α}:fB b K=K b:=by cases b<;>rfl
def fS {β:Type}:List β→(List β→Option α)→Option α
 | [],K=>K []
 | a::r,K=>fS r fun r=>K (a::r)
theorem xB {β:Type}:∀{l:List β} {K:List β→Option α},fS l K=K l
 | [],_=>rfl
 | a::r,K=>by simp only [fS];rw [xB]
def fL (p:PV) (K:PV→Option α):Option α:=match p with
 | .bool b=>fB b fun b=>K (.bool b)
 | .int k n=>fI n fun n=>K (.int k n)
 | .str s=>K (.str s)
 | .agg cs=>K (.agg cs)
 | .aD l=>K (.aD l)
theorem L4 {p:PV} {K:PV→Option α}:fL p K=K p:=by cases p<;>simp [fL,qX,Il]
def OP:List PV→(List PV→Option α)→Option α
 | [],K=>K []
 | a::r,K=>fL a fun a=>OP r fun r=>K (a::r)
theorem Bt:∀{l:List PV} {K:List PV→Option α},OP l K=K l
 | [],_=>rfl
 | a::r,K=>by simp only [OP];rw [L4,Bt]
def fP (p:PV) (K:PV→Option α):Option α:=match p with
 | .agg cs=>OP cs fun cs=>K (.agg cs)
 | p=>fL p K
theorem Im {p:PV} {K:PV→Option α}:fP p K=K p:=by cases p<;>simp [fP,Bt,L4]
def Qn (v:AV) (K:AV→Option α):Option α:=match v with
 | .un=>K .un
 | .pv p=>fP p fun p=>K (.pv p)
 | .bB l=>K (.bB l)
 | .own l τ=>fN τ fun τ=>K (.own l τ)
 | .agg cs=>K (.agg cs)
 | .lI cs=>K (.lI cs)
 | .az a b=>fN a fun a=>fN b fun b=>K (.az a b)
 | .aX a b=>fN a fun a=>fN b fun b=>K (.aX a b)
 | .dm cs=>fS cs fun cs=>K (.dm cs)
 | .bq a b c d=>fN a fun a=>fN c fun c=>K (.bq a b c d)
 | .fn g c=>K (.fn g c)
 | .dk=>K .dk
 | .cp s=>fN s fun s=>K (.cp s)
 | .dj kvs=>fS kvs fun kvs=>K (.dj kvs)
 | .lH a b c=>fN a fun a=>fN b fun b=>fN c fun c=>K (.lH a b c)
theorem Io {v:AV} {K:AV→Option α}:Qn v K=K v:=by cases v<;>simp [Qn,Im,pk,xB]
def K9:List AV→(List AV→Option α)→Option α
 | [],K=>K []
 | a::r,K=>Qn a fun a=>K9 r fun r=>K (a::r)
theorem qY:∀{l:List AV} {K:List AV→Option α},K9 l K=K l
 | [],_=>rfl
 | a::r,K=>by simp only [K9];rw [Io,qY]
def fA (v:AV) (K:AV→Option α):Option α:=match v with
 | .agg cs=>K9 cs fun cs=>K (.agg cs)
 | .lI cs=>K9 cs fun cs=>K (.lI cs)
 | .fn g cs=>K9 cs fun cs=>K (.fn g cs)
 | v=>Qn v K
theorem pn {v:AV} {K:AV→Option α}:fA v K=K v:=by cases v<;>simp [fA,qY,Io]
def OQ:List AV→(List AV→Option α)→Option α
 | [],K=>K []
 | a::r,K=>fA a fun a=>OQ r fun r=>K (a::r)
theorem qZ:∀{l:List AV} {K:List AV→Option α},OQ l K=K l
 | [],_=>rfl
 | a::r,K=>by simp only [OQ];rw [pn,qZ]
def fV (v:AV) (K:AV→Option α):Option α:=match v with
 | .pv (.str s)=>fS s fun s=>K (.pv (.str s))
 | .pv (.aD l)=>fS l fun l=>K (.pv (.aD l))
 | .bB l=>fS l fun l=>OP l fun l=>K (.bB l)
 | .own l τ=>fS l fun l=>fN τ fun τ=>K (.own l τ)
 | v=>fA v K
theorem Ip {v:AV} {K:AV→Option α}:fV v K=K v:=by
 cases v with
 | pv p=>cases p<;>simp [fV,xB,pn]
 | _=>simp [fV,xB,pn,Bt,pk]
def OR:List PV→(List PV→Option α)→Option α
 | [],K=>K []
 | a::r,K=>fP a fun a=>OR r fun r=>K (a::r)
theorem Iq:∀{l:List PV} {K:List PV→Option α},OR l K=K l
 | [],_=>rfl
 | a::r,K=>by simp only [OR];rw [Im,Iq]
def fresh:AK→Bool
 | .v (.aT _) | .v (.slice ..) | .append .. | .v (.bin .add)=>true
 | _=>false
def Ri (op:AK) (v:AV) (K:AV→Option α):Option α:=match op,v with
 | .v (.aT _),.bB l=>OR l fun l=>K (.bB l)
 | op,v=>if fresh op then fV v K else fA v K
def fO {β:Type} (f:β→(β→Option α)→Option α) (o:Option β) (K:Option β→Option α):Option α:=match o with
 | none=>K none
 | some x=>f x fun x=>K (some x)
theorem OS {β:Type} {f:β→(β→Option α)→Option α} (hf:∀x K,f x K=K x) {o:Option β} {K:Option β→Option α}:fO f o K=K o:=by cases o<;>simp [fO,hf]
def Oa:Sh→(Sh→Option α)→Option α
 | [],K=>K []
 | a::r,K=>fO K9 a fun a=>Oa r fun r=>K (a::r)
theorem nZ:∀{l:Sh} {K:Sh→Option α},Oa l K=K l
 | [],_=>rfl
 | a::r,K=>by simp only [Oa];rw [OS (fun _ _=>qY),nZ]
def fT:aL→(aL→Option α)→Option α
 | [],K=>K []
 | a::r,K=>fN a fun a=>fT r fun r=>K (a::r)
theorem sZ:∀{l:aL} {K:aL→Option α},fT l K=K l
 | [],_=>rfl
 | a::r,K=>by simp only [fT];rw [pk,sZ]
def QD {β:Type}:List (Nat×β)→Nat→β→(List (Nat×β)→Option α)→Option α
 | [],t,u,K=>K [(t,u)]
 | (k,v)::r,t,u,K=>if k=t then K ((k,u)::r) else QD r t u fun r=>K ((k,v)::r)
def K_:List (Nat×AV)→(List (Nat×AV)→Option α)→Option α
 | [],K=>K []
 | (t,v)::r,K=>fA v fun v=>K_ r fun r=>K ((t,v)::r)
theorem B9:∀{l:List (Nat×AV)} {K:List (Nat×AV)→Option α},K_ l K=K l
 | [],_=>rfl
 | (t,v)::r,K=>by simp only [K_];rw [pn,B9]
def La:List (Nat×List AV)→(List (Nat×List AV)→Option α)→Option α
 | [],K=>K []
 | (t,v)::r,K=>K9 v fun v=>La r fun r=>K ((t,v)::r)
theorem B_:∀{l:List (Nat×List AV)} {K:List (Nat×List AV)→Option α},La l K=K l
 | [],_=>rfl
 | (t,v)::r,K=>by simp only [La];rw [qY,B_]
def Qo (st:St) (K:St→Option α):Option α:=match st with
 | ⟨env,mem,sh,ah⟩=>K_ env fun env=>La mem fun mem=>Oa sh fun sh=>fT ah fun ah=>K ⟨env,mem,sh,ah⟩
theorem Ir {st:St} {K:St→Option α}:Qo st K=K st:=by
 obtain ⟨env,mem,sh,ah⟩:=st
 simp only [Qo];rw [B9,B_,nZ,sZ]
def lk {β:Type}:List (Nat×β)→Nat→Option β
 | [],_=>none
 | (k,v)::r,t=>bif Nat.beq k t then some v else lk r t
theorem s6 {β:Type}:∀{l:List (Nat×β)} {t:Nat},lk l t=look l t
 | [],_=>rfl
 | (k,v)::r,t=>by
   simp only [lk,look]
   rw [s6]
   by_cases h:k=t
   · subst h;simp
   · rw [if_neg h,show Nat.beq k t=false from by rw [Bool.eq_false_iff];intro e;exact h (Nat.eq_of_beq_eq_true e)]
     rfl
def pt {β:Type}:List (Nat×β)→Nat→β→(List (Nat×β)→Option α)→Option α
 | [],t,u,K=>K [(t,u)]
 | (k,v)::r,t,u,K=>bif Nat.beq k t then K ((k,u)::r) else pt r t u fun r=>K ((k,v)::r)
theorem Is {β:Type}:∀{l:List (Nat×β)} {t:Nat} {u:β} {K:List (Nat×β)→Option α},pt l t u K=K (dC l t u)
 | [],_,_,_=>rfl
 | (k,v)::r,t,u,K=>by
   simp only [pt,dC]
   by_cases h:k=t
   · subst h;simp
   · rw [if_neg h,show Nat.beq k t=false from by rw [Bool.eq_false_iff];intro e;exact h (Nat.eq_of_beq_eq_true e)]
     exact Is
def od (env:List (Nat×AV)) (x:eH) (K:AV→Option α):Option α:=match x with
 | .t n=>match lk env n with
   | some v=>K v
   | none=>none
 | .c v=>K v
theorem OT {env:List (Nat×AV)} {x:eH} {K:AV→Option α}:od env x K=(gG env x).bind K:=by
 cases x with
 | t n=>simp only [od,gG,s6];cases look env n<;>rfl
 | c v=>rfl
def Ob (env:List (Nat×AV)):List eH→(List AV→Option α)→Option α
 | [],K=>K []
 | x::r,K=>od env x fun v=>Ob env r fun vs=>K (v::vs)
theorem Iu {env:List (Nat×AV)}:∀{l:List eH} {K:List AV→Option α},Ob env l K=(dX env l).bind K
 | [],_=>rfl
 | x::r,K=>by
   simp only [Ob,dX]
   rw [OT]
   cases gG env x with
   | none=>rfl
   | some v=>
     dsimp only [Option.bind_some]
     rw [Iu]
     cases dX env r<;>rfl
def Np:IntKind→Nat
 | .i8=>0 | .i16=>1 | .i32=>2 | .i64=>3 | .u8=>4 | .u16=>5 | .u32=>6 | .u64=>7
theorem Lb {a b:IntKind} (h:Nat.beq (Np a) (Np b)=true):a=b:=by
 have:=Nat.eq_of_beq_eq_true h
 cases a<;>cases b<;>first | rfl | (simp [Np] at this)
def Qp:Int→Int→Bool
 | .ofNat a,.ofNat b=>Nat.beq a b
 | .negSucc a,.negSucc b=>Nat.beq a b
 | _,_=>false
theorem QE {a b:Nat}:Nat.beq a b=decide (a=b):=by
 by_cases h:a=b
 · subst h;simp
 · rw [decide_eq_false h,Bool.eq_false_iff];intro e;exact h (Nat.eq_of_beq_eq_true e)
theorem Iv {a b:Int}:Qp a b=(a == b):=by
 cases a<;>cases b<;>(rw [Bool.eq_iff_iff];simp [Qp,QE])<;>omega
def Oc:Int→Int→Bool
 | .ofNat a,.ofNat b=>Nat.blt a b
 | .negSucc a,.negSucc b=>Nat.blt b a
 | .negSucc _,.ofNat _=>true
 | .ofNat _,.negSucc _=>false
theorem uJ {a b:Int}:Oc a b=decide (a<b):=by
 cases a<;>cases b<;>(rw [Bool.eq_iff_iff];simp [Oc,Nat.blt_eq])<;>omega
def Nq (k:IntKind) (a b:Int) (K:Int→Option α):Option α:=match k,a,b with
 | .i64,.ofNat x,.ofNat y=>bif Nat.blt (x+y) 4611686018427387904 then fN (x+y) fun n=>K (.ofNat n) else fI (IntKind.i64.wrap (.ofNat x+.ofNat y)) K
 | k,a,b=>fI (k.wrap (a+b)) K
theorem Lc {k:IntKind} {a b:Int} {K:Int→Option α}:Nq k a b K=K (k.wrap (a+b)):=by
 unfold Nq
 split
 · rename_i x y
   cases h:Nat.blt (x+y) 4611686018427387904 with
   | false=>simp only [cond_false];exact Il
   | true=>
     simp only [cond_true,pk]
     have:x+y<4611686018427387904:=by simpa [Nat.blt_eq] using h
     congr 1
     simp [IntKind.wrap,IntKind.bits,IntKind.signed]
     omega
 · exact Il
def Nr (op:BinOp) (a b:AV) (K:AV→Option α):Option α:=match a with
 | .pv (.int k x)=>match b with
   | .pv (.int k' y)=>bif Nat.beq (Np k) (Np k') then (match op with
       | .eql=>fB (Qp x y) fun c=>K (.pv (.bool c))
       | .neq=>fB (!Qp x y) fun c=>K (.pv (.bool c))
       | .lss=>fB (Oc x y) fun c=>K (.pv (.bool c))
       | .gtr=>fB (Oc y x) fun c=>K (.pv (.bool c))
       | .geq=>fB (!Oc x y) fun c=>K (.pv (.bool c))
       | .leq=>fB (!Oc y x) fun c=>K (.pv (.bool c))
       | .add=>Nq k x y fun n=>K (.pv (.int k n))
       | op=>(df op a b).bind fun v=>fV v K)
     else (df op a b).bind fun v=>fV v K
   | b=>(df op a b).bind fun v=>fV v K
 | a=>(df op a b).bind fun v=>fV v K
theorem Ld {op:BinOp} {a b:AV} {K:AV→Option α}:Nr op a b K=(df op a b).bind K:=by
 have dflt:((df op a b).bind fun v=>fV v K)=(df op a b).bind K:=by
   congr 1;funext v;exact Ip
 unfold Nr
 split
 · rename_i k x
   split
   · rename_i k' y
     cases hk:Nat.beq (Np k) (Np k') with
     | false=>exact dflt
     | true=>
       obtain rfl:=Lb hk
       simp only [cond_true]
       split
       · simp [qX,Iv,df]
       · simp [qX,Iv,df,bne]
       · simp [qX,uJ,df]
       · simp [qX,uJ,df]
       · simp [qX,uJ,df,←decide_not,Int.not_lt]
       · simp [qX,uJ,df,←decide_not,Int.not_lt]
       · simp [Lc,df]
       · exact dflt
   · exact dflt
 · exact dflt
def Q1 (off:Nat) (x:AV) (K:AV→Option α):Option α:=match x with
 | .az d o=>fN (o+off) fun n=>K (.az d n)
 | .aX b o=>fN (o+off) fun n=>K (.aX b n)
 | .dm cs=>fS (cs.drop off) fun cs=>K (.dm cs)
 | _=>none
def nth {β:Type}:List β→Nat→Option β
 | [],_=>none
 | a::r,n=>match n with
   | 0=>some a
   | n+1=>nth r n
theorem Bu {β:Type}:∀{l:List β} {n:Nat},nth l n=l[n]?
 | [],n=>by simp [nth]
 | a::r,0=>rfl
 | a::r,n+1=>by simp only [nth,List.getElem?_cons_succ];exact Bu
def ln {β:Type}:List β→Nat→(Nat→Option α)→Option α
 | [],n,K=>K n
 | _::r,n,K=>fN (n+1) fun n=>ln r n K
theorem B' {β:Type}:∀{l:List β} {n:Nat} {K:Nat→Option α},ln l n K=K (n+l.length)
 | [],n,K=>rfl
 | _::r,n,K=>by
   simp only [ln];rw [pk,B'];congr 1;simp;omega
def xV (o:Gc) (vals:List AV) (K:AV→Option α):Option α:=match o with
 | .mv=>match vals with
   | [x]=>K x
   | vals=>(bM .mv vals).bind fun v=>fA v K
 | .bin op=>match vals with
   | [a,b]=>Nr op a b K
   | vals=>(bM (.bin op) vals).bind fun v=>fA v K
 | .bh off=>match vals with
   | [x]=>Q1 off x K
   | vals=>(bM (.bh off) vals).bind fun v=>fA v K
 | .aY=>match vals with
   | [.az a b]=>K (.az a b)
   | [.aX a b]=>K (.aX a b)
   | vals=>(bM .aY vals).bind fun v=>fA v K
 | .index=>match vals with
   | [.pv (.str s),.pv (.int _ (.ofNat i))]=>match nth s i with
     | some b=>fN b.toNat fun n=>K (.pv (.int .u8 (.ofNat n)))
     | none=>none
   | vals=>(bM .index vals).bind fun v=>fA v K
 | .jx=>match vals with
   | [.pv (.str s)]=>ln s 0 fun n=>K (.pv (.int .i64 (.ofNat n)))
   | vals=>(bM .jx vals).bind fun v=>fA v K
 | .len=>match vals with
   | [.pv (.aD l)]=>ln l 0 fun n=>K (.pv (.int .i64 (.ofNat n)))
   | [.own l _]=>ln l 0 fun n=>K (.pv (.int .i64 (.ofNat n)))
   | vals=>(bM .len vals).bind fun v=>fA v K
 | .aT sz=>match bM (.aT sz) vals with
   | some (.bB l)=>OR l fun l=>K (.bB l)
   | some v=>K v
   | none=>none
 | .slice a b c d e=>(bM (.slice a b c d e) vals).bind fun v=>fV v K
 | o=>(bM o vals).bind fun v=>fA v K
theorem OU {o:Gc} {vals:List AV} {K:AV→Option α}:xV o vals K=(bM o vals).bind K:=by
 have dA:∀o vals,((bM o vals).bind fun v=>fA v K)=(bM o vals).bind K:=by
   intro o vals;congr 1;funext v;exact pn
 unfold xV
 split
 · split
   · rfl
   · exact dA _ _
 · split
   · exact Ld
   · exact dA _ _
 · split
   · rename_i x
     cases x<;>simp [Q1,bM,pk,xB]
   · exact dA _ _
 · split
   · rfl
   · rfl
   · exact dA _ _
 · split
   · rename_i s k i
     rw [Bu]
     have hi:¬(Int.ofNat i<0):=by simp
     simp only [bM]
     rw [if_neg hi]
     simp only [Int.toNat_natCast,Int.ofNat_eq_natCast]
     cases s[i]? with
     | none=>rfl
     | some b=>simp [pk]
   · exact dA _ _
 · split
   · simp [B',bM]
   · exact dA _ _
 · split
   · simp [B',bM,dS]
   · simp [B',bM,dS]
   · exact dA _ _
 · split
   · rename_i l h;rw [h,Iq];rfl
   · rename_i h;rw [h];rfl
   · rename_i h;rw [h];rfl
 · congr 1;funext v;exact Ip
 · exact dA _ _
def lay (env:List (Nat×AV)) (mem:List (Nat×List AV)) (sh:Sh) (ah:aL) (d:Option Nat) (v:AV) (K:St→Option α):Option α:=match d with
 | some d=>pt env d v fun env=>K ⟨env,mem,sh,ah⟩
 | none=>K ⟨env,mem,sh,ah⟩
theorem kH {env:List (Nat×AV)} {mem:List (Nat×List AV)} {sh:Sh} {ah:aL} {d:Option Nat} {v:AV} {K:St→Option α}:lay env mem sh ah d v K=K ⟨fW env d v,mem,sh,ah⟩:=by
 cases d<;>simp [lay,fW,Is]
def Ns (mem:List (Nat×List AV)) (k:Nat) (cs:Option (List AV)) (K:List (Nat×List AV)→Option α):Option α:=match cs with
 | some cs=>K9 cs fun cs=>pt mem k cs K
 | none=>K mem
theorem Le {mem:List (Nat×List AV)} {k:Nat} {cs:Option (List AV)} {K:List (Nat×List AV)→Option α}:Ns mem k cs K=K (fh mem (some k) cs):=by
 cases cs<;>simp [Ns,fh,qY,Is]
def Iw (orc:eI) (op:AK) (d:Option Nat) (vals:List AV) (env:List (Nat×AV)) (mem:List (Nat×List AV)) (sh:Sh) (ah:aL) (K:St→Option α):Option α:=
 match exec orc op vals (op.key.bind (look mem)) sh ah with
 | none=>none
 | some ⟨val,cells,sh',toks'⟩=>fV val fun val=>(match op.key with | some k=>Ns mem k cells | none=>fun K=>K mem) fun mem=>Oa sh' fun sh'=>fT toks' fun toks'=>lay env mem sh' toks' d val K
theorem uK {orc:eI} {op:AK} {d:Option Nat} {vals:List AV} {env:List (Nat×AV)} {mem:List (Nat×List AV)} {sh:Sh} {ah:aL} {K:St→Option α} :
   Iw orc op d vals env mem sh ah K=(match exec orc op vals (op.key.bind (look mem)) sh ah with
     | none=>none
     | some out=>some (⟨fW env d out.val,fh mem op.key out.cells,out.sh,out.ah⟩:St)).bind K:=by
 unfold Iw
 cases exec orc op vals (op.key.bind (look mem)) sh ah with
 | none=>rfl
 | some out=>
   obtain ⟨val,cells,sh',toks'⟩:=out
   simp only [Ip,Option.bind_some]
   cases op.key with
   | none=>simp only [nZ,sZ,kH];cases cells<;>rfl
   | some k=>simp only [Le,nZ,sZ,kH]
def xP (orc:eI) (g:Nat) (vals:List AV) (K:AV→Option α):Option α:=match cV [] vals with
 | some dt=>match orc.p g dt with
   | some rs=>fA (pw rs) K
   | none=>none
 | none=>none
def x1 (orc:eI) (op:AK) (d:Option Nat) (vals:List AV) (env:List (Nat×AV)) (mem:List (Nat×List AV)) (sh:Sh) (ah:aL) (K:St→Option α):Option α:=match op with
 | .v o=>xV o vals fun v=>lay env mem sh ah d v K
 | .aB g=>xP orc g vals fun v=>lay env mem sh ah d v K
 | .bj key off sz ag=>match vals with
   | [.az d' o]=>match lk mem key with
     | some cs=>bif Nat.beq d' key && Nat.beq o off then (match b_ ag sz cs off with
         | some v=>fA v fun v=>lay env mem sh ah d v K
         | none=>none) else none
     | none=>none
   | vals=>Iw orc (.bj key off sz ag) d vals env mem sh ah K
 | .aZ sz ag=>match vals with
   | [.aX b off]=>match nth sh b with
     | some (some cs)=>bif cQ cs then none else (match b_ ag sz cs off with
         | some v=>fA v fun v=>lay env mem sh ah d v K
         | none=>none)
     | _=>none
   | vals=>Iw orc (.aZ sz ag) d vals env mem sh ah K
 | op=>Iw orc op d vals env mem sh ah K
theorem OV {orc:eI} {op:AK} {d:Option Nat} {vals:List AV} {env:List (Nat×AV)} {mem:List (Nat×List AV)} {sh:Sh} {ah:aL} {K:St→Option α} :
   x1 orc op d vals env mem sh ah K=(match exec orc op vals (op.key.bind (look mem)) sh ah with
     | none=>none
     | some out=>some (⟨fW env d out.val,fh mem op.key out.cells,out.sh,out.ah⟩:St)).bind K:=by
 unfold x1
 split
 · rename_i o
   simp only [OU,kH,exec]
   cases bM o vals with
   | none=>rfl
   | some v=>rfl
 · rename_i g
   simp only [xP,exec]
   cases cV [] vals with
   | none=>rfl
   | some dt=>
     dsimp only
     cases orc.p g dt with
     | none=>rfl
     | some rs=>simp only [pn,kH];rfl
 · rename_i key off sz ag
   split
   · rename_i d' o
     rw [s6]
     have hk:((AK.bj key off sz ag).key.bind (look mem))=look mem key:=rfl
     rw [hk]
     cases look mem key with
     | none=>simp [exec]
     | some cs=>
       simp only [exec]
       by_cases h:d'=key∧o=off
       · obtain ⟨rfl,rfl⟩:=h
         simp only [Nat.beq_refl,Bool.and_self,cond_true,and_self,if_true]
         cases b_ ag sz cs o with
         | none=>rfl
         | some v=>simp only [pn,kH];rfl
       · rw [if_neg h]
         have:(Nat.beq d' key && Nat.beq o off)=false:=by
           rw [Bool.eq_false_iff];intro e
           simp only [Bool.and_eq_true] at e
           exact h ⟨Nat.eq_of_beq_eq_true e.1,Nat.eq_of_beq_eq_true e.2⟩
         rw [this];rfl
   · exact uK
 · rename_i sz ag
   split
   · rename_i b off
     rw [Bu]
     simp only [exec]
     split
     · rename_i cs h
       rw [h]
       dsimp only
       cases cQ cs with
       | true=>rfl
       | false=>
         simp only [cond_false,Bool.false_eq_true,if_false]
         cases b_ ag sz cs off with
         | none=>rfl
         | some v=>simp only [pn,kH];rfl
     · rename_i h
       split
       · rfl
       · rename_i e1 e2 e3
         split at e3
         · rename_i cs e4;exact absurd e4 (h cs)
         · cases e3
   · exact uK
 · exact uK
def Qq (orc:eI) (o:dV) (st:St) (K:St→Option α):Option α:=match st with
 | ⟨env,mem,sh,ah⟩=>match o with
   | ⟨d,g,args,op⟩=>match g with
     | none=>Ob env args fun vals=>x1 orc op d vals env mem sh ah K
     | some (t,b)=>match lk env t with
       | some (.pv (.bool c))=>bif c == b then Ob env args fun vals=>x1 orc op d vals env mem sh ah K else lay env mem sh ah d .un K
       | some .un=>lay env mem sh ah d .un K
       | _=>none
theorem Nt {orc:eI} {o:dV} {st:St} {K:St→Option α}:Qq orc o st K=(eo orc o st).bind K:=by
 obtain ⟨env,mem,sh,ah⟩:=st
 obtain ⟨d,g,args,op⟩:=o
 have run:(Ob env args fun vals=>x1 orc op d vals env mem sh ah K)=(match dX env args with
     | none=>none
     | some vals=>match exec orc op vals (op.key.bind (look mem)) sh ah with
       | none=>none
       | some out=>some (⟨fW env d out.val,fh mem op.key out.cells,out.sh,out.ah⟩:St)).bind K:=by
   rw [Iu]
   cases dX env args with
   | none=>rfl
   | some vals=>exact OV
 cases g with
 | none=>simp only [Qq,eo,eX];exact run
 | some p=>
   obtain ⟨t,b⟩:=p
   simp only [Qq,eo,eX,s6]
   split
   · rename_i c h
     rw [h]
     dsimp only
     cases hc:(c == b) with
     | true=>simp only [cond_true];exact run
     | false=>simp only [cond_false,kH];rfl
   · rename_i h
     rw [h]
     simp only [kH];rfl
   · rename_i h1 h2
     split
     · rfl
     · rename_i e;split at e<;>simp_all
     · rename_i e;split at e<;>simp_all
def Lf (orc:eI):List dV→St→(St→Option α)→Option α
 | [],st,K=>K st
 | o::r,st,K=>Qq orc o st fun st=>Lf orc r st K
theorem Ca {orc:eI}:∀{l:List dV} {st:St} {K:St→Option α},Lf orc l st K=(bU orc l st).bind K
 | [],_,_=>rfl
 | o::r,st,K=>by
   simp only [Lf,bU]
   rw [Nt]
   cases eo orc o st with
   | none=>rfl
   | some s=>exact Ca
def Cb (f:St→(a6→St→Option α)→Option α) (pre:St→St):Nat→St→(a6→St→Option α)→Option α
 | 0,_,_=>none
 | n+1,st,K=>Qo (pre st) fun st=>f st fun e st=>match e with
   | .normal=>Cb f pre n st K
   | e=>K e st
def L5 (live:List Nat) (v:AV):Bool:=match v with
 | .az d _=>live.contains d
 | .pv _=>true
 | .own ..=>true
 | .agg cs=>fF cs
 | v=>bE v
theorem Ix {live:List Nat} {v:AV}:L5 live v=d9 live v:=by cases v<;>rfl
def OW (live:List Nat) (env:List (Nat×AV)):List Nat→(List (Nat×AV)→Option α)→Option α
 | [],K=>K []
 | t::r,K=>match lk env t with
   | some v=>OW live env r fun e=>bif L5 live v then K ((t,v)::e) else K e
   | none=>OW live env r K
theorem Bv {live:List Nat} {env:List (Nat×AV)}:∀{l:List Nat} {K:List (Nat×AV)→Option α},OW live env l K=K (bV live env l)
 | [],_=>rfl
 | t::r,K=>by
   simp only [OW,bV,s6]
   cases look env t with
   | none=>exact Bv
   | some v=>
     dsimp only
     rw [Bv,Ix]
     cases d9 live v<;>simp
def OX (mem:List (Nat×List AV)):List Nat→(List (Nat×List AV)→Option α)→Option α
 | [],K=>K []
 | t::r,K=>match lk mem t with
   | some v=>OX mem r fun e=>K ((t,v)::e)
   | none=>OX mem r K
theorem Bw {mem:List (Nat×List AV)}:∀{l:List Nat} {K:List (Nat×List AV)→Option α},OX mem l K=K (bW mem l)
 | [],_=>rfl
 | t::r,K=>by
   simp only [OX,bW,s6]
   cases look mem t with
   | none=>exact Bw
   | some v=>exact Bw
def rs (live:List Nat) (st:St) (K:St→Option α):Option α:=match st with
 | ⟨env,mem,sh,ah⟩=>OW live env live fun env=>OX mem live fun mem=>K ⟨env,mem,sh,ah⟩
theorem OY {live:List Nat} {st:St} {K:St→Option α}:rs live st K=K (restrict live st):=by
 obtain ⟨env,mem,sh,ah⟩:=st
 simp only [rs];rw [Bv,Bw];rfl
def L6 (K:a6→St→Option α):Option (a6×St)→Option α
 | some (e,st)=>K e st
 | none=>none
def cF (orc:eI) (k:Nat):aw→St→(a6→St→Option α)→Option α
 | .skip,st,K=>K .normal st
 | .ae ops live,st,K=>Lf orc ops st fun st=>rs live st fun st=>K .normal st
 | .seq a b,st,K=>cF orc k a st fun e st=>match e with
   | .normal=>cF orc k b st K
   | e=>K e st
 | .cond c a b,st,K=>match gG st.env c with
   | some (.pv (.bool t))=>match t with
     | true=>cF orc k a st K
     | false=>cF orc k b st K
   | _=>none
 | .block id b,st,K=>cF orc k b st fun e st=>match e with
   | .exit id'=>if id'=id then K .normal st else K (.exit id') st
   | e=>K e st
 | .loop live b,st,K=>Cb (cF orc k b) (fun s=>norm (restrict live s)) k st K
 | .back c gb pi px sz ag live x y,st,K=>L6 K (du orc k (.back c gb pi px sz ag live x y) st)
 | .exit id,st,K=>K (.exit id) st
 | .ret,st,K=>K .ret st
 | .de ts,st,K=>K .normal (kj ts st)
theorem xC {f:St→(a6→St→Option α)→Option α} {g:St→Option (a6×St)} {pre:St→St} (h:∀st K,f st K=L6 K (g st)):∀{n:Nat} {st:St} {K:a6→St→Option α},Cb f pre n st K=L6 K (eP g pre n st)
 | 0,_,_=>rfl
 | n+1,st,K=>by
   simp only [Cb,eP]
   rw [Ir,h]
   cases g (pre st) with
   | none=>rfl
   | some q=>
     obtain ⟨e,s⟩:=q
     cases e with
     | normal=>exact xC h
     | ret=>rfl
     | exit id=>rfl
theorem q9 {orc:eI} {k:Nat}:∀{c:aw} {st:St} {K:a6→St→Option α},cF orc k c st K=L6 K (du orc k c st)
 | .skip,_,_=>rfl
 | .ae ops live,st,K=>by
   simp only [cF,du]
   rw [Ca]
   cases bU orc ops st with
   | none=>rfl
   | some s=>simp only [Option.bind_some,OY,L6]
 | .seq a b,st,K=>by
   simp only [cF,du]
   rw [q9]
   cases du orc k a st with
   | none=>rfl
   | some q=>
     obtain ⟨e,s⟩:=q
     cases e with
     | normal=>simp only [L6];exact q9
     | ret=>rfl
     | exit id=>rfl
 | .cond c a b,st,K=>by
   simp only [cF,du]
   split
   · rename_i t h
     rw [h]
     cases t with
     | true=>exact q9
     | false=>exact q9
   · rename_i h
     split
     · rename_i t h';exact absurd h' (h t)
     · rfl
 | .block id b,st,K=>by
   simp only [cF,du]
   rw [q9]
   cases du orc k b st with
   | none=>rfl
   | some q=>
     obtain ⟨e,s⟩:=q
     cases e with
     | normal=>rfl
     | ret=>rfl
     | exit id'=>
       simp only [L6]
       split<;>rfl
 | .loop live b,st,K=>by
   simp only [cF,du]
   exact xC (g:=du orc k b) fun _ _=>q9
 | .back c gb pi px sz ag live x y,_,_=>by simp only [cF]
 | .exit id,_,_=>rfl
 | .ret,_,_=>rfl
 | .de _,_,_=>rfl
def Lg (a9:Bool) (af:aH) (sh0:Sh) (e:a6) (st:St) (K:List AV→Sh→aL→Option α):Option α:=
 match e with
 | .exit _=>none
 | _=>match d5 st af.results with
   | some vs=>
     OQ (cD a9 af.ks st.sh vs) fun rs=>
     let sh':=if rs.all (aR sh0.length)=true then (eF a9 af.ks st.sh vs).take sh0.length else eF a9 af.ks st.sh vs
     if rs.all bX=true then
       match cZ st.ah rs sh' with
       | (rs,sh,_,ts)=>OQ rs fun rs=>Oa sh fun sh=>fT ts fun ts=>K rs sh ts
     else none
   | none=>none
def FE (K:List AV→Sh→aL→Option α):Option (List AV×Sh×aL)→Option α
 | some (a,b,c)=>K a b c
 | none=>none
theorem Lh {a9:Bool} {af:aH} {sh0:Sh} {e:a6} {st:St} {K:List AV→Sh→aL→Option α}:Lg a9 af sh0 e st K=FE K (finish a9 af sh0 (some (e,st))):=by
 cases e with
 | exit id=>rfl
 | normal=>
   simp only [Lg,finish]
   cases d5 st af.results with
   | none=>rfl
   | some vs=>
     simp only [qZ,or_true,if_true]
     split
     · simp only [qZ,nZ,sZ,FE]
     · rfl
 | ret=>
   simp only [Lg,finish]
   cases d5 st af.results with
   | none=>rfl
   | some vs=>
     simp only [qZ,true_or,if_true]
     split
     · simp only [qZ,nZ,sZ,FE]
     · rfl
def s7 (orc:eI) (k:Nat) (a9:Bool) (af:aH) (args:List AV) (sh:Sh) (ts:aL) (K:List AV→Sh→aL→Option α):Option α:=
 Qo { env:=cr 0 args,mem:=[],sh,ah:=ts } fun st=>cF orc k af.body st fun e st=>Lg a9 af sh e st K
theorem m9 {orc:eI} {k:Nat} {a9:Bool} {af:aH} {args:List AV} {sh:Sh} {ts:aL} {K:List AV→Sh→aL→Option α}:s7 orc k a9 af args sh ts K=FE K (ct orc k a9 af args sh ts):=by
 unfold s7
 rw [Ir,q9,fE]
 cases du orc k af.body { env:=cr 0 args,mem:=[],sh,ah:=ts } with
 | none=>rfl
 | some q=>obtain ⟨e,s⟩:=q;simp only [L6];exact Lh
def Iy (AP:Nat→Option aH) (k:Nat):Nat→eI
 | 0=>{ p:=fun _ _=>none,i:=fun _ _ _ _=>none }
 | n+1=>
   { p:=fun g dt=>match AP g with
       | some af=>match af.p8 with
         | some f=>f dt
         | none=>if dt.length=af.nparams∧dt.length≤af.ntmps then s7 (Iy AP k n) k false af (dt.map .pv) [] [] fun rs _ _=>fm rs else none
       | none=>none
     i:=fun g args sh ts=>match AP g with
       | some af=>if args.length≤af.ntmps then s7 (Iy AP k n) k true af args sh ts fun a b c=>some (a,b,c) else none
       | none=>none }
theorem Cc {AP:Nat→Option aH} {k:Nat}:∀n,Iy AP k n=run AP k n
 | 0=>rfl
 | n+1=>by
   have ih:=Cc (AP:=AP) (k:=k) n
   simp only [Iy,run]
   congr 1
   · funext g dt
     cases AP g with
     | none=>rfl
     | some af=>
       dsimp only
       cases af.p8 with
       | some f=>rfl
       | none=>
         dsimp only
         split
         · rw [m9,ih]
           cases ct (run AP k n) k false af (dt.map .pv) [] [] with
           | none=>rfl
           | some q=>rfl
         · rfl
   · funext g args sh ts
     cases AP g with
     | none=>rfl
     | some af=>
       dsimp only
       split
       · rw [m9,ih]
         cases ct (run AP k n) k true af args sh ts with
         | none=>rfl
         | some q=>rfl
       · rfl
theorem QF {AP:Nat→Option aH} {k n g:Nat} {x rs:List PV} (h:(Iy AP k n).p g x=some rs):(aP AP).p g x=some rs:=by
 rw [Cc] at h
 exact qy (pI g x) (show (run AP (max k n) (max k n)).p g x=some rs from (dH (Nat.le_max_right k n) (Nat.le_max_left k n)).p _ _ _ h)
def uL (AP:Nat→Option aH) (ov:Nat→List PV→Option (List PV)) (k:Nat):Nat→eI
 | 0=>{ p:=ov,i:=fun _ _ _ _=>none }
 | n+1=>
   { p:=fun g dt=>match ov g dt with
       | some r=>some r
       | none=>match AP g with
         | some af=>match af.p8 with
           | some f=>f dt
           | none=>if dt.length=af.nparams∧dt.length≤af.ntmps then s7 (uL AP ov k n) k false af (dt.map .pv) [] [] fun rs _ _=>fm rs else none
         | none=>none
     i:=fun g args sh ts=>match AP g with
       | some af=>if args.length≤af.ntmps then s7 (uL AP ov k n) k true af args sh ts fun a b c=>some (a,b,c) else none
       | none=>none }
theorem xD {AP:Nat→Option aH} {orc:eI} {k:Nat} {a9:Bool} {af:aH} {args:List AV} {sh:Sh} {ts:aL} {r:List AV×Sh×aL} (hle:orc.le (aP AP)) (h:ct orc k a9 af args sh ts=some r):lM AP a9 af args sh ts=some r:=by
 rw [fE] at h
 unfold lM
 cases hc:du orc k af.body { env:=cr 0 args,mem:=[],sh,ah:=ts } with
 | none=>rw [hc] at h;simp [finish] at h
 | some q=>
   rw [ka (cB hle (Nat.le_refl k) hc)]
   rw [hc] at h
   exact h
theorem Cd {AP:Nat→Option aH} {ov:Nat→List PV→Option (List PV)} {k:Nat} (hov:∀g x r,ov g x=some r→(aP AP).p g x=some r):∀n,(uL AP ov k n).le (aP AP)
 | 0=>⟨hov,fun g x s t r h=>by simp [uL] at h⟩
 | n+1=>by
   have ih:=Cd (k:=k) hov n
   refine ⟨fun g x r h=>?_,fun g x s t r h=>?_⟩
   · simp only [uL] at h
     split at h
     · rename_i r' e;rw [←h];exact hov g x r' e
     · split at h
       · rename_i af hg
         cases hp:af.p8 with
         | some f=>rw [hp] at h;rw [Kg hg hp];exact h
         | none=>
           rw [hp] at h
           simp only [Option.ite_none_right_eq_some] at h
           obtain ⟨⟨h1,h2⟩,h⟩:=h
           rw [m9] at h
           rw [L2 hg hp h1 h2]
           cases hb:ct (uL AP ov k n) k false af (x.map .pv) [] [] with
           | none=>rw [hb] at h;simp [FE] at h
           | some q=>rw [xD ih hb];rw [hb] at h;exact h
       · cases h
   · simp only [uL] at h
     split at h
     · rename_i af hg
       simp only [Option.ite_none_right_eq_some] at h
       obtain ⟨h2,h⟩:=h
       rw [m9] at h
       rw [L3 hg h2]
       cases hb:ct (uL AP ov k n) k true af x s t with
       | none=>rw [hb] at h;simp [FE] at h
       | some q=>rw [xD ih hb];rw [hb] at h;exact h
     · cases h
theorem L7 {AP:Nat→Option aH} {ov:Nat→List PV→Option (List PV)} {k n g:Nat} {x rs:List PV} (hov:∀g x r,ov g x=some r→(aP AP).p g x=some r) (h:(uL AP ov k n).p g x=some rs):(aP AP).p g x=some rs:=(Cd hov n).p _ _ _ h
end Go.Ab.Fc
