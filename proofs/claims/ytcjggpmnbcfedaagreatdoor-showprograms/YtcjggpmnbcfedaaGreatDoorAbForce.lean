import Derived.Test.YtcjggpmnbcfedaaGreatDoorAbLim
/-
  The evaluator for the kernel: what an operation lays is brought to its last form at once. It answers as the evaluator does.
-/
set_option linter.unusedVariables false
set_option linter.unusedSimpArgs false
set_option linter.unnecessarySimpa false
set_option maxRecDepth 100000
set_option maxHeartbeats 8000000
namespace Go.Ab.Fc
variable {α:Type}
def fN (n:Nat) (K:Nat→Option α):Option α:=match n with
 | 0=>K 0
 | m+1=>K (m+1)
theorem qV {n:Nat} {K:Nat→Option α}:fN n K=K n:=by cases n<;>rfl
def fI (n:Int) (K:Int→Option α):Option α:=match n with
 | .ofNat m=>fN m fun m=>K (.ofNat m)
 | .negSucc m=>fN m fun m=>K (.negSucc m)
theorem Lh {n:Int} {K:Int→Option α}:fI n K=K n:=by cases n<;>simp [fI,qV]
def fB (b:Bool) (K:Bool→Option α):Option α:=match b with
 | true=>K true
 | false=>K false
theorem tq {b:Bool} {K:Bool→Option α}:fB b K=K b:=by cases b<;>rfl
def fS {β:Type}:List β→(List β→Option α)→Option α
 | [],K=>K []
 | a::r,K=>fS r fun r=>K (a::r)
theorem Ah {β:Type}:∀{l:List β} {K:List β→Option α},fS l K=K l
 | [],_=>rfl
 | a::r,K=>by simp only [fS];rw [Ah]
def fL (p:PV) (K:PV→Option α):Option α:=match p with
 | .bool b=>fB b fun b=>K (.bool b)
 | .int k n=>fI n fun n=>K (.int k n)
 | .str s=>K (.str s)
 | .agg cs=>K (.agg cs)
 | .aE l=>K (.aE l)
theorem OS {p:PV} {K:PV→Option α}:fL p K=K p:=by cases p<;>simp [fL,tq,Lh]
def Rv:List PV→(List PV→Option α)→Option α
 | [],K=>K []
 | a::r,K=>fL a fun a=>Rv r fun r=>K (a::r)
theorem DS:∀{l:List PV} {K:List PV→Option α},Rv l K=K l
 | [],_=>rfl
 | a::r,K=>by simp only [Rv];rw [OS,DS]
def fP (p:PV) (K:PV→Option α):Option α:=match p with
 | .agg cs=>Rv cs fun cs=>K (.agg cs)
 | p=>fL p K
theorem Li {p:PV} {K:PV→Option α}:fP p K=K p:=by cases p<;>simp [fP,DS,OS]
def Tb (v:AV) (K:AV→Option α):Option α:=match v with
 | .un=>K .un
 | .pv p=>fP p fun p=>K (.pv p)
 | .bJ l=>K (.bJ l)
 | .own l τ=>fN τ fun τ=>K (.own l τ)
 | .agg cs=>K (.agg cs)
 | .nf cs=>K (.nf cs)
 | .aB a b=>fN a fun a=>fN b fun b=>K (.aB a b)
 | .aZ a b=>fN a fun a=>fN b fun b=>K (.aZ a b)
 | .dG cs=>fS cs fun cs=>K (.dG cs)
 | .bz a b c d=>fN a fun a=>fN c fun c=>K (.bz a b c d)
 | .fn g c=>K (.fn g c)
 | .dS=>K .dS
 | .dj s=>fN s fun s=>K (.dj s)
 | .dQ kvs=>fS kvs fun kvs=>K (.dQ kvs)
 | .nv a b c=>fN a fun a=>fN b fun b=>fN c fun c=>K (.nv a b c)
 | .ji a b=>fN a fun a=>fN b fun b=>K (.ji a b)
theorem Lj {v:AV} {K:AV→Option α}:Tb v K=K v:=by cases v<;>simp [Tb,Li,qV,Ah]
def NI:List AV→(List AV→Option α)→Option α
 | [],K=>K []
 | a::r,K=>Tb a fun a=>NI r fun r=>K (a::r)
theorem tt:∀{l:List AV} {K:List AV→Option α},NI l K=K l
 | [],_=>rfl
 | a::r,K=>by simp only [NI];rw [Lj,tt]
def fA (v:AV) (K:AV→Option α):Option α:=match v with
 | .agg cs=>NI cs fun cs=>K (.agg cs)
 | .nf cs=>NI cs fun cs=>K (.nf cs)
 | .fn g cs=>NI cs fun cs=>K (.fn g cs)
 | v=>Tb v K
theorem qW {v:AV} {K:AV→Option α}:fA v K=K v:=by cases v<;>simp [fA,tt,Lj]
def Rw:List AV→(List AV→Option α)→Option α
 | [],K=>K []
 | a::r,K=>fA a fun a=>Rw r fun r=>K (a::r)
theorem tu:∀{l:List AV} {K:List AV→Option α},Rw l K=K l
 | [],_=>rfl
 | a::r,K=>by simp only [Rw];rw [qW,tu]
def fV (v:AV) (K:AV→Option α):Option α:=match v with
 | .pv (.str s)=>fS s fun s=>K (.pv (.str s))
 | .pv (.aE l)=>fS l fun l=>K (.pv (.aE l))
 | .bJ l=>fS l fun l=>Rv l fun l=>K (.bJ l)
 | .own l τ=>fS l fun l=>fN τ fun τ=>K (.own l τ)
 | v=>fA v K
theorem Ll {v:AV} {K:AV→Option α}:fV v K=K v:=by
 cases v with
 | pv p=>cases p<;>simp [fV,Ah,qW]
 | _=>simp [fV,Ah,qW,DS,qV]
def Rx:List PV→(List PV→Option α)→Option α
 | [],K=>K []
 | a::r,K=>fP a fun a=>Rx r fun r=>K (a::r)
theorem Lm:∀{l:List PV} {K:List PV→Option α},Rx l K=K l
 | [],_=>rfl
 | a::r,K=>by simp only [Rx];rw [Li,Lm]
def fresh:AK→Bool
 | .v (.aR _) | .v (.slice ..) | .append .. | .v (.bin .add)=>true
 | _=>false
def Uz (op:AK) (v:AV) (K:AV→Option α):Option α:=match op,v with
 | .v (.aR _),.bJ l=>Rx l fun l=>K (.bJ l)
 | op,v=>if fresh op then fV v K else fA v K
def fO {β:Type} (f:β→(β→Option α)→Option α) (o:Option β) (K:Option β→Option α):Option α:=match o with
 | none=>K none
 | some x=>f x fun x=>K (some x)
theorem Ry {β:Type} {f:β→(β→Option α)→Option α} (hf:∀x K,f x K=K x) {o:Option β} {K:Option β→Option α}:fO f o K=K o:=by cases o<;>simp [fO,hf]
def QV:Sh→(Sh→Option α)→Option α
 | [],K=>K []
 | a::r,K=>fO NI a fun a=>QV r fun r=>K (a::r)
theorem pY:∀{l:Sh} {K:Sh→Option α},QV l K=K l
 | [],_=>rfl
 | a::r,K=>by simp only [QV];rw [Ry (fun _ _=>tt),pY]
def fT:aH→(aH→Option α)→Option α
 | [],K=>K []
 | a::r,K=>fN a fun a=>fT r fun r=>K (a::r)
theorem vq:∀{l:aH} {K:aH→Option α},fT l K=K l
 | [],_=>rfl
 | a::r,K=>by simp only [fT];rw [qV,vq]
def TD {β:Type}:List (Nat×β)→Nat→β→(List (Nat×β)→Option α)→Option α
 | [],t,u,K=>K [(t,u)]
 | (k,v)::r,t,u,K=>if k=t then K ((k,u)::r) else TD r t u fun r=>K ((k,v)::r)
def NJ:List (Nat×AV)→(List (Nat×AV)→Option α)→Option α
 | [],K=>K []
 | (t,v)::r,K=>fA v fun v=>NJ r fun r=>K ((t,v)::r)
theorem EE:∀{l:List (Nat×AV)} {K:List (Nat×AV)→Option α},NJ l K=K l
 | [],_=>rfl
 | (t,v)::r,K=>by simp only [NJ];rw [qW,EE]
def NK:List (Nat×List AV)→(List (Nat×List AV)→Option α)→Option α
 | [],K=>K []
 | (t,v)::r,K=>NI v fun v=>NK r fun r=>K ((t,v)::r)
theorem EF:∀{l:List (Nat×List AV)} {K:List (Nat×List AV)→Option α},NK l K=K l
 | [],_=>rfl
 | (t,v)::r,K=>by simp only [NK];rw [tt,EF]
def P8 (st:St) (K:St→Option α):Option α:=match st with
 | ⟨env,mem,sh,ae⟩=>NJ env fun env=>NK mem fun mem=>QV sh fun sh=>fT ae fun ae=>K ⟨env,mem,sh,ae⟩
theorem tv {st:St} {K:St→Option α}:P8 st K=K st:=by
 obtain ⟨env,mem,sh,ae⟩:=st
 simp only [P8];rw [EE,EF,pY,vq]
def lk {β:Type}:List (Nat×β)→Nat→Option β
 | [],_=>none
 | (k,v)::r,t=>bif Nat.beq k t then some v else lk r t
theorem vt {β:Type}:∀{l:List (Nat×β)} {t:Nat},lk l t=look l t
 | [],_=>rfl
 | (k,v)::r,t=>by
   simp only [lk,look]
   rw [vt]
   by_cases h:k=t
   · subst h;simp
   · rw [if_neg h,show Nat.beq k t=false from by rw [Bool.eq_false_iff];intro e;exact h (Nat.eq_of_beq_eq_true e)]
     rfl
def pt {β:Type}:List (Nat×β)→Nat→β→(List (Nat×β)→Option α)→Option α
 | [],t,u,K=>K [(t,u)]
 | (k,v)::r,t,u,K=>bif Nat.beq k t then K ((k,u)::r) else pt r t u fun r=>K ((k,v)::r)
theorem Ln {β:Type}:∀{l:List (Nat×β)} {t:Nat} {u:β} {K:List (Nat×β)→Option α},pt l t u K=K (dt l t u)
 | [],_,_,_=>rfl
 | (k,v)::r,t,u,K=>by
   simp only [pt,dt]
   by_cases h:k=t
   · subst h;simp
   · rw [if_neg h,show Nat.beq k t=false from by rw [Bool.eq_false_iff];intro e;exact h (Nat.eq_of_beq_eq_true e)]
     exact Ln
def od (env:List (Nat×AV)) (x:fF) (K:AV→Option α):Option α:=match x with
 | .t n=>match lk env n with
   | some v=>K v
   | none=>none
 | .c v=>K v
theorem Rz {env:List (Nat×AV)} {x:fF} {K:AV→Option α}:od env x K=(ir env x).bind K:=by
 cases x with
 | t n=>simp only [od,ir,vt];cases look env n<;>rfl
 | c v=>rfl
def QW (env:List (Nat×AV)):List fF→(List AV→Option α)→Option α
 | [],K=>K []
 | x::r,K=>od env x fun v=>QW env r fun vs=>K (v::vs)
theorem Lo {env:List (Nat×AV)}:∀{l:List fF} {K:List AV→Option α},QW env l K=(ew env l).bind K
 | [],_=>rfl
 | x::r,K=>by
   simp only [QW,ew]
   rw [Rz]
   cases ir env x with
   | none=>rfl
   | some v=>
     dsimp only [Option.bind_some]
     rw [Lo]
     cases ew env r<;>rfl
def P9:IntKind→Nat
 | .i8=>0 | .i16=>1 | .i32=>2 | .i64=>3 | .u8=>4 | .u16=>5 | .u32=>6 | .u64=>7
theorem NL {a b:IntKind} (h:Nat.beq (P9 a) (P9 b)=true):a=b:=by
 have:=Nat.eq_of_beq_eq_true h
 cases a<;>cases b<;>first | rfl | (simp [P9] at this)
def Tc:Int→Int→Bool
 | .ofNat a,.ofNat b=>Nat.beq a b
 | .negSucc a,.negSucc b=>Nat.beq a b
 | _,_=>false
theorem TE {a b:Nat}:Nat.beq a b=decide (a=b):=by
 by_cases h:a=b
 · subst h;simp
 · rw [decide_eq_false h,Bool.eq_false_iff];intro e;exact h (Nat.eq_of_beq_eq_true e)
theorem Lp {a b:Int}:Tc a b=(a == b):=by
 cases a<;>cases b<;>(rw [Bool.eq_iff_iff];simp [Tc,TE])<;>omega
def QX:Int→Int→Bool
 | .ofNat a,.ofNat b=>Nat.blt a b
 | .negSucc a,.negSucc b=>Nat.blt b a
 | .negSucc _,.ofNat _=>true
 | .ofNat _,.negSucc _=>false
theorem xp {a b:Int}:QX a b=decide (a<b):=by
 cases a<;>cases b<;>(rw [Bool.eq_iff_iff];simp [QX,Nat.blt_eq])<;>omega
def P_ (k:IntKind) (a b:Int) (K:Int→Option α):Option α:=match k,a,b with
 | .i64,.ofNat x,.ofNat y=>bif Nat.blt (x+y) 4611686018427387904 then fN (x+y) fun n=>K (.ofNat n) else fI (IntKind.i64.wrap (.ofNat x+.ofNat y)) K
 | k,a,b=>fI (k.wrap (a+b)) K
theorem NM {k:IntKind} {a b:Int} {K:Int→Option α}:P_ k a b K=K (k.wrap (a+b)):=by
 unfold P_
 split
 · rename_i x y
   cases h:Nat.blt (x+y) 4611686018427387904 with
   | false=>simp only [cond_false];exact Lh
   | true=>
     simp only [cond_true,qV]
     have:x+y<4611686018427387904:=by simpa [Nat.blt_eq] using h
     congr 1
     simp [IntKind.wrap,IntKind.bits,IntKind.signed]
     omega
 · exact Lh
def P' (op:BinOp) (a b:AV) (K:AV→Option α):Option α:=match a with
 | .pv (.int k x)=>match b with
   | .pv (.int k' y)=>bif Nat.beq (P9 k) (P9 k') then (match op with
       | .eql=>fB (Tc x y) fun c=>K (.pv (.bool c))
       | .neq=>fB (!Tc x y) fun c=>K (.pv (.bool c))
       | .lss=>fB (QX x y) fun c=>K (.pv (.bool c))
       | .gtr=>fB (QX y x) fun c=>K (.pv (.bool c))
       | .geq=>fB (!QX x y) fun c=>K (.pv (.bool c))
       | .leq=>fB (!QX y x) fun c=>K (.pv (.bool c))
       | .add=>P_ k x y fun n=>K (.pv (.int k n))
       | op=>(dM op a b).bind fun v=>fV v K)
     else (dM op a b).bind fun v=>fV v K
   | b=>(dM op a b).bind fun v=>fV v K
 | a=>(dM op a b).bind fun v=>fV v K
theorem NN {op:BinOp} {a b:AV} {K:AV→Option α}:P' op a b K=(dM op a b).bind K:=by
 have dflt:((dM op a b).bind fun v=>fV v K)=(dM op a b).bind K:=by
   congr 1;funext v;exact Ll
 unfold P'
 split
 · rename_i k x
   split
   · rename_i k' y
     cases hk:Nat.beq (P9 k) (P9 k') with
     | false=>exact dflt
     | true=>
       obtain rfl:=NL hk
       simp only [cond_true]
       split
       · simp [tq,Lp,dM]
       · simp [tq,Lp,dM,bne]
       · simp [tq,xp,dM]
       · simp [tq,xp,dM]
       · simp [tq,xp,dM,←decide_not,Int.not_lt]
       · simp [tq,xp,dM,←decide_not,Int.not_lt]
       · simp [NM,dM]
       · exact dflt
   · exact dflt
 · exact dflt
def Uh (off:Nat) (x:AV) (K:AV→Option α):Option α:=match x with
 | .aB d o=>fN (o+off) fun n=>K (.aB d n)
 | .aZ b o=>fN (o+off) fun n=>K (.aZ b n)
 | .dG cs=>fS (cs.drop off) fun cs=>K (.dG cs)
 | _=>none
def nth {β:Type}:List β→Nat→Option β
 | [],_=>none
 | a::r,n=>match n with
   | 0=>some a
   | n+1=>nth r n
theorem DT {β:Type}:∀{l:List β} {n:Nat},nth l n=l[n]?
 | [],n=>by simp [nth]
 | a::r,0=>rfl
 | a::r,n+1=>by simp only [nth,List.getElem?_cons_succ];exact DT
def ln {β:Type}:List β→Nat→(Nat→Option α)→Option α
 | [],n,K=>K n
 | _::r,n,K=>fN (n+1) fun n=>ln r n K
theorem EG {β:Type}:∀{l:List β} {n:Nat} {K:Nat→Option α},ln l n K=K (n+l.length)
 | [],n,K=>rfl
 | _::r,n,K=>by
   simp only [ln];rw [qV,EG];congr 1;simp;omega
def xV (o:ua) (vals:List AV) (K:AV→Option α):Option α:=match o with
 | .mv=>match vals with
   | [x]=>K x
   | vals=>(bW .mv vals).bind fun v=>fA v K
 | .bin op=>match vals with
   | [a,b]=>P' op a b K
   | vals=>(bW (.bin op) vals).bind fun v=>fA v K
 | .bp off=>match vals with
   | [x]=>Uh off x K
   | vals=>(bW (.bp off) vals).bind fun v=>fA v K
 | .bj=>match vals with
   | [.aB a b]=>K (.aB a b)
   | [.aZ a b]=>K (.aZ a b)
   | vals=>(bW .bj vals).bind fun v=>fA v K
 | .index=>match vals with
   | [.pv (.str s),.pv (.int _ (.ofNat i))]=>match nth s i with
     | some b=>fN b.toNat fun n=>K (.pv (.int .u8 (.ofNat n)))
     | none=>none
   | vals=>(bW .index vals).bind fun v=>fA v K
 | .kq=>match vals with
   | [.pv (.str s)]=>ln s 0 fun n=>K (.pv (.int .i64 (.ofNat n)))
   | vals=>(bW .kq vals).bind fun v=>fA v K
 | .len=>match vals with
   | [.pv (.aE l)]=>ln l 0 fun n=>K (.pv (.int .i64 (.ofNat n)))
   | [.own l _]=>ln l 0 fun n=>K (.pv (.int .i64 (.ofNat n)))
   | vals=>(bW .len vals).bind fun v=>fA v K
 | .aR sz=>match bW (.aR sz) vals with
   | some (.bJ l)=>Rx l fun l=>K (.bJ l)
   | some v=>K v
   | none=>none
 | .slice a b c d e=>(bW (.slice a b c d e) vals).bind fun v=>fV v K
 | o=>(bW o vals).bind fun v=>fA v K
theorem RA {o:ua} {vals:List AV} {K:AV→Option α}:xV o vals K=(bW o vals).bind K:=by
 have dA:∀o vals,((bW o vals).bind fun v=>fA v K)=(bW o vals).bind K:=by
   intro o vals;congr 1;funext v;exact qW
 unfold xV
 split
 · split
   · rfl
   · exact dA _ _
 · split
   · exact NN
   · exact dA _ _
 · split
   · rename_i x
     cases x<;>simp [Uh,bW,qV,Ah]
   · exact dA _ _
 · split
   · rfl
   · rfl
   · exact dA _ _
 · split
   · rename_i s k i
     rw [DT]
     have hi:¬(Int.ofNat i<0):=by simp
     simp only [bW]
     rw [if_neg hi]
     simp only [Int.toNat_natCast,Int.ofNat_eq_natCast]
     cases s[i]? with
     | none=>rfl
     | some b=>simp [qV]
   · exact dA _ _
 · split
   · simp [EG,bW]
   · exact dA _ _
 · split
   · simp [EG,bW,cN]
   · simp [EG,bW,cN]
   · exact dA _ _
 · split
   · rename_i l h;rw [h,Lm];rfl
   · rename_i h;rw [h];rfl
   · rename_i h;rw [h];rfl
 · congr 1;funext v;exact Ll
 · exact dA _ _
def lay (env:List (Nat×AV)) (mem:List (Nat×List AV)) (sh:Sh) (ae:aH) (d:Option Nat) (v:AV) (K:St→Option α):Option α:=match d with
 | some d=>pt env d v fun env=>K ⟨env,mem,sh,ae⟩
 | none=>K ⟨env,mem,sh,ae⟩
theorem mf {env:List (Nat×AV)} {mem:List (Nat×List AV)} {sh:Sh} {ae:aH} {d:Option Nat} {v:AV} {K:St→Option α}:lay env mem sh ae d v K=K ⟨gp env d v,mem,sh,ae⟩:=by
 cases d<;>simp [lay,gp,Ln]
def Qa (mem:List (Nat×List AV)) (k:Nat) (cs:Option (List AV)) (K:List (Nat×List AV)→Option α):Option α:=match cs with
 | some cs=>NI cs fun cs=>pt mem k cs K
 | none=>K mem
theorem NO {mem:List (Nat×List AV)} {k:Nat} {cs:Option (List AV)} {K:List (Nat×List AV)→Option α}:Qa mem k cs K=K (eX mem (some k) cs):=by
 cases cs<;>simp [Qa,eX,tt,Ln]
def Lq (orc:eu) (op:AK) (d:Option Nat) (vals:List AV) (env:List (Nat×AV)) (mem:List (Nat×List AV)) (sh:Sh) (ae:aH) (K:St→Option α):Option α:=
 match exec orc op vals (op.key.bind (look mem)) sh ae with
 | none=>none
 | some ⟨val,cells,sh',toks'⟩=>fV val fun val=>(match op.key with | some k=>Qa mem k cells | none=>fun K=>K mem) fun mem=>QV sh' fun sh'=>fT toks' fun toks'=>lay env mem sh' toks' d val K
theorem xq {orc:eu} {op:AK} {d:Option Nat} {vals:List AV} {env:List (Nat×AV)} {mem:List (Nat×List AV)} {sh:Sh} {ae:aH} {K:St→Option α} :
   Lq orc op d vals env mem sh ae K=(match exec orc op vals (op.key.bind (look mem)) sh ae with
     | none=>none
     | some out=>some (⟨gp env d out.val,eX mem op.key out.cells,out.sh,out.ae⟩:St)).bind K:=by
 unfold Lq
 cases exec orc op vals (op.key.bind (look mem)) sh ae with
 | none=>rfl
 | some out=>
   obtain ⟨val,cells,sh',toks'⟩:=out
   simp only [Ll,Option.bind_some]
   cases op.key with
   | none=>simp only [pY,vq,mf];cases cells<;>rfl
   | some k=>simp only [NO,pY,vq,mf]
def xP (orc:eu) (g:Nat) (vals:List AV) (K:AV→Option α):Option α:=match dT [] vals with
 | some dO=>match orc.p g dO with
   | some rs=>fA (q9 rs) K
   | none=>none
 | none=>none
def x1 (orc:eu) (op:AK) (d:Option Nat) (vals:List AV) (env:List (Nat×AV)) (mem:List (Nat×List AV)) (sh:Sh) (ae:aH) (K:St→Option α):Option α:=match op with
 | .v o=>xV o vals fun v=>lay env mem sh ae d v K
 | .aq g=>xP orc g vals fun v=>lay env mem sh ae d v K
 | .bh key off sz ag=>match vals with
   | [.aB d' o]=>match lk mem key with
     | some cs=>bif Nat.beq d' key && Nat.beq o off then (match cA ag sz cs off with
         | some v=>fA v fun v=>lay env mem sh ae d v K
         | none=>none) else none
     | none=>none
   | vals=>Lq orc (.bh key off sz ag) d vals env mem sh ae K
 | .bf sz ag=>match vals with
   | [.aZ b off]=>match nth sh b with
     | some (some cs)=>bif c_ cs then none else (match cA ag sz cs off with
         | some v=>fA v fun v=>lay env mem sh ae d v K
         | none=>none)
     | _=>none
   | vals=>Lq orc (.bf sz ag) d vals env mem sh ae K
 | op=>Lq orc op d vals env mem sh ae K
theorem RB {orc:eu} {op:AK} {d:Option Nat} {vals:List AV} {env:List (Nat×AV)} {mem:List (Nat×List AV)} {sh:Sh} {ae:aH} {K:St→Option α} :
   x1 orc op d vals env mem sh ae K=(match exec orc op vals (op.key.bind (look mem)) sh ae with
     | none=>none
     | some out=>some (⟨gp env d out.val,eX mem op.key out.cells,out.sh,out.ae⟩:St)).bind K:=by
 unfold x1
 split
 · rename_i o
   simp only [RA,mf,exec]
   cases bW o vals with
   | none=>rfl
   | some v=>rfl
 · rename_i g
   simp only [xP,exec]
   cases dT [] vals with
   | none=>rfl
   | some dO=>
     dsimp only
     cases orc.p g dO with
     | none=>rfl
     | some rs=>simp only [qW,mf];rfl
 · rename_i key off sz ag
   split
   · rename_i d' o
     rw [vt]
     have hk:((AK.bh key off sz ag).key.bind (look mem))=look mem key:=rfl
     rw [hk]
     cases look mem key with
     | none=>simp [exec]
     | some cs=>
       simp only [exec]
       by_cases h:d'=key∧o=off
       · obtain ⟨rfl,rfl⟩:=h
         simp only [Nat.beq_refl,Bool.and_self,cond_true,and_self,if_true]
         cases cA ag sz cs o with
         | none=>rfl
         | some v=>simp only [qW,mf];rfl
       · rw [if_neg h]
         have:(Nat.beq d' key && Nat.beq o off)=false:=by
           rw [Bool.eq_false_iff];intro e
           simp only [Bool.and_eq_true] at e
           exact h ⟨Nat.eq_of_beq_eq_true e.1,Nat.eq_of_beq_eq_true e.2⟩
         rw [this];rfl
   · exact xq
 · rename_i sz ag
   split
   · rename_i b off
     rw [DT]
     simp only [exec]
     split
     · rename_i cs h
       rw [h]
       dsimp only
       cases c_ cs with
       | true=>rfl
       | false=>
         simp only [cond_false,Bool.false_eq_true,if_false]
         cases cA ag sz cs off with
         | none=>rfl
         | some v=>simp only [qW,mf];rfl
     · rename_i h
       split
       · rfl
       · rename_i e1 e2 e3
         split at e3
         · rename_i cs e4;exact absurd e4 (h cs)
         · cases e3
   · exact xq
 · exact xq
def Td (orc:eu) (o:dK) (st:St) (K:St→Option α):Option α:=match st with
 | ⟨env,mem,sh,ae⟩=>match o with
   | ⟨d,g,args,op⟩=>match g with
     | none=>QW env args fun vals=>x1 orc op d vals env mem sh ae K
     | some (t,b)=>match lk env t with
       | some (.pv (.bool c))=>bif c == b then QW env args fun vals=>x1 orc op d vals env mem sh ae K else lay env mem sh ae d .un K
       | some .un=>lay env mem sh ae d .un K
       | _=>none
theorem Qb {orc:eu} {o:dK} {st:St} {K:St→Option α}:Td orc o st K=(eo orc o st).bind K:=by
 obtain ⟨env,mem,sh,ae⟩:=st
 obtain ⟨d,g,args,op⟩:=o
 have run:(QW env args fun vals=>x1 orc op d vals env mem sh ae K)=(match ew env args with
     | none=>none
     | some vals=>match exec orc op vals (op.key.bind (look mem)) sh ae with
       | none=>none
       | some out=>some (⟨gp env d out.val,eX mem op.key out.cells,out.sh,out.ae⟩:St)).bind K:=by
   rw [Lo]
   cases ew env args with
   | none=>rfl
   | some vals=>exact RB
 cases g with
 | none=>simp only [Td,eo,f_];exact run
 | some p=>
   obtain ⟨t,b⟩:=p
   simp only [Td,eo,f_,vt]
   split
   · rename_i c h
     rw [h]
     dsimp only
     cases hc:(c == b) with
     | true=>simp only [cond_true];exact run
     | false=>simp only [cond_false,mf];rfl
   · rename_i h
     rw [h]
     simp only [mf];rfl
   · rename_i h1 h2
     split
     · rfl
     · rename_i e;split at e<;>simp_all
     · rename_i e;split at e<;>simp_all
def NP (orc:eu):List dK→St→(St→Option α)→Option α
 | [],st,K=>K st
 | o::r,st,K=>Td orc o st fun st=>NP orc r st K
theorem EH {orc:eu}:∀{l:List dK} {st:St} {K:St→Option α},NP orc l st K=(bE orc l st).bind K
 | [],_,_=>rfl
 | o::r,st,K=>by
   simp only [NP,bE]
   rw [Qb]
   cases eo orc o st with
   | none=>rfl
   | some s=>exact EH
def EI (f:St→(bo→St→Option α)→Option α) (pre:St→St):Nat→St→(bo→St→Option α)→Option α
 | 0,_,_=>none
 | n+1,st,K=>P8 (pre st) fun st=>f st fun e st=>match e with
   | .normal=>EI f pre n st K
   | e=>K e st
def OT (live:List Nat) (v:AV):Bool:=match v with
 | .aB d _=>live.contains d
 | .ji d _=>live.contains d
 | .pv _=>true
 | .own ..=>true
 | .agg cs=>fH cs
 | v=>bP v
theorem Lr {live:List Nat} {v:AV}:OT live v=dR live v:=by cases v<;>rfl
def RC (live:List Nat) (env:List (Nat×AV)):List Nat→(List (Nat×AV)→Option α)→Option α
 | [],K=>K []
 | t::r,K=>match lk env t with
   | some v=>RC live env r fun e=>bif OT live v then K ((t,v)::e) else K e
   | none=>RC live env r K
theorem DU {live:List Nat} {env:List (Nat×AV)}:∀{l:List Nat} {K:List (Nat×AV)→Option α},RC live env l K=K (ca live env l)
 | [],_=>rfl
 | t::r,K=>by
   simp only [RC,ca,vt]
   cases look env t with
   | none=>exact DU
   | some v=>
     dsimp only
     rw [DU,Lr]
     cases dR live v<;>simp
def RD (mem:List (Nat×List AV)):List Nat→(List (Nat×List AV)→Option α)→Option α
 | [],K=>K []
 | t::r,K=>match lk mem t with
   | some v=>RD mem r fun e=>K ((t,v)::e)
   | none=>RD mem r K
theorem DV {mem:List (Nat×List AV)}:∀{l:List Nat} {K:List (Nat×List AV)→Option α},RD mem l K=K (cg mem l)
 | [],_=>rfl
 | t::r,K=>by
   simp only [RD,cg,vt]
   cases look mem t with
   | none=>exact DV
   | some v=>exact DV
def rs (live:List Nat) (st:St) (K:St→Option α):Option α:=match st with
 | ⟨env,mem,sh,ae⟩=>RC live env live fun env=>RD mem live fun mem=>K ⟨env,mem,sh,ae⟩
theorem RE {live:List Nat} {st:St} {K:St→Option α}:rs live st K=K (restrict live st):=by
 obtain ⟨env,mem,sh,ae⟩:=st
 simp only [rs];rw [DU,DV];rfl
def OU (K:bo→St→Option α):Option (bo×St)→Option α
 | some (e,st)=>K e st
 | none=>none
def cF (orc:eu) (k:Nat):aA→St→(bo→St→Option α)→Option α
 | .skip,st,K=>K .normal st
 | .bw ops live,st,K=>NP orc ops st fun st=>rs live st fun st=>K .normal st
 | .seq a b,st,K=>cF orc k a st fun e st=>match e with
   | .normal=>cF orc k b st K
   | e=>K e st
 | .cond c a b,st,K=>match ir st.env c with
   | some (.pv (.bool t))=>match t with
     | true=>cF orc k a st K
     | false=>cF orc k b st K
   | _=>none
 | .block id b,st,K=>cF orc k b st fun e st=>match e with
   | .exit id'=>if id'=id then K .normal st else K (.exit id') st
   | e=>K e st
 | .loop live b,st,K=>EI (cF orc k b) (fun s=>norm (restrict live s)) k st K
 | .back c gb pi px sz ag live x y,st,K=>OU K (dk orc k (.back c gb pi px sz ag live x y) st)
 | .exit id,st,K=>K (.exit id) st
 | .ret,st,K=>K .ret st
 | .dL ts,st,K=>K .normal (lU ts st)
 | .PB ds,st,K=>bif iR st.env ds then K .normal st else none
 | .lS ps,st,K=>P8 (I8 ps st) fun st=>K .normal st
 | .mF ts,st,K=>P8 (I9 ts st) fun st=>K .normal st
 | .QQ ts,st,K=>P8 (oB ts st) fun st=>K .normal st
theorem Ai {f:St→(bo→St→Option α)→Option α} {g:St→Option (bo×St)} {pre:St→St} (h:∀st K,f st K=OU K (g st)):∀{n:Nat} {st:St} {K:bo→St→Option α},EI f pre n st K=OU K (fQ g pre n st)
 | 0,_,_=>rfl
 | n+1,st,K=>by
   simp only [EI,fQ]
   rw [tv,h]
   cases g (pre st) with
   | none=>rfl
   | some q=>
     obtain ⟨e,s⟩:=q
     cases e with
     | normal=>exact Ai h
     | ret=>rfl
     | exit id=>rfl
theorem tw {orc:eu} {k:Nat}:∀{c:aA} {st:St} {K:bo→St→Option α},cF orc k c st K=OU K (dk orc k c st)
 | .skip,_,_=>rfl
 | .bw ops live,st,K=>by
   simp only [cF,dk]
   rw [EH]
   cases bE orc ops st with
   | none=>rfl
   | some s=>simp only [Option.bind_some,RE,OU]
 | .seq a b,st,K=>by
   simp only [cF,dk]
   rw [tw]
   cases dk orc k a st with
   | none=>rfl
   | some q=>
     obtain ⟨e,s⟩:=q
     cases e with
     | normal=>simp only [OU];exact tw
     | ret=>rfl
     | exit id=>rfl
 | .cond c a b,st,K=>by
   simp only [cF,dk]
   split
   · rename_i t h
     rw [h]
     cases t with
     | true=>exact tw
     | false=>exact tw
   · rename_i h
     split
     · rename_i t h';exact absurd h' (h t)
     · rfl
 | .block id b,st,K=>by
   simp only [cF,dk]
   rw [tw]
   cases dk orc k b st with
   | none=>rfl
   | some q=>
     obtain ⟨e,s⟩:=q
     cases e with
     | normal=>rfl
     | ret=>rfl
     | exit id'=>
       simp only [OU]
       split<;>rfl
 | .loop live b,st,K=>by
   simp only [cF,dk]
   exact Ai (g:=dk orc k b) fun _ _=>tw
 | .back c gb pi px sz ag live x y,_,_=>by simp only [cF]
 | .exit id,_,_=>rfl
 | .ret,_,_=>rfl
 | .dL _,_,_=>rfl
 | .PB ds,st,K=>by
   simp only [cF,dk]
   cases iR st.env ds<;>rfl
 | .lS ps,st,K=>by
   simp only [cF,dk];rw [tv];rfl
 | .mF ps,st,K=>by
   simp only [cF,dk];rw [tv];rfl
 | .QQ ps,st,K=>by
   simp only [cF,dk];rw [tv];rfl
def NQ (bl:Bool) (af:aD) (sh0:Sh) (e:bo) (st:St) (K:List AV→Sh→aH→Option α):Option α:=
 match e with
 | .exit _=>none
 | _=>match eG st af.results with
   | some vs=>
     Rw (cS bl af.ks st.sh vs) fun rs=>
     let sh':=if rs.all (aM sh0.length)=true then (fp bl af.ks st.sh vs).take sh0.length else fp bl af.ks st.sh vs
     if rs.all cp=true then
       match dE st.ae rs sh' with
       | (rs,sh,_,ts)=>Rw rs fun rs=>QV sh fun sh=>fT ts fun ts=>K rs sh ts
     else none
   | none=>none
def Is (K:List AV→Sh→aH→Option α):Option (List AV×Sh×aH)→Option α
 | some (a,b,c)=>K a b c
 | none=>none
theorem NR {bl:Bool} {af:aD} {sh0:Sh} {e:bo} {st:St} {K:List AV→Sh→aH→Option α}:NQ bl af sh0 e st K=Is K (finish bl af sh0 (some (e,st))):=by
 cases e with
 | exit id=>rfl
 | normal=>
   simp only [NQ,finish]
   cases eG st af.results with
   | none=>rfl
   | some vs=>
     simp only [tu,or_true,if_true]
     split
     · simp only [tu,pY,vq,Is]
     · rfl
 | ret=>
   simp only [NQ,finish]
   cases eG st af.results with
   | none=>rfl
   | some vs=>
     simp only [tu,true_or,if_true]
     split
     · simp only [tu,pY,vq,Is]
     · rfl
def vu (orc:eu) (k:Nat) (bl:Bool) (af:aD) (args:List AV) (sh:Sh) (ts:aH) (K:List AV→Sh→aH→Option α):Option α:=
 P8 { env:=cK 0 args,mem:=[],sh,ae:=ts } fun st=>cF orc k af.body st fun e st=>NQ bl af sh e st K
theorem oZ {orc:eu} {k:Nat} {bl:Bool} {af:aD} {args:List AV} {sh:Sh} {ts:aH} {K:List AV→Sh→aH→Option α}:vu orc k bl af args sh ts K=Is K (cL orc k bl af args sh ts):=by
 unfold vu
 rw [tv,tw,gJ]
 cases dk orc k af.body { env:=cK 0 args,mem:=[],sh,ae:=ts } with
 | none=>rfl
 | some q=>obtain ⟨e,s⟩:=q;simp only [OU];exact NR
def DW (AP:Nat→Option aD) (k:Nat):Nat→eu
 | 0=>{ p:=fun _ _=>none,i:=fun _ _ _ _=>none }
 | n+1=>
   { p:=fun g dO=>match AP g with
       | some af=>match af.pE with
         | some f=>f.f (DW AP k n).p dO
         | none=>if dO.length=af.nparams∧dO.length≤af.ntmps then vu (DW AP k n) k false af (dO.map .pv) [] [] fun rs _ _=>gq rs else none
       | none=>none
     i:=fun g args sh ts=>match AP g with
       | some af=>if args.length≤af.ntmps then vu (DW AP k n) k true af args sh ts fun a b c=>some (a,b,c) else none
       | none=>none }
theorem EJ {AP:Nat→Option aD} {k:Nat}:∀n,DW AP k n=run AP k n
 | 0=>rfl
 | n+1=>by
   have ih:=EJ (AP:=AP) (k:=k) n
   simp only [DW,run]
   congr 1
   · funext g dO
     cases AP g with
     | none=>rfl
     | some af=>
       dsimp only
       cases af.pE with
       | some f=>dsimp only;rw [ih]
       | none=>
         dsimp only
         split
         · rw [oZ,ih]
           cases cL (run AP k n) k false af (dO.map .pv) [] [] with
           | none=>rfl
           | some q=>rfl
         · rfl
   · funext g args sh ts
     cases AP g with
     | none=>rfl
     | some af=>
       dsimp only
       split
       · rw [oZ,ih]
         cases cL (run AP k n) k true af args sh ts with
         | none=>rfl
         | some q=>rfl
       · rfl
theorem NT {AP:Nat→Option aD} {k n g:Nat} {x rs:List PV} (h:(DW AP k n).p g x=some rs):(aL AP).p g x=some rs:=by
 rw [EJ] at h
 exact sJ (rz g x) (show (run AP (max k n) (max k n)).p g x=some rs from (de (Nat.le_max_right k n) (Nat.le_max_left k n)).p _ _ _ h)
def uA (AP:Nat→Option aD) (ov:Nat→List PV→Option (List PV)) (k:Nat):Nat→eu
 | 0=>{ p:=ov,i:=fun _ _ _ _=>none }
 | n+1=>
   { p:=fun g dO=>match ov g dO with
       | some r=>some r
       | none=>match AP g with
         | some af=>match af.pE with
           | some f=>f.f (uA AP ov k n).p dO
           | none=>if dO.length=af.nparams∧dO.length≤af.ntmps then vu (uA AP ov k n) k false af (dO.map .pv) [] [] fun rs _ _=>gq rs else none
         | none=>none
     i:=fun g args sh ts=>match AP g with
       | some af=>if args.length≤af.ntmps then vu (uA AP ov k n) k true af args sh ts fun a b c=>some (a,b,c) else none
       | none=>none }
theorem Aj {AP:Nat→Option aD} {orc:eu} {k:Nat} {bl:Bool} {af:aD} {args:List AV} {sh:Sh} {ts:aH} {r:List AV×Sh×aH} (hle:orc.le (aL AP)) (h:cL orc k bl af args sh ts=some r):ni AP bl af args sh ts=some r:=by
 rw [gJ] at h
 unfold ni
 cases hc:dk orc k af.body { env:=cK 0 args,mem:=[],sh,ae:=ts } with
 | none=>rw [hc] at h;simp [finish] at h
 | some q=>
   rw [lE (cQ hle (Nat.le_refl k) hc)]
   rw [hc] at h
   exact h
theorem EK {AP:Nat→Option aD} {ov:Nat→List PV→Option (List PV)} {k:Nat} (hov:∀g x r,ov g x=some r→(aL AP).p g x=some r):∀n,(uA AP ov k n).le (aL AP)
 | 0=>⟨hov,fun g x s t r h=>by simp [uA] at h⟩
 | n+1=>by
   have ih:=EK (k:=k) hov n
   refine ⟨fun g x r h=>?_,fun g x s t r h=>?_⟩
   · simp only [uA] at h
     split at h
     · rename_i r' e;rw [←h];exact hov g x r' e
     · split at h
       · rename_i af hg
         cases hp:af.pE with
         | some f=>rw [hp] at h;rw [wE hg hp];exact f.mono ih.p h
         | none=>
           rw [hp] at h
           simp only [Option.ite_none_right_eq_some] at h
           obtain ⟨⟨h1,h2⟩,h⟩:=h
           rw [oZ] at h
           rw [OP hg hp h1 h2]
           cases hb:cL (uA AP ov k n) k false af (x.map .pv) [] [] with
           | none=>rw [hb] at h;simp [Is] at h
           | some q=>rw [Aj ih hb];rw [hb] at h;exact h
       · cases h
   · simp only [uA] at h
     split at h
     · rename_i af hg
       simp only [Option.ite_none_right_eq_some] at h
       obtain ⟨h2,h⟩:=h
       rw [oZ] at h
       rw [OQ hg h2]
       cases hb:cL (uA AP ov k n) k true af x s t with
       | none=>rw [hb] at h;simp [Is] at h
       | some q=>rw [Aj ih hb];rw [hb] at h;exact h
     · cases h
theorem RF {AP:Nat→Option aD} {ov:Nat→List PV→Option (List PV)} {k n g:Nat} {x rs:List PV} (hov:∀g x r,ov g x=some r→(aL AP).p g x=some r) (h:(uA AP ov k n).p g x=some rs):(aL AP).p g x=some rs:=(EK hov n).p _ _ _ h
end Go.Ab.Fc
