import Derived.Test.YthcoecdbgdhihaaGreatDoorAbLim
/-
  The evaluator for the kernel: what an operation lays is brought to its last form at once. It answers as the evaluator does.
-/
set_option linter.unusedVariables false
set_option linter.unusedSimpArgs false
set_option linter.unnecessarySimpa false
set_option maxRecDepth 100000
set_option maxHeartbeats 8000000
namespace Go.Ab.Fc
variable {α:Type}
def fN (n:Nat) (K:Nat→Option α):Option α:=match n with
 | 0=>K 0
 | m+1=>K (m+1)
theorem pZ {n:Nat} {K:Nat→Option α}:fN n K=K n:=by cases n<;>rfl
def fI (n:Int) (K:Int→Option α):Option α:=match n with
 | .ofNat m=>fN m fun m=>K (.ofNat m)
 | .negSucc m=>fN m fun m=>K (.negSucc m)
theorem H6 {n:Int} {K:Int→Option α}:fI n K=K n:=by cases n<;>simp [fI,pZ]
def fB (b:Bool) (K:Bool→Option α):Option α:=match b with
 | true=>K true
 | false=>K false
theorem sf {b:Bool} {K:Bool→Option α}:fB b K=K b:=by cases b<;>rfl
def fS {β:Type}:List β→(List β→Option α)→Option α
 | [],K=>K []
 | a::r,K=>fS r fun r=>K (a::r)
theorem yT {β:Type}:∀{l:List β} {K:List β→Option α},fS l K=K l
 | [],_=>rfl
 | a::r,K=>by simp only [fS];rw [yT]
def fL (p:PV) (K:PV→Option α):Option α:=match p with
 | .bool b=>fB b fun b=>K (.bool b)
 | .int k n=>fI n fun n=>K (.int k n)
 | .str s=>K (.str s)
 | .agg cs=>K (.agg cs)
 | .aI l=>K (.aI l)
theorem LF {p:PV} {K:PV→Option α}:fL p K=K p:=by cases p<;>simp [fL,sf,H6]
def Oz:List PV→(List PV→Option α)→Option α
 | [],K=>K []
 | a::r,K=>fL a fun a=>Oz r fun r=>K (a::r)
theorem B0:∀{l:List PV} {K:List PV→Option α},Oz l K=K l
 | [],_=>rfl
 | a::r,K=>by simp only [Oz];rw [LF,B0]
def fP (p:PV) (K:PV→Option α):Option α:=match p with
 | .agg cs=>Oz cs fun cs=>K (.agg cs)
 | p=>fL p K
theorem H7 {p:PV} {K:PV→Option α}:fP p K=K p:=by cases p<;>simp [fP,B0,LF]
def Ql (v:AV) (K:AV→Option α):Option α:=match v with
 | .un=>K .un
 | .pv p=>fP p fun p=>K (.pv p)
 | .bM l=>K (.bM l)
 | .own l τ=>fN τ fun τ=>K (.own l τ)
 | .agg cs=>K (.agg cs)
 | .pg cs=>K (.pg cs)
 | .aG a b=>fN a fun a=>fN b fun b=>K (.aG a b)
 | .br a b=>fN a fun a=>fN b fun b=>K (.br a b)
 | .gf cs=>fS cs fun cs=>K (.gf cs)
 | .bE a b c d=>fN a fun a=>fN c fun c=>K (.bE a b c d)
 | .fn g c=>K (.fn g c)
 | .jN=>K .jN
 | .jO s=>fN s fun s=>K (.jO s)
 | .fF kvs=>fS kvs fun kvs=>K (.fF kvs)
 | .oA a b c=>fN a fun a=>fN b fun b=>fN c fun c=>K (.oA a b c)
 | .jP a b=>fN a fun a=>fN b fun b=>K (.jP a b)
theorem H8 {v:AV} {K:AV→Option α}:Ql v K=K v:=by cases v<;>simp [Ql,H7,pZ,yT]
def Ky:List AV→(List AV→Option α)→Option α
 | [],K=>K []
 | a::r,K=>Ql a fun a=>Ky r fun r=>K (a::r)
theorem sj:∀{l:List AV} {K:List AV→Option α},Ky l K=K l
 | [],_=>rfl
 | a::r,K=>by simp only [Ky];rw [H8,sj]
def fA (v:AV) (K:AV→Option α):Option α:=match v with
 | .agg cs=>Ky cs fun cs=>K (.agg cs)
 | .pg cs=>Ky cs fun cs=>K (.pg cs)
 | .fn g cs=>Ky cs fun cs=>K (.fn g cs)
 | v=>Ql v K
theorem p6 {v:AV} {K:AV→Option α}:fA v K=K v:=by cases v<;>simp [fA,sj,H8]
def OA:List AV→(List AV→Option α)→Option α
 | [],K=>K []
 | a::r,K=>fA a fun a=>OA r fun r=>K (a::r)
theorem sk:∀{l:List AV} {K:List AV→Option α},OA l K=K l
 | [],_=>rfl
 | a::r,K=>by simp only [OA];rw [p6,sk]
def fV (v:AV) (K:AV→Option α):Option α:=match v with
 | .pv (.str s)=>fS s fun s=>K (.pv (.str s))
 | .pv (.aI l)=>fS l fun l=>K (.pv (.aI l))
 | .bM l=>fS l fun l=>Oz l fun l=>K (.bM l)
 | .own l τ=>fS l fun l=>fN τ fun τ=>K (.own l τ)
 | v=>fA v K
theorem H9 {v:AV} {K:AV→Option α}:fV v K=K v:=by
 cases v with
 | pv p=>cases p<;>simp [fV,yT,p6]
 | _=>simp [fV,yT,p6,B0,pZ]
def OB:List PV→(List PV→Option α)→Option α
 | [],K=>K []
 | a::r,K=>fP a fun a=>OB r fun r=>K (a::r)
theorem H_:∀{l:List PV} {K:List PV→Option α},OB l K=K l
 | [],_=>rfl
 | a::r,K=>by simp only [OB];rw [H7,H_]
def fresh:AK→Bool
 | .v (.aT _) | .v (.slice ..) | .append .. | .v (.bin .add)=>true
 | _=>false
def Ro (op:AK) (v:AV) (K:AV→Option α):Option α:=match op,v with
 | .v (.aT _),.bM l=>OB l fun l=>K (.bM l)
 | op,v=>if fresh op then fV v K else fA v K
def fO {β:Type} (f:β→(β→Option α)→Option α) (o:Option β) (K:Option β→Option α):Option α:=match o with
 | none=>K none
 | some x=>f x fun x=>K (some x)
theorem OC {β:Type} {f:β→(β→Option α)→Option α} (hf:∀x K,f x K=K x) {o:Option β} {K:Option β→Option α}:fO f o K=K o:=by cases o<;>simp [fO,hf]
def NR:Sh→(Sh→Option α)→Option α
 | [],K=>K []
 | a::r,K=>fO Ky a fun a=>NR r fun r=>K (a::r)
theorem oV:∀{l:Sh} {K:Sh→Option α},NR l K=K l
 | [],_=>rfl
 | a::r,K=>by simp only [NR];rw [OC (fun _ _=>sj),oV]
def fT:aN→(aN→Option α)→Option α
 | [],K=>K []
 | a::r,K=>fN a fun a=>fT r fun r=>K (a::r)
theorem ur:∀{l:aN} {K:aN→Option α},fT l K=K l
 | [],_=>rfl
 | a::r,K=>by simp only [fT];rw [pZ,ur]
def QL {β:Type}:List (Nat×β)→Nat→β→(List (Nat×β)→Option α)→Option α
 | [],t,u,K=>K [(t,u)]
 | (k,v)::r,t,u,K=>if k=t then K ((k,u)::r) else QL r t u fun r=>K ((k,v)::r)
def Kz:List (Nat×AV)→(List (Nat×AV)→Option α)→Option α
 | [],K=>K []
 | (t,v)::r,K=>fA v fun v=>Kz r fun r=>K ((t,v)::r)
theorem CL:∀{l:List (Nat×AV)} {K:List (Nat×AV)→Option α},Kz l K=K l
 | [],_=>rfl
 | (t,v)::r,K=>by simp only [Kz];rw [p6,CL]
def KA:List (Nat×List AV)→(List (Nat×List AV)→Option α)→Option α
 | [],K=>K []
 | (t,v)::r,K=>Ky v fun v=>KA r fun r=>K ((t,v)::r)
theorem CM:∀{l:List (Nat×List AV)} {K:List (Nat×List AV)→Option α},KA l K=K l
 | [],_=>rfl
 | (t,v)::r,K=>by simp only [KA];rw [sj,CM]
def MV (st:St) (K:St→Option α):Option α:=match st with
 | ⟨env,mem,sh,ah⟩=>Kz env fun env=>KA mem fun mem=>NR sh fun sh=>fT ah fun ah=>K ⟨env,mem,sh,ah⟩
theorem sq {st:St} {K:St→Option α}:MV st K=K st:=by
 obtain ⟨env,mem,sh,ah⟩:=st;simp only [MV];rw [CL,CM,oV,ur]
def lk {β:Type}:List (Nat×β)→Nat→Option β
 | [],_=>none
 | (k,v)::r,t=>bif Nat.beq k t then some v else lk r t
theorem uu {β:Type}:∀{l:List (Nat×β)} {t:Nat},lk l t=look l t
 | [],_=>rfl
 | (k,v)::r,t=>by
   simp only [lk,look];rw [uu];by_cases h:k=t
   · subst h;simp
   · rw [if_neg h,show Nat.beq k t=false from by rw [Bool.eq_false_iff];intro e;exact h (Nat.eq_of_beq_eq_true e)];rfl
def pt {β:Type}:List (Nat×β)→Nat→β→(List (Nat×β)→Option α)→Option α
 | [],t,u,K=>K [(t,u)]
 | (k,v)::r,t,u,K=>bif Nat.beq k t then K ((k,u)::r) else pt r t u fun r=>K ((k,v)::r)
theorem Ia {β:Type}:∀{l:List (Nat×β)} {t:Nat} {u:β} {K:List (Nat×β)→Option α},pt l t u K=K (dO l t u)
 | [],_,_,_=>rfl
 | (k,v)::r,t,u,K=>by
   simp only [pt,dO];by_cases h:k=t
   · subst h;simp
   · rw [if_neg h,show Nat.beq k t=false from by rw [Bool.eq_false_iff];intro e;exact h (Nat.eq_of_beq_eq_true e)];exact Ia
def od (env:List (Nat×AV)) (x:e8) (K:AV→Option α):Option α:=match x with
 | .t n=>match lk env n with
   | some v=>K v
   | none=>none
 | .c v=>K v
theorem OD {env:List (Nat×AV)} {x:e8} {K:AV→Option α}:od env x K=(gY env x).bind K:=by
 cases x with
 | t n=>simp only [od,gY,uu];cases look env n<;>rfl
 | c v=>rfl
def NT (env:List (Nat×AV)):List e8→(List AV→Option α)→Option α
 | [],K=>K []
 | x::r,K=>od env x fun v=>NT env r fun vs=>K (v::vs)
theorem Ib {env:List (Nat×AV)}:∀{l:List e8} {K:List AV→Option α},NT env l K=(ei env l).bind K
 | [],_=>rfl
 | x::r,K=>by
   simp only [NT,ei];rw [OD];cases gY env x with
   | none=>rfl
   | some v=>
     dsimp only [Option.bind_some];rw [Ib];cases ei env r<;>rfl
def MW:IntKind→Nat
 | .i8=>0 | .i16=>1 | .i32=>2 | .i64=>3 | .u8=>4 | .u16=>5 | .u32=>6 | .u64=>7
theorem KB {a b:IntKind} (h:Nat.beq (MW a) (MW b)=true):a=b:=by
 have:=Nat.eq_of_beq_eq_true h;cases a<;>cases b<;>first | rfl | (simp [MW] at this)
def Qm:Int→Int→Bool
 | .ofNat a,.ofNat b=>Nat.beq a b
 | .negSucc a,.negSucc b=>Nat.beq a b
 | _,_=>false
theorem QM {a b:Nat}:Nat.beq a b=decide (a=b):=by
 by_cases h:a=b
 · subst h;simp
 · rw [decide_eq_false h,Bool.eq_false_iff];intro e;exact h (Nat.eq_of_beq_eq_true e)
theorem Ic {a b:Int}:Qm a b=(a == b):=by
 cases a<;>cases b<;>(rw [Bool.eq_iff_iff];simp [Qm,QM])<;>omega
def NU:Int→Int→Bool
 | .ofNat a,.ofNat b=>Nat.blt a b
 | .negSucc a,.negSucc b=>Nat.blt b a
 | .negSucc _,.ofNat _=>true
 | .ofNat _,.negSucc _=>false
theorem v7 {a b:Int}:NU a b=decide (a<b):=by
 cases a<;>cases b<;>(rw [Bool.eq_iff_iff];simp [NU,Nat.blt_eq])<;>omega
def MX (k:IntKind) (a b:Int) (K:Int→Option α):Option α:=match k,a,b with
 | .i64,.ofNat x,.ofNat y=>bif Nat.blt (x+y) 4611686018427387904 then fN (x+y) fun n=>K (.ofNat n) else fI (IntKind.i64.wrap (.ofNat x+.ofNat y)) K
 | k,a,b=>fI (k.wrap (a+b)) K
theorem KD {k:IntKind} {a b:Int} {K:Int→Option α}:MX k a b K=K (k.wrap (a+b)):=by
 unfold MX;split
 · rename_i x y;cases h:Nat.blt (x+y) 4611686018427387904 with
   | false=>simp only [cond_false];exact H6
   | true=>
     simp only [cond_true,pZ];have:x+y<4611686018427387904:=by simpa [Nat.blt_eq] using h
     congr 1;simp [IntKind.wrap,IntKind.bits,IntKind.signed];omega
 · exact H6
def MY (op:BinOp) (a b:AV) (K:AV→Option α):Option α:=match a with
 | .pv (.int k x)=>match b with
   | .pv (.int k' y)=>bif Nat.beq (MW k) (MW k') then (match op with
       | .eql=>fB (Qm x y) fun c=>K (.pv (.bool c))
       | .neq=>fB (!Qm x y) fun c=>K (.pv (.bool c))
       | .lss=>fB (NU x y) fun c=>K (.pv (.bool c))
       | .gtr=>fB (NU y x) fun c=>K (.pv (.bool c))
       | .geq=>fB (!NU x y) fun c=>K (.pv (.bool c))
       | .leq=>fB (!NU y x) fun c=>K (.pv (.bool c))
       | .add=>MX k x y fun n=>K (.pv (.int k n))
       | op=>(dU op a b).bind fun v=>fV v K)
     else (dU op a b).bind fun v=>fV v K
   | b=>(dU op a b).bind fun v=>fV v K
 | a=>(dU op a b).bind fun v=>fV v K
theorem KE {op:BinOp} {a b:AV} {K:AV→Option α}:MY op a b K=(dU op a b).bind K:=by
 have dflt:((dU op a b).bind fun v=>fV v K)=(dU op a b).bind K:=by
   congr 1;funext v;exact H9
 unfold MY;split
 · rename_i k x;split
   · rename_i k' y;cases hk:Nat.beq (MW k) (MW k') with
     | false=>exact dflt
     | true=>
       obtain rfl:=KB hk;simp only [cond_true];split
       · simp [sf,Ic,dU]
       · simp [sf,Ic,dU,bne]
       · simp [sf,v7,dU]
       · simp [sf,v7,dU]
       · simp [sf,v7,dU,←decide_not,Int.not_lt]
       · simp [sf,v7,dU,←decide_not,Int.not_lt]
       · simp [KD,dU]
       · exact dflt
   · exact dflt
 · exact dflt
def Q9 (off:Nat) (x:AV) (K:AV→Option α):Option α:=match x with
 | .aG d o=>fN (o+off) fun n=>K (.aG d n)
 | .br b o=>fN (o+off) fun n=>K (.br b n)
 | .gf cs=>fS (cs.drop off) fun cs=>K (.gf cs)
 | _=>none
def nth {β:Type}:List β→Nat→Option β
 | [],_=>none
 | a::r,n=>match n with
   | 0=>some a
   | n+1=>nth r n
theorem B1 {β:Type}:∀{l:List β} {n:Nat},nth l n=l[n]?
 | [],n=>by simp [nth]
 | a::r,0=>rfl
 | a::r,n+1=>by simp only [nth,List.getElem?_cons_succ];exact B1
def ln {β:Type}:List β→Nat→(Nat→Option α)→Option α
 | [],n,K=>K n
 | _::r,n,K=>fN (n+1) fun n=>ln r n K
theorem CN {β:Type}:∀{l:List β} {n:Nat} {K:Nat→Option α},ln l n K=K (n+l.length)
 | [],n,K=>rfl
 | _::r,n,K=>by
   simp only [ln];rw [pZ,CN];congr 1;simp;omega
def xV (o:s9) (vals:List AV) (K:AV→Option α):Option α:=match o with
 | .mv=>match vals with
   | [x]=>K x
   | vals=>(cf .mv vals).bind fun v=>fA v K
 | .bin op=>match vals with
   | [a,b]=>MY op a b K
   | vals=>(cf (.bin op) vals).bind fun v=>fA v K
 | .aS off=>match vals with
   | [x]=>Q9 off x K
   | vals=>(cf (.aS off) vals).bind fun v=>fA v K
 | .bo=>match vals with
   | [.aG a b]=>K (.aG a b)
   | [.br a b]=>K (.br a b)
   | vals=>(cf .bo vals).bind fun v=>fA v K
 | .index=>match vals with
   | [.pv (.str s),.pv (.int _ (.ofNat i))]=>match nth s i with
     | some b=>fN b.toNat fun n=>K (.pv (.int .u8 (.ofNat n)))
     | none=>none
   | vals=>(cf .index vals).bind fun v=>fA v K
 | .jn=>match vals with
   | [.pv (.str s)]=>ln s 0 fun n=>K (.pv (.int .i64 (.ofNat n)))
   | vals=>(cf .jn vals).bind fun v=>fA v K
 | .len=>match vals with
   | [.pv (.aI l)]=>ln l 0 fun n=>K (.pv (.int .i64 (.ofNat n)))
   | [.own l _]=>ln l 0 fun n=>K (.pv (.int .i64 (.ofNat n)))
   | vals=>(cf .len vals).bind fun v=>fA v K
 | .aT sz=>match cf (.aT sz) vals with
   | some (.bM l)=>OB l fun l=>K (.bM l)
   | some v=>K v
   | none=>none
 | .slice a b c d e=>(cf (.slice a b c d e) vals).bind fun v=>fV v K
 | o=>(cf o vals).bind fun v=>fA v K
theorem OE {o:s9} {vals:List AV} {K:AV→Option α}:xV o vals K=(cf o vals).bind K:=by
 have dA:∀o vals,((cf o vals).bind fun v=>fA v K)=(cf o vals).bind K:=by
   intro o vals;congr 1;funext v;exact p6
 unfold xV;split
 · split
   · rfl
   · exact dA _ _
 · split
   · exact KE
   · exact dA _ _
 · split
   · rename_i x;cases x<;>simp [Q9,cf,pZ,yT]
   · exact dA _ _
 · split
   · rfl
   · rfl
   · exact dA _ _
 · split
   · rename_i s k i;rw [B1];have hi:¬(Int.ofNat i<0):=by simp
     simp only [cf];rw [if_neg hi];simp only [Int.toNat_natCast,Int.ofNat_eq_natCast];cases s[i]? with
     | none=>rfl
     | some b=>simp [pZ]
   · exact dA _ _
 · split
   · simp [CN,cf]
   · exact dA _ _
 · split
   · simp [CN,cf,cR]
   · simp [CN,cf,cR]
   · exact dA _ _
 · split
   · rename_i l h;rw [h,H_];rfl
   · rename_i h;rw [h];rfl
   · rename_i h;rw [h];rfl
 · congr 1;funext v;exact H9
 · exact dA _ _
def lay (env:List (Nat×AV)) (mem:List (Nat×List AV)) (sh:Sh) (ah:aN) (d:Option Nat) (v:AV) (K:St→Option α):Option α:=match d with
 | some d=>pt env d v fun env=>K ⟨env,mem,sh,ah⟩
 | none=>K ⟨env,mem,sh,ah⟩
theorem lH {env:List (Nat×AV)} {mem:List (Nat×List AV)} {sh:Sh} {ah:aN} {d:Option Nat} {v:AV} {K:St→Option α}:lay env mem sh ah d v K=K ⟨fY env d v,mem,sh,ah⟩:=by
 cases d<;>simp [lay,fY,Ia]
def MZ (mem:List (Nat×List AV)) (k:Nat) (cs:Option (List AV)) (K:List (Nat×List AV)→Option α):Option α:=match cs with
 | some cs=>Ky cs fun cs=>pt mem k cs K
 | none=>K mem
theorem KF {mem:List (Nat×List AV)} {k:Nat} {cs:Option (List AV)} {K:List (Nat×List AV)→Option α}:MZ mem k cs K=K (e_ mem (some k) cs):=by
 cases cs<;>simp [MZ,e_,sj,Ia]
def Ie (orc:ep) (op:AK) (d:Option Nat) (vals:List AV) (env:List (Nat×AV)) (mem:List (Nat×List AV)) (sh:Sh) (ah:aN) (K:St→Option α):Option α:=
 match exec orc op vals (op.key.bind (look mem)) sh ah with
 | none=>none
 | some ⟨val,cells,sh',toks'⟩=>fV val fun val=>(match op.key with | some k=>MZ mem k cells | none=>fun K=>K mem) fun mem=>NR sh' fun sh'=>fT toks' fun toks'=>lay env mem sh' toks' d val K
theorem v_ {orc:ep} {op:AK} {d:Option Nat} {vals:List AV} {env:List (Nat×AV)} {mem:List (Nat×List AV)} {sh:Sh} {ah:aN} {K:St→Option α} :
   Ie orc op d vals env mem sh ah K=(match exec orc op vals (op.key.bind (look mem)) sh ah with
     | none=>none
     | some out=>some (⟨fY env d out.val,e_ mem op.key out.cells,out.sh,out.ah⟩:St)).bind K:=by
 unfold Ie;cases exec orc op vals (op.key.bind (look mem)) sh ah with
 | none=>rfl
 | some out=>
   obtain ⟨val,cells,sh',toks'⟩:=out;simp only [H9,Option.bind_some];cases op.key with
   | none=>simp only [oV,ur,lH];cases cells<;>rfl
   | some k=>simp only [KF,oV,ur,lH]
def xP (orc:ep) (g:Nat) (vals:List AV) (K:AV→Option α):Option α:=match dF [] vals with
 | some dC=>match orc.p g dC with
   | some rs=>fA (qQ rs) K
   | none=>none
 | none=>none
def x1 (orc:ep) (op:AK) (d:Option Nat) (vals:List AV) (env:List (Nat×AV)) (mem:List (Nat×List AV)) (sh:Sh) (ah:aN) (K:St→Option α):Option α:=match op with
 | .v o=>xV o vals fun v=>lay env mem sh ah d v K
 | .aq g=>xP orc g vals fun v=>lay env mem sh ah d v K
 | .aU key off sz ag=>match vals with
   | [.aG d' o]=>match lk mem key with
     | some cs=>bif Nat.beq d' key && Nat.beq o off then (match cA ag sz cs off with
         | some v=>fA v fun v=>lay env mem sh ah d v K
         | none=>none) else none
     | none=>none
   | vals=>Ie orc (.aU key off sz ag) d vals env mem sh ah K
 | .bg sz ag=>match vals with
   | [.br b off]=>match nth sh b with
     | some (some cs)=>bif dr cs then none else (match cA ag sz cs off with
         | some v=>fA v fun v=>lay env mem sh ah d v K
         | none=>none)
     | _=>none
   | vals=>Ie orc (.bg sz ag) d vals env mem sh ah K
 | op=>Ie orc op d vals env mem sh ah K
theorem OF {orc:ep} {op:AK} {d:Option Nat} {vals:List AV} {env:List (Nat×AV)} {mem:List (Nat×List AV)} {sh:Sh} {ah:aN} {K:St→Option α} :
   x1 orc op d vals env mem sh ah K=(match exec orc op vals (op.key.bind (look mem)) sh ah with
     | none=>none
     | some out=>some (⟨fY env d out.val,e_ mem op.key out.cells,out.sh,out.ah⟩:St)).bind K:=by
 unfold x1;split
 · rename_i o;simp only [OE,lH,exec];cases cf o vals with
   | none=>rfl
   | some v=>rfl
 · rename_i g;simp only [xP,exec];cases dF [] vals with
   | none=>rfl
   | some dC=>
     dsimp only;cases orc.p g dC with
     | none=>rfl
     | some rs=>simp only [p6,lH];rfl
 · rename_i key off sz ag;split
   · rename_i d' o;rw [uu];have hk:((AK.aU key off sz ag).key.bind (look mem))=look mem key:=rfl;rw [hk];cases look mem key with
     | none=>simp [exec]
     | some cs=>
       simp only [exec];by_cases h:d'=key∧o=off
       · obtain ⟨rfl,rfl⟩:=h;simp only [Nat.beq_refl,Bool.and_self,cond_true,and_self,if_true];cases cA ag sz cs o with
         | none=>rfl
         | some v=>simp only [p6,lH];rfl
       · rw [if_neg h]
         have:(Nat.beq d' key && Nat.beq o off)=false:=by
           rw [Bool.eq_false_iff];intro e;simp only [Bool.and_eq_true] at e;exact h ⟨Nat.eq_of_beq_eq_true e.1,Nat.eq_of_beq_eq_true e.2⟩
         rw [this];rfl
   · exact v_
 · rename_i sz ag;split
   · rename_i b off;rw [B1];simp only [exec];split
     · rename_i cs h;rw [h];dsimp only;cases dr cs with
       | true=>rfl
       | false=>
         simp only [cond_false,Bool.false_eq_true,if_false];cases cA ag sz cs off with
         | none=>rfl
         | some v=>simp only [p6,lH];rfl
     · rename_i h;split
       · rfl
       · rename_i e1 e2 e3;split at e3
         · rename_i cs e4;exact absurd e4 (h cs)
         · cases e3
   · exact v_
 · exact v_
def Qn (orc:ep) (o:dv) (st:St) (K:St→Option α):Option α:=match st with
 | ⟨env,mem,sh,ah⟩=>match o with
   | ⟨d,g,args,op⟩=>match g with
     | none=>NT env args fun vals=>x1 orc op d vals env mem sh ah K
     | some (t,b)=>match lk env t with
       | some (.pv (.bool c))=>bif c == b then NT env args fun vals=>x1 orc op d vals env mem sh ah K else lay env mem sh ah d .un K
       | some .un=>lay env mem sh ah d .un K
       | _=>none
theorem M0 {orc:ep} {o:dv} {st:St} {K:St→Option α}:Qn orc o st K=(eg orc o st).bind K:=by
 obtain ⟨env,mem,sh,ah⟩:=st;obtain ⟨d,g,args,op⟩:=o
 have run:(NT env args fun vals=>x1 orc op d vals env mem sh ah K)=(match ei env args with
     | none=>none
     | some vals=>match exec orc op vals (op.key.bind (look mem)) sh ah with
       | none=>none
       | some out=>some (⟨fY env d out.val,e_ mem op.key out.cells,out.sh,out.ah⟩:St)).bind K:=by
   rw [Ib];cases ei env args with
   | none=>rfl
   | some vals=>exact OF
 cases g with
 | none=>simp only [Qn,eg,fG];exact run
 | some p=>
   obtain ⟨t,b⟩:=p;simp only [Qn,eg,fG,uu];split
   · rename_i c h;rw [h];dsimp only;cases hc:(c == b) with
     | true=>simp only [cond_true];exact run
     | false=>simp only [cond_false,lH];rfl
   · rename_i h;rw [h];simp only [lH];rfl
   · rename_i h1 h2;split
     · rfl
     · rename_i e;split at e<;>simp_all
     · rename_i e;split at e<;>simp_all
def KH (orc:ep):List dv→St→(St→Option α)→Option α
 | [],st,K=>K st
 | o::r,st,K=>Qn orc o st fun st=>KH orc r st K
theorem CO {orc:ep}:∀{l:List dv} {st:St} {K:St→Option α},KH orc l st K=(bQ orc l st).bind K
 | [],_,_=>rfl
 | o::r,st,K=>by
   simp only [KH,bQ];rw [M0];cases eg orc o st with
   | none=>rfl
   | some s=>exact CO
def CP (f:St→(bH→St→Option α)→Option α) (pre:St→St):Nat→St→(bH→St→Option α)→Option α
 | 0,_,_=>none
 | n+1,st,K=>MV (pre st) fun st=>f st fun e st=>match e with
   | .normal=>CP f pre n st K
   | e=>K e st
def LG (live:List Nat) (v:AV):Bool:=match v with
 | .aG d _=>live.contains d
 | .jP d _=>live.contains d
 | .pv _=>true
 | .own ..=>true
 | .agg cs=>fR cs
 | v=>cz v
theorem Ig {live:List Nat} {v:AV}:LG live v=en live v:=by cases v<;>rfl
def OG (live:List Nat) (env:List (Nat×AV)):List Nat→(List (Nat×AV)→Option α)→Option α
 | [],K=>K []
 | t::r,K=>match lk env t with
   | some v=>OG live env r fun e=>bif LG live v then K ((t,v)::e) else K e
   | none=>OG live env r K
theorem B2 {live:List Nat} {env:List (Nat×AV)}:∀{l:List Nat} {K:List (Nat×AV)→Option α},OG live env l K=K (cb live env l)
 | [],_=>rfl
 | t::r,K=>by
   simp only [OG,cb,uu];cases look env t with
   | none=>exact B2
   | some v=>
     dsimp only;rw [B2,Ig];cases en live v<;>simp
def OH (mem:List (Nat×List AV)):List Nat→(List (Nat×List AV)→Option α)→Option α
 | [],K=>K []
 | t::r,K=>match lk mem t with
   | some v=>OH mem r fun e=>K ((t,v)::e)
   | none=>OH mem r K
theorem B3 {mem:List (Nat×List AV)}:∀{l:List Nat} {K:List (Nat×List AV)→Option α},OH mem l K=K (ck mem l)
 | [],_=>rfl
 | t::r,K=>by
   simp only [OH,ck,uu];cases look mem t with
   | none=>exact B3
   | some v=>exact B3
def rs (live:List Nat) (st:St) (K:St→Option α):Option α:=match st with
 | ⟨env,mem,sh,ah⟩=>OG live env live fun env=>OH mem live fun mem=>K ⟨env,mem,sh,ah⟩
theorem OI {live:List Nat} {st:St} {K:St→Option α}:rs live st K=K (restrict live st):=by
 obtain ⟨env,mem,sh,ah⟩:=st;simp only [rs];rw [B2,B3];rfl
def LH (K:bH→St→Option α):Option (bH×St)→Option α
 | some (e,st)=>K e st
 | none=>none
def cF (orc:ep) (k:Nat):au→St→(bH→St→Option α)→Option α
 | .skip,st,K=>K .normal st
 | .bl ops live,st,K=>KH orc ops st fun st=>rs live st fun st=>K .normal st
 | .seq a b,st,K=>cF orc k a st fun e st=>match e with
   | .normal=>cF orc k b st K
   | e=>K e st
 | .cond c a b,st,K=>match gY st.env c with
   | some (.pv (.bool t))=>match t with
     | true=>cF orc k a st K
     | false=>cF orc k b st K
   | _=>none
 | .block id b,st,K=>cF orc k b st fun e st=>match e with
   | .exit id'=>if id'=id then K .normal st else K (.exit id') st
   | e=>K e st
 | .loop live b,st,K=>CP (cF orc k b) (fun s=>norm (restrict live s)) k st K
 | .back c gb pi px sz ag live x y,st,K=>LH K (de orc k (.back c gb pi px sz ag live x y) st)
 | .exit id,st,K=>K (.exit id) st
 | .ret,st,K=>K .ret st
 | .dR ts,st,K=>K .normal (mN ts st)
 | .Mn ds,st,K=>bif iE st.env ds then K .normal st else none
 | .lb ps,st,K=>MV (Gv ps st) fun st=>K .normal st
 | .lh ts,st,K=>MV (Gw ts st) fun st=>K .normal st
 | .Mo ts,st,K=>MV (nq ts st) fun st=>K .normal st
theorem yU {f:St→(bH→St→Option α)→Option α} {g:St→Option (bH×St)} {pre:St→St} (h:∀st K,f st K=LH K (g st)):∀{n:Nat} {st:St} {K:bH→St→Option α},CP f pre n st K=LH K (fu g pre n st)
 | 0,_,_=>rfl
 | n+1,st,K=>by
   simp only [CP,fu];rw [sq,h];cases g (pre st) with
   | none=>rfl
   | some q=>
     obtain ⟨e,s⟩:=q;cases e with
     | normal=>exact yU h
     | ret=>rfl
     | exit id=>rfl
theorem sr {orc:ep} {k:Nat}:∀{c:au} {st:St} {K:bH→St→Option α},cF orc k c st K=LH K (de orc k c st)
 | .skip,_,_=>rfl
 | .bl ops live,st,K=>by
   simp only [cF,de];rw [CO];cases bQ orc ops st with
   | none=>rfl
   | some s=>simp only [Option.bind_some,OI,LH]
 | .seq a b,st,K=>by
   simp only [cF,de];rw [sr];cases de orc k a st with
   | none=>rfl
   | some q=>
     obtain ⟨e,s⟩:=q;cases e with
     | normal=>simp only [LH];exact sr
     | ret=>rfl
     | exit id=>rfl
 | .cond c a b,st,K=>by
   simp only [cF,de];split
   · rename_i t h;rw [h];cases t with
     | true=>exact sr
     | false=>exact sr
   · rename_i h;split
     · rename_i t h';exact absurd h' (h t)
     · rfl
 | .block id b,st,K=>by
   simp only [cF,de];rw [sr];cases de orc k b st with
   | none=>rfl
   | some q=>
     obtain ⟨e,s⟩:=q;cases e with
     | normal=>rfl
     | ret=>rfl
     | exit id'=>
       simp only [LH];split<;>rfl
 | .loop live b,st,K=>by
   simp only [cF,de];exact yU (g:=de orc k b) fun _ _=>sr
 | .back c gb pi px sz ag live x y,_,_=>by simp only [cF]
 | .exit id,_,_=>rfl
 | .ret,_,_=>rfl
 | .dR _,_,_=>rfl
 | .Mn ds,st,K=>by
   simp only [cF,de];cases iE st.env ds<;>rfl
 | .lb ps,st,K=>by
   simp only [cF,de];rw [sq];rfl
 | .lh ps,st,K=>by
   simp only [cF,de];rw [sq];rfl
 | .Mo ps,st,K=>by
   simp only [cF,de];rw [sq];rfl
def KI (bq:Bool) (af:aD) (sh0:Sh) (e:bH) (st:St) (K:List AV→Sh→aN→Option α):Option α:=
 match e with
 | .exit _=>none
 | _=>match et st af.results with
   | some vs=>
     OA (cP bq af.ks st.sh vs) fun rs=>
     let sh':=if rs.all (aW sh0.length)=true then (eW bq af.ks st.sh vs).take sh0.length else eW bq af.ks st.sh vs
     if rs.all ct=true then
       match dm st.ah rs sh' with
       | (rs,sh,_,ts)=>OA rs fun rs=>NR sh fun sh=>fT ts fun ts=>K rs sh ts
     else none
   | none=>none
def FP (K:List AV→Sh→aN→Option α):Option (List AV×Sh×aN)→Option α
 | some (a,b,c)=>K a b c
 | none=>none
theorem KJ {bq:Bool} {af:aD} {sh0:Sh} {e:bH} {st:St} {K:List AV→Sh→aN→Option α}:KI bq af sh0 e st K=FP K (finish bq af sh0 (some (e,st))):=by
 cases e with
 | exit id=>rfl
 | normal=>
   simp only [KI,finish];cases et st af.results with
   | none=>rfl
   | some vs=>
     simp only [sk,or_true,if_true];split
     · simp only [sk,oV,ur,FP]
     · rfl
 | ret=>
   simp only [KI,finish];cases et st af.results with
   | none=>rfl
   | some vs=>
     simp only [sk,true_or,if_true];split
     · simp only [sk,oV,ur,FP]
     · rfl
def uv (orc:ep) (k:Nat) (bq:Bool) (af:aD) (args:List AV) (sh:Sh) (ts:aN) (K:List AV→Sh→aN→Option α):Option α:=
 MV { env:=cG 0 args,mem:=[],sh,ah:=ts } fun st=>cF orc k af.body st fun e st=>KI bq af sh e st K
theorem nW {orc:ep} {k:Nat} {bq:Bool} {af:aD} {args:List AV} {sh:Sh} {ts:aN} {K:List AV→Sh→aN→Option α}:uv orc k bq af args sh ts K=FP K (cH orc k bq af args sh ts):=by
 unfold uv;rw [sq,sr,gv];cases de orc k af.body { env:=cG 0 args,mem:=[],sh,ah:=ts } with
 | none=>rfl
 | some q=>obtain ⟨e,s⟩:=q;simp only [LH];exact KJ
def FQ (AP:Nat→Option aD) (k:Nat):Nat→ep
 | 0=>{ p:=fun _ _=>none,i:=fun _ _ _ _=>none }
 | n+1=>
   { p:=fun g dC=>match AP g with
       | some af=>match af.qb with
         | some f=>f.f (FQ AP k n).p dC
         | none=>if dC.length=af.nparams∧dC.length≤af.ntmps then uv (FQ AP k n) k false af (dC.map .pv) [] [] fun rs _ _=>fZ rs else none
       | none=>none
     i:=fun g args sh ts=>match AP g with
       | some af=>if args.length≤af.ntmps then uv (FQ AP k n) k true af args sh ts fun a b c=>some (a,b,c) else none
       | none=>none }
theorem CQ {AP:Nat→Option aD} {k:Nat}:∀n,FQ AP k n=run AP k n
 | 0=>rfl
 | n+1=>by
   have ih:=CQ (AP:=AP) (k:=k) n;simp only [FQ,run];congr 1
   · funext g dC
     cases AP g with
     | none=>rfl
     | some af=>
       dsimp only;cases af.qb with
       | some f=>dsimp only;rw [ih]
       | none=>
         dsimp only;split
         · rw [nW,ih];cases cH (run AP k n) k false af (dC.map .pv) [] [] with
           | none=>rfl
           | some q=>rfl
         · rfl
   · funext g args sh ts
     cases AP g with
     | none=>rfl
     | some af=>
       dsimp only;split
       · rw [nW,ih];cases cH (run AP k n) k true af args sh ts with
         | none=>rfl
         | some q=>rfl
       · rfl
theorem M1 {AP:Nat→Option aD} {k n g:Nat} {x rs:List PV} (h:(FQ AP k n).p g x=some rs):(aP AP).p g x=some rs:=by
 rw [CQ] at h;exact rJ (qq g x) (show (run AP (max k n) (max k n)).p g x=some rs from (c_ (Nat.le_max_right k n) (Nat.le_max_left k n)).p _ _ _ h)
def tJ (AP:Nat→Option aD) (ov:Nat→List PV→Option (List PV)) (k:Nat):Nat→ep
 | 0=>{ p:=ov,i:=fun _ _ _ _=>none }
 | n+1=>
   { p:=fun g dC=>match ov g dC with
       | some r=>some r
       | none=>match AP g with
         | some af=>match af.qb with
           | some f=>f.f (tJ AP ov k n).p dC
           | none=>if dC.length=af.nparams∧dC.length≤af.ntmps then uv (tJ AP ov k n) k false af (dC.map .pv) [] [] fun rs _ _=>fZ rs else none
         | none=>none
     i:=fun g args sh ts=>match AP g with
       | some af=>if args.length≤af.ntmps then uv (tJ AP ov k n) k true af args sh ts fun a b c=>some (a,b,c) else none
       | none=>none }
theorem yV {AP:Nat→Option aD} {orc:ep} {k:Nat} {bq:Bool} {af:aD} {args:List AV} {sh:Sh} {ts:aN} {r:List AV×Sh×aN} (hle:orc.le (aP AP)) (h:cH orc k bq af args sh ts=some r):mH AP bq af args sh ts=some r:=by
 rw [gv] at h;unfold mH;cases hc:de orc k af.body { env:=cG 0 args,mem:=[],sh,ah:=ts } with
 | none=>rw [hc] at h;simp [finish] at h
 | some q=>
   rw [kP (cN hle (Nat.le_refl k) hc)];rw [hc] at h;exact h
theorem CR {AP:Nat→Option aD} {ov:Nat→List PV→Option (List PV)} {k:Nat} (hov:∀g x r,ov g x=some r→(aP AP).p g x=some r):∀n,(tJ AP ov k n).le (aP AP)
 | 0=>⟨hov,fun g x s t r h=>by simp [tJ] at h⟩
 | n+1=>by
   have ih:=CR (k:=k) hov n;refine ⟨fun g x r h=>?_,fun g x s t r h=>?_⟩
   · simp only [tJ] at h;split at h
     · rename_i r' e;rw [←h];exact hov g x r' e
     · split at h
       · rename_i af hg;cases hp:af.qb with
         | some f=>rw [hp] at h;rw [JU hg hp];exact f.mono ih.p h
         | none=>
           rw [hp] at h;simp only [Option.ite_none_right_eq_some] at h;obtain ⟨⟨h1,h2⟩,h⟩:=h;rw [nW] at h;rw [LB hg hp h1 h2];cases hb:cH (tJ AP ov k n) k false af (x.map .pv) [] [] with
           | none=>rw [hb] at h;simp [FP] at h
           | some q=>rw [yV ih hb];rw [hb] at h;exact h
       · cases h
   · simp only [tJ] at h;split at h
     · rename_i af hg;simp only [Option.ite_none_right_eq_some] at h;obtain ⟨h2,h⟩:=h;rw [nW] at h;rw [LC hg h2];cases hb:cH (tJ AP ov k n) k true af x s t with
       | none=>rw [hb] at h;simp [FP] at h
       | some q=>rw [yV ih hb];rw [hb] at h;exact h
     · cases h
theorem LI {AP:Nat→Option aD} {ov:Nat→List PV→Option (List PV)} {k n g:Nat} {x rs:List PV} (hov:∀g x r,ov g x=some r→(aP AP).p g x=some r) (h:(tJ AP ov k n).p g x=some rs):(aP AP).p g x=some rs:=(CR hov n).p _ _ _ h
end Go.Ab.Fc
