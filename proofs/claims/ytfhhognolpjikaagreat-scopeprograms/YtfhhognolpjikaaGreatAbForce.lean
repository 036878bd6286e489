import Derived.Test.YtfhhognolpjikaaGreatAbLim
/-
  The evaluator for the kernel: what an operation lays is brought to its last form at once. It answers as the evaluator does.
-/
set_option linter.unusedVariables false
set_option linter.unusedSimpArgs false
set_option maxRecDepth 100000
set_option maxHeartbeats 8000000
namespace Go.Ab.Fc
variable {α:Type}
def fN (n:Nat) (K:Nat→Option α):Option α:=match n with
 | 0=>K 0
 | m+1=>K (m+1)
theorem pB {n:Nat} {K:Nat→Option α}:fN n K=K n:=by cases n<;>rfl
def fI (n:Int) (K:Int→Option α):Option α:=match n with
 | .ofNat m=>fN m fun m=>K (.ofNat m)
 | .negSucc m=>fN m fun m=>K (.negSucc m)
theorem H9 {n:Int} {K:Int→Option α}:fI n K=K n:=by cases n<;>simp [fI,pB]
def fB (b:Bool) (K:Bool→Option α):Option α:=match b with
 | true=>K true
 | false=>K false
theorem ri {b:Bool} {K:Bool→Option α}:fB b K=K b:=by cases b<;>rfl
def fS {β:Type}:List β→(List β→Option α)→Option α
 | [],K=>K []
 | a::r,K=>fS r fun r=>K (a::r)
theorem xK {β:Type}:∀{l:List β} {K:List β→Option α},fS l K=K l
 | [],_=>rfl
 | a::r,K=>by simp only [fS];rw [xK]
def fL (p:PV) (K:PV→Option α):Option α:=match p with
 | .bool b=>fB b fun b=>K (.bool b)
 | .int k n=>fI n fun n=>K (.int k n)
 | .str s=>K (.str s)
 | .agg cs=>K (.agg cs)
 | .aD l=>K (.aD l)
theorem LM {p:PV} {K:PV→Option α}:fL p K=K p:=by cases p<;>simp [fL,ri,H9]
def Oz:List PV→(List PV→Option α)→Option α
 | [],K=>K []
 | a::r,K=>fL a fun a=>Oz r fun r=>K (a::r)
theorem Bw:∀{l:List PV} {K:List PV→Option α},Oz l K=K l
 | [],_=>rfl
 | a::r,K=>by simp only [Oz];rw [LM,Bw]
def fP (p:PV) (K:PV→Option α):Option α:=match p with
 | .agg cs=>Oz cs fun cs=>K (.agg cs)
 | p=>fL p K
theorem H_ {p:PV} {K:PV→Option α}:fP p K=K p:=by cases p<;>simp [fP,Bw,LM]
def Qf (v:AV) (K:AV→Option α):Option α:=match v with
 | .un=>K .un
 | .pv p=>fP p fun p=>K (.pv p)
 | .bD l=>K (.bD l)
 | .own l τ=>fN τ fun τ=>K (.own l τ)
 | .agg cs=>K (.agg cs)
 | .lL cs=>K (.lL cs)
 | .az a b=>fN a fun a=>fN b fun b=>K (.az a b)
 | .a_ a b=>fN a fun a=>fN b fun b=>K (.a_ a b)
 | .dz cs=>fS cs fun cs=>K (.dz cs)
 | .bu a b c d=>fN a fun a=>fN c fun c=>K (.bu a b c d)
 | .fn g c=>K (.fn g c)
 | .dw=>K .dw
 | .cv s=>fN s fun s=>K (.cv s)
 | .du kvs=>fS kvs fun kvs=>K (.du kvs)
 | .lZ a b c=>fN a fun a=>fN b fun b=>fN c fun c=>K (.lZ a b c)
theorem Ia {v:AV} {K:AV→Option α}:Qf v K=K v:=by cases v<;>simp [Qf,H_,pB,xK]
def KN:List AV→(List AV→Option α)→Option α
 | [],K=>K []
 | a::r,K=>Qf a fun a=>KN r fun r=>K (a::r)
theorem rj:∀{l:List AV} {K:List AV→Option α},KN l K=K l
 | [],_=>rfl
 | a::r,K=>by simp only [KN];rw [Ia,rj]
def fA (v:AV) (K:AV→Option α):Option α:=match v with
 | .agg cs=>KN cs fun cs=>K (.agg cs)
 | .lL cs=>KN cs fun cs=>K (.lL cs)
 | .fn g cs=>KN cs fun cs=>K (.fn g cs)
 | v=>Qf v K
theorem pD {v:AV} {K:AV→Option α}:fA v K=K v:=by cases v<;>simp [fA,rj,Ia]
def OA:List AV→(List AV→Option α)→Option α
 | [],K=>K []
 | a::r,K=>fA a fun a=>OA r fun r=>K (a::r)
theorem rm:∀{l:List AV} {K:List AV→Option α},OA l K=K l
 | [],_=>rfl
 | a::r,K=>by simp only [OA];rw [pD,rm]
def fV (v:AV) (K:AV→Option α):Option α:=match v with
 | .pv (.str s)=>fS s fun s=>K (.pv (.str s))
 | .pv (.aD l)=>fS l fun l=>K (.pv (.aD l))
 | .bD l=>fS l fun l=>Oz l fun l=>K (.bD l)
 | .own l τ=>fS l fun l=>fN τ fun τ=>K (.own l τ)
 | v=>fA v K
theorem Ib {v:AV} {K:AV→Option α}:fV v K=K v:=by
 cases v with
 | pv p=>cases p<;>simp [fV,xK,pD]
 | _=>simp [fV,xK,pD,Bw,pB]
def OB:List PV→(List PV→Option α)→Option α
 | [],K=>K []
 | a::r,K=>fP a fun a=>OB r fun r=>K (a::r)
theorem Ic:∀{l:List PV} {K:List PV→Option α},OB l K=K l
 | [],_=>rfl
 | a::r,K=>by simp only [OB];rw [H_,Ic]
def fresh:AK→Bool
 | .v (.aT _) | .v (.slice ..) | .append .. | .v (.bin .add)=>true
 | _=>false
def Q' (op:AK) (v:AV) (K:AV→Option α):Option α:=match op,v with
 | .v (.aT _),.bD l=>OB l fun l=>K (.bD l)
 | op,v=>if fresh op then fV v K else fA v K
def fO {β:Type} (f:β→(β→Option α)→Option α) (o:Option β) (K:Option β→Option α):Option α:=match o with
 | none=>K none
 | some x=>f x fun x=>K (some x)
theorem OC {β:Type} {f:β→(β→Option α)→Option α} (hf:∀x K,f x K=K x) {o:Option β} {K:Option β→Option α}:fO f o K=K o:=by cases o<;>simp [fO,hf]
def NX:Sh→(Sh→Option α)→Option α
 | [],K=>K []
 | a::r,K=>fO KN a fun a=>NX r fun r=>K (a::r)
theorem ot:∀{l:Sh} {K:Sh→Option α},NX l K=K l
 | [],_=>rfl
 | a::r,K=>by simp only [NX];rw [OC (fun _ _=>rj),ot]
def fT:aM→(aM→Option α)→Option α
 | [],K=>K []
 | a::r,K=>fN a fun a=>fT r fun r=>K (a::r)
theorem td:∀{l:aM} {K:aM→Option α},fT l K=K l
 | [],_=>rfl
 | a::r,K=>by simp only [fT];rw [pB,td]
def Qu {β:Type}:List (Nat×β)→Nat→β→(List (Nat×β)→Option α)→Option α
 | [],t,u,K=>K [(t,u)]
 | (k,v)::r,t,u,K=>if k=t then K ((k,u)::r) else Qu r t u fun r=>K ((k,v)::r)
def KO:List (Nat×AV)→(List (Nat×AV)→Option α)→Option α
 | [],K=>K []
 | (t,v)::r,K=>fA v fun v=>KO r fun r=>K ((t,v)::r)
theorem Cc:∀{l:List (Nat×AV)} {K:List (Nat×AV)→Option α},KO l K=K l
 | [],_=>rfl
 | (t,v)::r,K=>by simp only [KO];rw [pD,Cc]
def KP:List (Nat×List AV)→(List (Nat×List AV)→Option α)→Option α
 | [],K=>K []
 | (t,v)::r,K=>KN v fun v=>KP r fun r=>K ((t,v)::r)
theorem Cd:∀{l:List (Nat×List AV)} {K:List (Nat×List AV)→Option α},KP l K=K l
 | [],_=>rfl
 | (t,v)::r,K=>by simp only [KP];rw [rj,Cd]
def Qg (st:St) (K:St→Option α):Option α:=match st with
 | ⟨env,mem,sh,ah⟩=>KO env fun env=>KP mem fun mem=>NX sh fun sh=>fT ah fun ah=>K ⟨env,mem,sh,ah⟩
theorem Ie {st:St} {K:St→Option α}:Qg st K=K st:=by
 obtain ⟨env,mem,sh,ah⟩:=st
 simp only [Qg];rw [Cc,Cd,ot,td]
def lk {β:Type}:List (Nat×β)→Nat→Option β
 | [],_=>none
 | (k,v)::r,t=>bif Nat.beq k t then some v else lk r t
theorem te {β:Type}:∀{l:List (Nat×β)} {t:Nat},lk l t=look l t
 | [],_=>rfl
 | (k,v)::r,t=>by
   simp only [lk,look]
   rw [te]
   by_cases h:k=t
   · subst h;simp
   · rw [if_neg h,show Nat.beq k t=false from by rw [Bool.eq_false_iff];intro e;exact h (Nat.eq_of_beq_eq_true e)]
     rfl
def pt {β:Type}:List (Nat×β)→Nat→β→(List (Nat×β)→Option α)→Option α
 | [],t,u,K=>K [(t,u)]
 | (k,v)::r,t,u,K=>bif Nat.beq k t then K ((k,u)::r) else pt r t u fun r=>K ((k,v)::r)
theorem Ig {β:Type}:∀{l:List (Nat×β)} {t:Nat} {u:β} {K:List (Nat×β)→Option α},pt l t u K=K (dL l t u)
 | [],_,_,_=>rfl
 | (k,v)::r,t,u,K=>by
   simp only [pt,dL]
   by_cases h:k=t
   · subst h;simp
   · rw [if_neg h,show Nat.beq k t=false from by rw [Bool.eq_false_iff];intro e;exact h (Nat.eq_of_beq_eq_true e)]
     exact Ig
def od (env:List (Nat×AV)) (x:eL) (K:AV→Option α):Option α:=match x with
 | .t n=>match lk env n with
   | some v=>K v
   | none=>none
 | .c v=>K v
theorem OD {env:List (Nat×AV)} {x:eL} {K:AV→Option α}:od env x K=(gJ env x).bind K:=by
 cases x with
 | t n=>simp only [od,gJ,te];cases look env n<;>rfl
 | c v=>rfl
def NY (env:List (Nat×AV)):List eL→(List AV→Option α)→Option α
 | [],K=>K []
 | x::r,K=>od env x fun v=>NY env r fun vs=>K (v::vs)
theorem Ih {env:List (Nat×AV)}:∀{l:List eL} {K:List AV→Option α},NY env l K=(d5 env l).bind K
 | [],_=>rfl
 | x::r,K=>by
   simp only [NY,d5]
   rw [OD]
   cases gJ env x with
   | none=>rfl
   | some v=>
     dsimp only [Option.bind_some]
     rw [Ih]
     cases d5 env r<;>rfl
def Nf:IntKind→Nat
 | .i8=>0 | .i16=>1 | .i32=>2 | .i64=>3 | .u8=>4 | .u16=>5 | .u32=>6 | .u64=>7
theorem KQ {a b:IntKind} (h:Nat.beq (Nf a) (Nf b)=true):a=b:=by
 have:=Nat.eq_of_beq_eq_true h
 cases a<;>cases b<;>first | rfl | (simp [Nf] at this)
def Qh:Int→Int→Bool
 | .ofNat a,.ofNat b=>Nat.beq a b
 | .negSucc a,.negSucc b=>Nat.beq a b
 | _,_=>false
theorem Qv {a b:Nat}:Nat.beq a b=decide (a=b):=by
 by_cases h:a=b
 · subst h;simp
 · rw [decide_eq_false h,Bool.eq_false_iff];intro e;exact h (Nat.eq_of_beq_eq_true e)
theorem Ii {a b:Int}:Qh a b=(a == b):=by
 cases a<;>cases b<;>(rw [Bool.eq_iff_iff];simp [Qh,Qv])<;>omega
def NZ:Int→Int→Bool
 | .ofNat a,.ofNat b=>Nat.blt a b
 | .negSucc a,.negSucc b=>Nat.blt b a
 | .negSucc _,.ofNat _=>true
 | .ofNat _,.negSucc _=>false
theorem uO {a b:Int}:NZ a b=decide (a<b):=by
 cases a<;>cases b<;>(rw [Bool.eq_iff_iff];simp [NZ,Nat.blt_eq])<;>omega
def Ng (k:IntKind) (a b:Int) (K:Int→Option α):Option α:=match k,a,b with
 | .i64,.ofNat x,.ofNat y=>bif Nat.blt (x+y) 4611686018427387904 then fN (x+y) fun n=>K (.ofNat n) else fI (IntKind.i64.wrap (.ofNat x+.ofNat y)) K
 | k,a,b=>fI (k.wrap (a+b)) K
theorem KR {k:IntKind} {a b:Int} {K:Int→Option α}:Ng k a b K=K (k.wrap (a+b)):=by
 unfold Ng
 split
 · rename_i x y
   cases h:Nat.blt (x+y) 4611686018427387904 with
   | false=>simp only [cond_false];exact H9
   | true=>
     simp only [cond_true,pB]
     have:x+y<4611686018427387904:=by simpa [Nat.blt_eq] using h
     congr 1
     simp [IntKind.wrap,IntKind.bits,IntKind.signed]
     omega
 · exact H9
def Nh (op:BinOp) (a b:AV) (K:AV→Option α):Option α:=match a with
 | .pv (.int k x)=>match b with
   | .pv (.int k' y)=>bif Nat.beq (Nf k) (Nf k') then (match op with
       | .eql=>fB (Qh x y) fun c=>K (.pv (.bool c))
       | .neq=>fB (!Qh x y) fun c=>K (.pv (.bool c))
       | .lss=>fB (NZ x y) fun c=>K (.pv (.bool c))
       | .gtr=>fB (NZ y x) fun c=>K (.pv (.bool c))
       | .geq=>fB (!NZ x y) fun c=>K (.pv (.bool c))
       | .leq=>fB (!NZ y x) fun c=>K (.pv (.bool c))
       | .add=>Ng k x y fun n=>K (.pv (.int k n))
       | op=>(dv op a b).bind fun v=>fV v K)
     else (dv op a b).bind fun v=>fV v K
   | b=>(dv op a b).bind fun v=>fV v K
 | a=>(dv op a b).bind fun v=>fV v K
theorem KT {op:BinOp} {a b:AV} {K:AV→Option α}:Nh op a b K=(dv op a b).bind K:=by
 have dflt:((dv op a b).bind fun v=>fV v K)=(dv op a b).bind K:=by
   congr 1;funext v;exact Ib
 unfold Nh
 split
 · rename_i k x
   split
   · rename_i k' y
     cases hk:Nat.beq (Nf k) (Nf k') with
     | false=>exact dflt
     | true=>
       obtain rfl:=KQ hk
       simp only [cond_true]
       split
       · simp [ri,Ii,dv]
       · simp [ri,Ii,dv,bne]
       · simp [ri,uO,dv]
       · simp [ri,uO,dv]
       · simp [ri,uO,dv,←decide_not,Int.not_lt]
       · simp [ri,uO,dv,←decide_not,Int.not_lt]
       · simp [KR,dv]
       · exact dflt
   · exact dflt
 · exact dflt
def QR (off:Nat) (x:AV) (K:AV→Option α):Option α:=match x with
 | .az d o=>fN (o+off) fun n=>K (.az d n)
 | .a_ b o=>fN (o+off) fun n=>K (.a_ b n)
 | .dz cs=>fS (cs.drop off) fun cs=>K (.dz cs)
 | _=>none
def nth {β:Type}:List β→Nat→Option β
 | [],_=>none
 | a::r,n=>match n with
   | 0=>some a
   | n+1=>nth r n
theorem Bx {β:Type}:∀{l:List β} {n:Nat},nth l n=l[n]?
 | [],n=>by simp [nth]
 | a::r,0=>rfl
 | a::r,n+1=>by simp only [nth,List.getElem?_cons_succ];exact Bx
def ln {β:Type}:List β→Nat→(Nat→Option α)→Option α
 | [],n,K=>K n
 | _::r,n,K=>fN (n+1) fun n=>ln r n K
theorem Ce {β:Type}:∀{l:List β} {n:Nat} {K:Nat→Option α},ln l n K=K (n+l.length)
 | [],n,K=>rfl
 | _::r,n,K=>by
   simp only [ln];rw [pB,Ce];congr 1;simp;omega
def xV (o:FY) (vals:List AV) (K:AV→Option α):Option α:=match o with
 | .mv=>match vals with
   | [x]=>K x
   | vals=>(bP .mv vals).bind fun v=>fA v K
 | .bin op=>match vals with
   | [a,b]=>Nh op a b K
   | vals=>(bP (.bin op) vals).bind fun v=>fA v K
 | .bh off=>match vals with
   | [x]=>QR off x K
   | vals=>(bP (.bh off) vals).bind fun v=>fA v K
 | .a9=>match vals with
   | [.az a b]=>K (.az a b)
   | [.a_ a b]=>K (.a_ a b)
   | vals=>(bP .a9 vals).bind fun v=>fA v K
 | .index=>match vals with
   | [.pv (.str s),.pv (.int _ (.ofNat i))]=>match nth s i with
     | some b=>fN b.toNat fun n=>K (.pv (.int .u8 (.ofNat n)))
     | none=>none
   | vals=>(bP .index vals).bind fun v=>fA v K
 | .jB=>match vals with
   | [.pv (.str s)]=>ln s 0 fun n=>K (.pv (.int .i64 (.ofNat n)))
   | vals=>(bP .jB vals).bind fun v=>fA v K
 | .len=>match vals with
   | [.pv (.aD l)]=>ln l 0 fun n=>K (.pv (.int .i64 (.ofNat n)))
   | [.own l _]=>ln l 0 fun n=>K (.pv (.int .i64 (.ofNat n)))
   | vals=>(bP .len vals).bind fun v=>fA v K
 | .aT sz=>match bP (.aT sz) vals with
   | some (.bD l)=>OB l fun l=>K (.bD l)
   | some v=>K v
   | none=>none
 | .slice a b c d e=>(bP (.slice a b c d e) vals).bind fun v=>fV v K
 | o=>(bP o vals).bind fun v=>fA v K
theorem OE {o:FY} {vals:List AV} {K:AV→Option α}:xV o vals K=(bP o vals).bind K:=by
 have dA:∀o vals,((bP o vals).bind fun v=>fA v K)=(bP o vals).bind K:=by
   intro o vals;congr 1;funext v;exact pD
 unfold xV
 split
 · split
   · rfl
   · exact dA _ _
 · split
   · exact KT
   · exact dA _ _
 · split
   · rename_i x
     cases x<;>simp [QR,bP,pB,xK]
   · exact dA _ _
 · split
   · rfl
   · rfl
   · exact dA _ _
 · split
   · rename_i s k i
     rw [Bx]
     have hi:¬(Int.ofNat i<0):=by simp
     simp only [bP]
     rw [if_neg hi]
     simp only [Int.toNat_natCast,Int.ofNat_eq_natCast]
     cases s[i]? with
     | none=>rfl
     | some b=>simp [pB]
   · exact dA _ _
 · split
   · simp [Ce,bP]
   · exact dA _ _
 · split
   · simp [Ce,bP,dY]
   · simp [Ce,bP,dY]
   · exact dA _ _
 · split
   · rename_i l h;rw [h,Ic];rfl
   · rename_i h;rw [h];rfl
   · rename_i h;rw [h];rfl
 · congr 1;funext v;exact Ib
 · exact dA _ _
def lay (env:List (Nat×AV)) (mem:List (Nat×List AV)) (sh:Sh) (ah:aM) (d:Option Nat) (v:AV) (K:St→Option α):Option α:=match d with
 | some d=>pt env d v fun env=>K ⟨env,mem,sh,ah⟩
 | none=>K ⟨env,mem,sh,ah⟩
theorem kM {env:List (Nat×AV)} {mem:List (Nat×List AV)} {sh:Sh} {ah:aM} {d:Option Nat} {v:AV} {K:St→Option α}:lay env mem sh ah d v K=K ⟨gg env d v,mem,sh,ah⟩:=by
 cases d<;>simp [lay,gg,Ig]
def Ni (mem:List (Nat×List AV)) (k:Nat) (cs:Option (List AV)) (K:List (Nat×List AV)→Option α):Option α:=match cs with
 | some cs=>KN cs fun cs=>pt mem k cs K
 | none=>K mem
theorem KU {mem:List (Nat×List AV)} {k:Nat} {cs:Option (List AV)} {K:List (Nat×List AV)→Option α}:Ni mem k cs K=K (fp mem (some k) cs):=by
 cases cs<;>simp [Ni,fp,rj,Ig]
def Ij (orc:eM) (op:AK) (d:Option Nat) (vals:List AV) (env:List (Nat×AV)) (mem:List (Nat×List AV)) (sh:Sh) (ah:aM) (K:St→Option α):Option α:=
 match exec orc op vals (op.key.bind (look mem)) sh ah with
 | none=>none
 | some ⟨val,cells,sh',toks'⟩=>fV val fun val=>(match op.key with | some k=>Ni mem k cells | none=>fun K=>K mem) fun mem=>NX sh' fun sh'=>fT toks' fun toks'=>lay env mem sh' toks' d val K
theorem uP {orc:eM} {op:AK} {d:Option Nat} {vals:List AV} {env:List (Nat×AV)} {mem:List (Nat×List AV)} {sh:Sh} {ah:aM} {K:St→Option α} :
   Ij orc op d vals env mem sh ah K=(match exec orc op vals (op.key.bind (look mem)) sh ah with
     | none=>none
     | some out=>some (⟨gg env d out.val,fp mem op.key out.cells,out.sh,out.ah⟩:St)).bind K:=by
 unfold Ij
 cases exec orc op vals (op.key.bind (look mem)) sh ah with
 | none=>rfl
 | some out=>
   obtain ⟨val,cells,sh',toks'⟩:=out
   simp only [Ib,Option.bind_some]
   cases op.key with
   | none=>simp only [ot,td,kM];cases cells<;>rfl
   | some k=>simp only [KU,ot,td,kM]
def xP (orc:eM) (g:Nat) (vals:List AV) (K:AV→Option α):Option α:=match dd [] vals with
 | some dE=>match orc.p g dE with
   | some rs=>fA (pJ rs) K
   | none=>none
 | none=>none
def x1 (orc:eM) (op:AK) (d:Option Nat) (vals:List AV) (env:List (Nat×AV)) (mem:List (Nat×List AV)) (sh:Sh) (ah:aM) (K:St→Option α):Option α:=match op with
 | .v o=>xV o vals fun v=>lay env mem sh ah d v K
 | .aA g=>xP orc g vals fun v=>lay env mem sh ah d v K
 | .bl key off sz ag=>match vals with
   | [.az d' o]=>match lk mem key with
     | some cs=>bif Nat.beq d' key && Nat.beq o off then (match cf ag sz cs off with
         | some v=>fA v fun v=>lay env mem sh ah d v K
         | none=>none) else none
     | none=>none
   | vals=>Ij orc (.bl key off sz ag) d vals env mem sh ah K
 | .a6 sz ag=>match vals with
   | [.a_ b off]=>match nth sh b with
     | some (some cs)=>bif cR cs then none else (match cf ag sz cs off with
         | some v=>fA v fun v=>lay env mem sh ah d v K
         | none=>none)
     | _=>none
   | vals=>Ij orc (.a6 sz ag) d vals env mem sh ah K
 | op=>Ij orc op d vals env mem sh ah K
theorem OF {orc:eM} {op:AK} {d:Option Nat} {vals:List AV} {env:List (Nat×AV)} {mem:List (Nat×List AV)} {sh:Sh} {ah:aM} {K:St→Option α} :
   x1 orc op d vals env mem sh ah K=(match exec orc op vals (op.key.bind (look mem)) sh ah with
     | none=>none
     | some out=>some (⟨gg env d out.val,fp mem op.key out.cells,out.sh,out.ah⟩:St)).bind K:=by
 unfold x1
 split
 · rename_i o
   simp only [OE,kM,exec]
   cases bP o vals with
   | none=>rfl
   | some v=>rfl
 · rename_i g
   simp only [xP,exec]
   cases dd [] vals with
   | none=>rfl
   | some dE=>
     dsimp only
     cases orc.p g dE with
     | none=>rfl
     | some rs=>simp only [pD,kM];rfl
 · rename_i key off sz ag
   split
   · rename_i d' o
     rw [te]
     have hk:((AK.bl key off sz ag).key.bind (look mem))=look mem key:=rfl
     rw [hk]
     cases look mem key with
     | none=>simp [exec]
     | some cs=>
       simp only [exec]
       by_cases h:d'=key∧o=off
       · obtain ⟨rfl,rfl⟩:=h
         simp only [Nat.beq_refl,Bool.and_self,cond_true,and_self,if_true]
         cases cf ag sz cs o with
         | none=>rfl
         | some v=>simp only [pD,kM];rfl
       · rw [if_neg h]
         have:(Nat.beq d' key && Nat.beq o off)=false:=by
           rw [Bool.eq_false_iff];intro e
           simp only [Bool.and_eq_true] at e
           exact h ⟨Nat.eq_of_beq_eq_true e.1,Nat.eq_of_beq_eq_true e.2⟩
         rw [this];rfl
   · exact uP
 · rename_i sz ag
   split
   · rename_i b off
     rw [Bx]
     simp only [exec]
     split
     · rename_i cs h
       rw [h]
       dsimp only
       cases cR cs with
       | true=>rfl
       | false=>
         simp only [cond_false,Bool.false_eq_true,if_false]
         cases cf ag sz cs off with
         | none=>rfl
         | some v=>simp only [pD,kM];rfl
     · rename_i h
       split
       · rfl
       · rename_i e1 e2 e3
         split at e3
         · rename_i cs e4;exact absurd e4 (h cs)
         · cases e3
   · exact uP
 · exact uP
def Qi (orc:eM) (o:d4) (st:St) (K:St→Option α):Option α:=match st with
 | ⟨env,mem,sh,ah⟩=>match o with
   | ⟨d,g,args,op⟩=>match g with
     | none=>NY env args fun vals=>x1 orc op d vals env mem sh ah K
     | some (t,b)=>match lk env t with
       | some (.pv (.bool c))=>bif c == b then NY env args fun vals=>x1 orc op d vals env mem sh ah K else lay env mem sh ah d .un K
       | some .un=>lay env mem sh ah d .un K
       | _=>none
theorem Nj {orc:eM} {o:d4} {st:St} {K:St→Option α}:Qi orc o st K=(eB orc o st).bind K:=by
 obtain ⟨env,mem,sh,ah⟩:=st
 obtain ⟨d,g,args,op⟩:=o
 have run:(NY env args fun vals=>x1 orc op d vals env mem sh ah K)=(match d5 env args with
     | none=>none
     | some vals=>match exec orc op vals (op.key.bind (look mem)) sh ah with
       | none=>none
       | some out=>some (⟨gg env d out.val,fp mem op.key out.cells,out.sh,out.ah⟩:St)).bind K:=by
   rw [Ih]
   cases d5 env args with
   | none=>rfl
   | some vals=>exact OF
 cases g with
 | none=>simp only [Qi,eB,eY];exact run
 | some p=>
   obtain ⟨t,b⟩:=p
   simp only [Qi,eB,eY,te]
   split
   · rename_i c h
     rw [h]
     dsimp only
     cases hc:(c == b) with
     | true=>simp only [cond_true];exact run
     | false=>simp only [cond_false,kM];rfl
   · rename_i h
     rw [h]
     simp only [kM];rfl
   · rename_i h1 h2
     split
     · rfl
     · rename_i e;split at e<;>simp_all
     · rename_i e;split at e<;>simp_all
def KX (orc:eM):List d4→St→(St→Option α)→Option α
 | [],st,K=>K st
 | o::r,st,K=>Qi orc o st fun st=>KX orc r st K
theorem Cf {orc:eM}:∀{l:List d4} {st:St} {K:St→Option α},KX orc l st K=(bW orc l st).bind K
 | [],_,_=>rfl
 | o::r,st,K=>by
   simp only [KX,bW]
   rw [Nj]
   cases eB orc o st with
   | none=>rfl
   | some s=>exact Cf
def Cg (f:St→(bf→St→Option α)→Option α) (pre:St→St):Nat→St→(bf→St→Option α)→Option α
 | 0,_,_=>none
 | n+1,st,K=>Qg (pre st) fun st=>f st fun e st=>match e with
   | .normal=>Cg f pre n st K
   | e=>K e st
def LN (live:List Nat) (v:AV):Bool:=match v with
 | .az d _=>live.contains d
 | .pv _=>true
 | .own ..=>true
 | .agg cs=>fJ cs
 | v=>bK v
theorem Ik {live:List Nat} {v:AV}:LN live v=eo live v:=by cases v<;>rfl
def OG (live:List Nat) (env:List (Nat×AV)):List Nat→(List (Nat×AV)→Option α)→Option α
 | [],K=>K []
 | t::r,K=>match lk env t with
   | some v=>OG live env r fun e=>bif LN live v then K ((t,v)::e) else K e
   | none=>OG live env r K
theorem By {live:List Nat} {env:List (Nat×AV)}:∀{l:List Nat} {K:List (Nat×AV)→Option α},OG live env l K=K (bX live env l)
 | [],_=>rfl
 | t::r,K=>by
   simp only [OG,bX,te]
   cases look env t with
   | none=>exact By
   | some v=>
     dsimp only
     rw [By,Ik]
     cases eo live v<;>simp
def OH (mem:List (Nat×List AV)):List Nat→(List (Nat×List AV)→Option α)→Option α
 | [],K=>K []
 | t::r,K=>match lk mem t with
   | some v=>OH mem r fun e=>K ((t,v)::e)
   | none=>OH mem r K
theorem Bz {mem:List (Nat×List AV)}:∀{l:List Nat} {K:List (Nat×List AV)→Option α},OH mem l K=K (bY mem l)
 | [],_=>rfl
 | t::r,K=>by
   simp only [OH,bY,te]
   cases look mem t with
   | none=>exact Bz
   | some v=>exact Bz
def rs (live:List Nat) (st:St) (K:St→Option α):Option α:=match st with
 | ⟨env,mem,sh,ah⟩=>OG live env live fun env=>OH mem live fun mem=>K ⟨env,mem,sh,ah⟩
theorem OI {live:List Nat} {st:St} {K:St→Option α}:rs live st K=K (restrict live st):=by
 obtain ⟨env,mem,sh,ah⟩:=st
 simp only [rs];rw [By,Bz];rfl
def LO (K:bf→St→Option α):Option (bf×St)→Option α
 | some (e,st)=>K e st
 | none=>none
def cF (orc:eM) (k:Nat):aw→St→(bf→St→Option α)→Option α
 | .skip,st,K=>K .normal st
 | .ae ops live,st,K=>KX orc ops st fun st=>rs live st fun st=>K .normal st
 | .seq a b,st,K=>cF orc k a st fun e st=>match e with
   | .normal=>cF orc k b st K
   | e=>K e st
 | .cond c a b,st,K=>match gJ st.env c with
   | some (.pv (.bool t))=>match t with
     | true=>cF orc k a st K
     | false=>cF orc k b st K
   | _=>none
 | .block id b,st,K=>cF orc k b st fun e st=>match e with
   | .exit id'=>if id'=id then K .normal st else K (.exit id') st
   | e=>K e st
 | .loop live b,st,K=>Cg (cF orc k b) (fun s=>norm (restrict live s)) k st K
 | .back c gb pi px sz ag live x y,st,K=>LO K (dF orc k (.back c gb pi px sz ag live x y) st)
 | .exit id,st,K=>K (.exit id) st
 | .ret,st,K=>K .ret st
 | .c_ ts,st,K=>K .normal (kp ts st)
theorem xL {f:St→(bf→St→Option α)→Option α} {g:St→Option (bf×St)} {pre:St→St} (h:∀st K,f st K=LO K (g st)):∀{n:Nat} {st:St} {K:bf→St→Option α},Cg f pre n st K=LO K (eR g pre n st)
 | 0,_,_=>rfl
 | n+1,st,K=>by
   simp only [Cg,eR]
   rw [Ie,h]
   cases g (pre st) with
   | none=>rfl
   | some q=>
     obtain ⟨e,s⟩:=q
     cases e with
     | normal=>exact xL h
     | ret=>rfl
     | exit id=>rfl
theorem rn {orc:eM} {k:Nat}:∀{c:aw} {st:St} {K:bf→St→Option α},cF orc k c st K=LO K (dF orc k c st)
 | .skip,_,_=>rfl
 | .ae ops live,st,K=>by
   simp only [cF,dF]
   rw [Cf]
   cases bW orc ops st with
   | none=>rfl
   | some s=>simp only [Option.bind_some,OI,LO]
 | .seq a b,st,K=>by
   simp only [cF,dF]
   rw [rn]
   cases dF orc k a st with
   | none=>rfl
   | some q=>
     obtain ⟨e,s⟩:=q
     cases e with
     | normal=>simp only [LO];exact rn
     | ret=>rfl
     | exit id=>rfl
 | .cond c a b,st,K=>by
   simp only [cF,dF]
   split
   · rename_i t h
     rw [h]
     cases t with
     | true=>exact rn
     | false=>exact rn
   · rename_i h
     split
     · rename_i t h';exact absurd h' (h t)
     · rfl
 | .block id b,st,K=>by
   simp only [cF,dF]
   rw [rn]
   cases dF orc k b st with
   | none=>rfl
   | some q=>
     obtain ⟨e,s⟩:=q
     cases e with
     | normal=>rfl
     | ret=>rfl
     | exit id'=>
       simp only [LO]
       split<;>rfl
 | .loop live b,st,K=>by
   simp only [cF,dF]
   exact xL (g:=dF orc k b) fun _ _=>rn
 | .back c gb pi px sz ag live x y,_,_=>by simp only [cF]
 | .exit id,_,_=>rfl
 | .ret,_,_=>rfl
 | .c_ _,_,_=>rfl
def KY (bg:Bool) (af:aJ) (sh0:Sh) (e:bf) (st:St) (K:List AV→Sh→aM→Option α):Option α:=
 match e with
 | .exit _=>none
 | _=>match eg st af.results with
   | some vs=>
     OA (cL bg af.ks st.sh vs) fun rs=>
     let sh':=if rs.all (aS sh0.length)=true then (eJ bg af.ks st.sh vs).take sh0.length else eJ bg af.ks st.sh vs
     if rs.all ca=true then
       match dh st.ah rs sh' with
       | (rs,sh,_,ts)=>OA rs fun rs=>NX sh fun sh=>fT ts fun ts=>K rs sh ts
     else none
   | none=>none
def FB (K:List AV→Sh→aM→Option α):Option (List AV×Sh×aM)→Option α
 | some (a,b,c)=>K a b c
 | none=>none
theorem KZ {bg:Bool} {af:aJ} {sh0:Sh} {e:bf} {st:St} {K:List AV→Sh→aM→Option α}:KY bg af sh0 e st K=FB K (finish bg af sh0 (some (e,st))):=by
 cases e with
 | exit id=>rfl
 | normal=>
   simp only [KY,finish]
   cases eg st af.results with
   | none=>rfl
   | some vs=>
     simp only [rm,or_true,if_true]
     split
     · simp only [rm,ot,td,FB]
     · rfl
 | ret=>
   simp only [KY,finish]
   cases eg st af.results with
   | none=>rfl
   | some vs=>
     simp only [rm,true_or,if_true]
     split
     · simp only [rm,ot,td,FB]
     · rfl
def tf (orc:eM) (k:Nat) (bg:Bool) (af:aJ) (args:List AV) (sh:Sh) (ts:aM) (K:List AV→Sh→aM→Option α):Option α:=
 Qg { env:=cD 0 args,mem:=[],sh,ah:=ts } fun st=>cF orc k af.body st fun e st=>KY bg af sh e st K
theorem nj {orc:eM} {k:Nat} {bg:Bool} {af:aJ} {args:List AV} {sh:Sh} {ts:aM} {K:List AV→Sh→aM→Option α}:tf orc k bg af args sh ts K=FB K (cE orc k bg af args sh ts):=by
 unfold tf
 rw [Ie,rn,fH]
 cases dF orc k af.body { env:=cD 0 args,mem:=[],sh,ah:=ts } with
 | none=>rfl
 | some q=>obtain ⟨e,s⟩:=q;simp only [LO];exact KZ
def Il (AP:Nat→Option aJ) (k:Nat):Nat→eM
 | 0=>{ p:=fun _ _=>none,i:=fun _ _ _ _=>none }
 | n+1=>
   { p:=fun g dE=>match AP g with
       | some af=>match af.qg with
         | some f=>f dE
         | none=>if dE.length=af.nparams∧dE.length≤af.ntmps then tf (Il AP k n) k false af (dE.map .pv) [] [] fun rs _ _=>fq rs else none
       | none=>none
     i:=fun g args sh ts=>match AP g with
       | some af=>if args.length≤af.ntmps then tf (Il AP k n) k true af args sh ts fun a b c=>some (a,b,c) else none
       | none=>none }
theorem Ci {AP:Nat→Option aJ} {k:Nat}:∀n,Il AP k n=run AP k n
 | 0=>rfl
 | n+1=>by
   have ih:=Ci (AP:=AP) (k:=k) n
   simp only [Il,run]
   congr 1
   · funext g dE
     cases AP g with
     | none=>rfl
     | some af=>
       dsimp only
       cases af.qg with
       | some f=>rfl
       | none=>
         dsimp only
         split
         · rw [nj,ih]
           cases cE (run AP k n) k false af (dE.map .pv) [] [] with
           | none=>rfl
           | some q=>rfl
         · rfl
   · funext g args sh ts
     cases AP g with
     | none=>rfl
     | some af=>
       dsimp only
       split
       · rw [nj,ih]
         cases cE (run AP k n) k true af args sh ts with
         | none=>rfl
         | some q=>rfl
       · rfl
theorem Qw {AP:Nat→Option aJ} {k n g:Nat} {x rs:List PV} (h:(Il AP k n).p g x=some rs):(aN AP).p g x=some rs:=by
 rw [Ci] at h
 exact qH (pT g x) (show (run AP (max k n) (max k n)).p g x=some rs from (dQ (Nat.le_max_right k n) (Nat.le_max_left k n)).p _ _ _ h)
def uQ (AP:Nat→Option aJ) (ov:Nat→List PV→Option (List PV)) (k:Nat):Nat→eM
 | 0=>{ p:=ov,i:=fun _ _ _ _=>none }
 | n+1=>
   { p:=fun g dE=>match ov g dE with
       | some r=>some r
       | none=>match AP g with
         | some af=>match af.qg with
           | some f=>f dE
           | none=>if dE.length=af.nparams∧dE.length≤af.ntmps then tf (uQ AP ov k n) k false af (dE.map .pv) [] [] fun rs _ _=>fq rs else none
         | none=>none
     i:=fun g args sh ts=>match AP g with
       | some af=>if args.length≤af.ntmps then tf (uQ AP ov k n) k true af args sh ts fun a b c=>some (a,b,c) else none
       | none=>none }
theorem xM {AP:Nat→Option aJ} {orc:eM} {k:Nat} {bg:Bool} {af:aJ} {args:List AV} {sh:Sh} {ts:aM} {r:List AV×Sh×aM} (hle:orc.le (aN AP)) (h:cE orc k bg af args sh ts=some r):lP AP bg af args sh ts=some r:=by
 rw [fH] at h
 unfold lP
 cases hc:dF orc k af.body { env:=cD 0 args,mem:=[],sh,ah:=ts } with
 | none=>rw [hc] at h;simp [finish] at h
 | some q=>
   rw [kg (cJ hle (Nat.le_refl k) hc)]
   rw [hc] at h
   exact h
theorem Cj {AP:Nat→Option aJ} {ov:Nat→List PV→Option (List PV)} {k:Nat} (hov:∀g x r,ov g x=some r→(aN AP).p g x=some r):∀n,(uQ AP ov k n).le (aN AP)
 | 0=>⟨hov,fun g x s t r h=>by simp [uQ] at h⟩
 | n+1=>by
   have ih:=Cj (k:=k) hov n
   refine ⟨fun g x r h=>?_,fun g x s t r h=>?_⟩
   · simp only [uQ] at h
     split at h
     · rename_i r' e;rw [←h];exact hov g x r' e
     · split at h
       · rename_i af hg
         cases hp:af.qg with
         | some f=>rw [hp] at h;rw [JW hg hp];exact h
         | none=>
           rw [hp] at h
           simp only [Option.ite_none_right_eq_some] at h
           obtain ⟨⟨h1,h2⟩,h⟩:=h
           rw [nj] at h
           rw [LK hg hp h1 h2]
           cases hb:cE (uQ AP ov k n) k false af (x.map .pv) [] [] with
           | none=>rw [hb] at h;simp [FB] at h
           | some q=>rw [xM ih hb];rw [hb] at h;exact h
       · cases h
   · simp only [uQ] at h
     split at h
     · rename_i af hg
       simp only [Option.ite_none_right_eq_some] at h
       obtain ⟨h2,h⟩:=h
       rw [nj] at h
       rw [LL hg h2]
       cases hb:cE (uQ AP ov k n) k true af x s t with
       | none=>rw [hb] at h;simp [FB] at h
       | some q=>rw [xM ih hb];rw [hb] at h;exact h
     · cases h
theorem LP {AP:Nat→Option aJ} {ov:Nat→List PV→Option (List PV)} {k n g:Nat} {x rs:List PV} (hov:∀g x r,ov g x=some r→(aN AP).p g x=some r) (h:(uQ AP ov k n).p g x=some rs):(aN AP).p g x=some rs:=(Cj hov n).p _ _ _ h
end Go.Ab.Fc
