import Derived.Test.YtcjggpmnbcfedaaDoorAbLim
/-
  The evaluator for the kernel: what an operation lays is brought to its last form at once. It answers as the evaluator does.
-/
set_option linter.unusedVariables false
set_option linter.unusedSimpArgs false
set_option linter.unnecessarySimpa false
set_option maxRecDepth 100000
set_option maxHeartbeats 8000000
namespace Go.Ab.Fc
variable {α:Type}
def fN (n:Nat) (K:Nat→Option α):Option α:=match n with
 | 0=>K 0
 | m+1=>K (m+1)
theorem ky {n:Nat} {K:Nat→Option α}:fN n K=K n:=by cases n<;>rfl
def fI (n:Int) (K:Int→Option α):Option α:=match n with
 | .ofNat m=>fN m fun m=>K (.ofNat m)
 | .negSucc m=>fN m fun m=>K (.negSucc m)
theorem yE {n:Int} {K:Int→Option α}:fI n K=K n:=by cases n<;>simp [fI,ky]
def fB (b:Bool) (K:Bool→Option α):Option α:=match b with
 | true=>K true
 | false=>K false
theorem ma {b:Bool} {K:Bool→Option α}:fB b K=K b:=by cases b<;>rfl
def fS {β:Type}:List β→(List β→Option α)→Option α
 | [],K=>K []
 | a::r,K=>fS r fun r=>K (a::r)
theorem qQ {β:Type}:∀{l:List β} {K:List β→Option α},fS l K=K l
 | [],_=>rfl
 | a::r,K=>by simp only [fS];rw [qQ]
def fL (p:PV) (K:PV→Option α):Option α:=match p with
 | .bool b=>fB b fun b=>K (.bool b)
 | .int k n=>fI n fun n=>K (.int k n)
 | .str s=>K (.str s)
 | .agg cs=>K (.agg cs)
 | .bz l=>K (.bz l)
theorem Ap {p:PV} {K:PV→Option α}:fL p K=K p:=by cases p<;>simp [fL,ma,yE]
def BP:List PV→(List PV→Option α)→Option α
 | [],K=>K []
 | a::r,K=>fL a fun a=>BP r fun r=>K (a::r)
theorem tC:∀{l:List PV} {K:List PV→Option α},BP l K=K l
 | [],_=>rfl
 | a::r,K=>by simp only [BP];rw [Ap,tC]
def fP (p:PV) (K:PV→Option α):Option α:=match p with
 | .agg cs=>BP cs fun cs=>K (.agg cs)
 | p=>fL p K
theorem Aq {p:PV} {K:PV→Option α}:fP p K=K p:=by cases p<;>simp [fP,tC,Ap]
def B6 (v:AV) (K:AV→Option α):Option α:=match v with
 | .un=>K .un
 | .pv p=>fP p fun p=>K (.pv p)
 | .cw l=>K (.cw l)
 | .own l τ=>fN τ fun τ=>K (.own l τ)
 | .agg cs=>K (.agg cs)
 | .j1 cs=>K (.j1 cs)
 | .bJ a b=>fN a fun a=>fN b fun b=>K (.bJ a b)
 | .a0 a b=>fN a fun a=>fN b fun b=>K (.a0 a b)
 | .cj cs=>fS cs fun cs=>K (.cj cs)
 | .aU a b c d=>fN a fun a=>fN c fun c=>K (.aU a b c d)
 | .fn g c=>K (.fn g c)
 | .gm=>K .gm
 | .dK s=>fN s fun s=>K (.dK s)
 | .cz kvs=>fS kvs fun kvs=>K (.cz kvs)
 | .kB a b c=>fN a fun a=>fN b fun b=>fN c fun c=>K (.kB a b c)
 | .fk a b=>fN a fun a=>fN b fun b=>K (.fk a b)
theorem yF {v:AV} {K:AV→Option α}:B6 v K=K v:=by cases v<;>simp [B6,Aq,ky,qQ]
def z2:List AV→(List AV→Option α)→Option α
 | [],K=>K []
 | a::r,K=>B6 a fun a=>z2 r fun r=>K (a::r)
theorem mb:∀{l:List AV} {K:List AV→Option α},z2 l K=K l
 | [],_=>rfl
 | a::r,K=>by simp only [z2];rw [yF,mb]
def fA (v:AV) (K:AV→Option α):Option α:=match v with
 | .agg cs=>z2 cs fun cs=>K (.agg cs)
 | .j1 cs=>z2 cs fun cs=>K (.j1 cs)
 | .fn g cs=>z2 cs fun cs=>K (.fn g cs)
 | v=>B6 v K
theorem kz {v:AV} {K:AV→Option α}:fA v K=K v:=by cases v<;>simp [fA,mb,yF]
def BQ:List AV→(List AV→Option α)→Option α
 | [],K=>K []
 | a::r,K=>fA a fun a=>BQ r fun r=>K (a::r)
theorem mc:∀{l:List AV} {K:List AV→Option α},BQ l K=K l
 | [],_=>rfl
 | a::r,K=>by simp only [BQ];rw [kz,mc]
def fV (v:AV) (K:AV→Option α):Option α:=match v with
 | .pv (.str s)=>fS s fun s=>K (.pv (.str s))
 | .pv (.bz l)=>fS l fun l=>K (.pv (.bz l))
 | .cw l=>fS l fun l=>BP l fun l=>K (.cw l)
 | .own l τ=>fS l fun l=>fN τ fun τ=>K (.own l τ)
 | v=>fA v K
theorem yG {v:AV} {K:AV→Option α}:fV v K=K v:=by
 cases v with
 | pv p=>cases p<;>simp [fV,qQ,kz]
 | _=>simp [fV,qQ,kz,tC,ky]
def BR:List PV→(List PV→Option α)→Option α
 | [],K=>K []
 | a::r,K=>fP a fun a=>BR r fun r=>K (a::r)
theorem yH:∀{l:List PV} {K:List PV→Option α},BR l K=K l
 | [],_=>rfl
 | a::r,K=>by simp only [BR];rw [Aq,yH]
def fresh:AK→Bool
 | .v (.d3 _) | .v (.slice ..) | .append .. | .v (.bin .add)=>true
 | _=>false
def CL (op:AK) (v:AV) (K:AV→Option α):Option α:=match op,v with
 | .v (.d3 _),.cw l=>BR l fun l=>K (.cw l)
 | op,v=>if fresh op then fV v K else fA v K
def fO {β:Type} (f:β→(β→Option α)→Option α) (o:Option β) (K:Option β→Option α):Option α:=match o with
 | none=>K none
 | some x=>f x fun x=>K (some x)
theorem BS {β:Type} {f:β→(β→Option α)→Option α} (hf:∀x K,f x K=K x) {o:Option β} {K:Option β→Option α}:fO f o K=K o:=by cases o<;>simp [fO,hf]
def Bs:Sh→(Sh→Option α)→Option α
 | [],K=>K []
 | a::r,K=>fO z2 a fun a=>Bs r fun r=>K (a::r)
theorem j0:∀{l:Sh} {K:Sh→Option α},Bs l K=K l
 | [],_=>rfl
 | a::r,K=>by simp only [Bs];rw [BS (fun _ _=>mb),j0]
def fT:al→(al→Option α)→Option α
 | [],K=>K []
 | a::r,K=>fN a fun a=>fT r fun r=>K (a::r)
theorem ni:∀{l:al} {K:al→Option α},fT l K=K l
 | [],_=>rfl
 | a::r,K=>by simp only [fT];rw [ky,ni]
def Ck {β:Type}:List (Nat×β)→Nat→β→(List (Nat×β)→Option α)→Option α
 | [],t,u,K=>K [(t,u)]
 | (k,v)::r,t,u,K=>if k=t then K ((k,u)::r) else Ck r t u fun r=>K ((k,v)::r)
def z3:List (Nat×AV)→(List (Nat×AV)→Option α)→Option α
 | [],K=>K []
 | (t,v)::r,K=>fA v fun v=>z3 r fun r=>K ((t,v)::r)
theorem tY:∀{l:List (Nat×AV)} {K:List (Nat×AV)→Option α},z3 l K=K l
 | [],_=>rfl
 | (t,v)::r,K=>by simp only [z3];rw [kz,tY]
def z4:List (Nat×List AV)→(List (Nat×List AV)→Option α)→Option α
 | [],K=>K []
 | (t,v)::r,K=>z2 v fun v=>z4 r fun r=>K ((t,v)::r)
theorem tZ:∀{l:List (Nat×List AV)} {K:List (Nat×List AV)→Option α},z4 l K=K l
 | [],_=>rfl
 | (t,v)::r,K=>by simp only [z4];rw [mb,tZ]
def Bh (st:St) (K:St→Option α):Option α:=match st with
 | ⟨env,mem,sh,aa⟩=>z3 env fun env=>z4 mem fun mem=>Bs sh fun sh=>fT aa fun aa=>K ⟨env,mem,sh,aa⟩
theorem me {st:St} {K:St→Option α}:Bh st K=K st:=by
 obtain ⟨env,mem,sh,aa⟩:=st
 simp only [Bh];rw [tY,tZ,j0,ni]
def lk {β:Type}:List (Nat×β)→Nat→Option β
 | [],_=>none
 | (k,v)::r,t=>bif Nat.beq k t then some v else lk r t
theorem nj {β:Type}:∀{l:List (Nat×β)} {t:Nat},lk l t=look l t
 | [],_=>rfl
 | (k,v)::r,t=>by
   simp only [lk,look]
   rw [nj]
   by_cases h:k=t
   · subst h;simp
   · rw [if_neg h,show Nat.beq k t=false from by rw [Bool.eq_false_iff];intro e;exact h (Nat.eq_of_beq_eq_true e)]
     rfl
def pt {β:Type}:List (Nat×β)→Nat→β→(List (Nat×β)→Option α)→Option α
 | [],t,u,K=>K [(t,u)]
 | (k,v)::r,t,u,K=>bif Nat.beq k t then K ((k,u)::r) else pt r t u fun r=>K ((k,v)::r)
theorem yI {β:Type}:∀{l:List (Nat×β)} {t:Nat} {u:β} {K:List (Nat×β)→Option α},pt l t u K=K (bV l t u)
 | [],_,_,_=>rfl
 | (k,v)::r,t,u,K=>by
   simp only [pt,bV]
   by_cases h:k=t
   · subst h;simp
   · rw [if_neg h,show Nat.beq k t=false from by rw [Bool.eq_false_iff];intro e;exact h (Nat.eq_of_beq_eq_true e)]
     exact yI
def od (env:List (Nat×AV)) (x:c_) (K:AV→Option α):Option α:=match x with
 | .t n=>match lk env n with
   | some v=>K v
   | none=>none
 | .c v=>K v
theorem BT {env:List (Nat×AV)} {x:c_} {K:AV→Option α}:od env x K=(dZ env x).bind K:=by
 cases x with
 | t n=>simp only [od,dZ,nj];cases look env n<;>rfl
 | c v=>rfl
def Bt (env:List (Nat×AV)):List c_→(List AV→Option α)→Option α
 | [],K=>K []
 | x::r,K=>od env x fun v=>Bt env r fun vs=>K (v::vs)
theorem yJ {env:List (Nat×AV)}:∀{l:List c_} {K:List AV→Option α},Bt env l K=(cB env l).bind K
 | [],_=>rfl
 | x::r,K=>by
   simp only [Bt,cB]
   rw [BT]
   cases dZ env x with
   | none=>rfl
   | some v=>
     dsimp only [Option.bind_some]
     rw [yJ]
     cases cB env r<;>rfl
def Bi:IntKind→Nat
 | .i8=>0 | .i16=>1 | .i32=>2 | .i64=>3 | .u8=>4 | .u16=>5 | .u32=>6 | .u64=>7
theorem z5 {a b:IntKind} (h:Nat.beq (Bi a) (Bi b)=true):a=b:=by
 have:=Nat.eq_of_beq_eq_true h
 cases a<;>cases b<;>first | rfl | (simp [Bi] at this)
def B7:Int→Int→Bool
 | .ofNat a,.ofNat b=>Nat.beq a b
 | .negSucc a,.negSucc b=>Nat.beq a b
 | _,_=>false
theorem Cl {a b:Nat}:Nat.beq a b=decide (a=b):=by
 by_cases h:a=b
 · subst h;simp
 · rw [decide_eq_false h,Bool.eq_false_iff];intro e;exact h (Nat.eq_of_beq_eq_true e)
theorem yK {a b:Int}:B7 a b=(a == b):=by
 cases a<;>cases b<;>(rw [Bool.eq_iff_iff];simp [B7,Cl])<;>omega
def Bu:Int→Int→Bool
 | .ofNat a,.ofNat b=>Nat.blt a b
 | .negSucc a,.negSucc b=>Nat.blt b a
 | .negSucc _,.ofNat _=>true
 | .ofNat _,.negSucc _=>false
theorem oH {a b:Int}:Bu a b=decide (a<b):=by
 cases a<;>cases b<;>(rw [Bool.eq_iff_iff];simp [Bu,Nat.blt_eq])<;>omega
def Bj (k:IntKind) (a b:Int) (K:Int→Option α):Option α:=match k,a,b with
 | .i64,.ofNat x,.ofNat y=>bif Nat.blt (x+y) 4611686018427387904 then fN (x+y) fun n=>K (.ofNat n) else fI (IntKind.i64.wrap (.ofNat x+.ofNat y)) K
 | k,a,b=>fI (k.wrap (a+b)) K
theorem z6 {k:IntKind} {a b:Int} {K:Int→Option α}:Bj k a b K=K (k.wrap (a+b)):=by
 unfold Bj
 split
 · rename_i x y
   cases h:Nat.blt (x+y) 4611686018427387904 with
   | false=>simp only [cond_false];exact yE
   | true=>
     simp only [cond_true,ky]
     have:x+y<4611686018427387904:=by simpa [Nat.blt_eq] using h
     congr 1
     simp [IntKind.wrap,IntKind.bits,IntKind.signed]
     omega
 · exact yE
def Bk (op:BinOp) (a b:AV) (K:AV→Option α):Option α:=match a with
 | .pv (.int k x)=>match b with
   | .pv (.int k' y)=>bif Nat.beq (Bi k) (Bi k') then (match op with
       | .eql=>fB (B7 x y) fun c=>K (.pv (.bool c))
       | .neq=>fB (!B7 x y) fun c=>K (.pv (.bool c))
       | .lss=>fB (Bu x y) fun c=>K (.pv (.bool c))
       | .gtr=>fB (Bu y x) fun c=>K (.pv (.bool c))
       | .geq=>fB (!Bu x y) fun c=>K (.pv (.bool c))
       | .leq=>fB (!Bu y x) fun c=>K (.pv (.bool c))
       | .add=>Bj k x y fun n=>K (.pv (.int k n))
       | op=>(cp op a b).bind fun v=>fV v K)
     else (cp op a b).bind fun v=>fV v K
   | b=>(cp op a b).bind fun v=>fV v K
 | a=>(cp op a b).bind fun v=>fV v K
theorem z7 {op:BinOp} {a b:AV} {K:AV→Option α}:Bk op a b K=(cp op a b).bind K:=by
 have dflt:((cp op a b).bind fun v=>fV v K)=(cp op a b).bind K:=by
   congr 1;funext v;exact yG
 unfold Bk
 split
 · rename_i k x
   split
   · rename_i k' y
     cases hk:Nat.beq (Bi k) (Bi k') with
     | false=>exact dflt
     | true=>
       obtain rfl:=z5 hk
       simp only [cond_true]
       split
       · simp [ma,yK,cp]
       · simp [ma,yK,cp,bne]
       · simp [ma,oH,cp]
       · simp [ma,oH,cp]
       · simp [ma,oH,cp,←decide_not,Int.not_lt]
       · simp [ma,oH,cp,←decide_not,Int.not_lt]
       · simp [z6,cp]
       · exact dflt
   · exact dflt
 · exact dflt
def Cx (off:Nat) (x:AV) (K:AV→Option α):Option α:=match x with
 | .bJ d o=>fN (o+off) fun n=>K (.bJ d n)
 | .a0 b o=>fN (o+off) fun n=>K (.a0 b n)
 | .cj cs=>fS (cs.drop off) fun cs=>K (.cj cs)
 | _=>none
def nth {β:Type}:List β→Nat→Option β
 | [],_=>none
 | a::r,n=>match n with
   | 0=>some a
   | n+1=>nth r n
theorem tD {β:Type}:∀{l:List β} {n:Nat},nth l n=l[n]?
 | [],n=>by simp [nth]
 | a::r,0=>rfl
 | a::r,n+1=>by simp only [nth,List.getElem?_cons_succ];exact tD
def ln {β:Type}:List β→Nat→(Nat→Option α)→Option α
 | [],n,K=>K n
 | _::r,n,K=>fN (n+1) fun n=>ln r n K
theorem t4 {β:Type}:∀{l:List β} {n:Nat} {K:Nat→Option α},ln l n K=K (n+l.length)
 | [],n,K=>rfl
 | _::r,n,K=>by
   simp only [ln];rw [ky,t4];congr 1;simp;omega
def xV (o:mi) (vals:List AV) (K:AV→Option α):Option α:=match o with
 | .mv=>match vals with
   | [x]=>K x
   | vals=>(aV .mv vals).bind fun v=>fA v K
 | .bin op=>match vals with
   | [a,b]=>Bk op a b K
   | vals=>(aV (.bin op) vals).bind fun v=>fA v K
 | .ga off=>match vals with
   | [x]=>Cx off x K
   | vals=>(aV (.ga off) vals).bind fun v=>fA v K
 | .kU=>match vals with
   | [.bJ a b]=>K (.bJ a b)
   | [.a0 a b]=>K (.a0 a b)
   | vals=>(aV .kU vals).bind fun v=>fA v K
 | .index=>match vals with
   | [.pv (.str s),.pv (.int _ (.ofNat i))]=>match nth s i with
     | some b=>fN b.toNat fun n=>K (.pv (.int .u8 (.ofNat n)))
     | none=>none
   | vals=>(aV .index vals).bind fun v=>fA v K
 | .wT=>match vals with
   | [.pv (.str s)]=>ln s 0 fun n=>K (.pv (.int .i64 (.ofNat n)))
   | vals=>(aV .wT vals).bind fun v=>fA v K
 | .len=>match vals with
   | [.pv (.bz l)]=>ln l 0 fun n=>K (.pv (.int .i64 (.ofNat n)))
   | [.own l _]=>ln l 0 fun n=>K (.pv (.int .i64 (.ofNat n)))
   | vals=>(aV .len vals).bind fun v=>fA v K
 | .d3 sz=>match aV (.d3 sz) vals with
   | some (.cw l)=>BR l fun l=>K (.cw l)
   | some v=>K v
   | none=>none
 | .slice a b c d e=>(aV (.slice a b c d e) vals).bind fun v=>fV v K
 | o=>(aV o vals).bind fun v=>fA v K
theorem BU {o:mi} {vals:List AV} {K:AV→Option α}:xV o vals K=(aV o vals).bind K:=by
 have dA:∀o vals,((aV o vals).bind fun v=>fA v K)=(aV o vals).bind K:=by
   intro o vals;congr 1;funext v;exact kz
 unfold xV
 split
 · split
   · rfl
   · exact dA _ _
 · split
   · exact z7
   · exact dA _ _
 · split
   · rename_i x
     cases x<;>simp [Cx,aV,ky,qQ]
   · exact dA _ _
 · split
   · rfl
   · rfl
   · exact dA _ _
 · split
   · rename_i s k i
     rw [tD]
     have hi:¬(Int.ofNat i<0):=by simp
     simp only [aV]
     rw [if_neg hi]
     simp only [Int.toNat_natCast,Int.ofNat_eq_natCast]
     cases s[i]? with
     | none=>rfl
     | some b=>simp [ky]
   · exact dA _ _
 · split
   · simp [t4,aV]
   · exact dA _ _
 · split
   · simp [t4,aV,bw]
   · simp [t4,aV,bw]
   · exact dA _ _
 · split
   · rename_i l h;rw [h,yH];rfl
   · rename_i h;rw [h];rfl
   · rename_i h;rw [h];rfl
 · congr 1;funext v;exact yG
 · exact dA _ _
def lay (env:List (Nat×AV)) (mem:List (Nat×List AV)) (sh:Sh) (aa:al) (d:Option Nat) (v:AV) (K:St→Option α):Option α:=match d with
 | some d=>pt env d v fun env=>K ⟨env,mem,sh,aa⟩
 | none=>K ⟨env,mem,sh,aa⟩
theorem iw {env:List (Nat×AV)} {mem:List (Nat×List AV)} {sh:Sh} {aa:al} {d:Option Nat} {v:AV} {K:St→Option α}:lay env mem sh aa d v K=K ⟨dq env d v,mem,sh,aa⟩:=by
 cases d<;>simp [lay,dq,yI]
def Bl (mem:List (Nat×List AV)) (k:Nat) (cs:Option (List AV)) (K:List (Nat×List AV)→Option α):Option α:=match cs with
 | some cs=>z2 cs fun cs=>pt mem k cs K
 | none=>K mem
theorem z8 {mem:List (Nat×List AV)} {k:Nat} {cs:Option (List AV)} {K:List (Nat×List AV)→Option α}:Bl mem k cs K=K (cM mem (some k) cs):=by
 cases cs<;>simp [Bl,cM,mb,yI]
def yL (orc:cZ) (op:AK) (d:Option Nat) (vals:List AV) (env:List (Nat×AV)) (mem:List (Nat×List AV)) (sh:Sh) (aa:al) (K:St→Option α):Option α:=
 match exec orc op vals (op.key.bind (look mem)) sh aa with
 | none=>none
 | some ⟨val,cells,sh',toks'⟩=>fV val fun val=>(match op.key with | some k=>Bl mem k cells | none=>fun K=>K mem) fun mem=>Bs sh' fun sh'=>fT toks' fun toks'=>lay env mem sh' toks' d val K
theorem oI {orc:cZ} {op:AK} {d:Option Nat} {vals:List AV} {env:List (Nat×AV)} {mem:List (Nat×List AV)} {sh:Sh} {aa:al} {K:St→Option α} :
   yL orc op d vals env mem sh aa K=(match exec orc op vals (op.key.bind (look mem)) sh aa with
     | none=>none
     | some out=>some (⟨dq env d out.val,cM mem op.key out.cells,out.sh,out.aa⟩:St)).bind K:=by
 unfold yL
 cases exec orc op vals (op.key.bind (look mem)) sh aa with
 | none=>rfl
 | some out=>
   obtain ⟨val,cells,sh',toks'⟩:=out
   simp only [yG,Option.bind_some]
   cases op.key with
   | none=>simp only [j0,ni,iw];cases cells<;>rfl
   | some k=>simp only [z8,j0,ni,iw]
def xP (orc:cZ) (g:Nat) (vals:List AV) (K:AV→Option α):Option α:=match bZ [] vals with
 | some cv=>match orc.p g cv with
   | some rs=>fA (k7 rs) K
   | none=>none
 | none=>none
def x1 (orc:cZ) (op:AK) (d:Option Nat) (vals:List AV) (env:List (Nat×AV)) (mem:List (Nat×List AV)) (sh:Sh) (aa:al) (K:St→Option α):Option α:=match op with
 | .v o=>xV o vals fun v=>lay env mem sh aa d v K
 | .aQ g=>xP orc g vals fun v=>lay env mem sh aa d v K
 | .dv key off sz ag=>match vals with
   | [.bJ d' o]=>match lk mem key with
     | some cs=>bif Nat.beq d' key && Nat.beq o off then (match bl ag sz cs off with
         | some v=>fA v fun v=>lay env mem sh aa d v K
         | none=>none) else none
     | none=>none
   | vals=>yL orc (.dv key off sz ag) d vals env mem sh aa K
 | .ck sz ag=>match vals with
   | [.a0 b off]=>match nth sh b with
     | some (some cs)=>bif cJ cs then none else (match bl ag sz cs off with
         | some v=>fA v fun v=>lay env mem sh aa d v K
         | none=>none)
     | _=>none
   | vals=>yL orc (.ck sz ag) d vals env mem sh aa K
 | op=>yL orc op d vals env mem sh aa K
theorem BV {orc:cZ} {op:AK} {d:Option Nat} {vals:List AV} {env:List (Nat×AV)} {mem:List (Nat×List AV)} {sh:Sh} {aa:al} {K:St→Option α} :
   x1 orc op d vals env mem sh aa K=(match exec orc op vals (op.key.bind (look mem)) sh aa with
     | none=>none
     | some out=>some (⟨dq env d out.val,cM mem op.key out.cells,out.sh,out.aa⟩:St)).bind K:=by
 unfold x1
 split
 · rename_i o
   simp only [BU,iw,exec]
   cases aV o vals with
   | none=>rfl
   | some v=>rfl
 · rename_i g
   simp only [xP,exec]
   cases bZ [] vals with
   | none=>rfl
   | some cv=>
     dsimp only
     cases orc.p g cv with
     | none=>rfl
     | some rs=>simp only [kz,iw];rfl
 · rename_i key off sz ag
   split
   · rename_i d' o
     rw [nj]
     have hk:((AK.dv key off sz ag).key.bind (look mem))=look mem key:=rfl
     rw [hk]
     cases look mem key with
     | none=>simp [exec]
     | some cs=>
       simp only [exec]
       by_cases h:d'=key∧o=off
       · obtain ⟨rfl,rfl⟩:=h
         simp only [Nat.beq_refl,Bool.and_self,cond_true,and_self,if_true]
         cases bl ag sz cs o with
         | none=>rfl
         | some v=>simp only [kz,iw];rfl
       · rw [if_neg h]
         have:(Nat.beq d' key && Nat.beq o off)=false:=by
           rw [Bool.eq_false_iff];intro e
           simp only [Bool.and_eq_true] at e
           exact h ⟨Nat.eq_of_beq_eq_true e.1,Nat.eq_of_beq_eq_true e.2⟩
         rw [this];rfl
   · exact oI
 · rename_i sz ag
   split
   · rename_i b off
     rw [tD]
     simp only [exec]
     split
     · rename_i cs h
       rw [h]
       dsimp only
       cases cJ cs with
       | true=>rfl
       | false=>
         simp only [cond_false,Bool.false_eq_true,if_false]
         cases bl ag sz cs off with
         | none=>rfl
         | some v=>simp only [kz,iw];rfl
     · rename_i h
       split
       · rfl
       · rename_i e1 e2 e3
         split at e3
         · rename_i cs e4;exact absurd e4 (h cs)
         · cases e3
   · exact oI
 · exact oI
def B8 (orc:cZ) (o:bN) (st:St) (K:St→Option α):Option α:=match st with
 | ⟨env,mem,sh,aa⟩=>match o with
   | ⟨d,g,args,op⟩=>match g with
     | none=>Bt env args fun vals=>x1 orc op d vals env mem sh aa K
     | some (t,b)=>match lk env t with
       | some (.pv (.bool c))=>bif c == b then Bt env args fun vals=>x1 orc op d vals env mem sh aa K else lay env mem sh aa d .un K
       | some .un=>lay env mem sh aa d .un K
       | _=>none
theorem Bm {orc:cZ} {o:bN} {st:St} {K:St→Option α}:B8 orc o st K=(cr orc o st).bind K:=by
 obtain ⟨env,mem,sh,aa⟩:=st
 obtain ⟨d,g,args,op⟩:=o
 have run:(Bt env args fun vals=>x1 orc op d vals env mem sh aa K)=(match cB env args with
     | none=>none
     | some vals=>match exec orc op vals (op.key.bind (look mem)) sh aa with
       | none=>none
       | some out=>some (⟨dq env d out.val,cM mem op.key out.cells,out.sh,out.aa⟩:St)).bind K:=by
   rw [yJ]
   cases cB env args with
   | none=>rfl
   | some vals=>exact BV
 cases g with
 | none=>simp only [B8,cr,dm];exact run
 | some p=>
   obtain ⟨t,b⟩:=p
   simp only [B8,cr,dm,nj]
   split
   · rename_i c h
     rw [h]
     dsimp only
     cases hc:(c == b) with
     | true=>simp only [cond_true];exact run
     | false=>simp only [cond_false,iw];rfl
   · rename_i h
     rw [h]
     simp only [iw];rfl
   · rename_i h1 h2
     split
     · rfl
     · rename_i e;split at e<;>simp_all
     · rename_i e;split at e<;>simp_all
def z9 (orc:cZ):List bN→St→(St→Option α)→Option α
 | [],st,K=>K st
 | o::r,st,K=>B8 orc o st fun st=>z9 orc r st K
theorem t5 {orc:cZ}:∀{l:List bN} {st:St} {K:St→Option α},z9 orc l st K=(aJ orc l st).bind K
 | [],_,_=>rfl
 | o::r,st,K=>by
   simp only [z9,aJ]
   rw [Bm]
   cases cr orc o st with
   | none=>rfl
   | some s=>exact t5
def t6 (f:St→(aE→St→Option α)→Option α) (pre:St→St):Nat→St→(aE→St→Option α)→Option α
 | 0,_,_=>none
 | n+1,st,K=>Bh (pre st) fun st=>f st fun e st=>match e with
   | .normal=>t6 f pre n st K
   | e=>K e st
def Au (live:List Nat) (v:AV):Bool:=match v with
 | .bJ d _=>live.contains d
 | .fk d _=>live.contains d
 | .pv _=>true
 | .own ..=>true
 | .agg cs=>dC cs
 | v=>a_ v
theorem yM {live:List Nat} {v:AV}:Au live v=cC live v:=by cases v<;>rfl
def BW (live:List Nat) (env:List (Nat×AV)):List Nat→(List (Nat×AV)→Option α)→Option α
 | [],K=>K []
 | t::r,K=>match lk env t with
   | some v=>BW live env r fun e=>bif Au live v then K ((t,v)::e) else K e
   | none=>BW live env r K
theorem tE {live:List Nat} {env:List (Nat×AV)}:∀{l:List Nat} {K:List (Nat×AV)→Option α},BW live env l K=K (aO live env l)
 | [],_=>rfl
 | t::r,K=>by
   simp only [BW,aO,nj]
   cases look env t with
   | none=>exact tE
   | some v=>
     dsimp only
     rw [tE,yM]
     cases cC live v<;>simp
def BX (mem:List (Nat×List AV)):List Nat→(List (Nat×List AV)→Option α)→Option α
 | [],K=>K []
 | t::r,K=>match lk mem t with
   | some v=>BX mem r fun e=>K ((t,v)::e)
   | none=>BX mem r K
theorem tF {mem:List (Nat×List AV)}:∀{l:List Nat} {K:List (Nat×List AV)→Option α},BX mem l K=K (aT mem l)
 | [],_=>rfl
 | t::r,K=>by
   simp only [BX,aT,nj]
   cases look mem t with
   | none=>exact tF
   | some v=>exact tF
def rs (live:List Nat) (st:St) (K:St→Option α):Option α:=match st with
 | ⟨env,mem,sh,aa⟩=>BW live env live fun env=>BX mem live fun mem=>K ⟨env,mem,sh,aa⟩
theorem BY {live:List Nat} {st:St} {K:St→Option α}:rs live st K=K (restrict live st):=by
 obtain ⟨env,mem,sh,aa⟩:=st
 simp only [rs];rw [tE,tF];rfl
def Av (K:aE→St→Option α):Option (aE×St)→Option α
 | some (e,st)=>K e st
 | none=>none
def cF (orc:cZ) (k:Nat):aR→St→(aE→St→Option α)→Option α
 | .skip,st,K=>K .normal st
 | .iL ops live,st,K=>z9 orc ops st fun st=>rs live st fun st=>K .normal st
 | .seq a b,st,K=>cF orc k a st fun e st=>match e with
   | .normal=>cF orc k b st K
   | e=>K e st
 | .cond c a b,st,K=>match dZ st.env c with
   | some (.pv (.bool t))=>match t with
     | true=>cF orc k a st K
     | false=>cF orc k b st K
   | _=>none
 | .block id b,st,K=>cF orc k b st fun e st=>match e with
   | .exit id'=>if id'=id then K .normal st else K (.exit id') st
   | e=>K e st
 | .loop live b,st,K=>t6 (cF orc k b) (fun s=>norm (restrict live s)) k st K
 | .back c gb pi px sz ag live x y,st,K=>Av K (bB orc k (.back c gb pi px sz ag live x y) st)
 | .exit id,st,K=>K (.exit id) st
 | .ret,st,K=>K .ret st
 | .gX ts,st,K=>K .normal (jg ts st)
 | .AB ds,st,K=>bif er st.env ds then K .normal st else none
 | .gZ ps,st,K=>Bh (oN ps st) fun st=>K .normal st
 | .ix ts,st,K=>Bh (wU ts st) fun st=>K .normal st
 | .Bq ts,st,K=>Bh (jh ts st) fun st=>K .normal st
theorem qR {f:St→(aE→St→Option α)→Option α} {g:St→Option (aE×St)} {pre:St→St} (h:∀st K,f st K=Av K (g st)):∀{n:Nat} {st:St} {K:aE→St→Option α},t6 f pre n st K=Av K (df g pre n st)
 | 0,_,_=>rfl
 | n+1,st,K=>by
   simp only [t6,df]
   rw [me,h]
   cases g (pre st) with
   | none=>rfl
   | some q=>
     obtain ⟨e,s⟩:=q
     cases e with
     | normal=>exact qR h
     | ret=>rfl
     | exit id=>rfl
theorem mf {orc:cZ} {k:Nat}:∀{c:aR} {st:St} {K:aE→St→Option α},cF orc k c st K=Av K (bB orc k c st)
 | .skip,_,_=>rfl
 | .iL ops live,st,K=>by
   simp only [cF,bB]
   rw [t5]
   cases aJ orc ops st with
   | none=>rfl
   | some s=>simp only [Option.bind_some,BY,Av]
 | .seq a b,st,K=>by
   simp only [cF,bB]
   rw [mf]
   cases bB orc k a st with
   | none=>rfl
   | some q=>
     obtain ⟨e,s⟩:=q
     cases e with
     | normal=>simp only [Av];exact mf
     | ret=>rfl
     | exit id=>rfl
 | .cond c a b,st,K=>by
   simp only [cF,bB]
   split
   · rename_i t h
     rw [h]
     cases t with
     | true=>exact mf
     | false=>exact mf
   · rename_i h
     split
     · rename_i t h';exact absurd h' (h t)
     · rfl
 | .block id b,st,K=>by
   simp only [cF,bB]
   rw [mf]
   cases bB orc k b st with
   | none=>rfl
   | some q=>
     obtain ⟨e,s⟩:=q
     cases e with
     | normal=>rfl
     | ret=>rfl
     | exit id'=>
       simp only [Av]
       split<;>rfl
 | .loop live b,st,K=>by
   simp only [cF,bB]
   exact qR (g:=bB orc k b) fun _ _=>mf
 | .back c gb pi px sz ag live x y,_,_=>by simp only [cF]
 | .exit id,_,_=>rfl
 | .ret,_,_=>rfl
 | .gX _,_,_=>rfl
 | .AB ds,st,K=>by
   simp only [cF,bB]
   cases er st.env ds<;>rfl
 | .gZ ps,st,K=>by
   simp only [cF,bB];rw [me];rfl
 | .ix ps,st,K=>by
   simp only [cF,bB];rw [me];rfl
 | .Bq ps,st,K=>by
   simp only [cF,bB];rw [me];rfl
def z_ (aw:Bool) (af:aK) (sh0:Sh) (e:aE) (st:St) (K:List AV→Sh→al→Option α):Option α:=
 match e with
 | .exit _=>none
 | _=>match cE st af.results with
   | some vs=>
     BQ (bf aw af.ks st.sh vs) fun rs=>
     let sh':=if rs.all (aq sh0.length)=true then (cU aw af.ks st.sh vs).take sh0.length else cU aw af.ks st.sh vs
     if rs.all aY=true then
       match bR st.aa rs sh' with
       | (rs,sh,_,ts)=>BQ rs fun rs=>Bs sh fun sh=>fT ts fun ts=>K rs sh ts
     else none
   | none=>none
def Aa (K:List AV→Sh→al→Option α):Option (List AV×Sh×al)→Option α
 | some (a,b,c)=>K a b c
 | none=>none
theorem Ac {aw:Bool} {af:aK} {sh0:Sh} {e:aE} {st:St} {K:List AV→Sh→al→Option α}:z_ aw af sh0 e st K=Aa K (finish aw af sh0 (some (e,st))):=by
 cases e with
 | exit id=>rfl
 | normal=>
   simp only [z_,finish]
   cases cE st af.results with
   | none=>rfl
   | some vs=>
     simp only [mc,or_true,if_true]
     split
     · simp only [mc,j0,ni,Aa]
     · rfl
 | ret=>
   simp only [z_,finish]
   cases cE st af.results with
   | none=>rfl
   | some vs=>
     simp only [mc,true_or,if_true]
     split
     · simp only [mc,j0,ni,Aa]
     · rfl
def t7 (orc:cZ) (k:Nat) (aw:Bool) (af:aK) (args:List AV) (sh:Sh) (ts:al) (K:List AV→Sh→al→Option α):Option α:=
 Bh { env:=bh 0 args,mem:=[],sh,aa:=ts } fun st=>cF orc k af.body st fun e st=>z_ aw af sh e st K
theorem qS {orc:cZ} {k:Nat} {aw:Bool} {af:aK} {args:List AV} {sh:Sh} {ts:al} {K:List AV→Sh→al→Option α}:t7 orc k aw af args sh ts K=Aa K (bo orc k aw af args sh ts):=by
 unfold t7
 rw [me,mf,eA]
 cases bB orc k af.body { env:=bh 0 args,mem:=[],sh,aa:=ts } with
 | none=>rfl
 | some q=>obtain ⟨e,s⟩:=q;simp only [Av];exact Ac
def wO (AP:Nat→Option aK) (k:Nat):Nat→cZ
 | 0=>{ p:=fun _ _=>none,i:=fun _ _ _ _=>none }
 | n+1=>
   { p:=fun g cv=>match AP g with
       | some af=>match af.kX with
         | some f=>f.f (wO AP k n).p cv
         | none=>if cv.length=af.nparams∧cv.length≤af.ntmps then t7 (wO AP k n) k false af (cv.map .pv) [] [] fun rs _ _=>dD rs else none
       | none=>none
     i:=fun g args sh ts=>match AP g with
       | some af=>if args.length≤af.ntmps then t7 (wO AP k n) k true af args sh ts fun a b c=>some (a,b,c) else none
       | none=>none }
theorem t8 {AP:Nat→Option aK} {k:Nat}:∀n,wO AP k n=run AP k n
 | 0=>rfl
 | n+1=>by
   have ih:=t8 (AP:=AP) (k:=k) n
   simp only [wO,run]
   congr 1
   · funext g cv
     cases AP g with
     | none=>rfl
     | some af=>
       dsimp only
       cases af.kX with
       | some f=>dsimp only;rw [ih]
       | none=>
         dsimp only
         split
         · rw [qS,ih]
           cases bo (run AP k n) k false af (cv.map .pv) [] [] with
           | none=>rfl
           | some q=>rfl
         · rfl
   · funext g args sh ts
     cases AP g with
     | none=>rfl
     | some af=>
       dsimp only
       split
       · rw [qS,ih]
         cases bo (run AP k n) k true af args sh ts with
         | none=>rfl
         | some q=>rfl
       · rfl
theorem Cm {AP:Nat→Option aK} {k n g:Nat} {x rs:List PV} (h:(wO AP k n).p g x=some rs):(bQ AP).p g x=some rs:=by
 rw [t8] at h
 exact lQ (kP g x) (show (run AP (max k n) (max k n)).p g x=some rs from (bL (Nat.le_max_right k n) (Nat.le_max_left k n)).p _ _ _ h)
end Go.Ab.Fc
