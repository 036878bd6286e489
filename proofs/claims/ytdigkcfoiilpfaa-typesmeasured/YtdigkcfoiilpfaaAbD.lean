import Derived.Test.YtdigkcfoiilpfaaAbC
import Derived.Lib.Join
import Derived.Lib.ItoaNum
import Derived.Lib.LaidTab
import Derived.Sort.Grow
import Derived.Deep.Draws
import Derived.Lib.Builder
import Derived.Lib.UnsafeStr
import Derived.Lib.AppendStr
/-
  The evaluator for the kernel: what an operation lays is brought to its last form at once. It answers as the evaluator does.
  Functions of Go's library that the kit knows: strings.Join, and strconv.Itoa of small numbers.
  A program's text written through a strings.Builder: what the declarations' and the bindings' texts are, one after another.
-/
set_option linter.unusedVariables false
set_option linter.unusedSimpArgs false
set_option linter.unnecessarySimpa false
set_option maxRecDepth 100000
set_option maxHeartbeats 8000000
namespace Go.Ab.Fc
variable {α:Type}
def fN (n:Nat) (K:Nat→Option α):Option α:=match n with
 | 0=>K 0
 | m+1=>K (m+1)
theorem mI {n:Nat} {K:Nat→Option α}:fN n K=K n:=by cases n<;>rfl
def fI (n:Int) (K:Int→Option α):Option α:=match n with
 | .ofNat m=>fN m fun m=>K (.ofNat m)
 | .negSucc m=>fN m fun m=>K (.negSucc m)
theorem D5 {n:Int} {K:Int→Option α}:fI n K=K n:=by cases n<;>simp [fI,mI]
def fB (b:Bool) (K:Bool→Option α):Option α:=match b with
 | true=>K true
 | false=>K false
theorem oN {b:Bool} {K:Bool→Option α}:fB b K=K b:=by cases b<;>rfl
def fS {β:Type}:List β→(List β→Option α)→Option α
 | [],K=>K []
 | a::r,K=>fS r fun r=>K (a::r)
theorem uI {β:Type}:∀{l:List β} {K:List β→Option α},fS l K=K l
 | [],_=>rfl
 | a::r,K=>by simp only [fS];rw [uI]
def fL (p:PV) (K:PV→Option α):Option α:=match p with
 | .bool b=>fB b fun b=>K (.bool b)
 | .int k n=>fI n fun n=>K (.int k n)
 | .str s=>K (.str s)
 | .agg cs=>K (.agg cs)
 | .aF l=>K (.aF l)
theorem Gg {p:PV} {K:PV→Option α}:fL p K=K p:=by cases p<;>simp [fL,oN,D5]
def HZ:List PV→(List PV→Option α)→Option α
 | [],K=>K []
 | a::r,K=>fL a fun a=>HZ r fun r=>K (a::r)
theorem yb:∀{l:List PV} {K:List PV→Option α},HZ l K=K l
 | [],_=>rfl
 | a::r,K=>by simp only [HZ];rw [Gg,yb]
def fP (p:PV) (K:PV→Option α):Option α:=match p with
 | .agg cs=>HZ cs fun cs=>K (.agg cs)
 | p=>fL p K
theorem Gi {p:PV} {K:PV→Option α}:fP p K=K p:=by cases p<;>simp [fP,yb,Gg]
def Iz (v:AV) (K:AV→Option α):Option α:=match v with
 | .un=>K .un
 | .pv p=>fP p fun p=>K (.pv p)
 | .cz l=>K (.cz l)
 | .own l τ=>fN τ fun τ=>K (.own l τ)
 | .agg cs=>K (.agg cs)
 | .lr cs=>K (.lr cs)
 | .bg a b=>fN a fun a=>fN b fun b=>K (.bg a b)
 | .aO a b=>fN a fun a=>fN b fun b=>K (.aO a b)
 | .cS cs=>fS cs fun cs=>K (.cS cs)
 | .aY a b c d=>fN a fun a=>fN c fun c=>K (.aY a b c d)
 | .fn g c=>K (.fn g c)
 | .eN=>K .eN
 | .d_ s=>fN s fun s=>K (.d_ s)
 | .cT kvs=>fS kvs fun kvs=>K (.cT kvs)
 | .mM a b c=>fN a fun a=>fN b fun b=>fN c fun c=>K (.mM a b c)
 | .gR a b=>fN a fun a=>fN b fun b=>K (.gR a b)
theorem D6 {v:AV} {K:AV→Option α}:Iz v K=K v:=by cases v<;>simp [Iz,Gi,mI,uI]
def FT:List AV→(List AV→Option α)→Option α
 | [],K=>K []
 | a::r,K=>Iz a fun a=>FT r fun r=>K (a::r)
theorem oO:∀{l:List AV} {K:List AV→Option α},FT l K=K l
 | [],_=>rfl
 | a::r,K=>by simp only [FT];rw [D6,oO]
def fA (v:AV) (K:AV→Option α):Option α:=match v with
 | .agg cs=>FT cs fun cs=>K (.agg cs)
 | .lr cs=>FT cs fun cs=>K (.lr cs)
 | .fn g cs=>FT cs fun cs=>K (.fn g cs)
 | v=>Iz v K
theorem mJ {v:AV} {K:AV→Option α}:fA v K=K v:=by cases v<;>simp [fA,oO,D6]
def H0:List AV→(List AV→Option α)→Option α
 | [],K=>K []
 | a::r,K=>fA a fun a=>H0 r fun r=>K (a::r)
theorem oP:∀{l:List AV} {K:List AV→Option α},H0 l K=K l
 | [],_=>rfl
 | a::r,K=>by simp only [H0];rw [mJ,oP]
def fV (v:AV) (K:AV→Option α):Option α:=match v with
 | .pv (.str s)=>fS s fun s=>K (.pv (.str s))
 | .pv (.aF l)=>fS l fun l=>K (.pv (.aF l))
 | .cz l=>fS l fun l=>HZ l fun l=>K (.cz l)
 | .own l τ=>fS l fun l=>fN τ fun τ=>K (.own l τ)
 | v=>fA v K
theorem D7 {v:AV} {K:AV→Option α}:fV v K=K v:=by
 cases v with
 | pv p=>cases p<;>simp [fV,uI,mJ]
 | _=>simp [fV,uI,mJ,yb,mI]
def H2:List PV→(List PV→Option α)→Option α
 | [],K=>K []
 | a::r,K=>fP a fun a=>H2 r fun r=>K (a::r)
theorem D8:∀{l:List PV} {K:List PV→Option α},H2 l K=K l
 | [],_=>rfl
 | a::r,K=>by simp only [H2];rw [Gi,D8]
def fresh:AK→Bool
 | .v (.cJ _) | .v (.slice ..) | .append .. | .v (.bin .add)=>true
 | _=>false
def JB (op:AK) (v:AV) (K:AV→Option α):Option α:=match op,v with
 | .v (.cJ _),.cz l=>H2 l fun l=>K (.cz l)
 | op,v=>if fresh op then fV v K else fA v K
def fO {β:Type} (f:β→(β→Option α)→Option α) (o:Option β) (K:Option β→Option α):Option α:=match o with
 | none=>K none
 | some x=>f x fun x=>K (some x)
theorem H3 {β:Type} {f:β→(β→Option α)→Option α} (hf:∀x K,f x K=K x) {o:Option β} {K:Option β→Option α}:fO f o K=K o:=by cases o<;>simp [fO,hf]
def Hu:Sh→(Sh→Option α)→Option α
 | [],K=>K []
 | a::r,K=>fO FT a fun a=>Hu r fun r=>K (a::r)
theorem lV:∀{l:Sh} {K:Sh→Option α},Hu l K=K l
 | [],_=>rfl
 | a::r,K=>by simp only [Hu];rw [H3 (fun _ _=>oO),lV]
def fT:al→(al→Option α)→Option α
 | [],K=>K []
 | a::r,K=>fN a fun a=>fT r fun r=>K (a::r)
theorem qA:∀{l:al} {K:al→Option α},fT l K=K l
 | [],_=>rfl
 | a::r,K=>by simp only [fT];rw [mI,qA]
def FU:List (Nat×AV)→(List (Nat×AV)→Option α)→Option α
 | [],K=>K []
 | (t,v)::r,K=>fA v fun v=>FU r fun r=>K ((t,v)::r)
theorem yG:∀{l:List (Nat×AV)} {K:List (Nat×AV)→Option α},FU l K=K l
 | [],_=>rfl
 | (t,v)::r,K=>by simp only [FU];rw [mJ,yG]
def FV:List (Nat×List AV)→(List (Nat×List AV)→Option α)→Option α
 | [],K=>K []
 | (t,v)::r,K=>FT v fun v=>FV r fun r=>K ((t,v)::r)
theorem yH:∀{l:List (Nat×List AV)} {K:List (Nat×List AV)→Option α},FV l K=K l
 | [],_=>rfl
 | (t,v)::r,K=>by simp only [FV];rw [oO,yH]
def Hf (st:St) (K:St→Option α):Option α:=match st with
 | ⟨env,mem,sh,aa⟩=>FU env fun env=>FV mem fun mem=>Hu sh fun sh=>fT aa fun aa=>K ⟨env,mem,sh,aa⟩
theorem oQ {st:St} {K:St→Option α}:Hf st K=K st:=by
 obtain ⟨env,mem,sh,aa⟩:=st
 simp only [Hf];rw [yG,yH,lV,qA]
def lk {β:Type}:List (Nat×β)→Nat→Option β
 | [],_=>none
 | (k,v)::r,t=>bif Nat.beq k t then some v else lk r t
theorem qB {β:Type}:∀{l:List (Nat×β)} {t:Nat},lk l t=look l t
 | [],_=>rfl
 | (k,v)::r,t=>by
   simp only [lk,look]
   rw [qB]
   by_cases h:k=t
   · subst h;simp
   · rw [if_neg h,show Nat.beq k t=false from by rw [Bool.eq_false_iff];intro e;exact h (Nat.eq_of_beq_eq_true e)]
     rfl
def pt {β:Type}:List (Nat×β)→Nat→β→(List (Nat×β)→Option α)→Option α
 | [],t,u,K=>K [(t,u)]
 | (k,v)::r,t,u,K=>bif Nat.beq k t then K ((k,u)::r) else pt r t u fun r=>K ((k,v)::r)
theorem D9 {β:Type}:∀{l:List (Nat×β)} {t:Nat} {u:β} {K:List (Nat×β)→Option α},pt l t u K=K (bN l t u)
 | [],_,_,_=>rfl
 | (k,v)::r,t,u,K=>by
   simp only [pt,bN]
   by_cases h:k=t
   · subst h;simp
   · rw [if_neg h,show Nat.beq k t=false from by rw [Bool.eq_false_iff];intro e;exact h (Nat.eq_of_beq_eq_true e)]
     exact D9
def od (env:List (Nat×AV)) (x:dL) (K:AV→Option α):Option α:=match x with
 | .t n=>match lk env n with
   | some v=>K v
   | none=>none
 | .c v=>K v
theorem H4 {env:List (Nat×AV)} {x:dL} {K:AV→Option α}:od env x K=(b_ env x).bind K:=by
 cases x with
 | t n=>simp only [od,b_,qB];cases look env n<;>rfl
 | c v=>rfl
def Hv (env:List (Nat×AV)):List dL→(List AV→Option α)→Option α
 | [],K=>K []
 | x::r,K=>od env x fun v=>Hv env r fun vs=>K (v::vs)
theorem D' {env:List (Nat×AV)}:∀{l:List dL} {K:List AV→Option α},Hv env l K=(bc env l).bind K
 | [],_=>rfl
 | x::r,K=>by
   simp only [Hv,bc]
   rw [H4]
   cases b_ env x with
   | none=>rfl
   | some v=>
     dsimp only [Option.bind_some]
     rw [D']
     cases bc env r<;>rfl
def Hg:IntKind→Nat
 | .i8=>0 | .i16=>1 | .i32=>2 | .i64=>3 | .u8=>4 | .u16=>5 | .u32=>6 | .u64=>7
theorem FW {a b:IntKind} (h:Nat.beq (Hg a) (Hg b)=true):a=b:=by
 have:=Nat.eq_of_beq_eq_true h
 cases a<;>cases b<;>first | rfl | (simp [Hg] at this)
def IA:Int→Int→Bool
 | .ofNat a,.ofNat b=>Nat.beq a b
 | .negSucc a,.negSucc b=>Nat.beq a b
 | _,_=>false
theorem I0 {a b:Nat}:Nat.beq a b=decide (a=b):=by
 by_cases h:a=b
 · subst h;simp
 · rw [decide_eq_false h,Bool.eq_false_iff];intro e;exact h (Nat.eq_of_beq_eq_true e)
theorem Ea {a b:Int}:IA a b=(a == b):=by
 cases a<;>cases b<;>(rw [Bool.eq_iff_iff];simp [IA,I0])<;>omega
def Hw:Int→Int→Bool
 | .ofNat a,.ofNat b=>Nat.blt a b
 | .negSucc a,.negSucc b=>Nat.blt b a
 | .negSucc _,.ofNat _=>true
 | .ofNat _,.negSucc _=>false
theorem rR {a b:Int}:Hw a b=decide (a<b):=by
 cases a<;>cases b<;>(rw [Bool.eq_iff_iff];simp [Hw,Nat.blt_eq])<;>omega
def Hh (k:IntKind) (a b:Int) (K:Int→Option α):Option α:=match k,a,b with
 | .i64,.ofNat x,.ofNat y=>bif Nat.blt (x+y) 4611686018427387904 then fN (x+y) fun n=>K (.ofNat n) else fI (IntKind.i64.wrap (.ofNat x+.ofNat y)) K
 | k,a,b=>fI (k.wrap (a+b)) K
theorem FX {k:IntKind} {a b:Int} {K:Int→Option α}:Hh k a b K=K (k.wrap (a+b)):=by
 unfold Hh
 split
 · rename_i x y
   cases h:Nat.blt (x+y) 4611686018427387904 with
   | false=>simp only [cond_false];exact D5
   | true=>
     simp only [cond_true,mI]
     have:x+y<4611686018427387904:=by simpa [Nat.blt_eq] using h
     congr 1
     simp [IntKind.wrap,IntKind.bits,IntKind.signed]
     omega
 · exact D5
def Hi (op:BinOp) (a b:AV) (K:AV→Option α):Option α:=match a with
 | .pv (.int k x)=>match b with
   | .pv (.int k' y)=>bif Nat.beq (Hg k) (Hg k') then (match op with
       | .eql=>fB (IA x y) fun c=>K (.pv (.bool c))
       | .neq=>fB (!IA x y) fun c=>K (.pv (.bool c))
       | .lss=>fB (Hw x y) fun c=>K (.pv (.bool c))
       | .gtr=>fB (Hw y x) fun c=>K (.pv (.bool c))
       | .geq=>fB (!Hw x y) fun c=>K (.pv (.bool c))
       | .leq=>fB (!Hw y x) fun c=>K (.pv (.bool c))
       | .add=>Hh k x y fun n=>K (.pv (.int k n))
       | op=>(bP op a b).bind fun v=>fV v K)
     else (bP op a b).bind fun v=>fV v K
   | b=>(bP op a b).bind fun v=>fV v K
 | a=>(bP op a b).bind fun v=>fV v K
theorem FY {op:BinOp} {a b:AV} {K:AV→Option α}:Hi op a b K=(bP op a b).bind K:=by
 have dflt:((bP op a b).bind fun v=>fV v K)=(bP op a b).bind K:=by
   congr 1;funext v;exact D7
 unfold Hi
 split
 · rename_i k x
   split
   · rename_i k' y
     cases hk:Nat.beq (Hg k) (Hg k') with
     | false=>exact dflt
     | true=>
       obtain rfl:=FW hk
       simp only [cond_true]
       split
       · simp [oN,Ea,bP]
       · simp [oN,Ea,bP,bne]
       · simp [oN,rR,bP]
       · simp [oN,rR,bP]
       · simp [oN,rR,bP,←decide_not,Int.not_lt]
       · simp [oN,rR,bP,←decide_not,Int.not_lt]
       · simp [FX,bP]
       · exact dflt
   · exact dflt
 · exact dflt
def Jb (off:Nat) (x:AV) (K:AV→Option α):Option α:=match x with
 | .bg d o=>fN (o+off) fun n=>K (.bg d n)
 | .aO b o=>fN (o+off) fun n=>K (.aO b n)
 | .cS cs=>fS (cs.drop off) fun cs=>K (.cS cs)
 | _=>none
def nth {β:Type}:List β→Nat→Option β
 | [],_=>none
 | a::r,n=>match n with
   | 0=>some a
   | n+1=>nth r n
theorem yc {β:Type}:∀{l:List β} {n:Nat},nth l n=l[n]?
 | [],n=>by simp [nth]
 | a::r,0=>rfl
 | a::r,n+1=>by simp only [nth,List.getElem?_cons_succ];exact yc
def ln {β:Type}:List β→Nat→(Nat→Option α)→Option α
 | [],n,K=>K n
 | _::r,n,K=>fN (n+1) fun n=>ln r n K
theorem yI {β:Type}:∀{l:List β} {n:Nat} {K:Nat→Option α},ln l n K=K (n+l.length)
 | [],n,K=>rfl
 | _::r,n,K=>by
   simp only [ln];rw [mI,yI];congr 1;simp;omega
def xV (o:ED) (vals:List AV) (K:AV→Option α):Option α:=match o with
 | .mv=>match vals with
   | [x]=>K x
   | vals=>(a6 .mv vals).bind fun v=>fA v K
 | .bin op=>match vals with
   | [a,b]=>Hi op a b K
   | vals=>(a6 (.bin op) vals).bind fun v=>fA v K
 | .fw off=>match vals with
   | [x]=>Jb off x K
   | vals=>(a6 (.fw off) vals).bind fun v=>fA v K
 | .lu=>match vals with
   | [.bg a b]=>K (.bg a b)
   | [.aO a b]=>K (.aO a b)
   | vals=>(a6 .lu vals).bind fun v=>fA v K
 | .index=>match vals with
   | [.pv (.str s),.pv (.int _ (.ofNat i))]=>match nth s i with
     | some b=>fN b.toNat fun n=>K (.pv (.int .u8 (.ofNat n)))
     | none=>none
   | vals=>(a6 .index vals).bind fun v=>fA v K
 | .uV=>match vals with
   | [.pv (.str s)]=>ln s 0 fun n=>K (.pv (.int .i64 (.ofNat n)))
   | vals=>(a6 .uV vals).bind fun v=>fA v K
 | .len=>match vals with
   | [.pv (.aF l)]=>ln l 0 fun n=>K (.pv (.int .i64 (.ofNat n)))
   | [.own l _]=>ln l 0 fun n=>K (.pv (.int .i64 (.ofNat n)))
   | vals=>(a6 .len vals).bind fun v=>fA v K
 | .cJ sz=>match a6 (.cJ sz) vals with
   | some (.cz l)=>H2 l fun l=>K (.cz l)
   | some v=>K v
   | none=>none
 | .slice a b c d e=>(a6 (.slice a b c d e) vals).bind fun v=>fV v K
 | o=>(a6 o vals).bind fun v=>fA v K
theorem H5 {o:ED} {vals:List AV} {K:AV→Option α}:xV o vals K=(a6 o vals).bind K:=by
 have dA:∀o vals,((a6 o vals).bind fun v=>fA v K)=(a6 o vals).bind K:=by
   intro o vals;congr 1;funext v;exact mJ
 unfold xV
 split
 · split
   · rfl
   · exact dA _ _
 · split
   · exact FY
   · exact dA _ _
 · split
   · rename_i x
     cases x<;>simp [Jb,a6,mI,uI]
   · exact dA _ _
 · split
   · rfl
   · rfl
   · exact dA _ _
 · split
   · rename_i s k i
     rw [yc]
     have hi:¬(Int.ofNat i<0):=by simp
     simp only [a6]
     rw [if_neg hi]
     simp only [Int.toNat_natCast,Int.ofNat_eq_natCast]
     cases s[i]? with
     | none=>rfl
     | some b=>simp [mI]
   · exact dA _ _
 · split
   · simp [yI,a6]
   · exact dA _ _
 · split
   · simp [yI,a6,bF]
   · simp [yI,a6,bF]
   · exact dA _ _
 · split
   · rename_i l h;rw [h,D8];rfl
   · rename_i h;rw [h];rfl
   · rename_i h;rw [h];rfl
 · congr 1;funext v;exact D7
 · exact dA _ _
def lay (env:List (Nat×AV)) (mem:List (Nat×List AV)) (sh:Sh) (aa:al) (d:Option Nat) (v:AV) (K:St→Option α):Option α:=match d with
 | some d=>pt env d v fun env=>K ⟨env,mem,sh,aa⟩
 | none=>K ⟨env,mem,sh,aa⟩
theorem jJ {env:List (Nat×AV)} {mem:List (Nat×List AV)} {sh:Sh} {aa:al} {d:Option Nat} {v:AV} {K:St→Option α}:lay env mem sh aa d v K=K ⟨dz env d v,mem,sh,aa⟩:=by
 cases d<;>simp [lay,dz,D9]
def Hj (mem:List (Nat×List AV)) (k:Nat) (cs:Option (List AV)) (K:List (Nat×List AV)→Option α):Option α:=match cs with
 | some cs=>FT cs fun cs=>pt mem k cs K
 | none=>K mem
theorem FZ {mem:List (Nat×List AV)} {k:Nat} {cs:Option (List AV)} {K:List (Nat×List AV)→Option α}:Hj mem k cs K=K (dr mem (some k) cs):=by
 cases cs<;>simp [Hj,dr,oO,D9]
def Eb (orc:dh) (op:AK) (d:Option Nat) (vals:List AV) (env:List (Nat×AV)) (mem:List (Nat×List AV)) (sh:Sh) (aa:al) (K:St→Option α):Option α:=
 match exec orc op vals (op.key.bind (look mem)) sh aa with
 | none=>none
 | some ⟨val,cells,sh',toks'⟩=>fV val fun val=>(match op.key with | some k=>Hj mem k cells | none=>fun K=>K mem) fun mem=>Hu sh' fun sh'=>fT toks' fun toks'=>lay env mem sh' toks' d val K
theorem rS {orc:dh} {op:AK} {d:Option Nat} {vals:List AV} {env:List (Nat×AV)} {mem:List (Nat×List AV)} {sh:Sh} {aa:al} {K:St→Option α} :
   Eb orc op d vals env mem sh aa K=(match exec orc op vals (op.key.bind (look mem)) sh aa with
     | none=>none
     | some out=>some (⟨dz env d out.val,dr mem op.key out.cells,out.sh,out.aa⟩:St)).bind K:=by
 unfold Eb
 cases exec orc op vals (op.key.bind (look mem)) sh aa with
 | none=>rfl
 | some out=>
   obtain ⟨val,cells,sh',toks'⟩:=out
   simp only [D7,Option.bind_some]
   cases op.key with
   | none=>simp only [lV,qA,jJ];cases cells<;>rfl
   | some k=>simp only [FZ,lV,qA,jJ]
def xP (orc:dh) (g:Nat) (vals:List AV) (K:AV→Option α):Option α:=match bY [] vals with
 | some cM=>match orc.p g cM with
   | some rs=>fA (nk rs) K
   | none=>none
 | none=>none
def x1 (orc:dh) (op:AK) (d:Option Nat) (vals:List AV) (env:List (Nat×AV)) (mem:List (Nat×List AV)) (sh:Sh) (aa:al) (K:St→Option α):Option α:=match op with
 | .v o=>xV o vals fun v=>lay env mem sh aa d v K
 | .aN g=>xP orc g vals fun v=>lay env mem sh aa d v K
 | .cq key off sz ag=>match vals with
   | [.bg d' o]=>match lk mem key with
     | some cs=>bif Nat.beq d' key && Nat.beq o off then (match bz ag sz cs off with
         | some v=>fA v fun v=>lay env mem sh aa d v K
         | none=>none) else none
     | none=>none
   | vals=>Eb orc (.cq key off sz ag) d vals env mem sh aa K
 | .dt sz ag=>match vals with
   | [.aO b off]=>match nth sh b with
     | some (some cs)=>bif cK cs then none else (match bz ag sz cs off with
         | some v=>fA v fun v=>lay env mem sh aa d v K
         | none=>none)
     | _=>none
   | vals=>Eb orc (.dt sz ag) d vals env mem sh aa K
 | op=>Eb orc op d vals env mem sh aa K
theorem H6 {orc:dh} {op:AK} {d:Option Nat} {vals:List AV} {env:List (Nat×AV)} {mem:List (Nat×List AV)} {sh:Sh} {aa:al} {K:St→Option α} :
   x1 orc op d vals env mem sh aa K=(match exec orc op vals (op.key.bind (look mem)) sh aa with
     | none=>none
     | some out=>some (⟨dz env d out.val,dr mem op.key out.cells,out.sh,out.aa⟩:St)).bind K:=by
 unfold x1
 split
 · rename_i o
   simp only [H5,jJ,exec]
   cases a6 o vals with
   | none=>rfl
   | some v=>rfl
 · rename_i g
   simp only [xP,exec]
   cases bY [] vals with
   | none=>rfl
   | some cM=>
     dsimp only
     cases orc.p g cM with
     | none=>rfl
     | some rs=>simp only [mJ,jJ];rfl
 · rename_i key off sz ag
   split
   · rename_i d' o
     rw [qB]
     have hk:((AK.cq key off sz ag).key.bind (look mem))=look mem key:=rfl
     rw [hk]
     cases look mem key with
     | none=>simp [exec]
     | some cs=>
       simp only [exec]
       by_cases h:d'=key∧o=off
       · obtain ⟨rfl,rfl⟩:=h
         simp only [Nat.beq_refl,Bool.and_self,cond_true,and_self,if_true]
         cases bz ag sz cs o with
         | none=>rfl
         | some v=>simp only [mJ,jJ];rfl
       · rw [if_neg h]
         have:(Nat.beq d' key && Nat.beq o off)=false:=by
           rw [Bool.eq_false_iff];intro e
           simp only [Bool.and_eq_true] at e
           exact h ⟨Nat.eq_of_beq_eq_true e.1,Nat.eq_of_beq_eq_true e.2⟩
         rw [this];rfl
   · exact rS
 · rename_i sz ag
   split
   · rename_i b off
     rw [yc]
     simp only [exec]
     split
     · rename_i cs h
       rw [h]
       dsimp only
       cases cK cs with
       | true=>rfl
       | false=>
         simp only [cond_false,Bool.false_eq_true,if_false]
         cases bz ag sz cs off with
         | none=>rfl
         | some v=>simp only [mJ,jJ];rfl
     · rename_i h
       split
       · rfl
       · rename_i e1 e2 e3
         split at e3
         · rename_i cs e4;exact absurd e4 (h cs)
         · cases e3
   · exact rS
 · exact rS
def IB (orc:dh) (o:cr) (st:St) (K:St→Option α):Option α:=match st with
 | ⟨env,mem,sh,aa⟩=>match o with
   | ⟨d,g,args,op⟩=>match g with
     | none=>Hv env args fun vals=>x1 orc op d vals env mem sh aa K
     | some (t,b)=>match lk env t with
       | some (.pv (.bool c))=>bif c == b then Hv env args fun vals=>x1 orc op d vals env mem sh aa K else lay env mem sh aa d .un K
       | some .un=>lay env mem sh aa d .un K
       | _=>none
theorem Hk {orc:dh} {o:cr} {st:St} {K:St→Option α}:IB orc o st K=(bj orc o st).bind K:=by
 obtain ⟨env,mem,sh,aa⟩:=st
 obtain ⟨d,g,args,op⟩:=o
 have run:(Hv env args fun vals=>x1 orc op d vals env mem sh aa K)=(match bc env args with
     | none=>none
     | some vals=>match exec orc op vals (op.key.bind (look mem)) sh aa with
       | none=>none
       | some out=>some (⟨dz env d out.val,dr mem op.key out.cells,out.sh,out.aa⟩:St)).bind K:=by
   rw [D']
   cases bc env args with
   | none=>rfl
   | some vals=>exact H6
 cases g with
 | none=>simp only [IB,bj,a_];exact run
 | some p=>
   obtain ⟨t,b⟩:=p
   simp only [IB,bj,a_,qB]
   split
   · rename_i c h
     rw [h]
     dsimp only
     cases hc:(c == b) with
     | true=>simp only [cond_true];exact run
     | false=>simp only [cond_false,jJ];rfl
   · rename_i h
     rw [h]
     simp only [jJ];rfl
   · rename_i h1 h2
     split
     · rfl
     · rename_i e;split at e<;>simp_all
     · rename_i e;split at e<;>simp_all
def F0 (orc:dh):List cr→St→(St→Option α)→Option α
 | [],st,K=>K st
 | o::r,st,K=>IB orc o st fun st=>F0 orc r st K
theorem yJ {orc:dh}:∀{l:List cr} {st:St} {K:St→Option α},F0 orc l st K=(aW orc l st).bind K
 | [],_,_=>rfl
 | o::r,st,K=>by
   simp only [F0,aW]
   rw [Hk]
   cases bj orc o st with
   | none=>rfl
   | some s=>exact yJ
def yK (f:St→(aG→St→Option α)→Option α) (pre:St→St):Nat→St→(aG→St→Option α)→Option α
 | 0,_,_=>none
 | n+1,st,K=>Hf (pre st) fun st=>f st fun e st=>match e with
   | .normal=>yK f pre n st K
   | e=>K e st
def Gj (live:List Nat) (v:AV):Bool:=match v with
 | .bg d _=>live.contains d
 | .gR d _=>live.contains d
 | .pv _=>true
 | .own ..=>true
 | .agg cs=>ep cs
 | v=>bl v
theorem Ec {live:List Nat} {v:AV}:Gj live v=cZ live v:=by cases v<;>rfl
def H7 (live:List Nat) (env:List (Nat×AV)):List Nat→(List (Nat×AV)→Option α)→Option α
 | [],K=>K []
 | t::r,K=>match lk env t with
   | some v=>H7 live env r fun e=>bif Gj live v then K ((t,v)::e) else K e
   | none=>H7 live env r K
theorem yd {live:List Nat} {env:List (Nat×AV)}:∀{l:List Nat} {K:List (Nat×AV)→Option α},H7 live env l K=K (aX live env l)
 | [],_=>rfl
 | t::r,K=>by
   simp only [H7,aX,qB]
   cases look env t with
   | none=>exact yd
   | some v=>
     dsimp only
     rw [yd,Ec]
     cases cZ live v<;>simp
def H8 (mem:List (Nat×List AV)):List Nat→(List (Nat×List AV)→Option α)→Option α
 | [],K=>K []
 | t::r,K=>match lk mem t with
   | some v=>H8 mem r fun e=>K ((t,v)::e)
   | none=>H8 mem r K
theorem ye {mem:List (Nat×List AV)}:∀{l:List Nat} {K:List (Nat×List AV)→Option α},H8 mem l K=K (bf mem l)
 | [],_=>rfl
 | t::r,K=>by
   simp only [H8,bf,qB]
   cases look mem t with
   | none=>exact ye
   | some v=>exact ye
def rs (live:List Nat) (st:St) (K:St→Option α):Option α:=match st with
 | ⟨env,mem,sh,aa⟩=>H7 live env live fun env=>H8 mem live fun mem=>K ⟨env,mem,sh,aa⟩
theorem H9 {live:List Nat} {st:St} {K:St→Option α}:rs live st K=K (restrict live st):=by
 obtain ⟨env,mem,sh,aa⟩:=st
 simp only [rs];rw [yd,ye];rfl
def Gk (K:aG→St→Option α):Option (aG×St)→Option α
 | some (e,st)=>K e st
 | none=>none
def cF (orc:dh) (k:Nat):aq→St→(aG→St→Option α)→Option α
 | .skip,st,K=>K .normal st
 | .kb ops live,st,K=>F0 orc ops st fun st=>rs live st fun st=>K .normal st
 | .seq a b,st,K=>cF orc k a st fun e st=>match e with
   | .normal=>cF orc k b st K
   | e=>K e st
 | .cond c a b,st,K=>match b_ st.env c with
   | some (.pv (.bool t))=>match t with
     | true=>cF orc k a st K
     | false=>cF orc k b st K
   | _=>none
 | .block id b,st,K=>cF orc k b st fun e st=>match e with
   | .exit id'=>if id'=id then K .normal st else K (.exit id') st
   | e=>K e st
 | .loop live b,st,K=>yK (cF orc k b) (fun s=>norm (restrict live s)) k st K
 | .back c gb pi px sz ag live x y,st,K=>Gk K (bX orc k (.back c gb pi px sz ag live x y) st)
 | .exit id,st,K=>K (.exit id) st
 | .ret,st,K=>K .ret st
 | .gQ ts,st,K=>K .normal (kc ts st)
 | .F9 ds,st,K=>bif eA st.env ds then K .normal st else none
 | .jj ps,st,K=>Hf (se ps st) fun st=>K .normal st
 | .jk ts,st,K=>Hf (yV ts st) fun st=>K .normal st
 | .Gt ts,st,K=>Hf (gS ts st) fun st=>K .normal st
theorem uJ {f:St→(aG→St→Option α)→Option α} {g:St→Option (aG×St)} {pre:St→St} (h:∀st K,f st K=Gk K (g st)):∀{n:Nat} {st:St} {K:aG→St→Option α},yK f pre n st K=Gk K (dQ g pre n st)
 | 0,_,_=>rfl
 | n+1,st,K=>by
   simp only [yK,dQ]
   rw [oQ,h]
   cases g (pre st) with
   | none=>rfl
   | some q=>
     obtain ⟨e,s⟩:=q
     cases e with
     | normal=>exact uJ h
     | ret=>rfl
     | exit id=>rfl
theorem oR {orc:dh} {k:Nat}:∀{c:aq} {st:St} {K:aG→St→Option α},cF orc k c st K=Gk K (bX orc k c st)
 | .skip,_,_=>rfl
 | .kb ops live,st,K=>by
   simp only [cF,bX]
   rw [yJ]
   cases aW orc ops st with
   | none=>rfl
   | some s=>simp only [Option.bind_some,H9,Gk]
 | .seq a b,st,K=>by
   simp only [cF,bX]
   rw [oR]
   cases bX orc k a st with
   | none=>rfl
   | some q=>
     obtain ⟨e,s⟩:=q
     cases e with
     | normal=>simp only [Gk];exact oR
     | ret=>rfl
     | exit id=>rfl
 | .cond c a b,st,K=>by
   simp only [cF,bX]
   split
   · rename_i t h
     rw [h]
     cases t with
     | true=>exact oR
     | false=>exact oR
   · rename_i h
     split
     · rename_i t h';exact absurd h' (h t)
     · rfl
 | .block id b,st,K=>by
   simp only [cF,bX]
   rw [oR]
   cases bX orc k b st with
   | none=>rfl
   | some q=>
     obtain ⟨e,s⟩:=q
     cases e with
     | normal=>rfl
     | ret=>rfl
     | exit id'=>
       simp only [Gk]
       split<;>rfl
 | .loop live b,st,K=>by
   simp only [cF,bX]
   exact uJ (g:=bX orc k b) fun _ _=>oR
 | .back c gb pi px sz ag live x y,_,_=>by simp only [cF]
 | .exit id,_,_=>rfl
 | .ret,_,_=>rfl
 | .gQ _,_,_=>rfl
 | .F9 ds,st,K=>by
   simp only [cF,bX]
   cases eA st.env ds<;>rfl
 | .jj ps,st,K=>by
   simp only [cF,bX];rw [oQ];rfl
 | .jk ps,st,K=>by
   simp only [cF,bX];rw [oQ];rfl
 | .Gt ps,st,K=>by
   simp only [cF,bX];rw [oQ];rfl
def F1 (aD:Bool) (af:aw) (sh0:Sh) (e:aG) (st:St) (K:List AV→Sh→al→Option α):Option α:=
 match e with
 | .exit _=>none
 | _=>match dj st af.results with
   | some vs=>
     H0 (bG aD af.ks st.sh vs) fun rs=>
     let sh':=if rs.all (au sh0.length)=true then (dH aD af.ks st.sh vs).take sh0.length else dH aD af.ks st.sh vs
     if rs.all a9=true then
       match cf st.aa rs sh' with
       | (rs,sh,_,ts)=>H0 rs fun rs=>Hu sh fun sh=>fT ts fun ts=>K rs sh ts
     else none
   | none=>none
def BZ (K:List AV→Sh→al→Option α):Option (List AV×Sh×al)→Option α
 | some (a,b,c)=>K a b c
 | none=>none
theorem F2 {aD:Bool} {af:aw} {sh0:Sh} {e:aG} {st:St} {K:List AV→Sh→al→Option α}:F1 aD af sh0 e st K=BZ K (finish aD af sh0 (some (e,st))):=by
 cases e with
 | exit id=>rfl
 | normal=>
   simp only [F1,finish]
   cases dj st af.results with
   | none=>rfl
   | some vs=>
     simp only [oP,or_true,if_true]
     split
     · simp only [oP,lV,qA,BZ]
     · rfl
 | ret=>
   simp only [F1,finish]
   cases dj st af.results with
   | none=>rfl
   | some vs=>
     simp only [oP,true_or,if_true]
     split
     · simp only [oP,lV,qA,BZ]
     · rfl
def qC (orc:dh) (k:Nat) (aD:Bool) (af:aw) (args:List AV) (sh:Sh) (ts:al) (K:List AV→Sh→al→Option α):Option α:=
 Hf { env:=bt 0 args,mem:=[],sh,aa:=ts } fun st=>cF orc k af.body st fun e st=>F1 aD af sh e st K
theorem lh {orc:dh} {k:Nat} {aD:Bool} {af:aw} {args:List AV} {sh:Sh} {ts:al} {K:List AV→Sh→al→Option α}:qC orc k aD af args sh ts K=BZ K (bu orc k aD af args sh ts):=by
 unfold qC
 rw [oQ,oR,eo]
 cases bX orc k af.body { env:=bt 0 args,mem:=[],sh,aa:=ts } with
 | none=>rfl
 | some q=>obtain ⟨e,s⟩:=q;simp only [Gk];exact F2
def B0 (AP:Nat→Option aw) (k:Nat):Nat→dh
 | 0=>{ p:=fun _ _=>none,i:=fun _ _ _ _=>none }
 | n+1=>
   { p:=fun g cM=>match AP g with
       | some af=>match af.ng with
         | some f=>f.f (B0 AP k n).p cM
         | none=>if cM.length=af.nparams∧cM.length≤af.ntmps then qC (B0 AP k n) k false af (cM.map .pv) [] [] fun rs _ _=>dX rs else none
       | none=>none
     i:=fun g args sh ts=>match AP g with
       | some af=>if args.length≤af.ntmps then qC (B0 AP k n) k true af args sh ts fun a b c=>some (a,b,c) else none
       | none=>none }
theorem yL {AP:Nat→Option aw} {k:Nat}:∀n,B0 AP k n=run AP k n
 | 0=>rfl
 | n+1=>by
   have ih:=yL (AP:=AP) (k:=k) n
   simp only [B0,run]
   congr 1
   · funext g cM
     cases AP g with
     | none=>rfl
     | some af=>
       dsimp only
       cases af.ng with
       | some f=>dsimp only;rw [ih]
       | none=>
         dsimp only
         split
         · rw [lh,ih]
           cases bu (run AP k n) k false af (cM.map .pv) [] [] with
           | none=>rfl
           | some q=>rfl
         · rfl
   · funext g args sh ts
     cases AP g with
     | none=>rfl
     | some af=>
       dsimp only
       split
       · rw [lh,ih]
         cases bu (run AP k n) k true af args sh ts with
         | none=>rfl
         | some q=>rfl
       · rfl
theorem H_ {AP:Nat→Option aw} {k n g:Nat} {x rs:List PV} (h:(B0 AP k n).p g x=some rs):(aC AP).p g x=some rs:=by
 rw [yL] at h
 exact nZ (mY g x) (show (run AP (max k n) (max k n)).p g x=some rs from (bW (Nat.le_max_right k n) (Nat.le_max_left k n)).p _ _ _ h)
def pP (AP:Nat→Option aw) (ov:Nat→List PV→Option (List PV)) (k:Nat):Nat→dh
 | 0=>{ p:=ov,i:=fun _ _ _ _=>none }
 | n+1=>
   { p:=fun g cM=>match ov g cM with
       | some r=>some r
       | none=>match AP g with
         | some af=>match af.ng with
           | some f=>f.f (pP AP ov k n).p cM
           | none=>if cM.length=af.nparams∧cM.length≤af.ntmps then qC (pP AP ov k n) k false af (cM.map .pv) [] [] fun rs _ _=>dX rs else none
         | none=>none
     i:=fun g args sh ts=>match AP g with
       | some af=>if args.length≤af.ntmps then qC (pP AP ov k n) k true af args sh ts fun a b c=>some (a,b,c) else none
       | none=>none }
theorem uK {AP:Nat→Option aw} {orc:dh} {k:Nat} {aD:Bool} {af:aw} {args:List AV} {sh:Sh} {ts:al} {r:List AV×Sh×al} (hle:orc.le (aC AP)) (h:bu orc k aD af args sh ts=some r):j9 AP aD af args sh ts=some r:=by
 rw [eo] at h
 unfold j9
 cases hc:bX orc k af.body { env:=bt 0 args,mem:=[],sh,aa:=ts } with
 | none=>rw [hc] at h;simp [finish] at h
 | some q=>
   rw [jH (bD hle (Nat.le_refl k) hc)]
   rw [hc] at h
   exact h
theorem yM {AP:Nat→Option aw} {ov:Nat→List PV→Option (List PV)} {k:Nat} (hov:∀g x r,ov g x=some r→(aC AP).p g x=some r):∀n,(pP AP ov k n).le (aC AP)
 | 0=>⟨hov,fun g x s t r h=>by simp [pP] at h⟩
 | n+1=>by
   have ih:=yM (k:=k) hov n
   refine ⟨fun g x r h=>?_,fun g x s t r h=>?_⟩
   · simp only [pP] at h
     split at h
     · rename_i r' e;rw [←h];exact hov g x r' e
     · split at h
       · rename_i af hg
         cases hp:af.ng with
         | some f=>rw [hp] at h;rw [EU hg hp];exact f.mono ih.p h
         | none=>
           rw [hp] at h
           simp only [Option.ite_none_right_eq_some] at h
           obtain ⟨⟨h1,h2⟩,h⟩:=h
           rw [lh] at h
           rw [Gc hg hp h1 h2]
           cases hb:bu (pP AP ov k n) k false af (x.map .pv) [] [] with
           | none=>rw [hb] at h;simp [BZ] at h
           | some q=>rw [uK ih hb];rw [hb] at h;exact h
       · cases h
   · simp only [pP] at h
     split at h
     · rename_i af hg
       simp only [Option.ite_none_right_eq_some] at h
       obtain ⟨h2,h⟩:=h
       rw [lh] at h
       rw [Gd hg h2]
       cases hb:bu (pP AP ov k n) k true af x s t with
       | none=>rw [hb] at h;simp [BZ] at h
       | some q=>rw [uK ih hb];rw [hb] at h;exact h
     · cases h
theorem H' {AP:Nat→Option aw} {ov:Nat→List PV→Option (List PV)} {k n g:Nat} {x rs:List PV} (hov:∀g x r,ov g x=some r→(aC AP).p g x=some r) (h:(pP AP ov k n).p g x=some rs):(aC AP).p g x=some rs:=(yM hov n).p _ _ _ h
end Go.Ab.Fc
namespace Go.Ab
section
variable {P:Program} {ns:Names} {w w':World}
def Ed:List PV→Option (List (List UInt8))
 | []=>some []
 | .str s::r=>(Ed r).map (s::·)
 | _=>none
def I1:List PV→Option (List PV)
 | [.aF els,.str sep]=>match Ed els with
   | some xs=>if xs.length≤1000000000∧(Lib.join xs sep).length≤140737488355328 then some [.str (Lib.join xs sep)] else none
   | none=>none
 | _=>none
def I2:List PV→Option (List PV)
 | [.int .i64 n]=>if 0≤n∧n<100 then some [.str (Lib.decDigits n.toNat)] else none
 | _=>none
def IC:List PV→Option (List PV)
 | [.int .i64 n]=>if -9223372036854775808≤n∧n≤9223372036854775807 then some [.str (Lib.itoa n)] else none
 | _=>none
end
end Go.Ab
namespace Go.Ab
open Ev
def yf (o:Nat→List PV→Option (List PV)) (g:Nat):List PV→Option (List UInt8)
 | []=>some []
 | d::r=>match o g [d] with
   | some [.str s]=>(yf o g r).map (s++·)
   | _=>none
def yN (n:Nat):PV→Bool
 | .agg cs=>cs.length == n && cs.all e_
 | _=>false
def Ee (gd gb:Nat) (o:Nat→List PV→Option (List PV)):List PV→Option (List PV)
 | [.agg [.aF ds,.aF bs]]=>
   if ds.all (yN 4)=true∧bs.all (yN 20)=true∧ds.length<4611686018427387904∧bs.length<4611686018427387904 then
     match yf o gd ds,yf o gb bs with
     | some a,some b=>if (a++b).length≤140737488355328 then some [.str (a++b)] else none
     | _,_=>none
   else none
 | _=>none
theorem oS {o:Nat→List PV→Option (List PV)} {g:Nat}:∀{l:List PV} {s:List UInt8},yf o g l=some s →
   ∃c:List (Nat×List PV×List PV),(∀x∈c,o x.1 x.2.1=some x.2.2)∧∀o',(∀x∈c,o' x.1 x.2.1=some x.2.2)→yf o' g l=some s
 | [],s,h=>⟨[],by simp,fun _ _=>h⟩
 | d::r,s,h=>by
   simp only [yf] at h
   split at h
   · rename_i t ht
     simp only [Option.map_eq_some_iff] at h
     obtain ⟨u,hu,rfl⟩:=h
     obtain ⟨c,h1,h2⟩:=oS hu
     refine ⟨(g,[d],[.str t])::c,?_,fun o' ho=>?_⟩
     · intro x hx
       simp only [List.mem_cons] at hx
       rcases hx with rfl | hx
       · exact ht
       · exact h1 x hx
     · have e1:=ho _ (List.mem_cons_self)
       simp only [yf,e1,h2 o' (fun x hx=>ho x (List.mem_cons_of_mem _ hx)),Option.map_some]
   · cases h
def Jc (gd gb:Nat):Prim:=⟨Ee gd gb,by
 intro o x r h
 unfold Ee at h
 split at h
 · rename_i ds bs
   rw [Option.ite_none_right_eq_some] at h
   obtain ⟨hc,h⟩:=h
   split at h
   · rename_i a b ha hb
     obtain ⟨c1,f1,f2⟩:=oS ha
     obtain ⟨c2,k1,k2⟩:=oS hb
     refine ⟨c1++c2,?_,fun o' ho=>?_⟩
     · intro x hx
       rcases List.mem_append.1 hx with hx | hx
       · exact f1 x hx
       · exact k1 x hx
     · unfold Ee
       simp only
       rw [if_pos hc,f2 o' (fun x hx=>ho x (List.mem_append_left _ hx)),k2 o' (fun x hx=>ho x (List.mem_append_right _ hx))]
       exact h
   · cases h
 · cases h⟩
section
variable {T E:TypeId} {B b:Nat} {w w':World}
end
section
variable {P:Program} {ns:Names}
end
end Go.Ab
