import Derived.Test.YtcjggpmnbcfedaaDoorAbLim
/-
  The evaluator for the kernel: what an operation lays is brought to its last form at once. It answers as the evaluator does.
-/
set_option linter.unusedVariables false
set_option linter.unusedSimpArgs false
set_option maxRecDepth 100000
set_option maxHeartbeats 8000000
namespace Go.Ab.Fc
variable {α:Type}
def fN (n:Nat) (K:Nat→Option α):Option α:=match n with
 | 0=>K 0
 | m+1=>K (m+1)
theorem lJ {n:Nat} {K:Nat→Option α}:fN n K=K n:=by cases n<;>rfl
def fI (n:Int) (K:Int→Option α):Option α:=match n with
 | .ofNat m=>fN m fun m=>K (.ofNat m)
 | .negSucc m=>fN m fun m=>K (.negSucc m)
theorem BU {n:Int} {K:Int→Option α}:fI n K=K n:=by cases n<;>simp [fI,lJ]
def fB (b:Bool) (K:Bool→Option α):Option α:=match b with
 | true=>K true
 | false=>K false
theorem mX {b:Bool} {K:Bool→Option α}:fB b K=K b:=by cases b<;>rfl
def fS {β:Type}:List β→(List β→Option α)→Option α
 | [],K=>K []
 | a::r,K=>fS r fun r=>K (a::r)
theorem sk {β:Type}:∀{l:List β} {K:List β→Option α},fS l K=K l
 | [],_=>rfl
 | a::r,K=>by simp only [fS];rw [sk]
def fL (p:PV) (K:PV→Option α):Option α:=match p with
 | .bool b=>fB b fun b=>K (.bool b)
 | .int k n=>fI n fun n=>K (.int k n)
 | .str s=>K (.str s)
 | .agg cs=>K (.agg cs)
 | .a8 l=>K (.a8 l)
theorem DI {p:PV} {K:PV→Option α}:fL p K=K p:=by cases p<;>simp [fL,mX,BU]
def Fu:List PV→(List PV→Option α)→Option α
 | [],K=>K []
 | a::r,K=>fL a fun a=>Fu r fun r=>K (a::r)
theorem vQ:∀{l:List PV} {K:List PV→Option α},Fu l K=K l
 | [],_=>rfl
 | a::r,K=>by simp only [Fu];rw [DI,vQ]
def fP (p:PV) (K:PV→Option α):Option α:=match p with
 | .agg cs=>Fu cs fun cs=>K (.agg cs)
 | p=>fL p K
theorem DJ {p:PV} {K:PV→Option α}:fP p K=K p:=by cases p<;>simp [fP,vQ,DI]
def FV (v:AV) (K:AV→Option α):Option α:=match v with
 | .un=>K .un
 | .pv p=>fP p fun p=>K (.pv p)
 | .cg l=>K (.cg l)
 | .own l τ=>fN τ fun τ=>K (.own l τ)
 | .agg cs=>K (.agg cs)
 | .jg cs=>K (.jg cs)
 | .bt a b=>fN a fun a=>fN b fun b=>K (.bt a b)
 | .aT a b=>fN a fun a=>fN b fun b=>K (.aT a b)
 | .cC cs=>fS cs fun cs=>K (.cC cs)
 | .bh a b c d=>fN a fun a=>fN c fun c=>K (.bh a b c d)
 | .fn g c=>K (.fn g c)
 | .cz=>K .cz
 | .bY s=>fN s fun s=>K (.bY s)
 | .cN kvs=>fS kvs fun kvs=>K (.cN kvs)
 | .jn a b c=>fN a fun a=>fN b fun b=>fN c fun c=>K (.jn a b c)
theorem BV {v:AV} {K:AV→Option α}:FV v K=K v:=by cases v<;>simp [FV,DJ,lJ,sk]
def De:List AV→(List AV→Option α)→Option α
 | [],K=>K []
 | a::r,K=>FV a fun a=>De r fun r=>K (a::r)
theorem mY:∀{l:List AV} {K:List AV→Option α},De l K=K l
 | [],_=>rfl
 | a::r,K=>by simp only [De];rw [BV,mY]
def fA (v:AV) (K:AV→Option α):Option α:=match v with
 | .agg cs=>De cs fun cs=>K (.agg cs)
 | .jg cs=>De cs fun cs=>K (.jg cs)
 | .fn g cs=>De cs fun cs=>K (.fn g cs)
 | v=>FV v K
theorem lK {v:AV} {K:AV→Option α}:fA v K=K v:=by cases v<;>simp [fA,mY,BV]
def Fv:List AV→(List AV→Option α)→Option α
 | [],K=>K []
 | a::r,K=>fA a fun a=>Fv r fun r=>K (a::r)
theorem mZ:∀{l:List AV} {K:List AV→Option α},Fv l K=K l
 | [],_=>rfl
 | a::r,K=>by simp only [Fv];rw [lK,mZ]
def fV (v:AV) (K:AV→Option α):Option α:=match v with
 | .pv (.str s)=>fS s fun s=>K (.pv (.str s))
 | .pv (.a8 l)=>fS l fun l=>K (.pv (.a8 l))
 | .cg l=>fS l fun l=>Fu l fun l=>K (.cg l)
 | .own l τ=>fS l fun l=>fN τ fun τ=>K (.own l τ)
 | v=>fA v K
theorem BW {v:AV} {K:AV→Option α}:fV v K=K v:=by
 cases v with
 | pv p=>cases p<;>simp [fV,sk,lK]
 | _=>simp [fV,sk,lK,vQ,lJ]
def Fw:List PV→(List PV→Option α)→Option α
 | [],K=>K []
 | a::r,K=>fP a fun a=>Fw r fun r=>K (a::r)
theorem BX:∀{l:List PV} {K:List PV→Option α},Fw l K=K l
 | [],_=>rfl
 | a::r,K=>by simp only [Fw];rw [DJ,BX]
def fresh:AK→Bool
 | .v (.bf _) | .v (.slice ..) | .append .. | .v (.bin .add)=>true
 | _=>false
def Gx (op:AK) (v:AV) (K:AV→Option α):Option α:=match op,v with
 | .v (.bf _),.cg l=>Fw l fun l=>K (.cg l)
 | op,v=>if fresh op then fV v K else fA v K
def fO {β:Type} (f:β→(β→Option α)→Option α) (o:Option β) (K:Option β→Option α):Option α:=match o with
 | none=>K none
 | some x=>f x fun x=>K (some x)
theorem Fx {β:Type} {f:β→(β→Option α)→Option α} (hf:∀x K,f x K=K x) {o:Option β} {K:Option β→Option α}:fO f o K=K o:=by cases o<;>simp [fO,hf]
def ES:Sh→(Sh→Option α)→Option α
 | [],K=>K []
 | a::r,K=>fO De a fun a=>ES r fun r=>K (a::r)
theorem kL:∀{l:Sh} {K:Sh→Option α},ES l K=K l
 | [],_=>rfl
 | a::r,K=>by simp only [ES];rw [Fx (fun _ _=>mY),kL]
def fT:au→(au→Option α)→Option α
 | [],K=>K []
 | a::r,K=>fN a fun a=>fT r fun r=>K (a::r)
theorem og:∀{l:au} {K:au→Option α},fT l K=K l
 | [],_=>rfl
 | a::r,K=>by simp only [fT];rw [lJ,og]
def F5 {β:Type}:List (Nat×β)→Nat→β→(List (Nat×β)→Option α)→Option α
 | [],t,u,K=>K [(t,u)]
 | (k,v)::r,t,u,K=>if k=t then K ((k,u)::r) else F5 r t u fun r=>K ((k,v)::r)
def Df:List (Nat×AV)→(List (Nat×AV)→Option α)→Option α
 | [],K=>K []
 | (t,v)::r,K=>fA v fun v=>Df r fun r=>K ((t,v)::r)
theorem wz:∀{l:List (Nat×AV)} {K:List (Nat×AV)→Option α},Df l K=K l
 | [],_=>rfl
 | (t,v)::r,K=>by simp only [Df];rw [lK,wz]
def Dg:List (Nat×List AV)→(List (Nat×List AV)→Option α)→Option α
 | [],K=>K []
 | (t,v)::r,K=>De v fun v=>Dg r fun r=>K ((t,v)::r)
theorem wA:∀{l:List (Nat×List AV)} {K:List (Nat×List AV)→Option α},Dg l K=K l
 | [],_=>rfl
 | (t,v)::r,K=>by simp only [Dg];rw [mY,wA]
def FW (st:St) (K:St→Option α):Option α:=match st with
 | ⟨env,mem,sh,aa⟩=>Df env fun env=>Dg mem fun mem=>ES sh fun sh=>fT aa fun aa=>K ⟨env,mem,sh,aa⟩
theorem BY {st:St} {K:St→Option α}:FW st K=K st:=by
 obtain ⟨env,mem,sh,aa⟩:=st
 simp only [FW];rw [wz,wA,kL,og]
def lk {β:Type}:List (Nat×β)→Nat→Option β
 | [],_=>none
 | (k,v)::r,t=>bif Nat.beq k t then some v else lk r t
theorem oh {β:Type}:∀{l:List (Nat×β)} {t:Nat},lk l t=look l t
 | [],_=>rfl
 | (k,v)::r,t=>by
   simp only [lk,look]
   rw [oh]
   by_cases h:k=t
   · subst h;simp
   · rw [if_neg h,show Nat.beq k t=false from by rw [Bool.eq_false_iff];intro e;exact h (Nat.eq_of_beq_eq_true e)]
     rfl
def pt {β:Type}:List (Nat×β)→Nat→β→(List (Nat×β)→Option α)→Option α
 | [],t,u,K=>K [(t,u)]
 | (k,v)::r,t,u,K=>bif Nat.beq k t then K ((k,u)::r) else pt r t u fun r=>K ((k,v)::r)
theorem BZ {β:Type}:∀{l:List (Nat×β)} {t:Nat} {u:β} {K:List (Nat×β)→Option α},pt l t u K=K (cO l t u)
 | [],_,_,_=>rfl
 | (k,v)::r,t,u,K=>by
   simp only [pt,cO]
   by_cases h:k=t
   · subst h;simp
   · rw [if_neg h,show Nat.beq k t=false from by rw [Bool.eq_false_iff];intro e;exact h (Nat.eq_of_beq_eq_true e)]
     exact BZ
def od (env:List (Nat×AV)) (x:dD) (K:AV→Option α):Option α:=match x with
 | .t n=>match lk env n with
   | some v=>K v
   | none=>none
 | .c v=>K v
theorem Fy {env:List (Nat×AV)} {x:dD} {K:AV→Option α}:od env x K=(eJ env x).bind K:=by
 cases x with
 | t n=>simp only [od,eJ,oh];cases look env n<;>rfl
 | c v=>rfl
def ET (env:List (Nat×AV)):List dD→(List AV→Option α)→Option α
 | [],K=>K []
 | x::r,K=>od env x fun v=>ET env r fun vs=>K (v::vs)
theorem B0 {env:List (Nat×AV)}:∀{l:List dD} {K:List AV→Option α},ET env l K=(dc env l).bind K
 | [],_=>rfl
 | x::r,K=>by
   simp only [ET,dc]
   rw [Fy]
   cases eJ env x with
   | none=>rfl
   | some v=>
     dsimp only [Option.bind_some]
     rw [B0]
     cases dc env r<;>rfl
def Ez:IntKind→Nat
 | .i8=>0 | .i16=>1 | .i32=>2 | .i64=>3 | .u8=>4 | .u16=>5 | .u32=>6 | .u64=>7
theorem Dh {a b:IntKind} (h:Nat.beq (Ez a) (Ez b)=true):a=b:=by
 have:=Nat.eq_of_beq_eq_true h
 cases a<;>cases b<;>first | rfl | (simp [Ez] at this)
def FX:Int→Int→Bool
 | .ofNat a,.ofNat b=>Nat.beq a b
 | .negSucc a,.negSucc b=>Nat.beq a b
 | _,_=>false
theorem F6 {a b:Nat}:Nat.beq a b=decide (a=b):=by
 by_cases h:a=b
 · subst h;simp
 · rw [decide_eq_false h,Bool.eq_false_iff];intro e;exact h (Nat.eq_of_beq_eq_true e)
theorem B1 {a b:Int}:FX a b=(a == b):=by
 cases a<;>cases b<;>(rw [Bool.eq_iff_iff];simp [FX,F6])<;>omega
def EU:Int→Int→Bool
 | .ofNat a,.ofNat b=>Nat.blt a b
 | .negSucc a,.negSucc b=>Nat.blt b a
 | .negSucc _,.ofNat _=>true
 | .ofNat _,.negSucc _=>false
theorem pH {a b:Int}:EU a b=decide (a<b):=by
 cases a<;>cases b<;>(rw [Bool.eq_iff_iff];simp [EU,Nat.blt_eq])<;>omega
def EA (k:IntKind) (a b:Int) (K:Int→Option α):Option α:=match k,a,b with
 | .i64,.ofNat x,.ofNat y=>bif Nat.blt (x+y) 4611686018427387904 then fN (x+y) fun n=>K (.ofNat n) else fI (IntKind.i64.wrap (.ofNat x+.ofNat y)) K
 | k,a,b=>fI (k.wrap (a+b)) K
theorem Di {k:IntKind} {a b:Int} {K:Int→Option α}:EA k a b K=K (k.wrap (a+b)):=by
 unfold EA
 split
 · rename_i x y
   cases h:Nat.blt (x+y) 4611686018427387904 with
   | false=>simp only [cond_false];exact BU
   | true=>
     simp only [cond_true,lJ]
     have:x+y<4611686018427387904:=by simpa [Nat.blt_eq] using h
     congr 1
     simp [IntKind.wrap,IntKind.bits,IntKind.signed]
     omega
 · exact BU
def EB (op:BinOp) (a b:AV) (K:AV→Option α):Option α:=match a with
 | .pv (.int k x)=>match b with
   | .pv (.int k' y)=>bif Nat.beq (Ez k) (Ez k') then (match op with
       | .eql=>fB (FX x y) fun c=>K (.pv (.bool c))
       | .neq=>fB (!FX x y) fun c=>K (.pv (.bool c))
       | .lss=>fB (EU x y) fun c=>K (.pv (.bool c))
       | .gtr=>fB (EU y x) fun c=>K (.pv (.bool c))
       | .geq=>fB (!EU x y) fun c=>K (.pv (.bool c))
       | .leq=>fB (!EU y x) fun c=>K (.pv (.bool c))
       | .add=>EA k x y fun n=>K (.pv (.int k n))
       | op=>(ct op a b).bind fun v=>fV v K)
     else (ct op a b).bind fun v=>fV v K
   | b=>(ct op a b).bind fun v=>fV v K
 | a=>(ct op a b).bind fun v=>fV v K
theorem Dj {op:BinOp} {a b:AV} {K:AV→Option α}:EB op a b K=(ct op a b).bind K:=by
 have dflt:((ct op a b).bind fun v=>fV v K)=(ct op a b).bind K:=by
   congr 1;funext v;exact BW
 unfold EB
 split
 · rename_i k x
   split
   · rename_i k' y
     cases hk:Nat.beq (Ez k) (Ez k') with
     | false=>exact dflt
     | true=>
       obtain rfl:=Dh hk
       simp only [cond_true]
       split
       · simp [mX,B1,ct]
       · simp [mX,B1,ct,bne]
       · simp [mX,pH,ct]
       · simp [mX,pH,ct]
       · simp [mX,pH,ct,←decide_not,Int.not_lt]
       · simp [mX,pH,ct,←decide_not,Int.not_lt]
       · simp [Di,ct]
       · exact dflt
   · exact dflt
 · exact dflt
def Gn (off:Nat) (x:AV) (K:AV→Option α):Option α:=match x with
 | .bt d o=>fN (o+off) fun n=>K (.bt d n)
 | .aT b o=>fN (o+off) fun n=>K (.aT b n)
 | .cC cs=>fS (cs.drop off) fun cs=>K (.cC cs)
 | _=>none
def nth {β:Type}:List β→Nat→Option β
 | [],_=>none
 | a::r,n=>match n with
   | 0=>some a
   | n+1=>nth r n
theorem vR {β:Type}:∀{l:List β} {n:Nat},nth l n=l[n]?
 | [],n=>by simp [nth]
 | a::r,0=>rfl
 | a::r,n+1=>by simp only [nth,List.getElem?_cons_succ];exact vR
def ln {β:Type}:List β→Nat→(Nat→Option α)→Option α
 | [],n,K=>K n
 | _::r,n,K=>fN (n+1) fun n=>ln r n K
theorem wB {β:Type}:∀{l:List β} {n:Nat} {K:Nat→Option α},ln l n K=K (n+l.length)
 | [],n,K=>rfl
 | _::r,n,K=>by
   simp only [ln];rw [lJ,wB];congr 1;simp;omega
def xV (o:zM) (vals:List AV) (K:AV→Option α):Option α:=match o with
 | .mv=>match vals with
   | [x]=>K x
   | vals=>(a_ .mv vals).bind fun v=>fA v K
 | .bin op=>match vals with
   | [a,b]=>EB op a b K
   | vals=>(a_ (.bin op) vals).bind fun v=>fA v K
 | .bE off=>match vals with
   | [x]=>Gn off x K
   | vals=>(a_ (.bE off) vals).bind fun v=>fA v K
 | .aI=>match vals with
   | [.bt a b]=>K (.bt a b)
   | [.aT a b]=>K (.aT a b)
   | vals=>(a_ .aI vals).bind fun v=>fA v K
 | .index=>match vals with
   | [.pv (.str s),.pv (.int _ (.ofNat i))]=>match nth s i with
     | some b=>fN b.toNat fun n=>K (.pv (.int .u8 (.ofNat n)))
     | none=>none
   | vals=>(a_ .index vals).bind fun v=>fA v K
 | .gP=>match vals with
   | [.pv (.str s)]=>ln s 0 fun n=>K (.pv (.int .i64 (.ofNat n)))
   | vals=>(a_ .gP vals).bind fun v=>fA v K
 | .len=>match vals with
   | [.pv (.a8 l)]=>ln l 0 fun n=>K (.pv (.int .i64 (.ofNat n)))
   | [.own l _]=>ln l 0 fun n=>K (.pv (.int .i64 (.ofNat n)))
   | vals=>(a_ .len vals).bind fun v=>fA v K
 | .bf sz=>match a_ (.bf sz) vals with
   | some (.cg l)=>Fw l fun l=>K (.cg l)
   | some v=>K v
   | none=>none
 | .slice a b c d e=>(a_ (.slice a b c d e) vals).bind fun v=>fV v K
 | o=>(a_ o vals).bind fun v=>fA v K
theorem Fz {o:zM} {vals:List AV} {K:AV→Option α}:xV o vals K=(a_ o vals).bind K:=by
 have dA:∀o vals,((a_ o vals).bind fun v=>fA v K)=(a_ o vals).bind K:=by
   intro o vals;congr 1;funext v;exact lK
 unfold xV
 split
 · split
   · rfl
   · exact dA _ _
 · split
   · exact Dj
   · exact dA _ _
 · split
   · rename_i x
     cases x<;>simp [Gn,a_,lJ,sk]
   · exact dA _ _
 · split
   · rfl
   · rfl
   · exact dA _ _
 · split
   · rename_i s k i
     rw [vR]
     have hi:¬(Int.ofNat i<0):=by simp
     simp only [a_]
     rw [if_neg hi]
     simp only [Int.toNat_natCast,Int.ofNat_eq_natCast]
     cases s[i]? with
     | none=>rfl
     | some b=>simp [lJ]
   · exact dA _ _
 · split
   · simp [wB,a_]
   · exact dA _ _
 · split
   · simp [wB,a_,ck]
   · simp [wB,a_,ck]
   · exact dA _ _
 · split
   · rename_i l h;rw [h,BX];rfl
   · rename_i h;rw [h];rfl
   · rename_i h;rw [h];rfl
 · congr 1;funext v;exact BW
 · exact dA _ _
def lay (env:List (Nat×AV)) (mem:List (Nat×List AV)) (sh:Sh) (aa:au) (d:Option Nat) (v:AV) (K:St→Option α):Option α:=match d with
 | some d=>pt env d v fun env=>K ⟨env,mem,sh,aa⟩
 | none=>K ⟨env,mem,sh,aa⟩
theorem iP {env:List (Nat×AV)} {mem:List (Nat×List AV)} {sh:Sh} {aa:au} {d:Option Nat} {v:AV} {K:St→Option α}:lay env mem sh aa d v K=K ⟨ep env d v,mem,sh,aa⟩:=by
 cases d<;>simp [lay,ep,BZ]
def EC (mem:List (Nat×List AV)) (k:Nat) (cs:Option (List AV)) (K:List (Nat×List AV)→Option α):Option α:=match cs with
 | some cs=>De cs fun cs=>pt mem k cs K
 | none=>K mem
theorem Dk {mem:List (Nat×List AV)} {k:Nat} {cs:Option (List AV)} {K:List (Nat×List AV)→Option α}:EC mem k cs K=K (dZ mem (some k) cs):=by
 cases cs<;>simp [EC,dZ,mY,BZ]
def B2 (orc:dC) (op:AK) (d:Option Nat) (vals:List AV) (env:List (Nat×AV)) (mem:List (Nat×List AV)) (sh:Sh) (aa:au) (K:St→Option α):Option α:=
 match exec orc op vals (op.key.bind (look mem)) sh aa with
 | none=>none
 | some ⟨val,cells,sh',toks'⟩=>fV val fun val=>(match op.key with | some k=>EC mem k cells | none=>fun K=>K mem) fun mem=>ES sh' fun sh'=>fT toks' fun toks'=>lay env mem sh' toks' d val K
theorem pI {orc:dC} {op:AK} {d:Option Nat} {vals:List AV} {env:List (Nat×AV)} {mem:List (Nat×List AV)} {sh:Sh} {aa:au} {K:St→Option α} :
   B2 orc op d vals env mem sh aa K=(match exec orc op vals (op.key.bind (look mem)) sh aa with
     | none=>none
     | some out=>some (⟨ep env d out.val,dZ mem op.key out.cells,out.sh,out.aa⟩:St)).bind K:=by
 unfold B2
 cases exec orc op vals (op.key.bind (look mem)) sh aa with
 | none=>rfl
 | some out=>
   obtain ⟨val,cells,sh',toks'⟩:=out
   simp only [BW,Option.bind_some]
   cases op.key with
   | none=>simp only [kL,og,iP];cases cells<;>rfl
   | some k=>simp only [Dk,kL,og,iP]
def xP (orc:dC) (g:Nat) (vals:List AV) (K:AV→Option α):Option α:=match ca [] vals with
 | some cd=>match orc.p g cd with
   | some rs=>fA (lM rs) K
   | none=>none
 | none=>none
def x1 (orc:dC) (op:AK) (d:Option Nat) (vals:List AV) (env:List (Nat×AV)) (mem:List (Nat×List AV)) (sh:Sh) (aa:au) (K:St→Option α):Option α:=match op with
 | .v o=>xV o vals fun v=>lay env mem sh aa d v K
 | .aA g=>xP orc g vals fun v=>lay env mem sh aa d v K
 | .cD key off sz ag=>match vals with
   | [.bt d' o]=>match lk mem key with
     | some cs=>bif Nat.beq d' key && Nat.beq o off then (match bD ag sz cs off with
         | some v=>fA v fun v=>lay env mem sh aa d v K
         | none=>none) else none
     | none=>none
   | vals=>B2 orc (.cD key off sz ag) d vals env mem sh aa K
 | .aJ sz ag=>match vals with
   | [.aT b off]=>match nth sh b with
     | some (some cs)=>bif cV cs then none else (match bD ag sz cs off with
         | some v=>fA v fun v=>lay env mem sh aa d v K
         | none=>none)
     | _=>none
   | vals=>B2 orc (.aJ sz ag) d vals env mem sh aa K
 | op=>B2 orc op d vals env mem sh aa K
theorem FA {orc:dC} {op:AK} {d:Option Nat} {vals:List AV} {env:List (Nat×AV)} {mem:List (Nat×List AV)} {sh:Sh} {aa:au} {K:St→Option α} :
   x1 orc op d vals env mem sh aa K=(match exec orc op vals (op.key.bind (look mem)) sh aa with
     | none=>none
     | some out=>some (⟨ep env d out.val,dZ mem op.key out.cells,out.sh,out.aa⟩:St)).bind K:=by
 unfold x1
 split
 · rename_i o
   simp only [Fz,iP,exec]
   cases a_ o vals with
   | none=>rfl
   | some v=>rfl
 · rename_i g
   simp only [xP,exec]
   cases ca [] vals with
   | none=>rfl
   | some cd=>
     dsimp only
     cases orc.p g cd with
     | none=>rfl
     | some rs=>simp only [lK,iP];rfl
 · rename_i key off sz ag
   split
   · rename_i d' o
     rw [oh]
     have hk:((AK.cD key off sz ag).key.bind (look mem))=look mem key:=rfl
     rw [hk]
     cases look mem key with
     | none=>simp [exec]
     | some cs=>
       simp only [exec]
       by_cases h:d'=key∧o=off
       · obtain ⟨rfl,rfl⟩:=h
         simp only [Nat.beq_refl,Bool.and_self,cond_true,and_self,if_true]
         cases bD ag sz cs o with
         | none=>rfl
         | some v=>simp only [lK,iP];rfl
       · rw [if_neg h]
         have:(Nat.beq d' key && Nat.beq o off)=false:=by
           rw [Bool.eq_false_iff];intro e
           simp only [Bool.and_eq_true] at e
           exact h ⟨Nat.eq_of_beq_eq_true e.1,Nat.eq_of_beq_eq_true e.2⟩
         rw [this];rfl
   · exact pI
 · rename_i sz ag
   split
   · rename_i b off
     rw [vR]
     simp only [exec]
     split
     · rename_i cs h
       rw [h]
       dsimp only
       cases cV cs with
       | true=>rfl
       | false=>
         simp only [cond_false,Bool.false_eq_true,if_false]
         cases bD ag sz cs off with
         | none=>rfl
         | some v=>simp only [lK,iP];rfl
     · rename_i h
       split
       · rfl
       · rename_i e1 e2 e3
         split at e3
         · rename_i cs e4;exact absurd e4 (h cs)
         · cases e3
   · exact pI
 · exact pI
def FY (orc:dC) (o:dd) (st:St) (K:St→Option α):Option α:=match st with
 | ⟨env,mem,sh,aa⟩=>match o with
   | ⟨d,g,args,op⟩=>match g with
     | none=>ET env args fun vals=>x1 orc op d vals env mem sh aa K
     | some (t,b)=>match lk env t with
       | some (.pv (.bool c))=>bif c == b then ET env args fun vals=>x1 orc op d vals env mem sh aa K else lay env mem sh aa d .un K
       | some .un=>lay env mem sh aa d .un K
       | _=>none
theorem ED {orc:dC} {o:dd} {st:St} {K:St→Option α}:FY orc o st K=(dp orc o st).bind K:=by
 obtain ⟨env,mem,sh,aa⟩:=st
 obtain ⟨d,g,args,op⟩:=o
 have run:(ET env args fun vals=>x1 orc op d vals env mem sh aa K)=(match dc env args with
     | none=>none
     | some vals=>match exec orc op vals (op.key.bind (look mem)) sh aa with
       | none=>none
       | some out=>some (⟨ep env d out.val,dZ mem op.key out.cells,out.sh,out.aa⟩:St)).bind K:=by
   rw [B0]
   cases dc env args with
   | none=>rfl
   | some vals=>exact FA
 cases g with
 | none=>simp only [FY,dp,dQ];exact run
 | some p=>
   obtain ⟨t,b⟩:=p
   simp only [FY,dp,dQ,oh]
   split
   · rename_i c h
     rw [h]
     dsimp only
     cases hc:(c == b) with
     | true=>simp only [cond_true];exact run
     | false=>simp only [cond_false,iP];rfl
   · rename_i h
     rw [h]
     simp only [iP];rfl
   · rename_i h1 h2
     split
     · rfl
     · rename_i e;split at e<;>simp_all
     · rename_i e;split at e<;>simp_all
def Dl (orc:dC):List dd→St→(St→Option α)→Option α
 | [],st,K=>K st
 | o::r,st,K=>FY orc o st fun st=>Dl orc r st K
theorem wC {orc:dC}:∀{l:List dd} {st:St} {K:St→Option α},Dl orc l st K=(bl orc l st).bind K
 | [],_,_=>rfl
 | o::r,st,K=>by
   simp only [Dl,bl]
   rw [ED]
   cases dp orc o st with
   | none=>rfl
   | some s=>exact wC
def wD (f:St→(aH→St→Option α)→Option α) (pre:St→St):Nat→St→(aH→St→Option α)→Option α
 | 0,_,_=>none
 | n+1,st,K=>FW (pre st) fun st=>f st fun e st=>match e with
   | .normal=>wD f pre n st K
   | e=>K e st
def DK (live:List Nat) (v:AV):Bool:=match v with
 | .bt d _=>live.contains d
 | .pv _=>true
 | .own ..=>true
 | .agg cs=>ef cs
 | v=>a7 v
theorem B3 {live:List Nat} {v:AV}:DK live v=df live v:=by cases v<;>rfl
def FB (live:List Nat) (env:List (Nat×AV)):List Nat→(List (Nat×AV)→Option α)→Option α
 | [],K=>K []
 | t::r,K=>match lk env t with
   | some v=>FB live env r fun e=>bif DK live v then K ((t,v)::e) else K e
   | none=>FB live env r K
theorem vS {live:List Nat} {env:List (Nat×AV)}:∀{l:List Nat} {K:List (Nat×AV)→Option α},FB live env l K=K (bm live env l)
 | [],_=>rfl
 | t::r,K=>by
   simp only [FB,bm,oh]
   cases look env t with
   | none=>exact vS
   | some v=>
     dsimp only
     rw [vS,B3]
     cases df live v<;>simp
def FC (mem:List (Nat×List AV)):List Nat→(List (Nat×List AV)→Option α)→Option α
 | [],K=>K []
 | t::r,K=>match lk mem t with
   | some v=>FC mem r fun e=>K ((t,v)::e)
   | none=>FC mem r K
theorem vT {mem:List (Nat×List AV)}:∀{l:List Nat} {K:List (Nat×List AV)→Option α},FC mem l K=K (bn mem l)
 | [],_=>rfl
 | t::r,K=>by
   simp only [FC,bn,oh]
   cases look mem t with
   | none=>exact vT
   | some v=>exact vT
def rs (live:List Nat) (st:St) (K:St→Option α):Option α:=match st with
 | ⟨env,mem,sh,aa⟩=>FB live env live fun env=>FC mem live fun mem=>K ⟨env,mem,sh,aa⟩
theorem FD {live:List Nat} {st:St} {K:St→Option α}:rs live st K=K (restrict live st):=by
 obtain ⟨env,mem,sh,aa⟩:=st
 simp only [rs];rw [vS,vT];rfl
def DL (K:aH→St→Option α):Option (aH×St)→Option α
 | some (e,st)=>K e st
 | none=>none
def cF (orc:dC) (k:Nat):aE→St→(aH→St→Option α)→Option α
 | .skip,st,K=>K .normal st
 | .aq ops live,st,K=>Dl orc ops st fun st=>rs live st fun st=>K .normal st
 | .seq a b,st,K=>cF orc k a st fun e st=>match e with
   | .normal=>cF orc k b st K
   | e=>K e st
 | .cond c a b,st,K=>match eJ st.env c with
   | some (.pv (.bool t))=>match t with
     | true=>cF orc k a st K
     | false=>cF orc k b st K
   | _=>none
 | .block id b,st,K=>cF orc k b st fun e st=>match e with
   | .exit id'=>if id'=id then K .normal st else K (.exit id') st
   | e=>K e st
 | .loop live b,st,K=>wD (cF orc k b) (fun s=>norm (restrict live s)) k st K
 | .back c gb pi px sz ag live x y,st,K=>DL K (cI orc k (.back c gb pi px sz ag live x y) st)
 | .exit id,st,K=>K (.exit id) st
 | .ret,st,K=>K .ret st
 | .eF ts,st,K=>K .normal (jf ts st)
theorem sl {f:St→(aH→St→Option α)→Option α} {g:St→Option (aH×St)} {pre:St→St} (h:∀st K,f st K=DL K (g st)):∀{n:Nat} {st:St} {K:aH→St→Option α},wD f pre n st K=DL K (dJ g pre n st)
 | 0,_,_=>rfl
 | n+1,st,K=>by
   simp only [wD,dJ]
   rw [BY,h]
   cases g (pre st) with
   | none=>rfl
   | some q=>
     obtain ⟨e,s⟩:=q
     cases e with
     | normal=>exact sl h
     | ret=>rfl
     | exit id=>rfl
theorem m5 {orc:dC} {k:Nat}:∀{c:aE} {st:St} {K:aH→St→Option α},cF orc k c st K=DL K (cI orc k c st)
 | .skip,_,_=>rfl
 | .aq ops live,st,K=>by
   simp only [cF,cI]
   rw [wC]
   cases bl orc ops st with
   | none=>rfl
   | some s=>simp only [Option.bind_some,FD,DL]
 | .seq a b,st,K=>by
   simp only [cF,cI]
   rw [m5]
   cases cI orc k a st with
   | none=>rfl
   | some q=>
     obtain ⟨e,s⟩:=q
     cases e with
     | normal=>simp only [DL];exact m5
     | ret=>rfl
     | exit id=>rfl
 | .cond c a b,st,K=>by
   simp only [cF,cI]
   split
   · rename_i t h
     rw [h]
     cases t with
     | true=>exact m5
     | false=>exact m5
   · rename_i h
     split
     · rename_i t h';exact absurd h' (h t)
     · rfl
 | .block id b,st,K=>by
   simp only [cF,cI]
   rw [m5]
   cases cI orc k b st with
   | none=>rfl
   | some q=>
     obtain ⟨e,s⟩:=q
     cases e with
     | normal=>rfl
     | ret=>rfl
     | exit id'=>
       simp only [DL]
       split<;>rfl
 | .loop live b,st,K=>by
   simp only [cF,cI]
   exact sl (g:=cI orc k b) fun _ _=>m5
 | .back c gb pi px sz ag live x y,_,_=>by simp only [cF]
 | .exit id,_,_=>rfl
 | .ret,_,_=>rfl
 | .eF _,_,_=>rfl
def Dm (aF:Bool) (af:aB) (sh0:Sh) (e:aH) (st:St) (K:List AV→Sh→au→Option α):Option α:=
 match e with
 | .exit _=>none
 | _=>match de st af.results with
   | some vs=>
     Fv (bN aF af.ks st.sh vs) fun rs=>
     let sh':=if rs.all (aw sh0.length)=true then (dz aF af.ks st.sh vs).take sh0.length else dz aF af.ks st.sh vs
     if rs.all bp=true then
       match cm st.aa rs sh' with
       | (rs,sh,_,ts)=>Fv rs fun rs=>ES sh fun sh=>fT ts fun ts=>K rs sh ts
     else none
   | none=>none
def zH (K:List AV→Sh→au→Option α):Option (List AV×Sh×au)→Option α
 | some (a,b,c)=>K a b c
 | none=>none
theorem Dn {aF:Bool} {af:aB} {sh0:Sh} {e:aH} {st:St} {K:List AV→Sh→au→Option α}:Dm aF af sh0 e st K=zH K (finish aF af sh0 (some (e,st))):=by
 cases e with
 | exit id=>rfl
 | normal=>
   simp only [Dm,finish]
   cases de st af.results with
   | none=>rfl
   | some vs=>
     simp only [mZ,or_true,if_true]
     split
     · simp only [mZ,kL,og,zH]
     · rfl
 | ret=>
   simp only [Dm,finish]
   cases de st af.results with
   | none=>rfl
   | some vs=>
     simp only [mZ,true_or,if_true]
     split
     · simp only [mZ,kL,og,zH]
     · rfl
def oi (orc:dC) (k:Nat) (aF:Bool) (af:aB) (args:List AV) (sh:Sh) (ts:au) (K:List AV→Sh→au→Option α):Option α:=
 FW { env:=bF 0 args,mem:=[],sh,aa:=ts } fun st=>cF orc k af.body st fun e st=>Dm aF af sh e st K
theorem kn {orc:dC} {k:Nat} {aF:Bool} {af:aB} {args:List AV} {sh:Sh} {ts:au} {K:List AV→Sh→au→Option α}:oi orc k aF af args sh ts K=zH K (bG orc k aF af args sh ts):=by
 unfold oi
 rw [BY,m5,d_]
 cases cI orc k af.body { env:=bF 0 args,mem:=[],sh,aa:=ts } with
 | none=>rfl
 | some q=>obtain ⟨e,s⟩:=q;simp only [DL];exact Dn
def B4 (AP:Nat→Option aB) (k:Nat):Nat→dC
 | 0=>{ p:=fun _ _=>none,i:=fun _ _ _ _=>none }
 | n+1=>
   { p:=fun g cd=>match AP g with
       | some af=>match af.lL with
         | some f=>f cd
         | none=>if cd.length=af.nparams∧cd.length≤af.ntmps then oi (B4 AP k n) k false af (cd.map .pv) [] [] fun rs _ _=>d0 rs else none
       | none=>none
     i:=fun g args sh ts=>match AP g with
       | some af=>if args.length≤af.ntmps then oi (B4 AP k n) k true af args sh ts fun a b c=>some (a,b,c) else none
       | none=>none }
theorem wE {AP:Nat→Option aB} {k:Nat}:∀n,B4 AP k n=run AP k n
 | 0=>rfl
 | n+1=>by
   have ih:=wE (AP:=AP) (k:=k) n
   simp only [B4,run]
   congr 1
   · funext g cd
     cases AP g with
     | none=>rfl
     | some af=>
       dsimp only
       cases af.lL with
       | some f=>rfl
       | none=>
         dsimp only
         split
         · rw [kn,ih]
           cases bG (run AP k n) k false af (cd.map .pv) [] [] with
           | none=>rfl
           | some q=>rfl
         · rfl
   · funext g args sh ts
     cases AP g with
     | none=>rfl
     | some af=>
       dsimp only
       split
       · rw [kn,ih]
         cases bG (run AP k n) k true af args sh ts with
         | none=>rfl
         | some q=>rfl
       · rfl
theorem FE {AP:Nat→Option aB} {k n g:Nat} {x rs:List PV} (h:(B4 AP k n).p g x=some rs):(aQ AP).p g x=some rs:=by
 rw [wE] at h
 exact mB (lU g x) (show (run AP (max k n) (max k n)).p g x=some rs from (cS (Nat.le_max_right k n) (Nat.le_max_left k n)).p _ _ _ h)
def pJ (AP:Nat→Option aB) (ov:Nat→List PV→Option (List PV)) (k:Nat):Nat→dC
 | 0=>{ p:=ov,i:=fun _ _ _ _=>none }
 | n+1=>
   { p:=fun g cd=>match ov g cd with
       | some r=>some r
       | none=>match AP g with
         | some af=>match af.lL with
           | some f=>f cd
           | none=>if cd.length=af.nparams∧cd.length≤af.ntmps then oi (pJ AP ov k n) k false af (cd.map .pv) [] [] fun rs _ _=>d0 rs else none
         | none=>none
     i:=fun g args sh ts=>match AP g with
       | some af=>if args.length≤af.ntmps then oi (pJ AP ov k n) k true af args sh ts fun a b c=>some (a,b,c) else none
       | none=>none }
theorem sn {AP:Nat→Option aB} {orc:dC} {k:Nat} {aF:Bool} {af:aB} {args:List AV} {sh:Sh} {ts:au} {r:List AV×Sh×au} (hle:orc.le (aQ AP)) (h:bG orc k aF af args sh ts=some r):jj AP aF af args sh ts=some r:=by
 rw [d_] at h
 unfold jj
 cases hc:cI orc k af.body { env:=bF 0 args,mem:=[],sh,aa:=ts } with
 | none=>rw [hc] at h;simp [finish] at h
 | some q=>
   rw [iN (bJ hle (Nat.le_refl k) hc)]
   rw [hc] at h
   exact h
theorem wF {AP:Nat→Option aB} {ov:Nat→List PV→Option (List PV)} {k:Nat} (hov:∀g x r,ov g x=some r→(aQ AP).p g x=some r):∀n,(pJ AP ov k n).le (aQ AP)
 | 0=>⟨hov,fun g x s t r h=>by simp [pJ] at h⟩
 | n+1=>by
   have ih:=wF (k:=k) hov n
   refine ⟨fun g x r h=>?_,fun g x s t r h=>?_⟩
   · simp only [pJ] at h
     split at h
     · rename_i r' e;rw [←h];exact hov g x r' e
     · split at h
       · rename_i af hg
         cases hp:af.lL with
         | some f=>rw [hp] at h;rw [oT hg hp];exact h
         | none=>
           rw [hp] at h
           simp only [Option.ite_none_right_eq_some] at h
           obtain ⟨⟨h1,h2⟩,h⟩:=h
           rw [kn] at h
           rw [DG hg hp h1 h2]
           cases hb:bG (pJ AP ov k n) k false af (x.map .pv) [] [] with
           | none=>rw [hb] at h;simp [zH] at h
           | some q=>rw [sn ih hb];rw [hb] at h;exact h
       · cases h
   · simp only [pJ] at h
     split at h
     · rename_i af hg
       simp only [Option.ite_none_right_eq_some] at h
       obtain ⟨h2,h⟩:=h
       rw [kn] at h
       rw [DH hg h2]
       cases hb:bG (pJ AP ov k n) k true af x s t with
       | none=>rw [hb] at h;simp [zH] at h
       | some q=>rw [sn ih hb];rw [hb] at h;exact h
     · cases h
theorem FF {AP:Nat→Option aB} {ov:Nat→List PV→Option (List PV)} {k n g:Nat} {x rs:List PV} (hov:∀g x r,ov g x=some r→(aQ AP).p g x=some r) (h:(pJ AP ov k n).p g x=some rs):(aQ AP).p g x=some rs:=(wF hov n).p _ _ _ h
end Go.Ab.Fc
