import Derived.Test.YtcjggpmnbcfedaaDoorRows
import Derived.Test.YtcjggpmnbcfedaaDoorCodeA
import Derived.Test.YtcjggpmnbcfedaaDoorAbDat
import Derived.Test.YtcjggpmnbcfedaaDoorAbBridge
import Derived.Test.YtcjggpmnbcfedaaDoorShelf
/-
  Each function of the given program that has slim code bears just that code: the kernel translates it anew and compares.
-/
set_option linter.unusedVariables false
set_option linter.unusedSimpArgs false
set_option linter.unnecessarySimpa false
set_option maxRecDepth 100000
set_option maxHeartbeats 8000000
namespace Go.Ab
open Proofs Shelf
def ns:Names:=⟨[(3,241),(6,244),(7,245),(8,246),(9,26),(13,248),(19,252),(22,254),(23,69),(24,72),(25,63),(27,256),(31,257),(32,258),(33,259),(34,260),(45,62),(49,264),(50,265),(26,255),(57,269)],
 [257],[],[],yN 0⟩
def lv1 (i:Nat):aR→List (Nat×List Nat)
 | .iL _ l=>[(i,l)]
 | .seq a b=>lv1 i a++lv1 i b
 | _=>[]
def Ag:Code→aR→List (Nat×List Nat)
 | .region i _ _,x=>lv1 i x
 | .seq a b,.seq x y=>Ag a x++Ag b y
 | .cond _ a b,.cond _ x y=>Ag a x++Ag b y
 | .block _ a,.block _ x=>Ag a x
 | .loop a,.loop _ x=>Ag a x
 | .rangeFunc _ _ a b,.back _ _ _ _ _ _ _ x y=>Ag a x++Ag b y
 | _,_=>[]
def lp1 (o:Option Nat) (l:List Nat):List (Nat×List Nat):=match o with | some i=>[(i,l)] | none=>[]
def lps:Code→aR→List (Nat×List Nat)
 | .seq a b,.seq x y=>lps a x++lps b y
 | .cond _ a b,.cond _ x y=>lps a x++lps b y
 | .block _ a,.block _ x=>lps a x
 | .loop a,.loop l x=>lp1 (eS a) l++lps a x
 | .rangeFunc _ _ a b,.back _ _ _ _ _ _ l x y=>lp1 (eS a) l++lps a x++lps b y
 | _,_=>[]
def An (fn:Func) (af:aK) (p:List (Nat×Nat×Nat)) (s h si:List Nat) (ow:List (Nat×List Nat)) (bk:List (Nat×Nat)) (ks:Bool) (q ho:List Nat) (fz:List (Nat×List Nat)) (du:List (Nat×Nat)) (ro:List Nat) (fa:List (Nat×List (Nat×Nat))) (pu:List (Nat×List (Nat×Nat×Bool))) (pr:List (Nat×List (Nat×Nat×Nat))) (cu:List (Nat×Nat×List Nat×List Nat)) (fs:List (Nat×List Nat)) (kp:List Nat):hO:=
 ⟨p,s,h,Ag (fn.body.getD .skip) af.body,lps (fn.body.getD .skip) af.body,si,ow,bk,ks,q,ho,fz,du,ro,fa,pu,pr,cu,fs,kp⟩
def Bears (P:Program) (q:Nat×Nat):Prop:=∃fn A af,P.funcs[q.1]?=some fn∧lg P ns A fn=some af∧AP q.2=some af
def Bare (P:Program) (q:Nat×Nat):Prop:=(∃fn b,P.funcs[q.1]?=some fn∧fn.body=some b∧fn.name ≠ "runtime.NumGoroutine")∧AP q.2=none
theorem b241:Bears Tryd.prog (3,241):=⟨_,An Tryd.f3 g241 [] [] [] [] [] [] false [] [] [] [] [] [] [] [] [] [] [],g241,Tryd.func3,by kernel_rfl,rfl⟩
theorem b244:Bears Tryd.prog (6,244):=⟨_,An Tryd.f6 g244 [(1,1,0),(2,2,0)] [] [] [] [] [] false [] [] [] [] [] [] [] [] [] [] [],g244,Tryd.func6,by kernel_rfl,rfl⟩
theorem b245:Bears Tryd.prog (7,245):=⟨_,An Tryd.f7 g245 [] [] [] [] [] [] false [] [] [] [] [] [] [] [] [] [] [],g245,Tryd.func7,by kernel_rfl,rfl⟩
theorem b246:Bears Tryd.prog (8,246):=⟨_,An Tryd.f8 g246 [] [] [] [] [] [] false [] [] [] [] [] [] [] [] [] [] [],g246,Tryd.func8,by kernel_rfl,rfl⟩
theorem b26:Bears Tryd.prog (9,26):=⟨_,An Tryd.f9 g26 [] [] [] [] [] [] false [] [] [] [] [] [] [] [] [] [] [],g26,Tryd.func9,by kernel_rfl,rfl⟩
theorem b248:Bears Tryd.prog (13,248):=⟨_,An Tryd.f13 g248 [(4,4,0),(5,5,0),(50,4,0)] [7,12,16,23,32,36,40,65,78,95,106] [] [] [] [] false [] [] [] [] [28,45,57,70,74,83,87,92,103,114] [] [] [] [] [] [],g248,Tryd.func13,by kernel_rfl,rfl⟩
theorem b252:Bears Tryd.prog (19,252):=⟨_,An Tryd.f19 g252 [(1,1,0),(5,5,0),(6,1,0),(10,1,2),(16,1,2),(21,1,2),(27,1,1),(31,1,4),(36,1,4),(43,1,4),(49,1,1),(51,1,4)] [] [] [] [] [] false [] [] [] [] [] [] [] [] [] [] [],g252,Tryd.func19,by kernel_rfl,rfl⟩
theorem b254:Bears Tryd.prog (22,254):=⟨_,An Tryd.f22 g254 [(3,3,0),(4,4,0)] [] [] [] [] [] false [] [] [] [] [] [] [] [] [] [] [],g254,Tryd.func22,by kernel_rfl,rfl⟩
theorem b69:Bears Tryd.prog (23,69):=⟨_,An Tryd.f23 g69 [(2,2,0),(3,3,0),(4,4,0)] [] [] [] [] [] false [] [] [] [] [] [] [] [] [] [] [],g69,Tryd.func23,by kernel_rfl,rfl⟩
theorem b72:Bears Tryd.prog (24,72):=⟨_,An Tryd.f24 g72 [(2,2,0)] [] [] [] [] [] false [] [] [] [] [] [] [] [] [] [] [],g72,Tryd.func24,by kernel_rfl,rfl⟩
theorem b63:Bears Tryd.prog (25,63):=⟨_,An Tryd.f25 g63 [(2,2,0)] [] [] [] [] [] false [] [] [] [] [] [] [] [] [] [] [],g63,Tryd.func25,by kernel_rfl,rfl⟩
theorem b256:Bears Tryd.prog (27,256):=⟨_,An Tryd.f27 g256 [] [] [] [] [] [] false [] [] [] [] [] [] [] [] [] [] [],g256,Tryd.func27,by kernel_rfl,rfl⟩
theorem b257:Bears Tryd.prog (31,257):=⟨_,An Tryd.f31 g257 [] [5,9] [] [] [] [] false [] [] [] [] [] [] [] [] [] [] [],g257,Tryd.func31,by kernel_rfl,rfl⟩
theorem b258:Bears Tryd.prog (32,258):=⟨_,An Tryd.f32 g258 [] [] [] [] [] [] false [] [] [] [] [] [] [] [] [] [] [],g258,Tryd.func32,by kernel_rfl,rfl⟩
theorem b259:Bears Tryd.prog (33,259):=⟨_,An Tryd.f33 g259 [(1,1,0),(3,1,0)] [] [] [] [] [] false [] [] [] [] [] [] [] [] [] [] [],g259,Tryd.func33,by kernel_rfl,rfl⟩
theorem b260:Bears Tryd.prog (34,260):=⟨_,An Tryd.f34 g260 [(5,5,0),(18,5,1),(21,5,2),(26,5,3)] [] [33] [] [] [] false [] [] [] [] [] [] [] [] [] [] [],g260,Tryd.func34,by kernel_rfl,rfl⟩
theorem b62:Bears Tryd.prog (45,62):=⟨_,An Tryd.f45 g62 [(4,4,0)] [] [] [] [] [] false [] [] [] [] [] [] [] [] [] [] [],g62,Tryd.func45,by kernel_rfl,rfl⟩
theorem b264:Bears Tryd.prog (49,264):=⟨_,An Tryd.f49 g264 [(1,1,0),(3,1,0),(7,1,1),(12,1,4)] [] [] [] [] [] false [] [] [] [] [] [] [] [] [] [] [],g264,Tryd.func49,by kernel_rfl,rfl⟩
theorem b265:Bears Tryd.prog (50,265):=⟨_,An Tryd.f50 g265 [(1,1,0),(5,1,0),(9,1,4)] [] [] [] [] [] false [] [] [] [] [] [] [] [] [] [] [],g265,Tryd.func50,by kernel_rfl,rfl⟩
def IsPrim (P:Program) (q:Nat×Nat):Prop:=(∃fn b,P.funcs[q.1]?=some fn∧fn.body=some b∧fn.name ≠ "runtime.NumGoroutine") ∧
 ∃af pf,AP q.2=some af∧af.kX=some pf∧af.body=.exit 0∧∀orc,ej P ns orc→∀cv rs,pf.f orc.p cv=some rs→pw P ns q.1 cv rs
def HasB (P:Program) (f:Nat):Prop:=∃fn b,P.funcs[f]?=some fn∧fn.body=some b∧fn.name ≠ "runtime.NumGoroutine"
theorem b255:IsPrim Tryd.prog (26,255):=⟨⟨Tryd.f26,yC Tryd.f26,Tryd.func26,by kernel_rfl,by decide⟩,_,_,rfl,rfl,rfl,fun _ _=>tI (show ns.hP 0=some tH from wQ 0) (by kernel_rfl) (fun n h0 h1 w ht=>Tryd.strconv_Itoa n h0 h1 w ht)⟩
theorem b269:IsPrim Tryd.prog (57,269):=⟨⟨Tryd.f57,yC Tryd.f57,Tryd.func57,by kernel_rfl,by decide⟩,_,_,rfl,rfl,rfl,fun _ _=>wP (fun a c sep w=>Tryd.strings_Join_none a c sep w) (fun bk o c xs sep w h1 h2 h3 h4 h5=>Tryd.strings_Join bk o c xs sep w h1 h2 h3 h4 h5)⟩
theorem all_bear:∀q∈ns.g,Bears Tryd.prog q∨Bare Tryd.prog q∨IsPrim Tryd.prog q:=by
 intro q hq
 simp only [ns,List.mem_cons,List.not_mem_nil,or_false] at hq
 rcases hq with rfl | rfl | rfl | rfl | rfl | rfl | rfl | rfl | rfl | rfl | rfl | rfl | rfl | rfl | rfl | rfl | rfl | rfl | rfl | rfl | rfl
 · exact .inl b241
 · exact .inl b244
 · exact .inl b245
 · exact .inl b246
 · exact .inl b26
 · exact .inl b248
 · exact .inl b252
 · exact .inl b254
 · exact .inl b69
 · exact .inl b72
 · exact .inl b63
 · exact .inl b256
 · exact .inl b257
 · exact .inl b258
 · exact .inl b259
 · exact .inl b260
 · exact .inl b62
 · exact .inl b264
 · exact .inl b265
 · exact .inr (.inr b255)
 · exact .inr (.inr b269)
theorem look_memI {α:Type} {t:Nat} {v:α}:∀{l:List (Nat×α)},look l t=some v→(t,v)∈l
 | [],h=>by simp [look] at h
 | (k,u)::r,h=>by
   simp only [look] at h
   split at h
   · rename_i e;cases h;subst e;exact List.mem_cons_self
   · exact List.mem_cons_of_mem _ (look_memI h)
theorem backs_ok:kS Tryd.prog ns:=by
 intro gb sz ag h f hf
 simp [look,ns] at h
theorem clones_ok:∀g sz bytes f,look ns.cl g=some (sz,bytes)→ns.of f=some g→Nonempty (l0 Tryd.prog ns f sz bytes):=by
 intro g sz bytes f h hf
 simp [look,ns] at h
theorem impl:Impl Tryd.prog ns AP:=⟨by kernel_rfl,fun f g h=>(all_bear (f,g) (look_memI h)).imp id (Or.elim · (fun ⟨h1,h2⟩=>⟨h1,.inl h2⟩) (fun ⟨h1,h2⟩=>⟨h1,.inr h2⟩)),backs_ok,clones_ok⟩
end Go.Ab
