import Derived.Test.YtcjggpmnbcfedaaDoorRows
import Derived.Test.YtcjggpmnbcfedaaDoorCodeA
import Derived.Test.YtcjggpmnbcfedaaDoorShelf
/-
  Each function of the given program that has slim code bears just that code: the kernel translates it anew and compares.
-/
set_option linter.unusedVariables false
set_option linter.unusedSimpArgs false
set_option linter.unnecessarySimpa false
set_option maxRecDepth 100000
set_option maxHeartbeats 8000000
namespace Go.Ab
open Proofs Shelf
def ns:Names:=⟨[(5,243),(6,244),(7,245),(9,26),(10,15),(11,247),(12,32),(13,248),(15,250),(16,27),(17,67),(18,251),(19,252),(20,253),(21,20),(22,254),(23,69),(24,72),(25,63),(28,68),(29,175),(30,79),(31,257),(32,258),(33,259),(34,260),(38,118),(39,119),(40,134),(41,139),(42,135),(43,136),(44,34),(45,62),(46,106),(47,133),(48,52),(49,264),(50,265),(51,266),(52,267),(53,145),(54,57),(56,112),(60,117),(61,125),(62,126),(63,132),(64,128),(65,127),(66,140),(67,141),(68,142),(69,143),(70,144),(71,129),(72,130),(73,131),(75,120),(76,121),(77,122),(78,123),(82,109),(83,111),(84,124),(85,110),(86,77),(87,78),(88,137),(89,138),(90,146),(97,108),(26,255),(57,269)],
 [247,27,68,175,257,119,134,139,133,126,132,128,127,140,141,129,130,131,120,121,122],[],[],BO 0⟩
def lv1 (i:Nat):au→List (Nat×List Nat)
 | .oe _ l=>[(i,l)]
 | .seq a b=>lv1 i b++lv1 i a
 | _=>[]
def DL:Code→au→List (Nat×List Nat)
 | .region i _ _,x=>lv1 i x
 | .seq a b,.seq x y=>DL a x++DL b y
 | .cond _ a b,.cond _ x y=>DL a x++DL b y
 | .block _ a,.block _ x=>DL a x
 | .loop a,.loop _ x=>DL a x
 | .rangeFunc _ _ a b,.back _ _ _ _ _ _ _ x y=>DL a x++DL b y
 | _,_=>[]
def lp1 (o:Option Nat) (l:List Nat):List (Nat×List Nat):=match o with | some i=>[(i,l)] | none=>[]
def lps:Code→au→List (Nat×List Nat)
 | .seq a b,.seq x y=>lps a x++lps b y
 | .cond _ a b,.cond _ x y=>lps a x++lps b y
 | .block _ a,.block _ x=>lps a x
 | .loop a,.loop l x=>lp1 (gF a) l++lps a x
 | .rangeFunc _ _ a b,.back _ _ _ _ _ _ l x y=>lp1 (gF a) l++lps a x++lps b y
 | _,_=>[]
def An (p:List (Nat×Nat×Nat)) (s h si:List Nat) (ow:List (Nat×List Nat)) (bk:List (Nat×Nat)) (ks:Bool) (q ho:List Nat) (fz:List (Nat×List Nat)) (du:List (Nat×Nat)) (ro:List Nat) (fa:List (Nat×List (Nat×Nat))) (pu:List (Nat×List (Nat×Nat×Bool))) (pr:List (Nat×List (Nat×Nat×Nat))) (cu:List (Nat×Nat×List Nat×List Nat)) (fs:List (Nat×List Nat)) (kp:List Nat) (fn:Func) (af:aB):gJ:=
 ⟨p,s,h,DL (fn.body.getD .skip) af.body,lps (fn.body.getD .skip) af.body,si,ow,bk,ks,q,ho,fz,du,ro,fa,pu,pr,cu,fs,kp⟩
def prO (m:List (Nat×Nat×Nat)) (o:cB):List (Nat×Nat×Nat):=match o.dst,o.op,o.args with
 | some d,.alloc k _,_=>(d,k,0)::m
 | some d,.box k _,_=>(d,k,0)::m
 | some d,.v (.eI n),[.t s]=>match look m s with | some (k,f)=>(d,k,f+n)::m | none=>m
 | _,_,_=>m
def DM:au→List (Nat×Nat×Nat)→List (Nat×Nat×Nat)
 | .oe os _,m=>os.foldl prO m
 | .seq a b,m=>DM b (DM a m)
 | .cond _ a b,m=>DM b (DM a m)
 | .block _ a,m=>DM a m
 | .loop _ a,m=>DM a m
 | .back _ _ _ _ _ _ _ a b,m=>DM b (DM a m)
 | _,m=>m
def Am (s h si:List Nat) (ow:List (Nat×List Nat)) (bk:List (Nat×Nat)) (ks:Bool) (q ho:List Nat) (fz:List (Nat×List Nat)) (fn:Func) (af:aB):gJ:=An (DM af.body []) s h si ow bk ks q ho fz [] [] [] [] [] [] [] [] fn af
def Al (s:List Nat):Func→aB→gJ:=Am s [] [] [] [] false [] [] []
def Ak:Func→aB→gJ:=Al []
def E0:gJ:=⟨[],[],[],[],[],[],[],[],false,[],[],[],[],[],[],[],[],[],[],[]⟩
def E2:gJ:=⟨[],[],[],[],[],[],[],[],false,[],[7],[],[],[],[],[],[],[],[],[]⟩
def Bears (P:Program) (q:Nat×Nat):Prop:=∃fn A af,P.funcs[q.1]?=some fn∧kS P ns A fn=some af∧AP q.2=some af
theorem zb {i g:Nat} {P:Program} {fn:Func} (af:aB) (A:Func→aB→gJ) (h:P.funcs[i]?=some fn) (e:AP g=some af:=by rfl) (k:kS P ns (A fn af) fn=some af:=by kernel_rfl):Bears P (i,g):=⟨fn,A fn af,af,h,k,e⟩
theorem zl {α:Type} {p r:α→Prop} {a:α} {l:List α} (h:p a) (t:∀q∈l,p q∨r q):∀q∈a::l,p q∨r q:=List.forall_mem_cons.2 ⟨.inl h,t⟩
theorem zr {α:Type} {p r:α→Prop} {a:α} {l:List α} (h:r a) (t:∀q∈l,p q∨r q):∀q∈a::l,p q∨r q:=List.forall_mem_cons.2 ⟨.inr h,t⟩
theorem look_memI {α:Type} {t:Nat} {v:α}:∀{l:List (Nat×α)},look l t=some v→(t,v)∈l
 | [],h=>by simp [look] at h
 | (k,u)::r,h=>by
   simp only [look] at h
   split at h
   · rename_i e;cases h;subst e;exact List.mem_cons_self
   · exact List.mem_cons_of_mem _ (look_memI h)
def Bare (P:Program) (q:Nat×Nat):Prop:=(∃fn b,P.funcs[q.1]?=some fn∧fn.body=some b∧fn.name ≠ "runtime.NumGoroutine")∧AP q.2=none
abbrev Br:Nat×Nat→Prop:=Bears Tryd.prog
theorem b243:Br (5,243):=zb g243 Ak Tryd.func5
theorem b244:Br (6,244):=zb g244 Ak Tryd.func6
theorem b245:Br (7,245):=zb g245 Ak Tryd.func7
theorem b26:Br (9,26):=zb g26 Ak Tryd.func9
theorem b15:Br (10,15):=zb g15 Ak Tryd.func10
theorem b247:Br (11,247):=zb g247 (Al [46,148]) Tryd.func11
theorem b32:Br (12,32):=zb g32 Ak Tryd.func12
theorem b248:Br (13,248):=zb g248 (An [(4,4,0),(5,5,0),(50,4,0)] [7,12,16,23,32,36,40,65,78,95,106] [] [] [] [] false [] [] [] [] [28,45,57,70,74,83,87,92,103,114] [] [] [] [] [] []) Tryd.func13
theorem b250:Br (15,250):=zb g250 (Al [26,35,40]) Tryd.func15
theorem b27:Br (16,27):=zb g27 (Al [29,59]) Tryd.func16
theorem b67:Br (17,67):=zb g67 Ak Tryd.func17
theorem b251:Br (18,251):=zb g251 (Al [24,33,38]) Tryd.func18
theorem b252:Br (19,252):=zb g252 Ak Tryd.func19
theorem b253:Br (20,253):=zb g253 Ak Tryd.func20
theorem b20:Br (21,20):=zb g20 Ak Tryd.func21
theorem b254:Br (22,254):=zb g254 Ak Tryd.func22
theorem b69:Br (23,69):=zb g69 Ak Tryd.func23
theorem b72:Br (24,72):=zb g72 Ak Tryd.func24
theorem b63:Br (25,63):=zb g63 Ak Tryd.func25
theorem b68:Br (28,68):=zb g68 (Al [7,11,17,24,28]) Tryd.func28
theorem b175:Br (29,175):=zb g175 Ak Tryd.func29
theorem b79:Br (30,79):=zb g79 Ak Tryd.func30
theorem b257:Br (31,257):=zb g257 (Al [5,9]) Tryd.func31
theorem b258:Br (32,258):=zb g258 Ak Tryd.func32
theorem b259:Br (33,259):=zb g259 Ak Tryd.func33
theorem b260:Br (34,260):=zb g260 (Am [] [33] [] [] [] false [] [] []) Tryd.func34
theorem b118:Br (38,118):=zb g118 Ak Tryd.func38
theorem b119:Br (39,119):=zb g119 Ak Tryd.func39
theorem b134:Br (40,134):=zb g134 (Al [21,41,50,71,77,81,89,93]) Tryd.func40
theorem b139:Br (41,139):=zb g139 (Al [5,13,17,24,28,38,44,48]) Tryd.func41
theorem b135:Br (42,135):=zb g135 Ak Tryd.func42
theorem b136:Br (43,136):=zb g136 Ak Tryd.func43
theorem b34:Br (44,34):=zb g34 Ak Tryd.func44
theorem b62:Br (45,62):=zb g62 Ak Tryd.func45
theorem b106:Br (46,106):=zb g106 Ak Tryd.func46
theorem b133:Br (47,133):=zb g133 (Am [] [] [8] [] [] false [] [] []) Tryd.func47
theorem b52:Br (48,52):=zb g52 Ak Tryd.func48
theorem b264:Br (49,264):=zb g264 Ak Tryd.func49
theorem b265:Br (50,265):=zb g265 Ak Tryd.func50
theorem b266:Br (51,266):=zb g266 Ak Tryd.func51
theorem b267:Br (52,267):=zb g267 Ak Tryd.func52
theorem b145:Br (53,145):=zb g145 (Am [20] [] [] [] [] true [] [7,23] []) Tryd.func53
theorem b57:Br (54,57):=zb g57 Ak Tryd.func54
theorem b112:Br (56,112):=zb g112 (Am [22,28,52,57] [] [] [] [] true [] [] []) Tryd.func56
theorem b117:Br (60,117):=zb g117 Ak Tryd.func60
theorem b125:Br (61,125):=zb g125 Ak Tryd.func61
theorem b126:Br (62,126):=zb g126 (Al [5,9,15,19]) Tryd.func62
theorem b132:Br (63,132):=zb g132 (Al [10]) Tryd.func63
theorem b128:Br (64,128):=zb g128 (Al [13,20,24]) Tryd.func64
theorem b127:Br (65,127):=zb g127 Ak Tryd.func65
theorem b140:Br (66,140):=zb g140 (Al [32]) Tryd.func66
theorem b141:Br (67,141):=zb g141 (Al [51]) Tryd.func67
theorem b142:Br (68,142):=zb g142 Ak Tryd.func68
theorem b143:Br (69,143):=zb g143 Ak Tryd.func69
theorem b144:Br (70,144):=zb g144 Ak Tryd.func70
theorem b129:Br (71,129):=zb g129 (Al [7,13,17,25,29]) Tryd.func71
theorem b130:Br (72,130):=zb g130 Ak Tryd.func72
theorem b131:Br (73,131):=zb g131 (Am [20] [] [15] [] [] false [] [] []) Tryd.func73
theorem b120:Br (75,120):=zb g120 (Al [7,13,17,25,29,38,42,53,57]) Tryd.func75
theorem b121:Br (76,121):=zb g121 (Al [26]) Tryd.func76
theorem b122:Br (77,122):=zb g122 (Al [25]) Tryd.func77
theorem b123:Br (78,123):=zb g123 Ak Tryd.func78
theorem b109:Br (82,109):=zb g109 Ak Tryd.func82
theorem b111:Br (83,111):=zb g111 Ak Tryd.func83
theorem b124:Br (84,124):=zb g124 Ak Tryd.func84
theorem b110:Br (85,110):=zb g110 Ak Tryd.func85
theorem b77:Br (86,77):=zb g77 Ak Tryd.func86
theorem b78:Br (87,78):=zb g78 Ak Tryd.func87
theorem b137:Br (88,137):=zb g137 Ak Tryd.func88
theorem b138:Br (89,138):=zb g138 Ak Tryd.func89
theorem b146:Br (90,146):=zb g146 Ak Tryd.func90
theorem b108:Br (97,108):=zb g108 Ak Tryd.func97
theorem rows_bear:∀q∈ns.g.take 72,Br q∨Bare Tryd.prog q:=
 zl b243 <|
 zl b244 <|
 zl b245 <|
 zl b26 <|
 zl b15 <|
 zl b247 <|
 zl b32 <|
 zl b248 <|
 zl b250 <|
 zl b27 <|
 zl b67 <|
 zl b251 <|
 zl b252 <|
 zl b253 <|
 zl b20 <|
 zl b254 <|
 zl b69 <|
 zl b72 <|
 zl b63 <|
 zl b68 <|
 zl b175 <|
 zl b79 <|
 zl b257 <|
 zl b258 <|
 zl b259 <|
 zl b260 <|
 zl b118 <|
 zl b119 <|
 zl b134 <|
 zl b139 <|
 zl b135 <|
 zl b136 <|
 zl b34 <|
 zl b62 <|
 zl b106 <|
 zl b133 <|
 zl b52 <|
 zl b264 <|
 zl b265 <|
 zl b266 <|
 zl b267 <|
 zl b145 <|
 zl b57 <|
 zl b112 <|
 zl b117 <|
 zl b125 <|
 zl b126 <|
 zl b132 <|
 zl b128 <|
 zl b127 <|
 zl b140 <|
 zl b141 <|
 zl b142 <|
 zl b143 <|
 zl b144 <|
 zl b129 <|
 zl b130 <|
 zl b131 <|
 zl b120 <|
 zl b121 <|
 zl b122 <|
 zl b123 <|
 zl b109 <|
 zl b111 <|
 zl b124 <|
 zl b110 <|
 zl b77 <|
 zl b78 <|
 zl b137 <|
 zl b138 <|
 zl b146 <|
 zl b108 <|
 fun _ h=>absurd h List.not_mem_nil
theorem prims_g:ns.g.drop 72=[(26,255),(57,269)]:=by kernel_rfl
def IsPrim (P:Program) (q:Nat×Nat):Prop:=(∃fn b,P.funcs[q.1]?=some fn∧fn.body=some b∧fn.name ≠ "runtime.NumGoroutine") ∧
 ∃af pf,AP q.2=some af∧af.km=some pf∧af.body=.exit 0∧∀orc,fE P ns orc→∀bZ rs,pf.f orc.p bZ=some rs→qU P ns q.1 bZ rs
def HasB (P:Program) (f:Nat):Prop:=∃fn b,P.funcs[f]?=some fn∧fn.body=some b∧fn.name ≠ "runtime.NumGoroutine"
theorem b255:IsPrim Tryd.prog (26,255):=⟨⟨Tryd.f26,BC Tryd.f26,Tryd.func26,by kernel_rfl,by decide⟩,_,_,rfl,rfl,rfl,fun _ _=>vQ (show ns.i3 0=some qe from zD 0) (by kernel_rfl) (fun n h0 h1 w ht=>Tryd.strconv_Itoa n h0 h1 w ht)⟩
theorem b269:IsPrim Tryd.prog (57,269):=⟨⟨Tryd.f57,BC Tryd.f57,Tryd.func57,by kernel_rfl,by decide⟩,_,_,rfl,rfl,rfl,fun _ _=>zC (fun a c sep w=>Tryd.strings_Join_none a c sep w) (fun bk o c xs sep w h1 h2 h3 h4 h5=>Tryd.strings_Join bk o c xs sep w h1 h2 h3 h4 h5)⟩
theorem all_bear:∀q∈ns.g,Bears Tryd.prog q∨Bare Tryd.prog q∨IsPrim Tryd.prog q:=by
 intro q hq
 rw [←List.take_append_drop 72 ns.g] at hq
 rcases List.mem_append.1 hq with h | h
 · exact (rows_bear q h).elim .inl fun h=>.inr (.inl h)
 rw [prims_g] at h
 simp only [List.mem_cons,List.not_mem_nil,or_false] at h
 rcases h with rfl | rfl
 · exact .inr (.inr b255)
 · exact .inr (.inr b269)
theorem backs_ok:l4 Tryd.prog ns:=trivial
theorem clones_ok:∀g sz bytes f,look ns.cl g=some (sz,bytes)→ns.of f=some g→Nonempty (mZ Tryd.prog ns f sz bytes):=by
 intro g sz bytes f h hf
 simp [look,ns] at h
theorem impl:Impl Tryd.prog ns AP:=⟨by kernel_rfl,fun f g h=>(all_bear (f,g) (look_memI h)).imp id (Or.elim · (fun ⟨h1,h2⟩=>⟨h1,.inl h2⟩) (fun ⟨h1,h2⟩=>⟨h1,.inr h2⟩)),backs_ok,clones_ok⟩
end Go.Ab
