import Derived.Test.YtcjggpmnbcfedaaDoorRows
import Derived.Test.YtcjggpmnbcfedaaDoorCodeA
import Derived.Test.YtcjggpmnbcfedaaDoorAbDat
import Derived.Test.YtcjggpmnbcfedaaDoorAbBridge
import Derived.Test.YtcjggpmnbcfedaaDoorShelf
/-
  Each function of the given program that has slim code bears just that code: the kernel translates it anew and compares.
-/
set_option linter.unusedVariables false
set_option linter.unusedSimpArgs false
set_option maxRecDepth 100000
set_option maxHeartbeats 8000000
namespace Go.Ab
open Proofs
def ns:Names:=⟨[(4,242),(6,244),(7,245),(9,26),(10,15),(11,247),(12,32),(13,248),(14,249),(16,27),(19,252),(22,254),(23,69),(24,72),(25,63),(27,256),(28,68),(29,175),(30,79),(31,257),(32,258),(33,259),(34,260),(35,261),(36,262),(37,263),(38,118),(39,119),(40,134),(41,139),(42,135),(43,136),(44,34),(45,62),(46,106),(47,133),(48,52),(49,264),(50,265),(53,145),(56,112),(58,194),(59,270),(60,117),(61,125),(62,126),(63,132),(64,128),(65,127),(66,140),(67,141),(68,142),(69,143),(70,144),(71,129),(72,130),(73,131),(75,120),(76,121),(77,122),(78,123),(82,109),(83,111),(84,124),(85,110),(86,77),(87,78),(88,137),(89,138),(90,146),(97,108),(8,246),(26,255),(57,269)],
 [247,27,68,175,257,119,134,139,133,126,132,128,127,140,141,129,130,131,120,121,122],[],[]⟩
def zL:Code→aE→List (Nat×List Nat)
 | .region i _ _,.aq _ l=>[(i,l)]
 | .region i _ _,.seq _ (.aq _ l)=>[(i,l)]
 | .seq a b,.seq x y=>zL a x++zL b y
 | .cond _ a b,.cond _ x y=>zL a x++zL b y
 | .block _ a,.block _ x=>zL a x
 | .loop a,.loop _ x=>zL a x
 | .rangeFunc _ _ a b,.back _ _ _ _ _ _ _ x y=>zL a x++zL b y
 | _,_=>[]
def lp1 (o:Option Nat) (l:List Nat):List (Nat×List Nat):=match o with | some i=>[(i,l)] | none=>[]
def lps:Code→aE→List (Nat×List Nat)
 | .seq a b,.seq x y=>lps a x++lps b y
 | .cond _ a b,.cond _ x y=>lps a x++lps b y
 | .block _ a,.block _ x=>lps a x
 | .loop a,.loop l x=>lp1 (fE a) l++lps a x
 | .rangeFunc _ _ a b,.back _ _ _ _ _ _ l x y=>lp1 (fE a) l++lps a x++lps b y
 | _,_=>[]
def An (fn:Func) (af:aB) (p:List (Nat×Nat×Nat)) (s h si:List Nat) (ow:List (Nat×List Nat)) (bk:List (Nat×Nat)) (ks:Bool) (q ho:List Nat) (fz:List (Nat×List Nat)) (du:List (Nat×Nat)) (ro:List Nat):jL:=
 ⟨p,s,h,zL (fn.body.getD .skip) af.body,lps (fn.body.getD .skip) af.body,si,ow,bk,ks,q,ho,fz,du,ro⟩
def Bears (P:Program) (q:Nat×Nat):Prop:=∃fn A af,P.funcs[q.1]?=some fn∧l5 P ns A fn=some af∧AP q.2=some af
def Bare (P:Program) (q:Nat×Nat):Prop:=(∃fn b,P.funcs[q.1]?=some fn∧fn.body=some b∧fn.name ≠ "runtime.NumGoroutine")∧AP q.2=none
theorem b242:Bears Tryd.prog (4,242):=⟨_,An Tryd.f4 g242 [(6,6,0)] [] [] [] [] [] false [] [] [] [] [],g242,Tryd.func4,by kernel_rfl,rfl⟩
theorem b244:Bears Tryd.prog (6,244):=⟨_,An Tryd.f6 g244 [(1,1,0),(2,2,0)] [] [] [] [] [] false [] [] [] [] [],g244,Tryd.func6,by kernel_rfl,rfl⟩
theorem b245:Bears Tryd.prog (7,245):=⟨_,An Tryd.f7 g245 [] [] [] [] [] [] false [] [] [] [] [],g245,Tryd.func7,by kernel_rfl,rfl⟩
theorem b26:Bears Tryd.prog (9,26):=⟨_,An Tryd.f9 g26 [] [] [] [] [] [] false [] [] [] [] [],g26,Tryd.func9,by kernel_rfl,rfl⟩
theorem b15:Bears Tryd.prog (10,15):=⟨_,An Tryd.f10 g15 [] [] [] [] [] [] false [] [] [] [] [],g15,Tryd.func10,by kernel_rfl,rfl⟩
theorem b247:Bears Tryd.prog (11,247):=⟨_,An Tryd.f11 g247 [(6,6,0),(8,8,0),(9,9,0),(12,12,0),(13,13,0),(14,14,0),(16,16,0),(48,8,3),(51,8,3),(158,13,3),(164,13,3),(172,13,3),(182,16,2),(188,16,2),(194,16,3),(195,14,5),(200,14,5)] [46,148] [] [] [] [] false [] [] [] [] [],g247,Tryd.func11,by kernel_rfl,rfl⟩
theorem b32:Bears Tryd.prog (12,32):=⟨_,An Tryd.f12 g32 [] [] [] [] [] [] false [] [] [] [] [],g32,Tryd.func12,by kernel_rfl,rfl⟩
theorem b248:Bears Tryd.prog (13,248):=⟨_,An Tryd.f13 g248 [(4,4,0),(5,5,0),(50,4,0)] [7,12,16,23,32,36,40,65,78,95,106] [] [] [] [] false [] [] [] [] [28,45,57,70,74,83,87,92,103,114],g248,Tryd.func13,by kernel_rfl,rfl⟩
theorem b249:Bears Tryd.prog (14,249):=⟨_,An Tryd.f14 g249 [(1,1,0),(3,3,0),(4,4,0),(8,1,0),(13,1,2),(17,1,3),(24,1,2),(28,1,4),(36,1,4),(40,1,4),(48,3,0),(61,1,2),(65,1,4),(72,1,4),(80,1,2),(84,1,4),(91,1,4),(99,1,4),(106,1,6),(113,1,4),(120,1,4),(128,1,5),(139,1,5),(147,1,5),(158,1,5),(170,1,5)] [] [] [] [] [] false [] [] [] [] [],g249,Tryd.func14,by kernel_rfl,rfl⟩
theorem b27:Bears Tryd.prog (16,27):=⟨_,An Tryd.f16 g27 [(8,8,0),(10,10,0),(13,13,0),(62,10,2),(77,10,1)] [29,59] [] [] [] [] false [] [] [] [] [],g27,Tryd.func16,by kernel_rfl,rfl⟩
theorem b252:Bears Tryd.prog (19,252):=⟨_,An Tryd.f19 g252 [(1,1,0),(5,5,0),(6,1,0),(10,1,2),(16,1,2),(21,1,2),(27,1,1),(31,1,4),(36,1,4),(43,1,4),(49,1,1),(51,1,4)] [] [] [] [] [] false [] [] [] [] [],g252,Tryd.func19,by kernel_rfl,rfl⟩
theorem b254:Bears Tryd.prog (22,254):=⟨_,An Tryd.f22 g254 [(3,3,0),(4,4,0)] [] [] [] [] [] false [] [] [] [] [],g254,Tryd.func22,by kernel_rfl,rfl⟩
theorem b69:Bears Tryd.prog (23,69):=⟨_,An Tryd.f23 g69 [(2,2,0),(3,3,0),(4,4,0)] [] [] [] [] [] false [] [] [] [] [],g69,Tryd.func23,by kernel_rfl,rfl⟩
theorem b72:Bears Tryd.prog (24,72):=⟨_,An Tryd.f24 g72 [(2,2,0)] [] [] [] [] [] false [] [] [] [] [],g72,Tryd.func24,by kernel_rfl,rfl⟩
theorem b63:Bears Tryd.prog (25,63):=⟨_,An Tryd.f25 g63 [(2,2,0)] [] [] [] [] [] false [] [] [] [] [],g63,Tryd.func25,by kernel_rfl,rfl⟩
theorem b256:Bears Tryd.prog (27,256):=⟨_,An Tryd.f27 g256 [] [] [] [] [] [] false [] [] [] [] [],g256,Tryd.func27,by kernel_rfl,rfl⟩
theorem b68:Bears Tryd.prog (28,68):=⟨_,An Tryd.f28 g68 [] [7,11,17,24,28] [] [] [] [] false [] [] [] [] [],g68,Tryd.func28,by kernel_rfl,rfl⟩
theorem b175:Bears Tryd.prog (29,175):=⟨_,An Tryd.f29 g175 [] [] [] [] [] [] false [] [] [] [] [],g175,Tryd.func29,by kernel_rfl,rfl⟩
theorem b79:Bears Tryd.prog (30,79):=⟨_,An Tryd.f30 g79 [(1,1,0),(2,2,0),(7,1,0)] [] [] [] [] [] false [] [] [] [] [],g79,Tryd.func30,by kernel_rfl,rfl⟩
theorem b257:Bears Tryd.prog (31,257):=⟨_,An Tryd.f31 g257 [] [5,9] [] [] [] [] false [] [] [] [] [],g257,Tryd.func31,by kernel_rfl,rfl⟩
theorem b258:Bears Tryd.prog (32,258):=⟨_,An Tryd.f32 g258 [] [] [] [] [] [] false [] [] [] [] [],g258,Tryd.func32,by kernel_rfl,rfl⟩
theorem b259:Bears Tryd.prog (33,259):=⟨_,An Tryd.f33 g259 [(1,1,0),(3,1,0)] [] [] [] [] [] false [] [] [] [] [],g259,Tryd.func33,by kernel_rfl,rfl⟩
theorem b260:Bears Tryd.prog (34,260):=⟨_,An Tryd.f34 g260 [(5,5,0),(18,5,1),(21,5,2),(26,5,3)] [] [33] [] [] [] false [] [] [] [] [],g260,Tryd.func34,by kernel_rfl,rfl⟩
theorem b261:Bears Tryd.prog (35,261):=⟨_,An Tryd.f35 g261 [(2,2,0)] [] [] [] [] [] false [] [] [] [] [],g261,Tryd.func35,by kernel_rfl,rfl⟩
theorem b262:Bears Tryd.prog (36,262):=⟨_,An Tryd.f36 g262 [(1,1,0),(3,1,0)] [] [] [] [] [] false [] [] [] [] [],g262,Tryd.func36,by kernel_rfl,rfl⟩
theorem b263:Bears Tryd.prog (37,263):=⟨_,An Tryd.f37 g263 [(1,1,0),(3,3,0),(4,4,0),(7,7,0),(8,8,0),(12,1,0),(16,1,2),(22,1,2),(27,1,2),(33,1,1),(59,1,1),(62,1,4),(69,1,4)] [] [] [] [] [] false [] [] [] [] [],g263,Tryd.func37,by kernel_rfl,rfl⟩
theorem b118:Bears Tryd.prog (38,118):=⟨_,An Tryd.f38 g118 [(3,3,0)] [] [] [] [] [] false [] [] [] [] [],g118,Tryd.func38,by kernel_rfl,rfl⟩
theorem b119:Bears Tryd.prog (39,119):=⟨_,An Tryd.f39 g119 [] [] [] [] [] [] false [] [] [] [] [],g119,Tryd.func39,by kernel_rfl,rfl⟩
theorem b134:Bears Tryd.prog (40,134):=⟨_,An Tryd.f40 g134 [(2,2,0),(7,7,0),(8,8,0),(9,9,0),(101,8,1)] [21,41,50,71,77,81,89,93] [] [] [] [] false [] [] [] [] [],g134,Tryd.func40,by kernel_rfl,rfl⟩
theorem b139:Bears Tryd.prog (41,139):=⟨_,An Tryd.f41 g139 [(2,2,0),(55,2,2),(57,2,1)] [5,13,17,24,28,38,44,48] [] [] [] [] false [] [] [] [] [],g139,Tryd.func41,by kernel_rfl,rfl⟩
theorem b135:Bears Tryd.prog (42,135):=⟨_,An Tryd.f42 g135 [(1,1,0)] [] [] [] [] [] false [] [] [] [] [],g135,Tryd.func42,by kernel_rfl,rfl⟩
theorem b136:Bears Tryd.prog (43,136):=⟨_,An Tryd.f43 g136 [(1,1,0),(10,1,5),(16,1,5),(24,1,5)] [] [] [] [] [] false [] [] [] [] [],g136,Tryd.func43,by kernel_rfl,rfl⟩
theorem b34:Bears Tryd.prog (44,34):=⟨_,An Tryd.f44 g34 [(0,0,0)] [] [] [] [] [] false [] [] [] [] [],g34,Tryd.func44,by kernel_rfl,rfl⟩
theorem b62:Bears Tryd.prog (45,62):=⟨_,An Tryd.f45 g62 [(4,4,0)] [] [] [] [] [] false [] [] [] [] [],g62,Tryd.func45,by kernel_rfl,rfl⟩
theorem b106:Bears Tryd.prog (46,106):=⟨_,An Tryd.f46 g106 [(2,2,0)] [] [] [] [] [] false [] [] [] [] [],g106,Tryd.func46,by kernel_rfl,rfl⟩
theorem b133:Bears Tryd.prog (47,133):=⟨_,An Tryd.f47 g133 [(2,2,0),(3,3,0),(11,3,4),(17,3,4)] [] [] [8] [] [] false [] [] [] [] [],g133,Tryd.func47,by kernel_rfl,rfl⟩
theorem b52:Bears Tryd.prog (48,52):=⟨_,An Tryd.f48 g52 [(1,1,0),(6,1,4),(13,1,4)] [] [] [] [] [] false [] [] [] [] [],g52,Tryd.func48,by kernel_rfl,rfl⟩
theorem b264:Bears Tryd.prog (49,264):=⟨_,An Tryd.f49 g264 [(1,1,0),(3,1,0),(7,1,1),(12,1,4)] [] [] [] [] [] false [] [] [] [] [],g264,Tryd.func49,by kernel_rfl,rfl⟩
theorem b265:Bears Tryd.prog (50,265):=⟨_,An Tryd.f50 g265 [(1,1,0),(5,1,0),(9,1,4)] [] [] [] [] [] false [] [] [] [] [],g265,Tryd.func50,by kernel_rfl,rfl⟩
theorem b145:Bears Tryd.prog (53,145):=⟨_,An Tryd.f53 g145 [(1,1,0),(5,1,4),(9,1,5),(16,1,5)] [20] [] [] [] [] true [] [7,23] [] [] [],g145,Tryd.func53,by kernel_rfl,rfl⟩
theorem b112:Bears Tryd.prog (56,112):=⟨_,An Tryd.f56 g112 [(2,2,0),(3,3,0),(5,5,0),(6,6,0),(13,5,0),(36,6,0),(42,6,0),(43,6,1),(49,6,1),(62,5,0)] [22,28,52,57] [] [] [] [] true [] [] [] [] [],g112,Tryd.func56,by kernel_rfl,rfl⟩
theorem b194:Bears Tryd.prog (58,194):=⟨_,An Tryd.f58 g194 [(1,1,0),(2,2,0),(3,3,0),(5,1,0),(9,1,1),(14,1,4),(19,1,4),(23,1,4)] [] [] [] [] [] false [] [] [] [] [],g194,Tryd.func58,by kernel_rfl,rfl⟩
theorem b270:Bears Tryd.prog (59,270):=⟨_,An Tryd.f59 g270 [(1,1,0),(3,1,0),(7,1,4)] [] [] [] [] [] false [] [] [] [] [],g270,Tryd.func59,by kernel_rfl,rfl⟩
theorem b117:Bears Tryd.prog (60,117):=⟨_,An Tryd.f60 g117 [] [] [] [] [] [] false [] [] [] [] [],g117,Tryd.func60,by kernel_rfl,rfl⟩
theorem b125:Bears Tryd.prog (61,125):=⟨_,An Tryd.f61 g125 [] [] [] [] [] [] false [] [] [] [] [],g125,Tryd.func61,by kernel_rfl,rfl⟩
theorem b126:Bears Tryd.prog (62,126):=⟨_,An Tryd.f62 g126 [] [5,9,15,19] [] [] [] [] false [] [] [] [] [],g126,Tryd.func62,by kernel_rfl,rfl⟩
theorem b132:Bears Tryd.prog (63,132):=⟨_,An Tryd.f63 g132 [] [10] [] [] [] [] false [] [] [] [] [],g132,Tryd.func63,by kernel_rfl,rfl⟩
theorem b128:Bears Tryd.prog (64,128):=⟨_,An Tryd.f64 g128 [] [13,20,24] [] [] [] [] false [] [] [] [] [],g128,Tryd.func64,by kernel_rfl,rfl⟩
theorem b127:Bears Tryd.prog (65,127):=⟨_,An Tryd.f65 g127 [] [] [] [] [] [] false [] [] [] [] [],g127,Tryd.func65,by kernel_rfl,rfl⟩
theorem b140:Bears Tryd.prog (66,140):=⟨_,An Tryd.f66 g140 [(4,4,0),(5,5,0),(6,6,0),(21,6,2),(27,6,2),(37,6,3),(38,5,5),(43,5,5)] [32] [] [] [] [] false [] [] [] [] [],g140,Tryd.func66,by kernel_rfl,rfl⟩
theorem b141:Bears Tryd.prog (67,141):=⟨_,An Tryd.f67 g141 [(2,2,0),(4,4,0),(5,5,0),(6,6,0)] [51] [] [] [] [] false [] [] [] [] [],g141,Tryd.func67,by kernel_rfl,rfl⟩
theorem b142:Bears Tryd.prog (68,142):=⟨_,An Tryd.f68 g142 [(1,1,0),(3,1,0),(11,1,1),(15,1,1),(20,1,1)] [] [] [] [] [] false [] [] [] [] [],g142,Tryd.func68,by kernel_rfl,rfl⟩
theorem b143:Bears Tryd.prog (69,143):=⟨_,An Tryd.f69 g143 [(1,1,0)] [] [] [] [] [] false [] [] [] [] [],g143,Tryd.func69,by kernel_rfl,rfl⟩
theorem b144:Bears Tryd.prog (70,144):=⟨_,An Tryd.f70 g144 [(1,1,0),(5,1,0),(9,1,6)] [] [] [] [] [] false [] [] [] [] [],g144,Tryd.func70,by kernel_rfl,rfl⟩
theorem b129:Bears Tryd.prog (71,129):=⟨_,An Tryd.f71 g129 [] [7,13,17,25,29] [] [] [] [] false [] [] [] [] [],g129,Tryd.func71,by kernel_rfl,rfl⟩
theorem b130:Bears Tryd.prog (72,130):=⟨_,An Tryd.f72 g130 [] [] [] [] [] [] false [] [] [] [] [],g130,Tryd.func72,by kernel_rfl,rfl⟩
theorem b131:Bears Tryd.prog (73,131):=⟨_,An Tryd.f73 g131 [(2,2,0),(3,3,0)] [20] [] [15] [] [] false [] [] [] [] [],g131,Tryd.func73,by kernel_rfl,rfl⟩
theorem b120:Bears Tryd.prog (75,120):=⟨_,An Tryd.f75 g120 [] [7,13,17,25,29,38,42,53,57] [] [] [] [] false [] [] [] [] [],g120,Tryd.func75,by kernel_rfl,rfl⟩
theorem b121:Bears Tryd.prog (76,121):=⟨_,An Tryd.f76 g121 [(2,2,0),(3,3,0),(4,4,0),(12,3,1),(15,3,2),(21,3,2),(36,4,2),(42,4,2),(43,3,3),(48,3,3)] [26] [] [] [] [] false [] [] [] [] [],g121,Tryd.func76,by kernel_rfl,rfl⟩
theorem b122:Bears Tryd.prog (77,122):=⟨_,An Tryd.f77 g122 [(2,2,0),(3,3,0),(11,3,1),(14,3,2),(17,3,3),(20,3,4),(30,3,9)] [25] [] [] [] [] false [] [] [] [] [],g122,Tryd.func77,by kernel_rfl,rfl⟩
theorem b123:Bears Tryd.prog (78,123):=⟨_,An Tryd.f78 g123 [(1,1,0),(2,2,0),(4,4,0),(7,7,0),(11,11,0),(15,1,0),(21,1,0),(29,4,2),(35,4,3),(40,4,0),(44,4,3),(50,4,3),(58,4,3),(65,1,1),(69,1,1),(76,1,0),(82,1,0),(88,7,3),(95,7,3),(105,7,3),(116,7,0),(120,1,1),(126,1,1),(131,11,3),(134,11,4),(140,11,9),(144,11,0),(148,11,9)] [] [] [] [] [] false [] [] [] [] [],g123,Tryd.func78,by kernel_rfl,rfl⟩
theorem b109:Bears Tryd.prog (82,109):=⟨_,An Tryd.f82 g109 [] [] [] [] [] [] false [] [] [] [] [],g109,Tryd.func82,by kernel_rfl,rfl⟩
theorem b111:Bears Tryd.prog (83,111):=⟨_,An Tryd.f83 g111 [] [] [] [] [] [] false [] [] [] [] [],g111,Tryd.func83,by kernel_rfl,rfl⟩
theorem b124:Bears Tryd.prog (84,124):=⟨_,An Tryd.f84 g124 [] [] [] [] [] [] false [] [] [] [] [],g124,Tryd.func84,by kernel_rfl,rfl⟩
theorem b110:Bears Tryd.prog (85,110):=⟨_,An Tryd.f85 g110 [] [] [] [] [] [] false [] [] [] [] [],g110,Tryd.func85,by kernel_rfl,rfl⟩
theorem b77:Bears Tryd.prog (86,77):=⟨_,An Tryd.f86 g77 [] [] [] [] [] [] false [] [] [] [] [],g77,Tryd.func86,by kernel_rfl,rfl⟩
theorem b78:Bears Tryd.prog (87,78):=⟨_,An Tryd.f87 g78 [] [] [] [] [] [] false [] [] [] [] [],g78,Tryd.func87,by kernel_rfl,rfl⟩
theorem b137:Bears Tryd.prog (88,137):=⟨_,An Tryd.f88 g137 [] [] [] [] [] [] false [] [] [] [] [],g137,Tryd.func88,by kernel_rfl,rfl⟩
theorem b138:Bears Tryd.prog (89,138):=⟨_,An Tryd.f89 g138 [] [] [] [] [] [] false [] [] [] [] [],g138,Tryd.func89,by kernel_rfl,rfl⟩
theorem b146:Bears Tryd.prog (90,146):=⟨_,An Tryd.f90 g146 [] [] [] [] [] [] false [] [] [] [] [],g146,Tryd.func90,by kernel_rfl,rfl⟩
theorem b108:Bears Tryd.prog (97,108):=⟨_,An Tryd.f97 g108 [] [] [] [] [] [] false [] [] [] [] [],g108,Tryd.func97,by kernel_rfl,rfl⟩
theorem b246:Bare Tryd.prog (8,246):=⟨⟨Tryd.f8,vP Tryd.f8,Tryd.func8,by kernel_rfl,by decide⟩,rfl⟩
def Prim (P:Program) (q:Nat×Nat):Prop:=(∃fn b,P.funcs[q.1]?=some fn∧fn.body=some b∧fn.name ≠ "runtime.NumGoroutine") ∧
 ∃af pf,AP q.2=some af∧af.lL=some pf∧af.body=.exit 0∧∀cd rs,pf cd=some rs→qm P q.1 cd rs
theorem b255:Prim Tryd.prog (26,255):=⟨⟨Tryd.f26,vP Tryd.f26,Tryd.func26,by kernel_rfl,by decide⟩,_,_,rfl,rfl,rfl,zI (fun i hi w=>Tryd.strconv_Itoa_small i hi w)⟩
theorem b269:Prim Tryd.prog (57,269):=⟨⟨Tryd.f57,vP Tryd.f57,Tryd.func57,by kernel_rfl,by decide⟩,_,_,rfl,rfl,rfl,zJ (fun a c sep w=>Tryd.strings_Join_none a c sep w) (fun bk o c xs sep w h1 h2 h3 h4 h5=>Tryd.strings_Join bk o c xs sep w h1 h2 h3 h4 h5)⟩
theorem all_bear:∀q∈ns.g,Bears Tryd.prog q∨Bare Tryd.prog q∨Prim Tryd.prog q:=by
 intro q hq
 simp only [ns,List.mem_cons,List.not_mem_nil,or_false] at hq
 rcases hq with rfl | rfl | rfl | rfl | rfl | rfl | rfl | rfl | rfl | rfl | rfl | rfl | rfl | rfl | rfl | rfl | rfl | rfl | rfl | rfl | rfl | rfl | rfl | rfl | rfl | rfl | rfl | rfl | rfl | rfl | rfl | rfl | rfl | rfl | rfl | rfl | rfl | rfl | rfl | rfl | rfl | rfl | rfl | rfl | rfl | rfl | rfl | rfl | rfl | rfl | rfl | rfl | rfl | rfl | rfl | rfl | rfl | rfl | rfl | rfl | rfl | rfl | rfl | rfl | rfl | rfl | rfl | rfl | rfl | rfl | rfl | rfl | rfl | rfl
 · exact .inl b242
 · exact .inl b244
 · exact .inl b245
 · exact .inl b26
 · exact .inl b15
 · exact .inl b247
 · exact .inl b32
 · exact .inl b248
 · exact .inl b249
 · exact .inl b27
 · exact .inl b252
 · exact .inl b254
 · exact .inl b69
 · exact .inl b72
 · exact .inl b63
 · exact .inl b256
 · exact .inl b68
 · exact .inl b175
 · exact .inl b79
 · exact .inl b257
 · exact .inl b258
 · exact .inl b259
 · exact .inl b260
 · exact .inl b261
 · exact .inl b262
 · exact .inl b263
 · exact .inl b118
 · exact .inl b119
 · exact .inl b134
 · exact .inl b139
 · exact .inl b135
 · exact .inl b136
 · exact .inl b34
 · exact .inl b62
 · exact .inl b106
 · exact .inl b133
 · exact .inl b52
 · exact .inl b264
 · exact .inl b265
 · exact .inl b145
 · exact .inl b112
 · exact .inl b194
 · exact .inl b270
 · exact .inl b117
 · exact .inl b125
 · exact .inl b126
 · exact .inl b132
 · exact .inl b128
 · exact .inl b127
 · exact .inl b140
 · exact .inl b141
 · exact .inl b142
 · exact .inl b143
 · exact .inl b144
 · exact .inl b129
 · exact .inl b130
 · exact .inl b131
 · exact .inl b120
 · exact .inl b121
 · exact .inl b122
 · exact .inl b123
 · exact .inl b109
 · exact .inl b111
 · exact .inl b124
 · exact .inl b110
 · exact .inl b77
 · exact .inl b78
 · exact .inl b137
 · exact .inl b138
 · exact .inl b146
 · exact .inl b108
 · exact .inr (.inl b246)
 · exact .inr (.inr b255)
 · exact .inr (.inr b269)
theorem look_memI {α:Type} {t:Nat} {v:α}:∀{l:List (Nat×α)},look l t=some v→(t,v)∈l
 | [],h=>by simp [look] at h
 | (k,u)::r,h=>by
   simp only [look] at h
   split at h
   · rename_i e;cases h;subst e;exact List.mem_cons_self
   · exact List.mem_cons_of_mem _ (look_memI h)
theorem backs_ok:lW Tryd.prog ns:=by
 intro gb sz ag h f hf
 simp [look,ns] at h
theorem clones_ok:∀g sz bytes f,look ns.cl g=some (sz,bytes)→ns.of f=some g→Nonempty (mO Tryd.prog ns f sz bytes):=by
 intro g sz bytes f h hf
 simp [look,ns] at h
theorem impl:Impl Tryd.prog ns AP:=⟨by kernel_rfl,fun f g h=>(all_bear (f,g) (look_memI h)).imp id (Or.elim · (fun ⟨h1,h2⟩=>⟨h1,.inl h2⟩) (fun ⟨h1,h2⟩=>⟨h1,.inr h2⟩)),backs_ok,clones_ok⟩
end Go.Ab
