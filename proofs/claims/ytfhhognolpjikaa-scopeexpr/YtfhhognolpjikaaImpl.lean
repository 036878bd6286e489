import Derived.Test.YtfhhognolpjikaaRows
import Derived.Test.YtfhhognolpjikaaCodeA
import Derived.Test.YtfhhognolpjikaaAbDat
import Derived.Test.YtfhhognolpjikaaAbBridge
/-
  Each function of the given program that has slim code bears just that code: the kernel translates it anew and compares.
-/
set_option linter.unusedVariables false
set_option linter.unusedSimpArgs false
set_option maxRecDepth 100000
set_option maxHeartbeats 8000000
namespace Go.Ab
open Proofs
def ns:Names:=⟨[(3,423),(11,401),(12,15),(13,26),(14,402),(15,431),(16,247),(17,32),(18,405),(19,366),(20,145),(21,408),(22,404),(31,27),(33,106),(50,406),(51,407),(52,374),(53,68),(54,175),(55,79),(56,214),(57,190),(58,415),(59,185),(60,414),(61,409),(62,411),(63,364),(64,365),(65,191),(66,379),(67,186),(68,380),(69,410),(70,412),(71,413),(74,69),(82,34),(83,62),(95,250),(96,416),(97,417),(98,418),(99,419),(100,112),(101,223),(102,215),(105,390),(106,216),(107,217),(108,421),(113,77),(114,78),(121,118),(122,119),(123,134),(124,139),(125,135),(126,136),(127,120),(128,121),(129,122),(130,123),(132,108),(133,109),(134,110),(135,111),(140,117),(141,125),(142,126),(143,132),(144,128),(145,127),(146,140),(147,141),(148,142),(149,143),(150,144),(151,129),(152,130),(153,131),(154,133),(155,52),(158,124),(159,137),(160,138),(161,146),(103,422),(104,420)],
 [247,27,68,175,412,413,416,417,418,421,119,134,139,120,121,122,126,132,128,127,140,141,129,130,131,133],[],[(422,11,152),(420,1,16)]⟩
def ER:Code→aw→List (Nat×List Nat)
 | .region i _ _,.ah _ l=>[(i,l)]
 | .region i _ _,.seq _ (.ah _ l)=>[(i,l)]
 | .seq a b,.seq x y=>ER a x++ER b y
 | .cond _ a b,.cond _ x y=>ER a x++ER b y
 | .block _ a,.block _ x=>ER a x
 | .loop a,.loop _ x=>ER a x
 | .rangeFunc _ _ a b,.back _ _ _ _ _ _ _ x y=>ER a x++ER b y
 | _,_=>[]
def lp1 (o:Option Nat) (l:List Nat):List (Nat×List Nat):=match o with | some i=>[(i,l)] | none=>[]
def lps:Code→aw→List (Nat×List Nat)
 | .seq a b,.seq x y=>lps a x++lps b y
 | .cond _ a b,.cond _ x y=>lps a x++lps b y
 | .block _ a,.block _ x=>lps a x
 | .loop a,.loop l x=>lp1 (gr a) l++lps a x
 | .rangeFunc _ _ a b,.back _ _ _ _ _ _ l x y=>lp1 (gr a) l++lps a x++lps b y
 | _,_=>[]
def An (fn:Func) (af:aC) (p:List (Nat×Nat×Nat)) (s h si:List Nat) (ow:List (Nat×List Nat)) (bk:List (Nat×Nat)) (ks:Bool) (q ho:List Nat) (fz:List (Nat×List Nat)) (du:List (Nat×Nat)):ki:=
 ⟨p,s,h,ER (fn.body.getD .skip) af.body,lps (fn.body.getD .skip) af.body,si,ow,bk,ks,q,ho,fz,du⟩
def Bears (P:Program) (q:Nat×Nat):Prop:=∃fn A af,P.funcs[q.1]?=some fn∧mN P ns A fn=some af∧AP q.2=some af
def Bare (P:Program) (q:Nat×Nat):Prop:=(∃fn b,P.funcs[q.1]?=some fn∧fn.body=some b∧fn.name ≠ "runtime.NumGoroutine")∧AP q.2=none
theorem b423:Bears Try.prog (3,423):=⟨_,An Try.f3 g423 [(14,14,0)] [] [] [] [] [] false [] [] [] [(79,72)],g423,Try.func3,by kernel_rfl,rfl⟩
theorem b401:Bears Try.prog (11,401):=⟨_,An Try.f11 g401 [(1,1,0)] [] [] [] [] [] false [] [] [] [],g401,Try.func11,by kernel_rfl,rfl⟩
theorem b15:Bears Try.prog (12,15):=⟨_,An Try.f12 g15 [] [] [] [] [] [] false [] [] [] [],g15,Try.func12,by kernel_rfl,rfl⟩
theorem b26:Bears Try.prog (13,26):=⟨_,An Try.f13 g26 [] [] [] [] [] [] false [] [] [] [],g26,Try.func13,by kernel_rfl,rfl⟩
theorem b402:Bears Try.prog (14,402):=⟨_,An Try.f14 g402 [(2,2,0),(4,4,0),(10,2,1),(13,2,5),(16,2,5),(20,2,5),(26,2,5)] [45] [54] [18] [] [] false [] [15] [] [],g402,Try.func14,by kernel_rfl,rfl⟩
theorem b431:Bears Try.prog (15,431):=⟨_,An Try.f15 g431 [(2,2,0),(4,4,0),(30,2,5),(35,2,5),(38,2,5),(40,2,5),(48,2,5),(51,2,5),(64,2,5),(71,2,5),(74,2,5),(76,2,5),(80,2,5),(89,2,5),(93,2,5)] [20,55,78,83] [29] [9] [] [] false [] [37,92] [] [],g431,Try.func15,by kernel_rfl,rfl⟩
theorem b247:Bears Try.prog (16,247):=⟨_,An Try.f16 g247 [(6,6,0),(8,8,0),(9,9,0),(12,12,0),(13,13,0),(14,14,0),(16,16,0),(48,8,3),(51,8,3),(158,13,3),(164,13,3),(172,13,3),(182,16,2),(188,16,2),(194,16,3),(195,14,5),(200,14,5)] [46,148] [] [] [] [] false [] [] [] [],g247,Try.func16,by kernel_rfl,rfl⟩
theorem b32:Bears Try.prog (17,32):=⟨_,An Try.f17 g32 [] [] [] [] [] [] false [] [] [] [],g32,Try.func17,by kernel_rfl,rfl⟩
theorem b405:Bears Try.prog (18,405):=⟨_,An Try.f18 g405 [(5,5,0),(6,6,0),(7,7,0),(13,13,0),(14,14,0),(15,5,0),(20,5,2),(24,5,1),(31,5,2),(39,5,1),(50,5,6),(56,5,1),(59,7,0),(79,14,0)] [] [] [] [] [] false [] [] [] [],g405,Try.func18,by kernel_rfl,rfl⟩
theorem b366:Bears Try.prog (19,366):=⟨_,An Try.f19 g366 [(5,5,0),(6,6,0),(7,7,0),(15,5,0),(20,5,2),(24,5,1),(31,5,2),(39,5,1),(50,5,6),(56,5,1),(66,7,0)] [] [] [] [] [] false [] [] [] [],g366,Try.func19,by kernel_rfl,rfl⟩
theorem b145:Bears Try.prog (20,145):=⟨_,An Try.f20 g145 [(1,1,0),(5,1,4),(9,1,5),(16,1,5)] [20] [] [] [] [] true [] [7,23] [] [],g145,Try.func20,by kernel_rfl,rfl⟩
theorem b408:Bears Try.prog (21,408):=⟨_,An Try.f21 g408 [] [] [] [] [] [] false [] [] [] [],g408,Try.func21,by kernel_rfl,rfl⟩
theorem b404:Bears Try.prog (22,404):=⟨_,An Try.f22 g404 [(2,2,0),(5,5,0)] [11] [] [36] [(36,[0])] [] true [] [40] [] [],g404,Try.func22,by kernel_rfl,rfl⟩
theorem b27:Bears Try.prog (31,27):=⟨_,An Try.f31 g27 [(8,8,0),(10,10,0),(13,13,0),(62,10,2),(77,10,1)] [29,59] [] [] [] [] false [] [] [] [],g27,Try.func31,by kernel_rfl,rfl⟩
theorem b106:Bears Try.prog (33,106):=⟨_,An Try.f33 g106 [(2,2,0)] [] [] [] [] [] false [] [] [] [],g106,Try.func33,by kernel_rfl,rfl⟩
theorem b406:Bears Try.prog (50,406):=⟨_,An Try.f50 g406 [(2,2,0),(3,3,0),(4,4,0)] [] [] [] [] [] false [] [] [] [],g406,Try.func50,by kernel_rfl,rfl⟩
theorem b407:Bears Try.prog (51,407):=⟨_,An Try.f51 g407 [] [] [] [] [] [] false [] [] [] [],g407,Try.func51,by kernel_rfl,rfl⟩
theorem b374:Bears Try.prog (52,374):=⟨_,An Try.f52 g374 [(2,2,0),(4,4,0),(6,6,0),(8,2,4),(14,2,5),(25,2,5),(28,6,4),(29,6,5),(31,6,5),(37,6,5)] [] [] [] [] [] false [] [27] [] [],g374,Try.func52,by kernel_rfl,rfl⟩
theorem b68:Bears Try.prog (53,68):=⟨_,An Try.f53 g68 [] [7,11,17,24,28] [] [] [] [] false [] [] [] [],g68,Try.func53,by kernel_rfl,rfl⟩
theorem b175:Bears Try.prog (54,175):=⟨_,An Try.f54 g175 [] [] [] [] [] [] false [] [] [] [],g175,Try.func54,by kernel_rfl,rfl⟩
theorem b79:Bears Try.prog (55,79):=⟨_,An Try.f55 g79 [(1,1,0),(2,2,0),(7,1,0)] [] [] [] [] [] false [] [] [] [],g79,Try.func55,by kernel_rfl,rfl⟩
theorem b214:Bears Try.prog (56,214):=⟨_,An Try.f56 g214 [] [] [] [] [] [] false [] [] [] [],g214,Try.func56,by kernel_rfl,rfl⟩
theorem b190:Bears Try.prog (57,190):=⟨_,An Try.f57 g190 [(8,8,0),(10,10,0),(18,8,3),(26,10,1)] [] [] [] [] [] false [] [] [] [],g190,Try.func57,by kernel_rfl,rfl⟩
theorem b415:Bears Try.prog (58,415):=⟨_,An Try.f58 g415 [(3,3,0),(4,4,0),(6,6,0),(13,13,0),(16,3,5),(25,6,1),(33,6,0),(39,3,5),(46,3,1),(49,3,5),(57,13,2),(71,13,0),(74,13,2),(82,13,2),(88,13,0)] [] [] [] [] [] false [] [] [] [],g415,Try.func58,by kernel_rfl,rfl⟩
theorem b185:Bears Try.prog (59,185):=⟨_,An Try.f59 g185 [(4,4,0),(10,10,0),(12,4,0),(17,4,1),(25,4,1),(33,4,4),(37,4,4)] [] [] [] [] [] false [] [] [] [],g185,Try.func59,by kernel_rfl,rfl⟩
theorem b414:Bears Try.prog (60,414):=⟨_,An Try.f60 g414 [(1,1,0),(5,5,0),(6,1,4),(9,1,5),(17,5,3)] [] [] [8] [] [] false [] [] [] [],g414,Try.func60,by kernel_rfl,rfl⟩
theorem b409:Bears Try.prog (61,409):=⟨_,An Try.f61 g409 [] [] [] [6] [] [] false [] [] [] [],g409,Try.func61,by kernel_rfl,rfl⟩
theorem b411:Bears Try.prog (62,411):=⟨_,An Try.f62 g411 [(2,2,0),(5,2,0),(10,2,2),(17,2,2),(23,2,4),(27,2,5),(30,2,4)] [] [] [] [] [] false [] [] [] [],g411,Try.func62,by kernel_rfl,rfl⟩
theorem b364:Bears Try.prog (63,364):=⟨_,An Try.f63 g364 [] [] [] [] [] [] false [] [] [] [],g364,Try.func63,by kernel_rfl,rfl⟩
theorem b365:Bears Try.prog (64,365):=⟨_,An Try.f64 g365 [(4,4,0)] [] [] [] [] [] false [] [] [] [],g365,Try.func64,by kernel_rfl,rfl⟩
theorem b191:Bears Try.prog (65,191):=⟨_,An Try.f65 g191 [] [] [] [] [] [] false [] [] [] [],g191,Try.func65,by kernel_rfl,rfl⟩
theorem b379:Bears Try.prog (66,379):=⟨_,An Try.f66 g379 [(3,3,0),(4,4,0),(15,3,5),(23,3,5),(35,3,5),(44,3,5),(51,3,1),(55,3,5),(61,3,5),(80,3,5),(101,3,5)] [] [] [] [] [] false [] [] [] [],g379,Try.func66,by kernel_rfl,rfl⟩
theorem b186:Bears Try.prog (67,186):=⟨_,An Try.f67 g186 [(4,4,0),(11,4,0),(16,4,1),(24,4,1),(32,4,4),(37,4,4),(44,4,4)] [] [] [] [] [] false [] [] [] [],g186,Try.func67,by kernel_rfl,rfl⟩
theorem b380:Bears Try.prog (68,380):=⟨_,An Try.f68 g380 [(2,2,0),(6,2,0),(9,2,0),(12,2,0),(19,2,2),(23,2,0),(30,2,5)] [] [] [] [] [] false [] [] [] [],g380,Try.func68,by kernel_rfl,rfl⟩
theorem b410:Bears Try.prog (69,410):=⟨_,An Try.f69 g410 [(2,2,0),(4,4,0)] [] [] [] [] [] false [] [] [] [],g410,Try.func69,by kernel_rfl,rfl⟩
theorem b412:Bears Try.prog (70,412):=⟨_,An Try.f70 g412 [] [24] [] [] [] [] true [] [38,41] [] [],g412,Try.func70,by kernel_rfl,rfl⟩
theorem b413:Bears Try.prog (71,413):=⟨_,An Try.f71 g413 [] [1] [] [] [] [] false [] [] [] [],g413,Try.func71,by kernel_rfl,rfl⟩
theorem b69:Bears Try.prog (74,69):=⟨_,An Try.f74 g69 [(2,2,0),(3,3,0),(4,4,0)] [] [] [] [] [] false [] [] [] [],g69,Try.func74,by kernel_rfl,rfl⟩
theorem b34:Bears Try.prog (82,34):=⟨_,An Try.f82 g34 [(0,0,0)] [] [] [] [] [] false [] [] [] [],g34,Try.func82,by kernel_rfl,rfl⟩
theorem b62:Bears Try.prog (83,62):=⟨_,An Try.f83 g62 [(4,4,0)] [] [] [] [] [] false [] [] [] [],g62,Try.func83,by kernel_rfl,rfl⟩
theorem b250:Bears Try.prog (95,250):=⟨_,An Try.f95 g250 [(2,2,0),(3,3,0),(5,5,0),(7,7,0),(15,5,0)] [26,35,40] [] [] [] [] false [] [] [] [],g250,Try.func95,by kernel_rfl,rfl⟩
theorem b416:Bears Try.prog (96,416):=⟨_,An Try.f96 g416 [] [14] [] [] [] [] false [] [] [] [],g416,Try.func96,by kernel_rfl,rfl⟩
theorem b417:Bears Try.prog (97,417):=⟨_,An Try.f97 g417 [(2,2,0),(4,2,3)] [1] [] [] [] [] false [] [] [] [],g417,Try.func97,by kernel_rfl,rfl⟩
theorem b418:Bears Try.prog (98,418):=⟨_,An Try.f98 g418 [(8,8,0),(9,9,0)] [20,24] [] [] [] [] false [] [] [] [],g418,Try.func98,by kernel_rfl,rfl⟩
theorem b419:Bears Try.prog (99,419):=⟨_,An Try.f99 g419 [(2,2,0),(3,3,0),(5,2,1),(7,3,1)] [] [] [] [] [] false [] [] [] [],g419,Try.func99,by kernel_rfl,rfl⟩
theorem b112:Bears Try.prog (100,112):=⟨_,An Try.f100 g112 [(2,2,0),(3,3,0),(5,5,0),(6,6,0),(13,5,0),(36,6,0),(42,6,0),(43,6,1),(49,6,1),(62,5,0)] [22,28,52,57] [] [] [] [] true [] [] [] [],g112,Try.func100,by kernel_rfl,rfl⟩
theorem b223:Bears Try.prog (101,223):=⟨_,An Try.f101 g223 [] [] [] [] [] [] false [] [] [] [],g223,Try.func101,by kernel_rfl,rfl⟩
theorem b215:Bears Try.prog (102,215):=⟨_,An Try.f102 g215 [(7,7,0),(19,7,1),(23,7,2)] [] [] [] [] [] false [] [] [] [],g215,Try.func102,by kernel_rfl,rfl⟩
theorem b390:Bears Try.prog (105,390):=⟨_,An Try.f105 g390 [] [] [] [] [] [] false [] [] [] [],g390,Try.func105,by kernel_rfl,rfl⟩
theorem b216:Bears Try.prog (106,216):=⟨_,An Try.f106 g216 [] [] [] [] [] [] false [] [] [] [],g216,Try.func106,by kernel_rfl,rfl⟩
theorem b217:Bears Try.prog (107,217):=⟨_,An Try.f107 g217 [] [] [] [] [] [] false [] [] [] [],g217,Try.func107,by kernel_rfl,rfl⟩
theorem b421:Bears Try.prog (108,421):=⟨_,An Try.f108 g421 [] [14] [] [] [] [] false [] [] [] [],g421,Try.func108,by kernel_rfl,rfl⟩
theorem b77:Bears Try.prog (113,77):=⟨_,An Try.f113 g77 [] [] [] [] [] [] false [] [] [] [],g77,Try.func113,by kernel_rfl,rfl⟩
theorem b78:Bears Try.prog (114,78):=⟨_,An Try.f114 g78 [] [] [] [] [] [] false [] [] [] [],g78,Try.func114,by kernel_rfl,rfl⟩
theorem b118:Bears Try.prog (121,118):=⟨_,An Try.f121 g118 [(3,3,0)] [] [] [] [] [] false [] [] [] [],g118,Try.func121,by kernel_rfl,rfl⟩
theorem b119:Bears Try.prog (122,119):=⟨_,An Try.f122 g119 [] [] [] [] [] [] false [] [] [] [],g119,Try.func122,by kernel_rfl,rfl⟩
theorem b134:Bears Try.prog (123,134):=⟨_,An Try.f123 g134 [(2,2,0),(7,7,0),(8,8,0),(9,9,0),(101,8,1)] [21,41,50,71,77,81,89,93] [] [] [] [] false [] [] [] [],g134,Try.func123,by kernel_rfl,rfl⟩
theorem b139:Bears Try.prog (124,139):=⟨_,An Try.f124 g139 [(2,2,0),(55,2,2),(57,2,1)] [5,13,17,24,28,38,44,48] [] [] [] [] false [] [] [] [],g139,Try.func124,by kernel_rfl,rfl⟩
theorem b135:Bears Try.prog (125,135):=⟨_,An Try.f125 g135 [(1,1,0)] [] [] [] [] [] false [] [] [] [],g135,Try.func125,by kernel_rfl,rfl⟩
theorem b136:Bears Try.prog (126,136):=⟨_,An Try.f126 g136 [(1,1,0),(10,1,5),(16,1,5),(24,1,5)] [] [] [] [] [] false [] [] [] [],g136,Try.func126,by kernel_rfl,rfl⟩
theorem b120:Bears Try.prog (127,120):=⟨_,An Try.f127 g120 [] [7,13,17,25,29,38,42,53,57] [] [] [] [] false [] [] [] [],g120,Try.func127,by kernel_rfl,rfl⟩
theorem b121:Bears Try.prog (128,121):=⟨_,An Try.f128 g121 [(2,2,0),(3,3,0),(4,4,0),(12,3,1),(15,3,2),(21,3,2),(36,4,2),(42,4,2),(43,3,3),(48,3,3)] [26] [] [] [] [] false [] [] [] [],g121,Try.func128,by kernel_rfl,rfl⟩
theorem b122:Bears Try.prog (129,122):=⟨_,An Try.f129 g122 [(2,2,0),(3,3,0),(11,3,1),(14,3,2),(17,3,3),(20,3,4),(30,3,9)] [25] [] [] [] [] false [] [] [] [],g122,Try.func129,by kernel_rfl,rfl⟩
theorem b123:Bears Try.prog (130,123):=⟨_,An Try.f130 g123 [(1,1,0),(2,2,0),(4,4,0),(7,7,0),(11,11,0),(15,1,0),(21,1,0),(29,4,2),(35,4,3),(40,4,0),(44,4,3),(50,4,3),(58,4,3),(65,1,1),(69,1,1),(76,1,0),(82,1,0),(88,7,3),(95,7,3),(105,7,3),(116,7,0),(120,1,1),(126,1,1),(131,11,3),(134,11,4),(140,11,9),(144,11,0),(148,11,9)] [] [] [] [] [] false [] [] [] [],g123,Try.func130,by kernel_rfl,rfl⟩
theorem b108:Bears Try.prog (132,108):=⟨_,An Try.f132 g108 [] [] [] [] [] [] false [] [] [] [],g108,Try.func132,by kernel_rfl,rfl⟩
theorem b109:Bears Try.prog (133,109):=⟨_,An Try.f133 g109 [] [] [] [] [] [] false [] [] [] [],g109,Try.func133,by kernel_rfl,rfl⟩
theorem b110:Bears Try.prog (134,110):=⟨_,An Try.f134 g110 [] [] [] [] [] [] false [] [] [] [],g110,Try.func134,by kernel_rfl,rfl⟩
theorem b111:Bears Try.prog (135,111):=⟨_,An Try.f135 g111 [] [] [] [] [] [] false [] [] [] [],g111,Try.func135,by kernel_rfl,rfl⟩
theorem b117:Bears Try.prog (140,117):=⟨_,An Try.f140 g117 [] [] [] [] [] [] false [] [] [] [],g117,Try.func140,by kernel_rfl,rfl⟩
theorem b125:Bears Try.prog (141,125):=⟨_,An Try.f141 g125 [] [] [] [] [] [] false [] [] [] [],g125,Try.func141,by kernel_rfl,rfl⟩
theorem b126:Bears Try.prog (142,126):=⟨_,An Try.f142 g126 [] [5,9,15,19] [] [] [] [] false [] [] [] [],g126,Try.func142,by kernel_rfl,rfl⟩
theorem b132:Bears Try.prog (143,132):=⟨_,An Try.f143 g132 [] [10] [] [] [] [] false [] [] [] [],g132,Try.func143,by kernel_rfl,rfl⟩
theorem b128:Bears Try.prog (144,128):=⟨_,An Try.f144 g128 [] [13,20,24] [] [] [] [] false [] [] [] [],g128,Try.func144,by kernel_rfl,rfl⟩
theorem b127:Bears Try.prog (145,127):=⟨_,An Try.f145 g127 [] [] [] [] [] [] false [] [] [] [],g127,Try.func145,by kernel_rfl,rfl⟩
theorem b140:Bears Try.prog (146,140):=⟨_,An Try.f146 g140 [(4,4,0),(5,5,0),(6,6,0),(21,6,2),(27,6,2),(37,6,3),(38,5,5),(43,5,5)] [32] [] [] [] [] false [] [] [] [],g140,Try.func146,by kernel_rfl,rfl⟩
theorem b141:Bears Try.prog (147,141):=⟨_,An Try.f147 g141 [(2,2,0),(4,4,0),(5,5,0),(6,6,0)] [51] [] [] [] [] false [] [] [] [],g141,Try.func147,by kernel_rfl,rfl⟩
theorem b142:Bears Try.prog (148,142):=⟨_,An Try.f148 g142 [(1,1,0),(3,1,0),(11,1,1),(15,1,1),(20,1,1)] [] [] [] [] [] false [] [] [] [],g142,Try.func148,by kernel_rfl,rfl⟩
theorem b143:Bears Try.prog (149,143):=⟨_,An Try.f149 g143 [(1,1,0)] [] [] [] [] [] false [] [] [] [],g143,Try.func149,by kernel_rfl,rfl⟩
theorem b144:Bears Try.prog (150,144):=⟨_,An Try.f150 g144 [(1,1,0),(5,1,0),(9,1,6)] [] [] [] [] [] false [] [] [] [],g144,Try.func150,by kernel_rfl,rfl⟩
theorem b129:Bears Try.prog (151,129):=⟨_,An Try.f151 g129 [] [7,13,17,25,29] [] [] [] [] false [] [] [] [],g129,Try.func151,by kernel_rfl,rfl⟩
theorem b130:Bears Try.prog (152,130):=⟨_,An Try.f152 g130 [] [] [] [] [] [] false [] [] [] [],g130,Try.func152,by kernel_rfl,rfl⟩
theorem b131:Bears Try.prog (153,131):=⟨_,An Try.f153 g131 [(2,2,0),(3,3,0)] [20] [] [15] [] [] false [] [] [] [],g131,Try.func153,by kernel_rfl,rfl⟩
theorem b133:Bears Try.prog (154,133):=⟨_,An Try.f154 g133 [(2,2,0),(3,3,0),(11,3,4),(17,3,4)] [] [] [8] [] [] false [] [] [] [],g133,Try.func154,by kernel_rfl,rfl⟩
theorem b52:Bears Try.prog (155,52):=⟨_,An Try.f155 g52 [(1,1,0),(6,1,4),(13,1,4)] [] [] [] [] [] false [] [] [] [],g52,Try.func155,by kernel_rfl,rfl⟩
theorem b124:Bears Try.prog (158,124):=⟨_,An Try.f158 g124 [] [] [] [] [] [] false [] [] [] [],g124,Try.func158,by kernel_rfl,rfl⟩
theorem b137:Bears Try.prog (159,137):=⟨_,An Try.f159 g137 [] [] [] [] [] [] false [] [] [] [],g137,Try.func159,by kernel_rfl,rfl⟩
theorem b138:Bears Try.prog (160,138):=⟨_,An Try.f160 g138 [] [] [] [] [] [] false [] [] [] [],g138,Try.func160,by kernel_rfl,rfl⟩
theorem b146:Bears Try.prog (161,146):=⟨_,An Try.f161 g146 [] [] [] [] [] [] false [] [] [] [],g146,Try.func161,by kernel_rfl,rfl⟩
theorem b422:Bare Try.prog (103,422):=⟨⟨Try.f103,qg Try.f103,Try.func103,by kernel_rfl,by decide⟩,rfl⟩
theorem b420:Bare Try.prog (104,420):=⟨⟨Try.f104,qg Try.f104,Try.func104,by kernel_rfl,by decide⟩,rfl⟩
theorem all_bear:∀q∈ns.g,Bears Try.prog q∨Bare Try.prog q:=by
 intro q hq
 simp only [ns,List.mem_cons,List.not_mem_nil,or_false] at hq
 rcases hq with rfl | rfl | rfl | rfl | rfl | rfl | rfl | rfl | rfl | rfl | rfl | rfl | rfl | rfl | rfl | rfl | rfl | rfl | rfl | rfl | rfl | rfl | rfl | rfl | rfl | rfl | rfl | rfl | rfl | rfl | rfl | rfl | rfl | rfl | rfl | rfl | rfl | rfl | rfl | rfl | rfl | rfl | rfl | rfl | rfl | rfl | rfl | rfl | rfl | rfl | rfl | rfl | rfl | rfl | rfl | rfl | rfl | rfl | rfl | rfl | rfl | rfl | rfl | rfl | rfl | rfl | rfl | rfl | rfl | rfl | rfl | rfl | rfl | rfl | rfl | rfl | rfl | rfl | rfl | rfl | rfl | rfl | rfl | rfl | rfl | rfl | rfl | rfl | rfl | rfl
 · exact .inl b423
 · exact .inl b401
 · exact .inl b15
 · exact .inl b26
 · exact .inl b402
 · exact .inl b431
 · exact .inl b247
 · exact .inl b32
 · exact .inl b405
 · exact .inl b366
 · exact .inl b145
 · exact .inl b408
 · exact .inl b404
 · exact .inl b27
 · exact .inl b106
 · exact .inl b406
 · exact .inl b407
 · exact .inl b374
 · exact .inl b68
 · exact .inl b175
 · exact .inl b79
 · exact .inl b214
 · exact .inl b190
 · exact .inl b415
 · exact .inl b185
 · exact .inl b414
 · exact .inl b409
 · exact .inl b411
 · exact .inl b364
 · exact .inl b365
 · exact .inl b191
 · exact .inl b379
 · exact .inl b186
 · exact .inl b380
 · exact .inl b410
 · exact .inl b412
 · exact .inl b413
 · exact .inl b69
 · exact .inl b34
 · exact .inl b62
 · exact .inl b250
 · exact .inl b416
 · exact .inl b417
 · exact .inl b418
 · exact .inl b419
 · exact .inl b112
 · exact .inl b223
 · exact .inl b215
 · exact .inl b390
 · exact .inl b216
 · exact .inl b217
 · exact .inl b421
 · exact .inl b77
 · exact .inl b78
 · exact .inl b118
 · exact .inl b119
 · exact .inl b134
 · exact .inl b139
 · exact .inl b135
 · exact .inl b136
 · exact .inl b120
 · exact .inl b121
 · exact .inl b122
 · exact .inl b123
 · exact .inl b108
 · exact .inl b109
 · exact .inl b110
 · exact .inl b111
 · exact .inl b117
 · exact .inl b125
 · exact .inl b126
 · exact .inl b132
 · exact .inl b128
 · exact .inl b127
 · exact .inl b140
 · exact .inl b141
 · exact .inl b142
 · exact .inl b143
 · exact .inl b144
 · exact .inl b129
 · exact .inl b130
 · exact .inl b131
 · exact .inl b133
 · exact .inl b52
 · exact .inl b124
 · exact .inl b137
 · exact .inl b138
 · exact .inl b146
 · exact .inr b422
 · exact .inr b420
theorem u422:∀q∈ns.g,q.2=422→q.1=103:=by decide +kernel
theorem clone422:Nonempty (jg Try.prog ns 103 11 152):=⟨
 { fn:=Try.f103,A:=⟨[],[],[],[],[],[],[],[],false,[],[],[],[]⟩,t:=(ie (dn Try.f103 1 1)).1,el:=GY Try.prog (ie (dn Try.f103 1 1)).1,ty:=(ie (dn Try.f103 1 1)).2,
   o0:=dn Try.f103 0 0,m:=dn Try.f103 1 0,e:=dn Try.f103 1 1,o2:=dn Try.f103 2 0,b:=dn Try.f103 3 0,m3:=dn Try.f103 3 1,ap:=dn Try.f103 3 2,fi:=dn Try.f103 3 3,
   r0:=mi Try.f103 0,r1:=mi Try.f103 1,r2:=mi Try.f103 2,r3:=mi Try.f103 3,
   hf:=Try.func103,nv:=by kernel_rfl,eD:=by kernel_rfl,hN:=by kernel_rfl,h0:=⟨by kernel_rfl,by kernel_rfl,by kernel_rfl⟩,h1:=⟨by kernel_rfl,by kernel_rfl,by kernel_rfl⟩,h2:=⟨by kernel_rfl,by kernel_rfl,by kernel_rfl⟩,hu:=by kernel_rfl,h3:=⟨by kernel_rfl,by kernel_rfl,by kernel_rfl⟩,h4:=⟨by kernel_rfl,by kernel_rfl,by kernel_rfl⟩,h5:=⟨by kernel_rfl,by kernel_rfl,by kernel_rfl⟩,h6:=⟨by kernel_rfl,by kernel_rfl,by kernel_rfl⟩,h7:=⟨by kernel_rfl,by kernel_rfl,by kernel_rfl⟩ }⟩
theorem u420:∀q∈ns.g,q.2=420→q.1=104:=by decide +kernel
theorem clone420:Nonempty (jg Try.prog ns 104 1 16):=⟨
 { fn:=Try.f104,A:=⟨[],[],[],[],[],[],[],[],false,[],[],[],[]⟩,t:=(ie (dn Try.f104 1 1)).1,el:=GY Try.prog (ie (dn Try.f104 1 1)).1,ty:=(ie (dn Try.f104 1 1)).2,
   o0:=dn Try.f104 0 0,m:=dn Try.f104 1 0,e:=dn Try.f104 1 1,o2:=dn Try.f104 2 0,b:=dn Try.f104 3 0,m3:=dn Try.f104 3 1,ap:=dn Try.f104 3 2,fi:=dn Try.f104 3 3,
   r0:=mi Try.f104 0,r1:=mi Try.f104 1,r2:=mi Try.f104 2,r3:=mi Try.f104 3,
   hf:=Try.func104,nv:=by kernel_rfl,eD:=by kernel_rfl,hN:=by kernel_rfl,h0:=⟨by kernel_rfl,by kernel_rfl,by kernel_rfl⟩,h1:=⟨by kernel_rfl,by kernel_rfl,by kernel_rfl⟩,h2:=⟨by kernel_rfl,by kernel_rfl,by kernel_rfl⟩,hu:=by kernel_rfl,h3:=⟨by kernel_rfl,by kernel_rfl,by kernel_rfl⟩,h4:=⟨by kernel_rfl,by kernel_rfl,by kernel_rfl⟩,h5:=⟨by kernel_rfl,by kernel_rfl,by kernel_rfl⟩,h6:=⟨by kernel_rfl,by kernel_rfl,by kernel_rfl⟩,h7:=⟨by kernel_rfl,by kernel_rfl,by kernel_rfl⟩ }⟩
theorem look_memI {α:Type} {t:Nat} {v:α}:∀{l:List (Nat×α)},look l t=some v→(t,v)∈l
 | [],h=>by simp [look] at h
 | (k,u)::r,h=>by
   simp only [look] at h
   split at h
   · rename_i e;cases h;subst e;exact List.mem_cons_self
   · exact List.mem_cons_of_mem _ (look_memI h)
theorem backs_ok:mD Try.prog ns:=by
 intro gb sz ag h f hf
 simp [look,ns] at h
theorem clones_ok:∀g sz bytes f,look ns.cl g=some (sz,bytes)→ns.of f=some g→Nonempty (jg Try.prog ns f sz bytes):=by
 intro g sz bytes f h hf
 simp only [ns,look] at h
 split at h
 · rename_i e;subst e;cases h
   have:=u422 (f,422) (look_memI hf) rfl
   simp only at this;subst this;exact clone422
 split at h
 · rename_i e;subst e;cases h
   have:=u420 (f,420) (look_memI hf) rfl
   simp only at this;subst this;exact clone420
 cases h
theorem impl:Impl Try.prog ns AP:=⟨by kernel_rfl,fun f g h=>(all_bear (f,g) (look_memI h)).imp id fun ⟨h1,h2⟩=>⟨h1,.inl h2⟩,backs_ok,clones_ok⟩
end Go.Ab
