import Derived.Test.YtcjggpmnbcfedaaGreatDoorRows
import Derived.Test.YtcjggpmnbcfedaaGreatDoorCodeA
import Derived.Test.YtcjggpmnbcfedaaGreatDoorAbDat
import Derived.Test.YtcjggpmnbcfedaaGreatDoorAbBridge
import Derived.Test.YtcjggpmnbcfedaaGreatDoorShelf
/-
  Each function of the given program that has slim code bears just that code: the kernel translates it anew and compares.
-/
set_option linter.unusedVariables false
set_option linter.unusedSimpArgs false
set_option linter.unnecessarySimpa false
set_option maxRecDepth 100000
set_option maxHeartbeats 8000000
namespace Go.Ab
open Proofs Shelf
def ns:Names:=⟨[(3,299),(4,244),(5,15),(6,310),(8,312),(9,254),(10,69),(11,72),(12,63),(13,248),(14,252),(15,245),(16,306),(17,26),(18,335),(20,336),(21,337),(23,270),(24,263),(25,249),(26,62),(27,257),(29,258),(30,259),(31,260),(32,264),(33,265),(34,32),(35,68),(36,27),(37,67),(38,179),(39,176),(40,325),(41,326),(42,327),(43,307),(44,34),(45,162),(46,145),(47,359),(48,247),(51,246),(52,194),(53,256),(54,261),(55,262),(57,79),(58,106),(59,348),(60,175),(61,349),(62,350),(63,351),(64,352),(65,196),(66,198),(67,71),(68,48),(69,374),(73,112),(74,201),(75,238),(76,20),(77,361),(78,207),(79,362),(80,363),(81,222),(82,216),(88,118),(89,119),(90,120),(91,121),(92,122),(93,123),(94,181),(95,240),(96,57),(97,59),(98,208),(99,375),(100,191),(101,376),(102,46),(103,377),(104,378),(105,193),(106,56),(113,117),(114,125),(115,126),(116,127),(117,128),(118,129),(119,130),(120,131),(121,132),(122,133),(123,134),(124,52),(125,135),(126,136),(127,99),(128,95),(129,388),(130,381),(131,22),(132,389),(133,221),(136,109),(137,111),(138,124),(139,110),(140,77),(141,78),(142,137),(143,138),(144,139),(145,140),(146,141),(147,142),(148,143),(149,144),(150,386),(151,393),(152,394),(153,385),(154,355),(155,358),(156,395),(157,108),(158,146),(159,392),(160,391),(161,371),(162,373),(163,396),(164,397),(165,398),(166,372),(167,387),(7,311),(28,255),(50,269)],
 [257,68,27,326,162,247,348,175,349,350,352,119,120,121,122,240,126,127,128,129,130,131,132,133,134,139,140,141,387],[],[]⟩
def lv1 (i:Nat):aA→List (Nat×List Nat)
 | .bw _ l=>[(i,l)]
 | .seq a b=>lv1 i a++lv1 i b
 | _=>[]
def ff:Code→aA→List (Nat×List Nat)
 | .region i _ _,x=>lv1 i x
 | .seq a b,.seq x y=>ff a x++ff b y
 | .cond _ a b,.cond _ x y=>ff a x++ff b y
 | .block _ a,.block _ x=>ff a x
 | .loop a,.loop _ x=>ff a x
 | .rangeFunc _ _ a b,.back _ _ _ _ _ _ _ x y=>ff a x++ff b y
 | _,_=>[]
def lp1 (o:Option Nat) (l:List Nat):List (Nat×List Nat):=match o with | some i=>[(i,l)] | none=>[]
def lps:Code→aA→List (Nat×List Nat)
 | .seq a b,.seq x y=>lps a x++lps b y
 | .cond _ a b,.cond _ x y=>lps a x++lps b y
 | .block _ a,.block _ x=>lps a x
 | .loop a,.loop l x=>lp1 (jm a) l++lps a x
 | .rangeFunc _ _ a b,.back _ _ _ _ _ _ l x y=>lp1 (jm a) l++lps a x++lps b y
 | _,_=>[]
def An (fn:Func) (af:aD) (p:List (Nat×Nat×Nat)) (s h si:List Nat) (ow:List (Nat×List Nat)) (bk:List (Nat×Nat)) (ks:Bool) (q ho:List Nat) (fz:List (Nat×List Nat)) (du:List (Nat×Nat)) (ro:List Nat) (fa:List (Nat×List (Nat×Nat))) (pu:List (Nat×List (Nat×Nat×Bool))) (pr:List (Nat×List (Nat×Nat×Nat))) (cu:List (Nat×Nat×List Nat×List Nat)) (fs:List (Nat×List Nat)) (kp:List Nat):lJ:=
 ⟨p,s,h,ff (fn.body.getD .skip) af.body,lps (fn.body.getD .skip) af.body,si,ow,bk,ks,q,ho,fz,du,ro,fa,pu,pr,cu,fs,kp⟩
def Bears (P:Program) (q:Nat×Nat):Prop:=∃fn A af,P.funcs[q.1]?=some fn∧qk P ns A fn=some af∧AP q.2=some af
def Bare (P:Program) (q:Nat×Nat):Prop:=(∃fn b,P.funcs[q.1]?=some fn∧fn.body=some b∧fn.name ≠ "runtime.NumGoroutine")∧AP q.2=none
theorem b299:Bears Tryz.prog (3,299):=⟨_,An Tryz.f3 g299 [(7,7,0)] [] [] [] [] [] false [] [] [] [] [] [] [] [] [] [] [],g299,Tryz.func3,by kernel_rfl,rfl⟩
theorem b244:Bears Tryz.prog (4,244):=⟨_,An Tryz.f4 g244 [(1,1,0),(2,2,0)] [] [] [] [] [] false [] [] [] [] [] [] [] [] [] [] [],g244,Tryz.func4,by kernel_rfl,rfl⟩
theorem b15:Bears Tryz.prog (5,15):=⟨_,An Tryz.f5 g15 [] [] [] [] [] [] false [] [] [] [] [] [] [] [] [] [] [],g15,Tryz.func5,by kernel_rfl,rfl⟩
theorem b310:Bears Tryz.prog (6,310):=⟨_,An Tryz.f6 g310 [(6,6,0),(7,7,0)] [] [] [11,22] [] [] true [] [] [] [] [] [] [] [] [] [] [],g310,Tryz.func6,by kernel_rfl,rfl⟩
theorem b312:Bears Tryz.prog (8,312):=⟨_,An Tryz.f8 g312 [(1,1,0),(5,5,0),(10,10,0),(12,1,0),(18,1,0),(24,5,1),(29,5,2),(36,5,2),(46,5,3),(57,5,3),(66,5,3),(77,5,3),(92,1,1),(98,1,1),(105,10,1),(110,10,2),(113,10,3),(116,10,4),(122,10,9)] [] [] [] [] [] false [] [] [] [] [] [] [] [] [] [] [],g312,Tryz.func8,by kernel_rfl,rfl⟩
theorem b254:Bears Tryz.prog (9,254):=⟨_,An Tryz.f9 g254 [(3,3,0),(4,4,0)] [] [] [] [] [] false [] [] [] [] [] [] [] [] [] [] [],g254,Tryz.func9,by kernel_rfl,rfl⟩
theorem b69:Bears Tryz.prog (10,69):=⟨_,An Tryz.f10 g69 [(2,2,0),(3,3,0),(4,4,0)] [] [] [] [] [] false [] [] [] [] [] [] [] [] [] [] [],g69,Tryz.func10,by kernel_rfl,rfl⟩
theorem b72:Bears Tryz.prog (11,72):=⟨_,An Tryz.f11 g72 [(2,2,0)] [] [] [] [] [] false [] [] [] [] [] [] [] [] [] [] [],g72,Tryz.func11,by kernel_rfl,rfl⟩
theorem b63:Bears Tryz.prog (12,63):=⟨_,An Tryz.f12 g63 [(2,2,0)] [] [] [] [] [] false [] [] [] [] [] [] [] [] [] [] [],g63,Tryz.func12,by kernel_rfl,rfl⟩
theorem b248:Bears Tryz.prog (13,248):=⟨_,An Tryz.f13 g248 [(4,4,0),(5,5,0),(50,4,0)] [7,12,16,23,32,36,40,65,78,95,106] [] [] [] [] false [] [] [] [] [28,45,57,70,74,83,87,92,103,114] [] [] [] [] [] [],g248,Tryz.func13,by kernel_rfl,rfl⟩
theorem b252:Bears Tryz.prog (14,252):=⟨_,An Tryz.f14 g252 [(1,1,0),(5,5,0),(6,1,0),(10,1,2),(16,1,2),(21,1,2),(27,1,1),(31,1,4),(36,1,4),(43,1,4),(49,1,1),(51,1,4)] [] [] [] [] [] false [] [] [] [] [] [] [] [] [] [] [],g252,Tryz.func14,by kernel_rfl,rfl⟩
theorem b245:Bears Tryz.prog (15,245):=⟨_,An Tryz.f15 g245 [] [] [] [] [] [] false [] [] [] [] [] [] [] [] [] [] [],g245,Tryz.func15,by kernel_rfl,rfl⟩
theorem b306:Bears Tryz.prog (16,306):=⟨_,An Tryz.f16 g306 [(4,4,0),(6,6,0),(10,10,0),(11,11,0),(13,13,0),(14,14,0),(38,6,0),(46,6,0),(52,10,3),(53,10,3),(56,10,4),(58,10,1),(61,10,2),(68,6,0),(74,10,9),(80,10,3),(84,10,9),(88,10,9),(96,10,2),(100,6,1),(105,6,1)] [] [] [] [] [] true [] [104] [] [] [] [] [] [] [] [] [],g306,Tryz.func16,by kernel_rfl,rfl⟩
theorem b26:Bears Tryz.prog (17,26):=⟨_,An Tryz.f17 g26 [] [] [] [] [] [] false [] [] [] [] [] [] [] [] [] [] [],g26,Tryz.func17,by kernel_rfl,rfl⟩
theorem b335:Bears Tryz.prog (18,335):=⟨_,An Tryz.f18 g335 [(2,2,0),(4,4,0),(8,8,0),(12,12,0),(16,2,1),(26,2,1),(30,2,1),(60,2,1),(63,12,1),(65,12,1),(68,2,1),(76,2,0)] [34] [] [] [] [] true [] [62] [(15,[2])] [] [] [] [] [] [] [] [],g335,Tryz.func18,by kernel_rfl,rfl⟩
theorem b336:Bears Tryz.prog (20,336):=⟨_,An Tryz.f20 g336 [(1,1,0),(5,5,0),(7,7,0),(8,1,3),(12,1,3),(22,5,1),(25,5,2),(43,1,1),(46,1,2)] [34] [52] [] [] [] false [] [] [] [] [] [] [] [] [] [] [],g336,Tryz.func20,by kernel_rfl,rfl⟩
theorem b337:Bears Tryz.prog (21,337):=⟨_,An Tryz.f21 g337 [(1,1,0),(4,1,1),(9,1,2),(12,1,3),(15,1,4),(22,1,9)] [] [] [] [] [] false [] [] [] [] [] [] [] [] [] [] [],g337,Tryz.func21,by kernel_rfl,rfl⟩
theorem b270:Bears Tryz.prog (23,270):=⟨_,An Tryz.f23 g270 [(1,1,0),(3,1,0),(7,1,4)] [] [] [] [] [] false [] [] [] [] [] [] [] [] [] [] [],g270,Tryz.func23,by kernel_rfl,rfl⟩
theorem b263:Bears Tryz.prog (24,263):=⟨_,An Tryz.f24 g263 [(1,1,0),(3,3,0),(4,4,0),(7,7,0),(8,8,0),(12,1,0),(16,1,2),(22,1,2),(27,1,2),(33,1,1),(59,1,1),(62,1,4),(69,1,4)] [] [] [] [] [] false [] [] [] [] [] [] [] [] [] [] [],g263,Tryz.func24,by kernel_rfl,rfl⟩
theorem b249:Bears Tryz.prog (25,249):=⟨_,An Tryz.f25 g249 [(1,1,0),(3,3,0),(4,4,0),(8,1,0),(13,1,2),(17,1,3),(24,1,2),(28,1,4),(36,1,4),(40,1,4),(48,3,0),(61,1,2),(65,1,4),(72,1,4),(80,1,2),(84,1,4),(91,1,4),(99,1,4),(106,1,6),(113,1,4),(120,1,4),(128,1,5),(139,1,5),(147,1,5),(158,1,5),(170,1,5)] [] [] [] [] [] false [] [] [] [] [] [] [] [] [] [] [],g249,Tryz.func25,by kernel_rfl,rfl⟩
theorem b62:Bears Tryz.prog (26,62):=⟨_,An Tryz.f26 g62 [(4,4,0)] [] [] [] [] [] false [] [] [] [] [] [] [] [] [] [] [],g62,Tryz.func26,by kernel_rfl,rfl⟩
theorem b257:Bears Tryz.prog (27,257):=⟨_,An Tryz.f27 g257 [] [5,9] [] [] [] [] false [] [] [] [] [] [] [] [] [] [] [],g257,Tryz.func27,by kernel_rfl,rfl⟩
theorem b258:Bears Tryz.prog (29,258):=⟨_,An Tryz.f29 g258 [] [] [] [] [] [] false [] [] [] [] [] [] [] [] [] [] [],g258,Tryz.func29,by kernel_rfl,rfl⟩
theorem b259:Bears Tryz.prog (30,259):=⟨_,An Tryz.f30 g259 [(1,1,0),(3,1,0)] [] [] [] [] [] false [] [] [] [] [] [] [] [] [] [] [],g259,Tryz.func30,by kernel_rfl,rfl⟩
theorem b260:Bears Tryz.prog (31,260):=⟨_,An Tryz.f31 g260 [(5,5,0),(18,5,1),(21,5,2),(26,5,3)] [] [33] [] [] [] false [] [] [] [] [] [] [] [] [] [] [],g260,Tryz.func31,by kernel_rfl,rfl⟩
theorem b264:Bears Tryz.prog (32,264):=⟨_,An Tryz.f32 g264 [(1,1,0),(3,1,0),(7,1,1),(12,1,4)] [] [] [] [] [] false [] [] [] [] [] [] [] [] [] [] [],g264,Tryz.func32,by kernel_rfl,rfl⟩
theorem b265:Bears Tryz.prog (33,265):=⟨_,An Tryz.f33 g265 [(1,1,0),(5,1,0),(9,1,4)] [] [] [] [] [] false [] [] [] [] [] [] [] [] [] [] [],g265,Tryz.func33,by kernel_rfl,rfl⟩
theorem b32:Bears Tryz.prog (34,32):=⟨_,An Tryz.f34 g32 [] [] [] [] [] [] false [] [] [] [] [] [] [] [] [] [] [],g32,Tryz.func34,by kernel_rfl,rfl⟩
theorem b68:Bears Tryz.prog (35,68):=⟨_,An Tryz.f35 g68 [] [7,11,17,24,28] [] [] [] [] false [] [] [] [] [] [] [] [] [] [] [],g68,Tryz.func35,by kernel_rfl,rfl⟩
theorem b27:Bears Tryz.prog (36,27):=⟨_,An Tryz.f36 g27 [(8,8,0),(10,10,0),(13,13,0),(62,10,2),(77,10,1)] [29,59] [] [] [] [] false [] [] [] [] [] [] [] [] [] [] [],g27,Tryz.func36,by kernel_rfl,rfl⟩
theorem b67:Bears Tryz.prog (37,67):=⟨_,An Tryz.f37 g67 [] [] [] [] [] [] false [] [] [] [] [] [] [] [] [] [] [],g67,Tryz.func37,by kernel_rfl,rfl⟩
theorem b179:Bears Tryz.prog (38,179):=⟨_,An Tryz.f38 g179 [(5,5,0)] [] [] [] [] [] false [] [] [] [] [] [] [] [] [] [] [],g179,Tryz.func38,by kernel_rfl,rfl⟩
theorem b176:Bears Tryz.prog (39,176):=⟨_,An Tryz.f39 g176 [(1,1,0),(2,2,0)] [] [] [] [] [] false [] [] [] [] [] [] [] [] [] [] [],g176,Tryz.func39,by kernel_rfl,rfl⟩
theorem b325:Bears Tryz.prog (40,325):=⟨_,An Tryz.f40 g325 [(1,1,0),(2,2,0),(3,3,0),(4,4,0)] [] [] [] [] [] false [] [] [] [] [] [] [] [] [] [] [],g325,Tryz.func40,by kernel_rfl,rfl⟩
theorem b326:Bears Tryz.prog (41,326):=⟨_,An Tryz.f41 g326 [(8,8,0),(10,10,0),(11,11,0),(12,12,0),(16,16,0),(17,17,0)] [] [53] [] [] [] false [] [] [] [] [] [] [] [] [] [] [],g326,Tryz.func41,by kernel_rfl,rfl⟩
theorem b327:Bears Tryz.prog (42,327):=⟨_,An Tryz.f42 g327 [(2,2,0),(4,4,0),(5,5,0),(7,7,0)] [] [] [] [] [] false [] [] [] [] [] [] [] [] [] [] [],g327,Tryz.func42,by kernel_rfl,rfl⟩
theorem b307:Bears Tryz.prog (43,307):=⟨_,An Tryz.f43 g307 [(2,2,0),(7,2,0)] [] [] [] [] [] false [] [] [] [] [] [] [] [] [] [] [],g307,Tryz.func43,by kernel_rfl,rfl⟩
theorem b34:Bears Tryz.prog (44,34):=⟨_,An Tryz.f44 g34 [(0,0,0)] [] [] [] [] [] false [] [] [] [] [] [] [] [] [] [] [],g34,Tryz.func44,by kernel_rfl,rfl⟩
theorem b162:Bears Tryz.prog (45,162):=⟨_,An Tryz.f45 g162 [] [5,9] [] [] [] [] false [] [] [] [] [] [] [] [] [] [] [],g162,Tryz.func45,by kernel_rfl,rfl⟩
theorem b145:Bears Tryz.prog (46,145):=⟨_,An Tryz.f46 g145 [(1,1,0),(5,1,4),(9,1,5),(16,1,5)] [20] [] [] [] [] true [] [7,23] [] [] [] [] [] [] [] [] [],g145,Tryz.func46,by kernel_rfl,rfl⟩
theorem b359:Bears Tryz.prog (47,359):=⟨_,An Tryz.f47 g359 [(3,3,0),(5,5,0),(6,6,0),(9,9,0)] [35] [54] [16] [] [] false [] [] [] [] [] [] [] [] [] [] [],g359,Tryz.func47,by kernel_rfl,rfl⟩
theorem b247:Bears Tryz.prog (48,247):=⟨_,An Tryz.f48 g247 [(6,6,0),(8,8,0),(9,9,0),(12,12,0),(13,13,0),(14,14,0),(16,16,0),(48,8,3),(51,8,3),(158,13,3),(164,13,3),(172,13,3),(182,16,2),(188,16,2),(194,16,3),(195,14,5),(200,14,5)] [46,148] [] [] [] [] false [] [] [] [] [] [] [] [] [] [] [],g247,Tryz.func48,by kernel_rfl,rfl⟩
theorem b246:Bears Tryz.prog (51,246):=⟨_,An Tryz.f51 g246 [] [] [] [] [] [] false [] [] [] [] [] [] [] [] [] [] [],g246,Tryz.func51,by kernel_rfl,rfl⟩
theorem b194:Bears Tryz.prog (52,194):=⟨_,An Tryz.f52 g194 [(1,1,0),(2,2,0),(3,3,0),(5,1,0),(9,1,1),(14,1,4),(19,1,4),(23,1,4)] [] [] [] [] [] false [] [] [] [] [] [] [] [] [] [] [],g194,Tryz.func52,by kernel_rfl,rfl⟩
theorem b256:Bears Tryz.prog (53,256):=⟨_,An Tryz.f53 g256 [] [] [] [] [] [] false [] [] [] [] [] [] [] [] [] [] [],g256,Tryz.func53,by kernel_rfl,rfl⟩
theorem b261:Bears Tryz.prog (54,261):=⟨_,An Tryz.f54 g261 [(2,2,0)] [] [] [] [] [] false [] [] [] [] [] [] [] [] [] [] [],g261,Tryz.func54,by kernel_rfl,rfl⟩
theorem b262:Bears Tryz.prog (55,262):=⟨_,An Tryz.f55 g262 [(1,1,0),(3,1,0)] [] [] [] [] [] false [] [] [] [] [] [] [] [] [] [] [],g262,Tryz.func55,by kernel_rfl,rfl⟩
theorem b79:Bears Tryz.prog (57,79):=⟨_,An Tryz.f57 g79 [(1,1,0),(2,2,0),(7,1,0)] [] [] [] [] [] false [] [] [] [] [] [] [] [] [] [] [],g79,Tryz.func57,by kernel_rfl,rfl⟩
theorem b106:Bears Tryz.prog (58,106):=⟨_,An Tryz.f58 g106 [(2,2,0)] [] [] [] [] [] false [] [] [] [] [] [] [] [] [] [] [],g106,Tryz.func58,by kernel_rfl,rfl⟩
theorem b348:Bears Tryz.prog (59,348):=⟨_,An Tryz.f59 g348 [(7,7,0),(8,8,0)] [] [15] [] [] [] false [] [] [] [] [] [] [] [] [] [] [],g348,Tryz.func59,by kernel_rfl,rfl⟩
theorem b175:Bears Tryz.prog (60,175):=⟨_,An Tryz.f60 g175 [] [] [] [] [] [] false [] [] [] [] [] [] [] [] [] [] [],g175,Tryz.func60,by kernel_rfl,rfl⟩
theorem b349:Bears Tryz.prog (61,349):=⟨_,An Tryz.f61 g349 [(8,8,0),(10,10,0),(15,15,0),(17,17,0),(18,18,0)] [] [43,69] [] [] [] false [] [] [] [] [] [] [] [] [] [] [],g349,Tryz.func61,by kernel_rfl,rfl⟩
theorem b350:Bears Tryz.prog (62,350):=⟨_,An Tryz.f62 g350 [(8,8,0),(10,10,0),(11,11,0),(14,14,0),(18,18,0),(38,11,2),(53,11,1),(63,11,3),(71,11,3),(81,11,3),(100,18,2),(105,18,2),(121,18,3),(122,14,5),(127,14,5)] [35] [78,113] [] [] [] false [] [] [] [] [] [] [] [] [] [] [],g350,Tryz.func62,by kernel_rfl,rfl⟩
theorem b351:Bears Tryz.prog (63,351):=⟨_,An Tryz.f63 g351 [(2,2,0),(6,2,0),(11,2,4),(17,2,4)] [] [] [] [] [] false [] [] [] [] [] [] [] [] [] [] [],g351,Tryz.func63,by kernel_rfl,rfl⟩
theorem b352:Bears Tryz.prog (64,352):=⟨_,An Tryz.f64 g352 [(8,8,0),(10,10,0),(12,12,0),(13,13,0),(15,15,0),(35,12,0),(38,12,1),(40,13,0),(42,12,2),(48,12,2)] [] [19] [] [] [] false [] [] [] [] [] [] [] [] [] [] [],g352,Tryz.func64,by kernel_rfl,rfl⟩
theorem b196:Bears Tryz.prog (65,196):=⟨_,An Tryz.f65 g196 [(1,1,0)] [] [] [4] [(4,[0])] [] false [] [] [] [] [] [] [] [] [] [] [],g196,Tryz.func65,by kernel_rfl,rfl⟩
theorem b198:Bears Tryz.prog (66,198):=⟨_,An Tryz.f66 g198 [(2,2,0),(4,4,0),(6,6,0),(8,2,0),(12,2,1),(21,6,4),(23,2,4),(29,6,4),(31,2,4),(40,6,4)] [] [] [] [] [] false [] [] [] [] [] [] [] [] [] [] [],g198,Tryz.func66,by kernel_rfl,rfl⟩
theorem b71:Bears Tryz.prog (67,71):=⟨_,An Tryz.f67 g71 [(4,4,0)] [] [] [] [] [] false [] [] [] [] [] [] [] [] [] [] [],g71,Tryz.func67,by kernel_rfl,rfl⟩
theorem b48:Bears Tryz.prog (68,48):=⟨_,An Tryz.f68 g48 [(2,2,0),(4,4,0),(5,5,0),(7,2,0),(11,2,2),(16,2,2),(23,2,2),(28,5,4),(30,2,4),(36,5,4),(38,2,4),(47,5,4)] [] [] [] [] [] false [] [] [] [] [] [] [] [] [] [] [],g48,Tryz.func68,by kernel_rfl,rfl⟩
theorem b374:Bears Tryz.prog (69,374):=⟨_,An Tryz.f69 g374 [(2,2,0),(4,4,0),(6,6,0),(8,2,4),(14,2,5),(25,2,5),(28,6,4),(29,6,5),(31,6,5),(37,6,5)] [] [] [] [] [] true [] [27] [] [] [] [] [] [] [] [] [],g374,Tryz.func69,by kernel_rfl,rfl⟩
theorem b112:Bears Tryz.prog (73,112):=⟨_,An Tryz.f73 g112 [(2,2,0),(3,3,0),(5,5,0),(6,6,0),(13,5,0),(36,6,0),(42,6,0),(43,6,1),(49,6,1),(62,5,0)] [22,28,52,57] [] [] [] [] true [] [] [] [] [] [] [] [] [] [] [],g112,Tryz.func73,by kernel_rfl,rfl⟩
theorem b201:Bears Tryz.prog (74,201):=⟨_,An Tryz.f74 g201 [(5,5,0)] [] [] [] [] [] false [] [] [] [] [] [] [] [] [] [] [],g201,Tryz.func74,by kernel_rfl,rfl⟩
theorem b238:Bears Tryz.prog (75,238):=⟨_,An Tryz.f75 g238 [(2,2,0),(3,3,0),(7,2,0),(10,2,1),(14,2,0)] [] [] [] [] [] false [] [] [] [] [] [] [] [] [] [] [],g238,Tryz.func75,by kernel_rfl,rfl⟩
theorem b20:Bears Tryz.prog (76,20):=⟨_,An Tryz.f76 g20 [(2,2,0),(3,3,0),(5,2,0),(7,3,0),(11,2,1),(13,3,1),(18,2,2),(20,3,2),(25,2,3),(27,3,3),(31,2,4),(33,3,4)] [] [] [] [] [] false [] [] [] [] [] [] [] [] [] [] [],g20,Tryz.func76,by kernel_rfl,rfl⟩
theorem b361:Bears Tryz.prog (77,361):=⟨_,An Tryz.f77 g361 [(1,1,0),(2,2,0)] [] [] [] [] [] false [] [] [] [] [] [] [] [] [] [] [],g361,Tryz.func77,by kernel_rfl,rfl⟩
theorem b207:Bears Tryz.prog (78,207):=⟨_,An Tryz.f78 g207 [] [] [] [] [] [] false [] [] [] [] [] [] [] [] [] [] [],g207,Tryz.func78,by kernel_rfl,rfl⟩
theorem b362:Bears Tryz.prog (79,362):=⟨_,An Tryz.f79 g362 [(7,7,0),(11,11,0),(12,12,0),(14,14,0),(16,16,0),(20,20,0),(23,23,0)] [] [] [] [] [] false [] [] [] [] [] [] [] [] [] [] [],g362,Tryz.func79,by kernel_rfl,rfl⟩
theorem b363:Bears Tryz.prog (80,363):=⟨_,An Tryz.f80 g363 [(1,1,0),(2,2,0)] [] [] [] [] [] false [] [] [] [] [] [] [] [] [] [] [],g363,Tryz.func80,by kernel_rfl,rfl⟩
theorem b222:Bears Tryz.prog (81,222):=⟨_,An Tryz.f81 g222 [(3,3,0),(6,3,0),(11,3,1),(17,3,1),(22,3,4),(29,3,4)] [] [] [34] [(34,[0])] [] false [] [] [] [] [] [] [] [] [] [] [],g222,Tryz.func81,by kernel_rfl,rfl⟩
theorem b216:Bears Tryz.prog (82,216):=⟨_,An Tryz.f82 g216 [] [] [] [] [] [] false [] [] [] [] [] [] [] [] [] [] [],g216,Tryz.func82,by kernel_rfl,rfl⟩
theorem b118:Bears Tryz.prog (88,118):=⟨_,An Tryz.f88 g118 [(3,3,0)] [] [] [] [] [] false [] [] [] [] [] [] [] [] [] [] [],g118,Tryz.func88,by kernel_rfl,rfl⟩
theorem b119:Bears Tryz.prog (89,119):=⟨_,An Tryz.f89 g119 [] [] [] [] [] [] false [] [] [] [] [] [] [] [] [] [] [],g119,Tryz.func89,by kernel_rfl,rfl⟩
theorem b120:Bears Tryz.prog (90,120):=⟨_,An Tryz.f90 g120 [] [7,13,17,25,29,38,42,53,57] [] [] [] [] false [] [] [] [] [] [] [] [] [] [] [],g120,Tryz.func90,by kernel_rfl,rfl⟩
theorem b121:Bears Tryz.prog (91,121):=⟨_,An Tryz.f91 g121 [(2,2,0),(3,3,0),(4,4,0),(12,3,1),(15,3,2),(21,3,2),(36,4,2),(42,4,2),(43,3,3),(48,3,3)] [26] [] [] [] [] false [] [] [] [] [] [] [] [] [] [] [],g121,Tryz.func91,by kernel_rfl,rfl⟩
theorem b122:Bears Tryz.prog (92,122):=⟨_,An Tryz.f92 g122 [(2,2,0),(3,3,0),(11,3,1),(14,3,2),(17,3,3),(20,3,4),(30,3,9)] [25] [] [] [] [] false [] [] [] [] [] [] [] [] [] [] [],g122,Tryz.func92,by kernel_rfl,rfl⟩
theorem b123:Bears Tryz.prog (93,123):=⟨_,An Tryz.f93 g123 [(1,1,0),(2,2,0),(4,4,0),(7,7,0),(11,11,0),(15,1,0),(21,1,0),(29,4,2),(35,4,3),(40,4,0),(44,4,3),(50,4,3),(58,4,3),(65,1,1),(69,1,1),(76,1,0),(82,1,0),(88,7,3),(95,7,3),(105,7,3),(116,7,0),(120,1,1),(126,1,1),(131,11,3),(134,11,4),(140,11,9),(144,11,0),(148,11,9)] [] [] [] [] [] false [] [] [] [] [] [] [] [] [] [] [],g123,Tryz.func93,by kernel_rfl,rfl⟩
theorem b181:Bears Tryz.prog (94,181):=⟨_,An Tryz.f94 g181 [(4,4,0)] [] [] [] [] [] false [] [] [] [] [] [] [] [] [] [] [],g181,Tryz.func94,by kernel_rfl,rfl⟩
theorem b240:Bears Tryz.prog (95,240):=⟨_,An Tryz.f95 g240 [(4,4,0),(5,5,0),(10,4,0),(14,4,2),(21,4,2),(26,4,2),(33,4,2),(36,4,2),(41,4,0),(43,5,0),(47,4,1),(49,5,1),(54,4,2),(56,5,2),(61,4,3),(63,5,3),(68,4,4),(71,5,4),(77,4,4),(83,4,4),(88,5,4)] [23,28] [] [] [] [] false [] [] [] [] [] [] [] [] [] [] [],g240,Tryz.func95,by kernel_rfl,rfl⟩
theorem b57:Bears Tryz.prog (96,57):=⟨_,An Tryz.f96 g57 [] [] [] [] [] [] false [] [] [] [] [] [] [] [] [] [] [],g57,Tryz.func96,by kernel_rfl,rfl⟩
theorem b59:Bears Tryz.prog (97,59):=⟨_,An Tryz.f97 g59 [] [] [] [16] [(16,[0])] [] false [] [] [] [] [] [] [] [] [] [] [],g59,Tryz.func97,by kernel_rfl,rfl⟩
theorem b208:Bears Tryz.prog (98,208):=⟨_,An Tryz.f98 g208 [(2,2,0),(4,4,0)] [] [] [] [] [] false [] [] [] [] [] [] [] [] [] [] [],g208,Tryz.func98,by kernel_rfl,rfl⟩
theorem b375:Bears Tryz.prog (99,375):=⟨_,An Tryz.f99 g375 [(1,1,0),(2,2,0),(3,3,0),(5,1,0),(9,1,3),(13,1,2),(18,3,4),(20,1,4),(26,3,4),(28,1,4),(36,3,4)] [] [] [] [] [] false [] [] [] [] [] [] [] [] [] [] [],g375,Tryz.func99,by kernel_rfl,rfl⟩
theorem b191:Bears Tryz.prog (100,191):=⟨_,An Tryz.f100 g191 [] [] [] [] [] [] false [] [] [] [] [] [] [] [] [] [] [],g191,Tryz.func100,by kernel_rfl,rfl⟩
theorem b376:Bears Tryz.prog (101,376):=⟨_,An Tryz.f101 g376 [(3,3,0),(6,6,0),(12,12,0),(15,15,0)] [] [] [] [] [] false [] [] [] [] [] [] [] [] [] [] [],g376,Tryz.func101,by kernel_rfl,rfl⟩
theorem b46:Bears Tryz.prog (102,46):=⟨_,An Tryz.f102 g46 [(2,2,0),(4,4,0),(6,6,0),(8,2,0),(22,2,2),(32,6,4),(34,2,4),(40,6,4),(42,2,4),(51,6,4)] [] [] [] [] [] false [] [] [] [] [] [] [] [] [] [] [],g46,Tryz.func102,by kernel_rfl,rfl⟩
theorem b377:Bears Tryz.prog (103,377):=⟨_,An Tryz.f103 g377 [(3,3,0),(4,4,0),(5,3,0),(8,3,1)] [] [] [] [] [] false [] [] [] [] [] [] [] [] [] [] [],g377,Tryz.func103,by kernel_rfl,rfl⟩
theorem b378:Bears Tryz.prog (104,378):=⟨_,An Tryz.f104 g378 [(6,6,0),(7,7,0),(8,8,0),(11,11,0),(18,18,0),(41,18,3),(42,18,2)] [] [] [] [] [] false [] [] [] [] [] [] [] [] [] [] [],g378,Tryz.func104,by kernel_rfl,rfl⟩
theorem b193:Bears Tryz.prog (105,193):=⟨_,An Tryz.f105 g193 [(4,4,0),(9,9,0)] [] [] [] [] [] false [] [] [] [] [] [] [] [] [] [] [],g193,Tryz.func105,by kernel_rfl,rfl⟩
theorem b56:Bears Tryz.prog (106,56):=⟨_,An Tryz.f106 g56 [] [] [] [18] [(18,[0])] [] false [] [] [] [] [] [] [] [] [] [] [],g56,Tryz.func106,by kernel_rfl,rfl⟩
theorem b117:Bears Tryz.prog (113,117):=⟨_,An Tryz.f113 g117 [] [] [] [] [] [] false [] [] [] [] [] [] [] [] [] [] [],g117,Tryz.func113,by kernel_rfl,rfl⟩
theorem b125:Bears Tryz.prog (114,125):=⟨_,An Tryz.f114 g125 [] [] [] [] [] [] false [] [] [] [] [] [] [] [] [] [] [],g125,Tryz.func114,by kernel_rfl,rfl⟩
theorem b126:Bears Tryz.prog (115,126):=⟨_,An Tryz.f115 g126 [] [5,9,15,19] [] [] [] [] false [] [] [] [] [] [] [] [] [] [] [],g126,Tryz.func115,by kernel_rfl,rfl⟩
theorem b127:Bears Tryz.prog (116,127):=⟨_,An Tryz.f116 g127 [] [] [] [] [] [] false [] [] [] [] [] [] [] [] [] [] [],g127,Tryz.func116,by kernel_rfl,rfl⟩
theorem b128:Bears Tryz.prog (117,128):=⟨_,An Tryz.f117 g128 [] [13,20,24] [] [] [] [] false [] [] [] [] [] [] [] [] [] [] [],g128,Tryz.func117,by kernel_rfl,rfl⟩
theorem b129:Bears Tryz.prog (118,129):=⟨_,An Tryz.f118 g129 [] [7,13,17,25,29] [] [] [] [] false [] [] [] [] [] [] [] [] [] [] [],g129,Tryz.func118,by kernel_rfl,rfl⟩
theorem b130:Bears Tryz.prog (119,130):=⟨_,An Tryz.f119 g130 [] [] [] [] [] [] false [] [] [] [] [] [] [] [] [] [] [],g130,Tryz.func119,by kernel_rfl,rfl⟩
theorem b131:Bears Tryz.prog (120,131):=⟨_,An Tryz.f120 g131 [(2,2,0),(3,3,0)] [20] [] [15] [] [] false [] [] [] [] [] [] [] [] [] [] [],g131,Tryz.func120,by kernel_rfl,rfl⟩
theorem b132:Bears Tryz.prog (121,132):=⟨_,An Tryz.f121 g132 [] [10] [] [] [] [] false [] [] [] [] [] [] [] [] [] [] [],g132,Tryz.func121,by kernel_rfl,rfl⟩
theorem b133:Bears Tryz.prog (122,133):=⟨_,An Tryz.f122 g133 [(2,2,0),(3,3,0),(11,3,4),(17,3,4)] [] [] [8] [] [] false [] [] [] [] [] [] [] [] [] [] [],g133,Tryz.func122,by kernel_rfl,rfl⟩
theorem b134:Bears Tryz.prog (123,134):=⟨_,An Tryz.f123 g134 [(2,2,0),(7,7,0),(8,8,0),(9,9,0),(101,8,1)] [21,41,50,71,77,81,89,93] [] [] [] [] false [] [] [] [] [] [] [] [] [] [] [],g134,Tryz.func123,by kernel_rfl,rfl⟩
theorem b52:Bears Tryz.prog (124,52):=⟨_,An Tryz.f124 g52 [(1,1,0),(6,1,4),(13,1,4)] [] [] [] [] [] false [] [] [] [] [] [] [] [] [] [] [],g52,Tryz.func124,by kernel_rfl,rfl⟩
theorem b135:Bears Tryz.prog (125,135):=⟨_,An Tryz.f125 g135 [(1,1,0)] [] [] [] [] [] false [] [] [] [] [] [] [] [] [] [] [],g135,Tryz.func125,by kernel_rfl,rfl⟩
theorem b136:Bears Tryz.prog (126,136):=⟨_,An Tryz.f126 g136 [(1,1,0),(10,1,5),(16,1,5),(24,1,5)] [] [] [] [] [] false [] [] [] [] [] [] [] [] [] [] [],g136,Tryz.func126,by kernel_rfl,rfl⟩
theorem b99:Bears Tryz.prog (127,99):=⟨_,An Tryz.f127 g99 [(4,4,0),(9,4,0),(14,4,4),(37,4,4),(44,4,4)] [] [] [50] [(50,[0])] [] false [] [] [] [] [] [] [] [] [] [] [],g99,Tryz.func127,by kernel_rfl,rfl⟩
theorem b95:Bears Tryz.prog (128,95):=⟨_,An Tryz.f128 g95 [] [] [] [] [] [] false [] [] [] [] [] [] [] [] [] [] [],g95,Tryz.func128,by kernel_rfl,rfl⟩
theorem b388:Bears Tryz.prog (129,388):=⟨_,An Tryz.f129 g388 [(0,0,0)] [] [] [] [] [] false [] [] [] [] [] [] [] [] [] [] [],g388,Tryz.func129,by kernel_rfl,rfl⟩
theorem b381:Bears Tryz.prog (130,381):=⟨_,An Tryz.f130 g381 [(3,3,0),(6,6,0),(7,7,0),(9,9,0),(10,3,0),(13,3,0),(22,3,1),(29,9,1)] [] [] [] [] [] false [] [] [] [] [] [] [] [] [] [] [],g381,Tryz.func130,by kernel_rfl,rfl⟩
theorem b22:Bears Tryz.prog (131,22):=⟨_,An Tryz.f131 g22 [(3,3,0),(4,4,0)] [] [] [] [] [] false [] [] [] [] [] [] [] [] [] [] [],g22,Tryz.func131,by kernel_rfl,rfl⟩
theorem b389:Bears Tryz.prog (132,389):=⟨_,An Tryz.f132 g389 [(5,5,0),(6,6,0),(7,7,0),(15,15,0),(16,16,0),(17,17,0),(19,19,0),(20,20,0),(21,21,0),(22,22,0),(23,23,0),(25,25,0),(26,26,0),(31,31,0),(34,34,0),(37,6,0),(51,6,1),(63,17,0),(67,5,0),(69,17,2),(86,5,0),(88,17,2),(95,21,0),(96,21,1),(99,17,2),(105,21,1)] [] [] [198] [] [] false [] [] [] [] [] [] [] [] [] [] [],g389,Tryz.func132,by kernel_rfl,rfl⟩
theorem b221:Bears Tryz.prog (133,221):=⟨_,An Tryz.f133 g221 [(1,1,0),(2,2,0),(6,1,2),(17,1,1)] [] [] [] [] [] false [] [] [] [] [] [] [] [] [] [] [],g221,Tryz.func133,by kernel_rfl,rfl⟩
theorem b109:Bears Tryz.prog (136,109):=⟨_,An Tryz.f136 g109 [] [] [] [] [] [] false [] [] [] [] [] [] [] [] [] [] [],g109,Tryz.func136,by kernel_rfl,rfl⟩
theorem b111:Bears Tryz.prog (137,111):=⟨_,An Tryz.f137 g111 [] [] [] [] [] [] false [] [] [] [] [] [] [] [] [] [] [],g111,Tryz.func137,by kernel_rfl,rfl⟩
theorem b124:Bears Tryz.prog (138,124):=⟨_,An Tryz.f138 g124 [] [] [] [] [] [] false [] [] [] [] [] [] [] [] [] [] [],g124,Tryz.func138,by kernel_rfl,rfl⟩
theorem b110:Bears Tryz.prog (139,110):=⟨_,An Tryz.f139 g110 [] [] [] [] [] [] false [] [] [] [] [] [] [] [] [] [] [],g110,Tryz.func139,by kernel_rfl,rfl⟩
theorem b77:Bears Tryz.prog (140,77):=⟨_,An Tryz.f140 g77 [] [] [] [] [] [] false [] [] [] [] [] [] [] [] [] [] [],g77,Tryz.func140,by kernel_rfl,rfl⟩
theorem b78:Bears Tryz.prog (141,78):=⟨_,An Tryz.f141 g78 [] [] [] [] [] [] false [] [] [] [] [] [] [] [] [] [] [],g78,Tryz.func141,by kernel_rfl,rfl⟩
theorem b137:Bears Tryz.prog (142,137):=⟨_,An Tryz.f142 g137 [] [] [] [] [] [] false [] [] [] [] [] [] [] [] [] [] [],g137,Tryz.func142,by kernel_rfl,rfl⟩
theorem b138:Bears Tryz.prog (143,138):=⟨_,An Tryz.f143 g138 [] [] [] [] [] [] false [] [] [] [] [] [] [] [] [] [] [],g138,Tryz.func143,by kernel_rfl,rfl⟩
theorem b139:Bears Tryz.prog (144,139):=⟨_,An Tryz.f144 g139 [(2,2,0),(55,2,2),(57,2,1)] [5,13,17,24,28,38,44,48] [] [] [] [] false [] [] [] [] [] [] [] [] [] [] [],g139,Tryz.func144,by kernel_rfl,rfl⟩
theorem b140:Bears Tryz.prog (145,140):=⟨_,An Tryz.f145 g140 [(4,4,0),(5,5,0),(6,6,0),(21,6,2),(27,6,2),(37,6,3),(38,5,5),(43,5,5)] [32] [] [] [] [] false [] [] [] [] [] [] [] [] [] [] [],g140,Tryz.func145,by kernel_rfl,rfl⟩
theorem b141:Bears Tryz.prog (146,141):=⟨_,An Tryz.f146 g141 [(2,2,0),(4,4,0),(5,5,0),(6,6,0)] [51] [] [] [] [] false [] [] [] [] [] [] [] [] [] [] [],g141,Tryz.func146,by kernel_rfl,rfl⟩
theorem b142:Bears Tryz.prog (147,142):=⟨_,An Tryz.f147 g142 [(1,1,0),(3,1,0),(11,1,1),(15,1,1),(20,1,1)] [] [] [] [] [] false [] [] [] [] [] [] [] [] [] [] [],g142,Tryz.func147,by kernel_rfl,rfl⟩
theorem b143:Bears Tryz.prog (148,143):=⟨_,An Tryz.f148 g143 [(1,1,0)] [] [] [] [] [] false [] [] [] [] [] [] [] [] [] [] [],g143,Tryz.func148,by kernel_rfl,rfl⟩
theorem b144:Bears Tryz.prog (149,144):=⟨_,An Tryz.f149 g144 [(1,1,0),(5,1,0),(9,1,6)] [] [] [] [] [] false [] [] [] [] [] [] [] [] [] [] [],g144,Tryz.func149,by kernel_rfl,rfl⟩
theorem b386:Bears Tryz.prog (150,386):=⟨_,An Tryz.f150 g386 [(2,2,0),(3,3,0),(4,4,0),(7,2,0),(18,2,0),(20,3,2)] [] [] [] [] [] false [] [] [] [] [] [] [] [] [] [] [],g386,Tryz.func150,by kernel_rfl,rfl⟩
theorem b393:Bears Tryz.prog (151,393):=⟨_,An Tryz.f151 g393 [(3,3,0),(5,5,0),(6,6,0),(8,8,0),(13,3,0),(19,3,0),(23,3,1),(27,3,0),(35,8,1),(36,8,0)] [] [] [] [] [] false [] [21] [(6,[8])] [] [] [] [] [] [] [] [],g393,Tryz.func151,by kernel_rfl,rfl⟩
theorem b394:Bears Tryz.prog (152,394):=⟨_,An Tryz.f152 g394 [(2,2,0),(3,3,0),(4,4,0),(5,5,0),(9,3,0),(12,2,0),(14,3,2),(18,5,7),(21,3,2)] [] [] [] [] [] false [] [] [] [] [] [] [] [] [] [] [],g394,Tryz.func152,by kernel_rfl,rfl⟩
theorem b385:Bears Tryz.prog (153,385):=⟨_,An Tryz.f153 g385 [(3,3,0),(4,4,0),(5,5,0),(6,6,0),(8,8,0)] [] [] [] [] [] false [] [] [] [] [] [] [] [] [] [] [],g385,Tryz.func153,by kernel_rfl,rfl⟩
theorem b355:Bears Tryz.prog (154,355):=⟨_,An Tryz.f154 g355 [(3,3,0),(4,4,0)] [] [] [] [] [] false [] [] [] [] [] [] [] [] [] [] [],g355,Tryz.func154,by kernel_rfl,rfl⟩
theorem b358:Bears Tryz.prog (155,358):=⟨_,An Tryz.f155 g358 [(2,2,0),(3,3,0),(4,4,0)] [] [] [] [] [] false [] [] [] [] [] [] [] [] [] [] [],g358,Tryz.func155,by kernel_rfl,rfl⟩
theorem b395:Bears Tryz.prog (156,395):=⟨_,An Tryz.f156 g395 [] [] [] [] [] [] false [] [] [] [] [] [] [] [] [] [] [],g395,Tryz.func156,by kernel_rfl,rfl⟩
theorem b108:Bears Tryz.prog (157,108):=⟨_,An Tryz.f157 g108 [] [] [] [] [] [] false [] [] [] [] [] [] [] [] [] [] [],g108,Tryz.func157,by kernel_rfl,rfl⟩
theorem b146:Bears Tryz.prog (158,146):=⟨_,An Tryz.f158 g146 [] [] [] [] [] [] false [] [] [] [] [] [] [] [] [] [] [],g146,Tryz.func158,by kernel_rfl,rfl⟩
theorem b392:Bears Tryz.prog (159,392):=⟨_,An Tryz.f159 g392 [(2,2,0),(3,3,0),(5,3,0),(9,3,2),(14,3,2),(16,2,0),(22,2,0),(24,3,2)] [] [] [] [] [] false [] [] [] [] [] [] [] [] [] [] [],g392,Tryz.func159,by kernel_rfl,rfl⟩
theorem b391:Bears Tryz.prog (160,391):=⟨_,An Tryz.f160 g391 [(3,3,0),(4,4,0),(5,5,0),(6,6,0),(8,8,0),(9,9,0),(47,8,2),(58,9,2),(65,8,0),(67,9,0),(71,8,1),(73,9,1),(78,8,2),(80,9,2),(85,8,3),(87,9,3),(92,8,4),(95,9,4),(102,8,4),(114,8,4),(119,9,4)] [] [] [] [] [] false [] [] [] [] [] [] [] [] [] [] [],g391,Tryz.func160,by kernel_rfl,rfl⟩
theorem b371:Bears Tryz.prog (161,371):=⟨_,An Tryz.f161 g371 [(3,3,0),(4,4,0),(13,4,4),(26,4,4)] [] [] [] [] [] false [] [] [] [] [] [] [] [] [] [] [],g371,Tryz.func161,by kernel_rfl,rfl⟩
theorem b373:Bears Tryz.prog (162,373):=⟨_,An Tryz.f162 g373 [(2,2,0),(3,3,0),(4,4,0),(5,5,0),(11,5,4),(13,3,4),(19,5,4),(22,3,4),(30,5,4)] [] [] [] [] [] false [] [] [] [] [] [] [] [] [] [] [],g373,Tryz.func162,by kernel_rfl,rfl⟩
theorem b396:Bears Tryz.prog (163,396):=⟨_,An Tryz.f163 g396 [(2,2,0),(3,3,0),(5,3,0),(9,3,2),(14,3,2),(16,2,0)] [] [] [] [] [] false [] [] [] [] [] [] [] [] [] [] [],g396,Tryz.func163,by kernel_rfl,rfl⟩
theorem b397:Bears Tryz.prog (164,397):=⟨_,An Tryz.f164 g397 [(3,3,0),(4,4,0),(5,5,0),(6,6,0),(9,9,0),(10,10,0),(11,4,2),(13,5,2),(17,4,2),(19,5,2),(22,4,2),(24,5,2),(27,3,0),(32,3,0),(37,9,6),(39,10,6),(42,9,7),(45,10,7),(48,9,6),(49,9,7),(52,10,0),(53,10,1)] [] [] [] [] [] false [] [] [] [] [] [] [] [] [] [] [],g397,Tryz.func164,by kernel_rfl,rfl⟩
theorem b398:Bears Tryz.prog (165,398):=⟨_,An Tryz.f165 g398 [(3,3,0),(5,5,0),(6,6,0),(8,8,0),(10,10,0),(11,11,0),(13,13,0),(19,19,0),(20,3,0),(41,8,7),(65,8,6),(79,3,0),(84,8,6),(99,3,0),(104,3,0),(113,8,6),(117,3,0),(125,8,6),(127,19,6),(139,8,0),(140,8,1)] [] [] [] [] [] false [] [] [] [] [] [] [] [] [] [] [],g398,Tryz.func165,by kernel_rfl,rfl⟩
theorem b372:Bears Tryz.prog (166,372):=⟨_,An Tryz.f166 g372 [(2,2,0),(8,2,0)] [28] [] [] [] [] false [] [] [] [] [] [] [] [] [] [] [],g372,Tryz.func166,by kernel_rfl,rfl⟩
theorem b387:Bears Tryz.prog (167,387):=⟨_,An Tryz.f167 g387 [(3,3,0),(5,3,0),(20,3,2),(29,3,2),(40,3,2),(49,3,2),(58,3,2),(65,3,4),(72,3,4)] [11,18,27,38,42,47,56] [] [] [] [] false [] [39,48] [] [] [] [] [] [] [] [] [],g387,Tryz.func167,by kernel_rfl,rfl⟩
def IsPrim (P:Program) (q:Nat×Nat):Prop:=(∃fn b,P.funcs[q.1]?=some fn∧fn.body=some b∧fn.name ≠ "runtime.NumGoroutine") ∧
 ∃af pf,AP q.2=some af∧af.pE=some pf∧af.body=.exit 0∧∀orc,gk P ns orc→∀dO rs,pf.f orc.p dO=some rs→uO P q.1 dO rs
def HasB (P:Program) (f:Nat):Prop:=∃fn b,P.funcs[f]?=some fn∧fn.body=some b∧fn.name ≠ "runtime.NumGoroutine"
theorem lays166:Lays.n166 Tryz.prog Tryz.lays156_ren where
 mixed:=Tryz.lays156.mixed
 f166:=Tryz.lays156.f166
 f240:=Tryz.lays156.f240
 f276:=Tryz.lays156.f276
 t0:=Tryz.lays156.t0
 a0:=Tryz.lays156.a0
 z0:=Tryz.lays156.z0
 v0:=Tryz.lays156.v0
 t3:=Tryz.lays156.t3
 a3:=Tryz.lays156.a3
 z3:=Tryz.lays156.z3
 v3:=Tryz.lays156.v3
 t4:=Tryz.lays156.t4
 a4:=Tryz.lays156.a4
 z4:=Tryz.lays156.z4
 v4:=Tryz.lays156.v4
 t9:=Tryz.lays156.t9
 a9:=Tryz.lays156.a9
 z9:=Tryz.lays156.z9
 v9:=Tryz.lays156.v9
 t20:=Tryz.lays156.t20
 a20:=Tryz.lays156.a20
 z20:=Tryz.lays156.z20
 v20:=Tryz.lays156.v20
 t37:=Tryz.lays156.t37
 a37:=Tryz.lays156.a37
 z37:=Tryz.lays156.z37
 v37:=Tryz.lays156.v37
 t70:=Tryz.lays156.t70
 a70:=Tryz.lays156.a70
 z70:=Tryz.lays156.z70
 v70:=Tryz.lays156.v70
 t72:=Tryz.lays156.t72
 a72:=Tryz.lays156.a72
 z72:=Tryz.lays156.z72
 v72:=Tryz.lays156.v72
 t75:=Tryz.lays156.t75
 a75:=Tryz.lays156.a75
 z75:=Tryz.lays156.z75
 v75:=Tryz.lays156.v75
 t164:=Tryz.lays156.t164
 a164:=Tryz.lays156.a164
 z164:=Tryz.lays156.z164
 v164:=Tryz.lays156.v164
theorem lays169:Lays.n169 Tryz.prog Tryz.lays156_ren where
 mixed:=Tryz.lays156.mixed
 f169:=Tryz.lays156.f169
 t0:=Tryz.lays156.t0
 a0:=Tryz.lays156.a0
 z0:=Tryz.lays156.z0
 v0:=Tryz.lays156.v0
 t3:=Tryz.lays156.t3
 a3:=Tryz.lays156.a3
 z3:=Tryz.lays156.z3
 v3:=Tryz.lays156.v3
 t9:=Tryz.lays156.t9
 a9:=Tryz.lays156.a9
 z9:=Tryz.lays156.z9
 v9:=Tryz.lays156.v9
 t37:=Tryz.lays156.t37
 a37:=Tryz.lays156.a37
 z37:=Tryz.lays156.z37
 v37:=Tryz.lays156.v37
 t70:=Tryz.lays156.t70
 a70:=Tryz.lays156.a70
 z70:=Tryz.lays156.z70
 v70:=Tryz.lays156.v70
 t72:=Tryz.lays156.t72
 a72:=Tryz.lays156.a72
 z72:=Tryz.lays156.z72
 v72:=Tryz.lays156.v72
 t127:=Tryz.lays156.t127
 a127:=Tryz.lays156.a127
 z127:=Tryz.lays156.z127
 v127:=Tryz.lays156.v127
theorem hb_of {P:Program} {q:Nat×Nat} (h:Bears P q):HasB P q.1:=by
 obtain ⟨fn,A,af,h1,h2,_⟩:=h
 unfold qk at h2
 split at h2
 · rename_i b rs hb _
   simp only [Option.ite_none_right_eq_some] at h2
   obtain ⟨⟨_,hn⟩,_⟩:=h2
   exact ⟨fn,b,h1,hb,by simpa using hn⟩
 · simp at h2
theorem look_mem0 {α:Type} {t:Nat} {v:α}:∀{l:List (Nat×α)},look l t=some v→(t,v)∈l
 | [],h=>by simp [look] at h
 | (k,u)::r,h=>by
   simp only [look] at h
   split at h
   · rename_i e;cases h;subst e;exact List.mem_cons_self
   · exact List.mem_cons_of_mem _ (look_mem0 h)
theorem xm:eI Tryz.prog ns:=by
 have h:∀q∈ns.g,HasB Tryz.prog q.1:=by
     intro q hq
     simp only [ns,List.mem_cons,List.not_mem_nil,or_false] at hq
     rcases hq with rfl | rfl | rfl | rfl | rfl | rfl | rfl | rfl | rfl | rfl | rfl | rfl | rfl | rfl | rfl | rfl | rfl | rfl | rfl | rfl | rfl | rfl | rfl | rfl | rfl | rfl | rfl | rfl | rfl | rfl | rfl | rfl | rfl | rfl | rfl | rfl | rfl | rfl | rfl | rfl | rfl | rfl | rfl | rfl | rfl | rfl | rfl | rfl | rfl | rfl | rfl | rfl | rfl | rfl | rfl | rfl | rfl | rfl | rfl | rfl | rfl | rfl | rfl | rfl | rfl | rfl | rfl | rfl | rfl | rfl | rfl | rfl | rfl | rfl | rfl | rfl | rfl | rfl | rfl | rfl | rfl | rfl | rfl | rfl | rfl | rfl | rfl | rfl | rfl | rfl | rfl | rfl | rfl | rfl | rfl | rfl | rfl | rfl | rfl | rfl | rfl | rfl | rfl | rfl | rfl | rfl | rfl | rfl | rfl | rfl | rfl | rfl | rfl | rfl | rfl | rfl | rfl | rfl | rfl | rfl | rfl | rfl | rfl | rfl | rfl | rfl | rfl | rfl | rfl | rfl | rfl | rfl | rfl | rfl | rfl | rfl | rfl | rfl | rfl | rfl | rfl | rfl | rfl | rfl | rfl
     · exact hb_of b299
     · exact hb_of b244
     · exact hb_of b15
     · exact hb_of b310
     · exact hb_of b312
     · exact hb_of b254
     · exact hb_of b69
     · exact hb_of b72
     · exact hb_of b63
     · exact hb_of b248
     · exact hb_of b252
     · exact hb_of b245
     · exact hb_of b306
     · exact hb_of b26
     · exact hb_of b335
     · exact hb_of b336
     · exact hb_of b337
     · exact hb_of b270
     · exact hb_of b263
     · exact hb_of b249
     · exact hb_of b62
     · exact hb_of b257
     · exact hb_of b258
     · exact hb_of b259
     · exact hb_of b260
     · exact hb_of b264
     · exact hb_of b265
     · exact hb_of b32
     · exact hb_of b68
     · exact hb_of b27
     · exact hb_of b67
     · exact hb_of b179
     · exact hb_of b176
     · exact hb_of b325
     · exact hb_of b326
     · exact hb_of b327
     · exact hb_of b307
     · exact hb_of b34
     · exact hb_of b162
     · exact hb_of b145
     · exact hb_of b359
     · exact hb_of b247
     · exact hb_of b246
     · exact hb_of b194
     · exact hb_of b256
     · exact hb_of b261
     · exact hb_of b262
     · exact hb_of b79
     · exact hb_of b106
     · exact hb_of b348
     · exact hb_of b175
     · exact hb_of b349
     · exact hb_of b350
     · exact hb_of b351
     · exact hb_of b352
     · exact hb_of b196
     · exact hb_of b198
     · exact hb_of b71
     · exact hb_of b48
     · exact hb_of b374
     · exact hb_of b112
     · exact hb_of b201
     · exact hb_of b238
     · exact hb_of b20
     · exact hb_of b361
     · exact hb_of b207
     · exact hb_of b362
     · exact hb_of b363
     · exact hb_of b222
     · exact hb_of b216
     · exact hb_of b118
     · exact hb_of b119
     · exact hb_of b120
     · exact hb_of b121
     · exact hb_of b122
     · exact hb_of b123
     · exact hb_of b181
     · exact hb_of b240
     · exact hb_of b57
     · exact hb_of b59
     · exact hb_of b208
     · exact hb_of b375
     · exact hb_of b191
     · exact hb_of b376
     · exact hb_of b46
     · exact hb_of b377
     · exact hb_of b378
     · exact hb_of b193
     · exact hb_of b56
     · exact hb_of b117
     · exact hb_of b125
     · exact hb_of b126
     · exact hb_of b127
     · exact hb_of b128
     · exact hb_of b129
     · exact hb_of b130
     · exact hb_of b131
     · exact hb_of b132
     · exact hb_of b133
     · exact hb_of b134
     · exact hb_of b52
     · exact hb_of b135
     · exact hb_of b136
     · exact hb_of b99
     · exact hb_of b95
     · exact hb_of b388
     · exact hb_of b381
     · exact hb_of b22
     · exact hb_of b389
     · exact hb_of b221
     · exact hb_of b109
     · exact hb_of b111
     · exact hb_of b124
     · exact hb_of b110
     · exact hb_of b77
     · exact hb_of b78
     · exact hb_of b137
     · exact hb_of b138
     · exact hb_of b139
     · exact hb_of b140
     · exact hb_of b141
     · exact hb_of b142
     · exact hb_of b143
     · exact hb_of b144
     · exact hb_of b386
     · exact hb_of b393
     · exact hb_of b394
     · exact hb_of b385
     · exact hb_of b355
     · exact hb_of b358
     · exact hb_of b395
     · exact hb_of b108
     · exact hb_of b146
     · exact hb_of b392
     · exact hb_of b391
     · exact hb_of b371
     · exact hb_of b373
     · exact hb_of b396
     · exact hb_of b397
     · exact hb_of b398
     · exact hb_of b372
     · exact hb_of b387
     · exact ⟨Tryz.f7,me Tryz.f7,Tryz.func7,by kernel_rfl,by decide⟩
     · exact ⟨Tryz.f28,me Tryz.f28,Tryz.func28,by kernel_rfl,by decide⟩
     · exact ⟨Tryz.f50,me Tryz.f50,Tryz.func50,by kernel_rfl,by decide⟩
 intro f g hg
 exact h (f,g) (look_mem0 hg)
def fldOf (o:Oper):TypeId×Nat:=match o.op with | .fieldAddr t _ i=>(t,i) | _=>(0,0)
def boxOf (o:Oper):TypeId:=match o.op with | .box t _=>t | _=>0
def loadOf (o:Oper):TypeId:=match o.op with | .load t _=>t | _=>0
def fdOf (P:Program) (q:TypeId×Nat):Field:=(gw P q.1 q.2).getD default
noncomputable def show311:o7 Tryz.prog ns 7 336 337 where
 fn:=Tryz.f7
 A:=⟨[(5,5,0),(7,7,0)],[],[],[],[],[],[],[],false,[],[],[],[],[],[],[],[],[],[],[]⟩
 T:=51
 E:=5
 Tp:=boxOf (d9 Tryz.f7 0 0)
 fw:=19
 fs:=22
 t1:=typesOf (d9 Tryz.f7 5 2)
 t2:=typesOf (d9 Tryz.f7 10 2)
 t3:=typesOf (d9 Tryz.f7 12 0)
 tf:=(fldOf (d9 Tryz.f7 2 0)).1
 f0:=(fldOf (d9 Tryz.f7 2 0)).2
 f1:=(fldOf (d9 Tryz.f7 7 0)).2
 Tf:=(fdOf Tryz.prog (fldOf (d9 Tryz.f7 2 0)))
 Tg:=(fdOf Tryz.prog (fldOf (d9 Tryz.f7 7 0)))
 s0:=(cR Tryz.prog (fdOf Tryz.prog (fldOf (d9 Tryz.f7 2 0))).type).getD 0
 s1:=(cR Tryz.prog (fdOf Tryz.prog (fldOf (d9 Tryz.f7 7 0))).type).getD 0
 td:=loadOf (d9 Tryz.f7 2 1)
 tb:=loadOf (d9 Tryz.f7 7 1)
 bx:=d9 Tryz.f7 0 0
 rs:=d9 Tryz.f7 0 1
 al:=d9 Tryz.f7 1 0
 fa:=d9 Tryz.f7 2 0
 ld:=d9 Tryz.f7 2 1
 r2:=(pC Tryz.f7 2).toList.drop 2
 o3:=pC Tryz.f7 3
 o4:=pC Tryz.f7 4
 l5:=(pC Tryz.f7 5).toList.take 2
 w5:=d9 Tryz.f7 5 2
 o6:=pC Tryz.f7 6
 NV:=d9 Tryz.f7 7 0
 NW:=d9 Tryz.f7 7 1
 r7:=(pC Tryz.f7 7).toList.drop 2
 o8:=pC Tryz.f7 8
 o9:=pC Tryz.f7 9
 l10:=(pC Tryz.f7 10).toList.take 2
 Lu:=d9 Tryz.f7 10 2
 Qd:=pC Tryz.f7 11
 st:=d9 Tryz.f7 12 0
 fi:=d9 Tryz.f7 12 1
 i0:=lH Tryz.f7 0
 i1:=lH Tryz.f7 1
 i2:=lH Tryz.f7 2
 i3:=lH Tryz.f7 3
 i4:=lH Tryz.f7 4
 i5:=lH Tryz.f7 5
 i6:=lH Tryz.f7 6
 i7:=lH Tryz.f7 7
 i8:=lH Tryz.f7 8
 i9:=lH Tryz.f7 9
 RH:=lH Tryz.f7 10
 RI:=lH Tryz.f7 11
 Th:=lH Tryz.f7 12
 b0:=xQ Tryz.f7 0
 b1:=xQ Tryz.f7 1
 b2:=xQ Tryz.f7 2
 b3:=xQ Tryz.f7 3
 hf:=Tryz.func7
 nk:=by kernel_rfl
 gv:=by kernel_rfl
 hN:=by kernel_rfl
 RJ:=⟨by kernel_rfl,by kernel_rfl,by kernel_rfl⟩
 P6:=⟨by kernel_rfl,by kernel_rfl,by kernel_rfl⟩
 NX:=⟨by kernel_rfl,by kernel_rfl,by kernel_rfl⟩
 hz:=by kernel_rfl
 QY:=⟨by kernel_rfl,by kernel_rfl,by kernel_rfl⟩
 Ui:=⟨by kernel_rfl,by kernel_rfl,by kernel_rfl,by decide +kernel⟩
 QZ:=⟨by kernel_rfl,by kernel_rfl,by kernel_rfl⟩
 TF:=⟨by kernel_rfl,by kernel_rfl⟩
 c2:=by kernel_rfl
 Ix:=⟨by kernel_rfl,by kernel_rfl,by kernel_rfl⟩
 RK:=⟨by kernel_rfl,by kernel_rfl,by kernel_rfl,by decide +kernel⟩
 Iy:=⟨by kernel_rfl,by kernel_rfl,by kernel_rfl⟩
 QU:=⟨by kernel_rfl,by kernel_rfl⟩
 c7:=by kernel_rfl
 c3:=by kernel_rfl
 c4:=by kernel_rfl
 c5:=by kernel_rfl
 c6:=by kernel_rfl
 Ti:=⟨by kernel_rfl,by kernel_rfl,by kernel_rfl⟩
 c8:=by kernel_rfl
 c9:=by kernel_rfl
 c10:=by kernel_rfl
 c11:=by kernel_rfl
 NY:=⟨by kernel_rfl,by kernel_rfl,by kernel_rfl⟩
 rq:=⟨by kernel_rfl,by kernel_rfl,by kernel_rfl⟩
 QT:=⟨by kernel_rfl,by kernel_rfl,by kernel_rfl⟩
 TG:=⟨Tryz.f19,me Tryz.f19,Tryz.func19,by kernel_rfl,by decide⟩
 RL:=⟨Tryz.f22,me Tryz.f22,Tryz.func22,by kernel_rfl,by decide⟩
 UA:=⟨20,by kernel_rfl⟩
 Ug:=⟨21,by kernel_rfl⟩
 write:=fun B b bs s w h1 h2 h3=>Any.Builder_WriteString lays166 Tryz.Builder_Extra_156 B b bs s w h1 h2 h3
 read:=fun B b l w h1 h2=>Any.Builder_String_any lays169 Tryz.Builder_Extra_156 B b l w h1 h2
theorem b311:IsPrim Tryz.prog (7,311):=⟨⟨Tryz.f7,me Tryz.f7,Tryz.func7,by kernel_rfl,by decide⟩,_,_,rfl,rfl,rfl,fun orc ho _ _ h=>Iz xm ho show311 h⟩
theorem b255:IsPrim Tryz.prog (28,255):=⟨⟨Tryz.f28,me Tryz.f28,Tryz.func28,by kernel_rfl,by decide⟩,_,_,rfl,rfl,rfl,fun _ _=>Iu (fun i hi w=>Tryz.strconv_Itoa_small i hi w)⟩
theorem b269:IsPrim Tryz.prog (50,269):=⟨⟨Tryz.f50,me Tryz.f50,Tryz.func50,by kernel_rfl,by decide⟩,_,_,rfl,rfl,rfl,fun _ _=>Iv (fun a c sep w=>Tryz.strings_Join_none a c sep w) (fun bk o c xs sep w h1 h2 h3 h4 h5=>Tryz.strings_Join bk o c xs sep w h1 h2 h3 h4 h5)⟩
theorem all_bear:∀q∈ns.g,Bears Tryz.prog q∨Bare Tryz.prog q∨IsPrim Tryz.prog q:=by
 intro q hq
 simp only [ns,List.mem_cons,List.not_mem_nil,or_false] at hq
 rcases hq with rfl | rfl | rfl | rfl | rfl | rfl | rfl | rfl | rfl | rfl | rfl | rfl | rfl | rfl | rfl | rfl | rfl | rfl | rfl | rfl | rfl | rfl | rfl | rfl | rfl | rfl | rfl | rfl | rfl | rfl | rfl | rfl | rfl | rfl | rfl | rfl | rfl | rfl | rfl | rfl | rfl | rfl | rfl | rfl | rfl | rfl | rfl | rfl | rfl | rfl | rfl | rfl | rfl | rfl | rfl | rfl | rfl | rfl | rfl | rfl | rfl | rfl | rfl | rfl | rfl | rfl | rfl | rfl | rfl | rfl | rfl | rfl | rfl | rfl | rfl | rfl | rfl | rfl | rfl | rfl | rfl | rfl | rfl | rfl | rfl | rfl | rfl | rfl | rfl | rfl | rfl | rfl | rfl | rfl | rfl | rfl | rfl | rfl | rfl | rfl | rfl | rfl | rfl | rfl | rfl | rfl | rfl | rfl | rfl | rfl | rfl | rfl | rfl | rfl | rfl | rfl | rfl | rfl | rfl | rfl | rfl | rfl | rfl | rfl | rfl | rfl | rfl | rfl | rfl | rfl | rfl | rfl | rfl | rfl | rfl | rfl | rfl | rfl | rfl | rfl | rfl | rfl | rfl | rfl | rfl
 · exact .inl b299
 · exact .inl b244
 · exact .inl b15
 · exact .inl b310
 · exact .inl b312
 · exact .inl b254
 · exact .inl b69
 · exact .inl b72
 · exact .inl b63
 · exact .inl b248
 · exact .inl b252
 · exact .inl b245
 · exact .inl b306
 · exact .inl b26
 · exact .inl b335
 · exact .inl b336
 · exact .inl b337
 · exact .inl b270
 · exact .inl b263
 · exact .inl b249
 · exact .inl b62
 · exact .inl b257
 · exact .inl b258
 · exact .inl b259
 · exact .inl b260
 · exact .inl b264
 · exact .inl b265
 · exact .inl b32
 · exact .inl b68
 · exact .inl b27
 · exact .inl b67
 · exact .inl b179
 · exact .inl b176
 · exact .inl b325
 · exact .inl b326
 · exact .inl b327
 · exact .inl b307
 · exact .inl b34
 · exact .inl b162
 · exact .inl b145
 · exact .inl b359
 · exact .inl b247
 · exact .inl b246
 · exact .inl b194
 · exact .inl b256
 · exact .inl b261
 · exact .inl b262
 · exact .inl b79
 · exact .inl b106
 · exact .inl b348
 · exact .inl b175
 · exact .inl b349
 · exact .inl b350
 · exact .inl b351
 · exact .inl b352
 · exact .inl b196
 · exact .inl b198
 · exact .inl b71
 · exact .inl b48
 · exact .inl b374
 · exact .inl b112
 · exact .inl b201
 · exact .inl b238
 · exact .inl b20
 · exact .inl b361
 · exact .inl b207
 · exact .inl b362
 · exact .inl b363
 · exact .inl b222
 · exact .inl b216
 · exact .inl b118
 · exact .inl b119
 · exact .inl b120
 · exact .inl b121
 · exact .inl b122
 · exact .inl b123
 · exact .inl b181
 · exact .inl b240
 · exact .inl b57
 · exact .inl b59
 · exact .inl b208
 · exact .inl b375
 · exact .inl b191
 · exact .inl b376
 · exact .inl b46
 · exact .inl b377
 · exact .inl b378
 · exact .inl b193
 · exact .inl b56
 · exact .inl b117
 · exact .inl b125
 · exact .inl b126
 · exact .inl b127
 · exact .inl b128
 · exact .inl b129
 · exact .inl b130
 · exact .inl b131
 · exact .inl b132
 · exact .inl b133
 · exact .inl b134
 · exact .inl b52
 · exact .inl b135
 · exact .inl b136
 · exact .inl b99
 · exact .inl b95
 · exact .inl b388
 · exact .inl b381
 · exact .inl b22
 · exact .inl b389
 · exact .inl b221
 · exact .inl b109
 · exact .inl b111
 · exact .inl b124
 · exact .inl b110
 · exact .inl b77
 · exact .inl b78
 · exact .inl b137
 · exact .inl b138
 · exact .inl b139
 · exact .inl b140
 · exact .inl b141
 · exact .inl b142
 · exact .inl b143
 · exact .inl b144
 · exact .inl b386
 · exact .inl b393
 · exact .inl b394
 · exact .inl b385
 · exact .inl b355
 · exact .inl b358
 · exact .inl b395
 · exact .inl b108
 · exact .inl b146
 · exact .inl b392
 · exact .inl b391
 · exact .inl b371
 · exact .inl b373
 · exact .inl b396
 · exact .inl b397
 · exact .inl b398
 · exact .inl b372
 · exact .inl b387
 · exact .inr (.inr b311)
 · exact .inr (.inr b255)
 · exact .inr (.inr b269)
theorem look_memI {α:Type} {t:Nat} {v:α}:∀{l:List (Nat×α)},look l t=some v→(t,v)∈l
 | [],h=>by simp [look] at h
 | (k,u)::r,h=>by
   simp only [look] at h
   split at h
   · rename_i e;cases h;subst e;exact List.mem_cons_self
   · exact List.mem_cons_of_mem _ (look_memI h)
theorem backs_ok:rC Tryz.prog ns:=by
 intro gb sz ag h f hf
 simp [look,ns] at h
theorem clones_ok:∀g sz bytes f,look ns.cl g=some (sz,bytes)→ns.of f=some g→Nonempty (sY Tryz.prog ns f sz bytes):=by
 intro g sz bytes f h hf
 simp [look,ns] at h
theorem impl:Impl Tryz.prog ns AP:=⟨by kernel_rfl,fun f g h=>(all_bear (f,g) (look_memI h)).imp id (Or.elim · (fun ⟨h1,h2⟩=>⟨h1,.inl h2⟩) (fun ⟨h1,h2⟩=>⟨h1,.inr h2⟩)),backs_ok,clones_ok⟩
end Go.Ab
