import Derived.Test.YtfhhognolpjikaaGreatRows
import Derived.Test.YtfhhognolpjikaaGreatCodeA
import Derived.Test.YtfhhognolpjikaaGreatAbDat
import Derived.Test.YtfhhognolpjikaaGreatAbBridge
/-
  Each function of the given program that has slim code bears just that code: the kernel translates it anew and compares.
-/
set_option linter.unusedVariables false
set_option linter.unusedSimpArgs false
set_option maxRecDepth 100000
set_option maxHeartbeats 8000000
namespace Go.Ab
open Proofs
def ns:Names:=⟨[(3,399),(4,400),(5,401),(6,15),(7,310),(8,402),(9,26),(10,403),(11,353),(12,145),(13,404),(14,405),(15,406),(16,32),(17,407),(18,408),(19,306),(20,335),(21,374),(22,188),(23,214),(24,185),(25,195),(26,409),(27,189),(28,364),(29,365),(30,186),(31,196),(32,366),(33,410),(34,411),(35,412),(36,413),(37,414),(38,190),(39,415),(40,250),(41,79),(42,416),(43,417),(44,418),(45,419),(46,68),(47,27),(48,67),(49,179),(50,176),(51,325),(52,326),(53,327),(54,307),(55,34),(56,162),(57,359),(58,247),(59,223),(60,215),(62,216),(63,217),(64,222),(65,191),(66,379),(67,380),(68,421),(70,118),(71,119),(72,134),(73,139),(74,135),(75,136),(76,112),(77,62),(78,69),(79,106),(80,348),(81,194),(82,175),(83,349),(84,350),(85,351),(86,352),(87,198),(88,71),(89,48),(90,390),(91,117),(92,125),(93,126),(94,132),(95,128),(96,127),(97,140),(98,141),(99,142),(100,143),(101,144),(102,120),(103,121),(104,122),(105,123),(106,201),(107,238),(108,20),(109,361),(110,207),(111,362),(112,363),(113,72),(114,109),(115,111),(116,124),(117,110),(118,77),(119,78),(120,137),(121,138),(122,129),(123,146),(124,133),(125,52),(126,130),(127,131),(128,181),(129,240),(130,57),(131,59),(132,208),(133,375),(134,376),(135,46),(136,377),(137,378),(138,193),(139,56),(140,108),(141,99),(142,95),(143,63),(144,388),(145,381),(146,22),(147,389),(148,221),(149,386),(150,393),(151,394),(152,385),(153,355),(154,358),(155,395),(156,392),(157,391),(158,371),(159,373),(160,396),(161,397),(162,398),(163,372),(164,387),(61,420),(69,422)],
 [412,413,416,417,418,68,27,326,162,247,421,119,134,139,348,175,349,350,352,126,132,128,127,140,141,120,121,122,129,133,130,131,240,387],[],[(420,1,16),(422,11,152)]⟩
def eN:Code→aw→List (Nat×List Nat)
 | .region i _ _,.ae _ l=>[(i,l)]
 | .region i _ _,.seq _ (.ae _ l)=>[(i,l)]
 | .seq a b,.seq x y=>eN a x++eN b y
 | .cond _ a b,.cond _ x y=>eN a x++eN b y
 | .block _ a,.block _ x=>eN a x
 | .loop a,.loop _ x=>eN a x
 | .rangeFunc _ _ a b,.back _ _ _ _ _ _ _ x y=>eN a x++eN b y
 | _,_=>[]
def lp1 (o:Option Nat) (l:List Nat):List (Nat×List Nat):=match o with | some i=>[(i,l)] | none=>[]
def lps:Code→aw→List (Nat×List Nat)
 | .seq a b,.seq x y=>lps a x++lps b y
 | .cond _ a b,.cond _ x y=>lps a x++lps b y
 | .block _ a,.block _ x=>lps a x
 | .loop a,.loop l x=>lp1 (iG a) l++lps a x
 | .rangeFunc _ _ a b,.back _ _ _ _ _ _ l x y=>lp1 (iG a) l++lps a x++lps b y
 | _,_=>[]
def An (fn:Func) (af:aJ) (p:List (Nat×Nat×Nat)) (s h si:List Nat) (ow:List (Nat×List Nat)) (bk:List (Nat×Nat)) (ks:Bool) (q ho:List Nat) (fz:List (Nat×List Nat)):nO:=
 ⟨p,s,h,eN (fn.body.getD .skip) af.body,lps (fn.body.getD .skip) af.body,si,ow,bk,ks,q,ho,fz⟩
def Bears (P:Program) (q:Nat×Nat):Prop:=∃fn A af,P.funcs[q.1]?=some fn∧qk P ns A fn=some af∧AP q.2=some af
def Bare (P:Program) (q:Nat×Nat):Prop:=(∃fn b,P.funcs[q.1]?=some fn∧fn.body=some b∧fn.name ≠ "runtime.NumGoroutine")∧AP q.2=none
theorem b399:Bears Tryz.prog (3,399):=⟨_,An Tryz.f3 g399 [(9,9,0),(22,9,1),(28,9,1),(36,9,1),(39,9,1),(51,9,1),(60,9,1),(62,9,1),(69,9,1),(78,9,1),(80,9,1),(82,9,1),(86,9,1),(96,9,0),(101,9,0),(104,9,0)] [43,65,84,88] [106,108] [20] [] [] false [] [] [(18,[9])],g399,Tryz.func3,by kernel_rfl,rfl⟩
theorem b400:Bears Tryz.prog (4,400):=⟨_,An Tryz.f4 g400 [(9,9,0),(10,10,0),(12,12,0),(32,9,1),(37,9,1),(40,9,1),(46,10,9),(74,10,9),(79,9,1),(86,9,1),(94,9,0)] [] [98] [77] [] [] false [] [93] [(23,[16])],g400,Tryz.func4,by kernel_rfl,rfl⟩
theorem b401:Bears Tryz.prog (5,401):=⟨_,An Tryz.f5 g401 [(1,1,0)] [] [] [] [] [] false [] [] [],g401,Tryz.func5,by kernel_rfl,rfl⟩
theorem b15:Bears Tryz.prog (6,15):=⟨_,An Tryz.f6 g15 [] [] [] [] [] [] false [] [] [],g15,Tryz.func6,by kernel_rfl,rfl⟩
theorem b310:Bears Tryz.prog (7,310):=⟨_,An Tryz.f7 g310 [(6,6,0),(7,7,0)] [] [] [11,22] [] [] true [] [] [],g310,Tryz.func7,by kernel_rfl,rfl⟩
theorem b402:Bears Tryz.prog (8,402):=⟨_,An Tryz.f8 g402 [(2,2,0),(4,4,0),(10,2,1),(13,2,5),(16,2,5),(20,2,5),(26,2,5)] [45] [54] [18] [] [] false [] [15] [],g402,Tryz.func8,by kernel_rfl,rfl⟩
theorem b26:Bears Tryz.prog (9,26):=⟨_,An Tryz.f9 g26 [] [] [] [] [] [] false [] [] [],g26,Tryz.func9,by kernel_rfl,rfl⟩
theorem b403:Bears Tryz.prog (10,403):=⟨_,An Tryz.f10 g403 [(1,1,0),(2,2,0),(3,3,0),(6,6,0),(9,9,0),(10,1,0),(13,3,0),(17,1,1),(25,6,2),(28,6,0),(31,6,3),(33,1,0),(35,6,4),(37,6,4),(44,6,0),(48,6,1),(51,6,2),(55,1,0),(58,6,9),(61,9,0),(66,6,2)] [] [] [] [] [] false [] [] [],g403,Tryz.func10,by kernel_rfl,rfl⟩
theorem b353:Bears Tryz.prog (11,353):=⟨_,An Tryz.f11 g353 [(1,1,0),(2,2,0),(3,3,0),(6,6,0),(9,9,0),(10,1,0),(13,3,0),(18,1,1),(24,1,1),(30,6,2),(33,6,0),(36,6,3),(38,1,0),(40,6,4),(42,6,4),(49,6,0),(54,6,1),(57,6,2),(61,1,0),(64,6,9),(67,9,0),(72,6,2)] [] [] [] [] [] false [] [] [],g353,Tryz.func11,by kernel_rfl,rfl⟩
theorem b145:Bears Tryz.prog (12,145):=⟨_,An Tryz.f12 g145 [(1,1,0),(5,1,4),(9,1,5),(16,1,5)] [20] [] [] [] [] true [] [7,23] [],g145,Tryz.func12,by kernel_rfl,rfl⟩
theorem b404:Bears Tryz.prog (13,404):=⟨_,An Tryz.f13 g404 [(2,2,0),(5,5,0)] [11] [] [36] [(36,[0])] [] true [] [40] [],g404,Tryz.func13,by kernel_rfl,rfl⟩
theorem b405:Bears Tryz.prog (14,405):=⟨_,An Tryz.f14 g405 [(5,5,0),(6,6,0),(7,7,0),(13,13,0),(14,14,0),(15,5,0),(20,5,2),(24,5,1),(31,5,2),(39,5,1),(50,5,6),(56,5,1),(59,7,0),(79,14,0)] [] [] [] [] [] false [] [] [],g405,Tryz.func14,by kernel_rfl,rfl⟩
theorem b406:Bears Tryz.prog (15,406):=⟨_,An Tryz.f15 g406 [(2,2,0),(3,3,0),(4,4,0)] [] [] [] [] [] false [] [] [],g406,Tryz.func15,by kernel_rfl,rfl⟩
theorem b32:Bears Tryz.prog (16,32):=⟨_,An Tryz.f16 g32 [] [] [] [] [] [] false [] [] [],g32,Tryz.func16,by kernel_rfl,rfl⟩
theorem b407:Bears Tryz.prog (17,407):=⟨_,An Tryz.f17 g407 [] [] [] [] [] [] false [] [] [],g407,Tryz.func17,by kernel_rfl,rfl⟩
theorem b408:Bears Tryz.prog (18,408):=⟨_,An Tryz.f18 g408 [] [] [] [] [] [] false [] [] [],g408,Tryz.func18,by kernel_rfl,rfl⟩
theorem b306:Bears Tryz.prog (19,306):=⟨_,An Tryz.f19 g306 [(4,4,0),(6,6,0),(10,10,0),(11,11,0),(13,13,0),(14,14,0),(38,6,0),(46,6,0),(52,10,3),(53,10,3),(56,10,4),(58,10,1),(61,10,2),(68,6,0),(74,10,9),(80,10,3),(84,10,9),(88,10,9),(96,10,2),(100,6,1),(105,6,1)] [] [] [] [] [] true [] [104] [],g306,Tryz.func19,by kernel_rfl,rfl⟩
theorem b335:Bears Tryz.prog (20,335):=⟨_,An Tryz.f20 g335 [(2,2,0),(4,4,0),(8,8,0),(12,12,0),(16,2,1),(26,2,1),(30,2,1),(60,2,1),(63,12,1),(65,12,1),(68,2,1),(76,2,0)] [34] [] [] [] [] true [] [62] [(15,[2])],g335,Tryz.func20,by kernel_rfl,rfl⟩
theorem b374:Bears Tryz.prog (21,374):=⟨_,An Tryz.f21 g374 [(2,2,0),(4,4,0),(6,6,0),(8,2,4),(14,2,5),(25,2,5),(28,6,4),(29,6,5),(31,6,5),(37,6,5)] [] [] [] [] [] false [] [27] [],g374,Tryz.func21,by kernel_rfl,rfl⟩
theorem b188:Bears Tryz.prog (22,188):=⟨_,An Tryz.f22 g188 [(2,2,0),(6,6,0),(11,11,0),(13,13,0),(15,15,0),(17,17,0),(29,6,1),(33,6,1),(35,6,2),(45,6,2),(54,6,0),(57,6,3),(65,11,1),(68,11,0),(72,11,1),(82,13,3),(89,15,2),(98,13,2),(104,15,0)] [] [] [] [] [] false [] [] [],g188,Tryz.func22,by kernel_rfl,rfl⟩
theorem b214:Bears Tryz.prog (23,214):=⟨_,An Tryz.f23 g214 [] [] [] [] [] [] false [] [] [],g214,Tryz.func23,by kernel_rfl,rfl⟩
theorem b185:Bears Tryz.prog (24,185):=⟨_,An Tryz.f24 g185 [(4,4,0),(10,10,0),(12,4,0),(17,4,1),(25,4,1),(33,4,4),(37,4,4)] [] [] [] [] [] false [] [] [],g185,Tryz.func24,by kernel_rfl,rfl⟩
theorem b195:Bears Tryz.prog (25,195):=⟨_,An Tryz.f25 g195 [(1,1,0),(5,5,0),(8,1,0),(12,1,1),(16,1,4)] [] [] [] [] [] false [] [] [],g195,Tryz.func25,by kernel_rfl,rfl⟩
theorem b409:Bears Tryz.prog (26,409):=⟨_,An Tryz.f26 g409 [] [] [] [6] [] [] false [] [] [],g409,Tryz.func26,by kernel_rfl,rfl⟩
theorem b189:Bears Tryz.prog (27,189):=⟨_,An Tryz.f27 g189 [(2,2,0),(6,6,0),(12,12,0),(25,6,1),(30,6,1),(36,6,2),(44,6,2),(48,6,2),(57,6,0),(61,6,1),(66,6,3),(73,6,3),(81,6,3),(89,6,3),(122,12,2),(129,12,2),(143,12,0)] [] [] [] [] [] false [] [] [],g189,Tryz.func27,by kernel_rfl,rfl⟩
theorem b364:Bears Tryz.prog (28,364):=⟨_,An Tryz.f28 g364 [] [] [] [] [] [] false [] [] [],g364,Tryz.func28,by kernel_rfl,rfl⟩
theorem b365:Bears Tryz.prog (29,365):=⟨_,An Tryz.f29 g365 [(4,4,0)] [] [] [] [] [] false [] [] [],g365,Tryz.func29,by kernel_rfl,rfl⟩
theorem b186:Bears Tryz.prog (30,186):=⟨_,An Tryz.f30 g186 [(4,4,0),(11,4,0),(16,4,1),(24,4,1),(32,4,4),(37,4,4),(44,4,4)] [] [] [] [] [] false [] [] [],g186,Tryz.func30,by kernel_rfl,rfl⟩
theorem b196:Bears Tryz.prog (31,196):=⟨_,An Tryz.f31 g196 [(1,1,0)] [] [] [4] [(4,[0])] [] false [] [] [],g196,Tryz.func31,by kernel_rfl,rfl⟩
theorem b366:Bears Tryz.prog (32,366):=⟨_,An Tryz.f32 g366 [(5,5,0),(6,6,0),(7,7,0),(15,5,0),(20,5,2),(24,5,1),(31,5,2),(39,5,1),(50,5,6),(56,5,1),(66,7,0)] [] [] [] [] [] false [] [] [],g366,Tryz.func32,by kernel_rfl,rfl⟩
theorem b410:Bears Tryz.prog (33,410):=⟨_,An Tryz.f33 g410 [(2,2,0),(4,4,0)] [] [] [] [] [] false [] [] [],g410,Tryz.func33,by kernel_rfl,rfl⟩
theorem b411:Bears Tryz.prog (34,411):=⟨_,An Tryz.f34 g411 [(2,2,0),(5,2,0),(10,2,2),(17,2,2),(23,2,4),(27,2,5),(30,2,4)] [] [] [] [] [] false [] [] [],g411,Tryz.func34,by kernel_rfl,rfl⟩
theorem b412:Bears Tryz.prog (35,412):=⟨_,An Tryz.f35 g412 [] [24] [] [] [] [] true [] [38,41] [],g412,Tryz.func35,by kernel_rfl,rfl⟩
theorem b413:Bears Tryz.prog (36,413):=⟨_,An Tryz.f36 g413 [] [1] [] [] [] [] false [] [] [],g413,Tryz.func36,by kernel_rfl,rfl⟩
theorem b414:Bears Tryz.prog (37,414):=⟨_,An Tryz.f37 g414 [(1,1,0),(5,5,0),(6,1,4),(9,1,5),(17,5,3)] [] [] [8] [] [] false [] [] [],g414,Tryz.func37,by kernel_rfl,rfl⟩
theorem b190:Bears Tryz.prog (38,190):=⟨_,An Tryz.f38 g190 [(8,8,0),(10,10,0),(18,8,3),(26,10,1)] [] [] [] [] [] false [] [] [],g190,Tryz.func38,by kernel_rfl,rfl⟩
theorem b415:Bears Tryz.prog (39,415):=⟨_,An Tryz.f39 g415 [(3,3,0),(4,4,0),(6,6,0),(13,13,0),(16,3,5),(25,6,1),(33,6,0),(39,3,5),(46,3,1),(49,3,5),(57,13,2),(71,13,0),(74,13,2),(82,13,2),(88,13,0)] [] [] [] [] [] false [] [] [],g415,Tryz.func39,by kernel_rfl,rfl⟩
theorem b250:Bears Tryz.prog (40,250):=⟨_,An Tryz.f40 g250 [(2,2,0),(3,3,0),(5,5,0),(7,7,0),(15,5,0)] [26,35,40] [] [] [] [] false [] [] [],g250,Tryz.func40,by kernel_rfl,rfl⟩
theorem b79:Bears Tryz.prog (41,79):=⟨_,An Tryz.f41 g79 [(1,1,0),(2,2,0),(7,1,0)] [] [] [] [] [] false [] [] [],g79,Tryz.func41,by kernel_rfl,rfl⟩
theorem b416:Bears Tryz.prog (42,416):=⟨_,An Tryz.f42 g416 [] [14] [] [] [] [] false [] [] [],g416,Tryz.func42,by kernel_rfl,rfl⟩
theorem b417:Bears Tryz.prog (43,417):=⟨_,An Tryz.f43 g417 [(2,2,0),(4,2,3)] [1] [] [] [] [] false [] [] [],g417,Tryz.func43,by kernel_rfl,rfl⟩
theorem b418:Bears Tryz.prog (44,418):=⟨_,An Tryz.f44 g418 [(8,8,0),(9,9,0)] [20,24] [] [] [] [] false [] [] [],g418,Tryz.func44,by kernel_rfl,rfl⟩
theorem b419:Bears Tryz.prog (45,419):=⟨_,An Tryz.f45 g419 [(2,2,0),(3,3,0),(5,2,1),(7,3,1)] [] [] [] [] [] false [] [] [],g419,Tryz.func45,by kernel_rfl,rfl⟩
theorem b68:Bears Tryz.prog (46,68):=⟨_,An Tryz.f46 g68 [] [7,11,17,24,28] [] [] [] [] false [] [] [],g68,Tryz.func46,by kernel_rfl,rfl⟩
theorem b27:Bears Tryz.prog (47,27):=⟨_,An Tryz.f47 g27 [(8,8,0),(10,10,0),(13,13,0),(62,10,2),(77,10,1)] [29,59] [] [] [] [] false [] [] [],g27,Tryz.func47,by kernel_rfl,rfl⟩
theorem b67:Bears Tryz.prog (48,67):=⟨_,An Tryz.f48 g67 [] [] [] [] [] [] false [] [] [],g67,Tryz.func48,by kernel_rfl,rfl⟩
theorem b179:Bears Tryz.prog (49,179):=⟨_,An Tryz.f49 g179 [(5,5,0)] [] [] [] [] [] false [] [] [],g179,Tryz.func49,by kernel_rfl,rfl⟩
theorem b176:Bears Tryz.prog (50,176):=⟨_,An Tryz.f50 g176 [(1,1,0),(2,2,0)] [] [] [] [] [] false [] [] [],g176,Tryz.func50,by kernel_rfl,rfl⟩
theorem b325:Bears Tryz.prog (51,325):=⟨_,An Tryz.f51 g325 [(1,1,0),(2,2,0),(3,3,0),(4,4,0)] [] [] [] [] [] false [] [] [],g325,Tryz.func51,by kernel_rfl,rfl⟩
theorem b326:Bears Tryz.prog (52,326):=⟨_,An Tryz.f52 g326 [(8,8,0),(10,10,0),(11,11,0),(12,12,0),(16,16,0),(17,17,0)] [] [53] [] [] [] false [] [] [],g326,Tryz.func52,by kernel_rfl,rfl⟩
theorem b327:Bears Tryz.prog (53,327):=⟨_,An Tryz.f53 g327 [(2,2,0),(4,4,0),(5,5,0),(7,7,0)] [] [] [] [] [] false [] [] [],g327,Tryz.func53,by kernel_rfl,rfl⟩
theorem b307:Bears Tryz.prog (54,307):=⟨_,An Tryz.f54 g307 [(2,2,0),(7,2,0)] [] [] [] [] [] false [] [] [],g307,Tryz.func54,by kernel_rfl,rfl⟩
theorem b34:Bears Tryz.prog (55,34):=⟨_,An Tryz.f55 g34 [(0,0,0)] [] [] [] [] [] false [] [] [],g34,Tryz.func55,by kernel_rfl,rfl⟩
theorem b162:Bears Tryz.prog (56,162):=⟨_,An Tryz.f56 g162 [] [5,9] [] [] [] [] false [] [] [],g162,Tryz.func56,by kernel_rfl,rfl⟩
theorem b359:Bears Tryz.prog (57,359):=⟨_,An Tryz.f57 g359 [(3,3,0),(5,5,0),(6,6,0),(9,9,0)] [35] [54] [16] [] [] false [] [] [],g359,Tryz.func57,by kernel_rfl,rfl⟩
theorem b247:Bears Tryz.prog (58,247):=⟨_,An Tryz.f58 g247 [(6,6,0),(8,8,0),(9,9,0),(12,12,0),(13,13,0),(14,14,0),(16,16,0),(48,8,3),(51,8,3),(158,13,3),(164,13,3),(172,13,3),(182,16,2),(188,16,2),(194,16,3),(195,14,5),(200,14,5)] [46,148] [] [] [] [] false [] [] [],g247,Tryz.func58,by kernel_rfl,rfl⟩
theorem b223:Bears Tryz.prog (59,223):=⟨_,An Tryz.f59 g223 [] [] [] [] [] [] false [] [] [],g223,Tryz.func59,by kernel_rfl,rfl⟩
theorem b215:Bears Tryz.prog (60,215):=⟨_,An Tryz.f60 g215 [(7,7,0),(19,7,1),(23,7,2)] [] [] [] [] [] false [] [] [],g215,Tryz.func60,by kernel_rfl,rfl⟩
theorem b216:Bears Tryz.prog (62,216):=⟨_,An Tryz.f62 g216 [] [] [] [] [] [] false [] [] [],g216,Tryz.func62,by kernel_rfl,rfl⟩
theorem b217:Bears Tryz.prog (63,217):=⟨_,An Tryz.f63 g217 [] [] [] [] [] [] false [] [] [],g217,Tryz.func63,by kernel_rfl,rfl⟩
theorem b222:Bears Tryz.prog (64,222):=⟨_,An Tryz.f64 g222 [(3,3,0),(6,3,0),(11,3,1),(17,3,1),(22,3,4),(29,3,4)] [] [] [34] [(34,[0])] [] false [] [] [],g222,Tryz.func64,by kernel_rfl,rfl⟩
theorem b191:Bears Tryz.prog (65,191):=⟨_,An Tryz.f65 g191 [] [] [] [] [] [] false [] [] [],g191,Tryz.func65,by kernel_rfl,rfl⟩
theorem b379:Bears Tryz.prog (66,379):=⟨_,An Tryz.f66 g379 [(3,3,0),(4,4,0),(15,3,5),(23,3,5),(35,3,5),(44,3,5),(51,3,1),(55,3,5),(61,3,5),(80,3,5),(101,3,5)] [] [] [] [] [] false [] [] [],g379,Tryz.func66,by kernel_rfl,rfl⟩
theorem b380:Bears Tryz.prog (67,380):=⟨_,An Tryz.f67 g380 [(2,2,0),(6,2,0),(9,2,0),(12,2,0),(19,2,2),(23,2,0),(30,2,5)] [] [] [] [] [] false [] [] [],g380,Tryz.func67,by kernel_rfl,rfl⟩
theorem b421:Bears Tryz.prog (68,421):=⟨_,An Tryz.f68 g421 [] [14] [] [] [] [] false [] [] [],g421,Tryz.func68,by kernel_rfl,rfl⟩
theorem b118:Bears Tryz.prog (70,118):=⟨_,An Tryz.f70 g118 [(3,3,0)] [] [] [] [] [] false [] [] [],g118,Tryz.func70,by kernel_rfl,rfl⟩
theorem b119:Bears Tryz.prog (71,119):=⟨_,An Tryz.f71 g119 [] [] [] [] [] [] false [] [] [],g119,Tryz.func71,by kernel_rfl,rfl⟩
theorem b134:Bears Tryz.prog (72,134):=⟨_,An Tryz.f72 g134 [(2,2,0),(7,7,0),(8,8,0),(9,9,0),(101,8,1)] [21,41,50,71,77,81,89,93] [] [] [] [] false [] [] [],g134,Tryz.func72,by kernel_rfl,rfl⟩
theorem b139:Bears Tryz.prog (73,139):=⟨_,An Tryz.f73 g139 [(2,2,0),(55,2,2),(57,2,1)] [5,13,17,24,28,38,44,48] [] [] [] [] false [] [] [],g139,Tryz.func73,by kernel_rfl,rfl⟩
theorem b135:Bears Tryz.prog (74,135):=⟨_,An Tryz.f74 g135 [(1,1,0)] [] [] [] [] [] false [] [] [],g135,Tryz.func74,by kernel_rfl,rfl⟩
theorem b136:Bears Tryz.prog (75,136):=⟨_,An Tryz.f75 g136 [(1,1,0),(10,1,5),(16,1,5),(24,1,5)] [] [] [] [] [] false [] [] [],g136,Tryz.func75,by kernel_rfl,rfl⟩
theorem b112:Bears Tryz.prog (76,112):=⟨_,An Tryz.f76 g112 [(2,2,0),(3,3,0),(5,5,0),(6,6,0),(13,5,0),(36,6,0),(42,6,0),(43,6,1),(49,6,1),(62,5,0)] [22,28,52,57] [] [] [] [] true [] [] [],g112,Tryz.func76,by kernel_rfl,rfl⟩
theorem b62:Bears Tryz.prog (77,62):=⟨_,An Tryz.f77 g62 [(4,4,0)] [] [] [] [] [] false [] [] [],g62,Tryz.func77,by kernel_rfl,rfl⟩
theorem b69:Bears Tryz.prog (78,69):=⟨_,An Tryz.f78 g69 [(2,2,0),(3,3,0),(4,4,0)] [] [] [] [] [] false [] [] [],g69,Tryz.func78,by kernel_rfl,rfl⟩
theorem b106:Bears Tryz.prog (79,106):=⟨_,An Tryz.f79 g106 [(2,2,0)] [] [] [] [] [] false [] [] [],g106,Tryz.func79,by kernel_rfl,rfl⟩
theorem b348:Bears Tryz.prog (80,348):=⟨_,An Tryz.f80 g348 [(7,7,0),(8,8,0)] [] [15] [] [] [] false [] [] [],g348,Tryz.func80,by kernel_rfl,rfl⟩
theorem b194:Bears Tryz.prog (81,194):=⟨_,An Tryz.f81 g194 [(1,1,0),(2,2,0),(3,3,0),(5,1,0),(9,1,1),(14,1,4),(19,1,4),(23,1,4)] [] [] [] [] [] false [] [] [],g194,Tryz.func81,by kernel_rfl,rfl⟩
theorem b175:Bears Tryz.prog (82,175):=⟨_,An Tryz.f82 g175 [] [] [] [] [] [] false [] [] [],g175,Tryz.func82,by kernel_rfl,rfl⟩
theorem b349:Bears Tryz.prog (83,349):=⟨_,An Tryz.f83 g349 [(8,8,0),(10,10,0),(15,15,0),(17,17,0),(18,18,0)] [] [43,69] [] [] [] false [] [] [],g349,Tryz.func83,by kernel_rfl,rfl⟩
theorem b350:Bears Tryz.prog (84,350):=⟨_,An Tryz.f84 g350 [(8,8,0),(10,10,0),(11,11,0),(14,14,0),(18,18,0),(38,11,2),(53,11,1),(63,11,3),(71,11,3),(81,11,3),(100,18,2),(105,18,2),(121,18,3),(122,14,5),(127,14,5)] [35] [78,113] [] [] [] false [] [] [],g350,Tryz.func84,by kernel_rfl,rfl⟩
theorem b351:Bears Tryz.prog (85,351):=⟨_,An Tryz.f85 g351 [(2,2,0),(6,2,0),(11,2,4),(17,2,4)] [] [] [] [] [] false [] [] [],g351,Tryz.func85,by kernel_rfl,rfl⟩
theorem b352:Bears Tryz.prog (86,352):=⟨_,An Tryz.f86 g352 [(8,8,0),(10,10,0),(12,12,0),(13,13,0),(15,15,0),(35,12,0),(38,12,1),(40,13,0),(42,12,2),(48,12,2)] [] [19] [] [] [] false [] [] [],g352,Tryz.func86,by kernel_rfl,rfl⟩
theorem b198:Bears Tryz.prog (87,198):=⟨_,An Tryz.f87 g198 [(2,2,0),(4,4,0),(6,6,0),(8,2,0),(12,2,1),(21,6,4),(23,2,4),(29,6,4),(31,2,4),(40,6,4)] [] [] [] [] [] false [] [] [],g198,Tryz.func87,by kernel_rfl,rfl⟩
theorem b71:Bears Tryz.prog (88,71):=⟨_,An Tryz.f88 g71 [(4,4,0)] [] [] [] [] [] false [] [] [],g71,Tryz.func88,by kernel_rfl,rfl⟩
theorem b48:Bears Tryz.prog (89,48):=⟨_,An Tryz.f89 g48 [(2,2,0),(4,4,0),(5,5,0),(7,2,0),(11,2,2),(16,2,2),(23,2,2),(28,5,4),(30,2,4),(36,5,4),(38,2,4),(47,5,4)] [] [] [] [] [] false [] [] [],g48,Tryz.func89,by kernel_rfl,rfl⟩
theorem b390:Bears Tryz.prog (90,390):=⟨_,An Tryz.f90 g390 [] [] [] [] [] [] false [] [] [],g390,Tryz.func90,by kernel_rfl,rfl⟩
theorem b117:Bears Tryz.prog (91,117):=⟨_,An Tryz.f91 g117 [] [] [] [] [] [] false [] [] [],g117,Tryz.func91,by kernel_rfl,rfl⟩
theorem b125:Bears Tryz.prog (92,125):=⟨_,An Tryz.f92 g125 [] [] [] [] [] [] false [] [] [],g125,Tryz.func92,by kernel_rfl,rfl⟩
theorem b126:Bears Tryz.prog (93,126):=⟨_,An Tryz.f93 g126 [] [5,9,15,19] [] [] [] [] false [] [] [],g126,Tryz.func93,by kernel_rfl,rfl⟩
theorem b132:Bears Tryz.prog (94,132):=⟨_,An Tryz.f94 g132 [] [10] [] [] [] [] false [] [] [],g132,Tryz.func94,by kernel_rfl,rfl⟩
theorem b128:Bears Tryz.prog (95,128):=⟨_,An Tryz.f95 g128 [] [13,20,24] [] [] [] [] false [] [] [],g128,Tryz.func95,by kernel_rfl,rfl⟩
theorem b127:Bears Tryz.prog (96,127):=⟨_,An Tryz.f96 g127 [] [] [] [] [] [] false [] [] [],g127,Tryz.func96,by kernel_rfl,rfl⟩
theorem b140:Bears Tryz.prog (97,140):=⟨_,An Tryz.f97 g140 [(4,4,0),(5,5,0),(6,6,0),(21,6,2),(27,6,2),(37,6,3),(38,5,5),(43,5,5)] [32] [] [] [] [] false [] [] [],g140,Tryz.func97,by kernel_rfl,rfl⟩
theorem b141:Bears Tryz.prog (98,141):=⟨_,An Tryz.f98 g141 [(2,2,0),(4,4,0),(5,5,0),(6,6,0)] [51] [] [] [] [] false [] [] [],g141,Tryz.func98,by kernel_rfl,rfl⟩
theorem b142:Bears Tryz.prog (99,142):=⟨_,An Tryz.f99 g142 [(1,1,0),(3,1,0),(11,1,1),(15,1,1),(20,1,1)] [] [] [] [] [] false [] [] [],g142,Tryz.func99,by kernel_rfl,rfl⟩
theorem b143:Bears Tryz.prog (100,143):=⟨_,An Tryz.f100 g143 [(1,1,0)] [] [] [] [] [] false [] [] [],g143,Tryz.func100,by kernel_rfl,rfl⟩
theorem b144:Bears Tryz.prog (101,144):=⟨_,An Tryz.f101 g144 [(1,1,0),(5,1,0),(9,1,6)] [] [] [] [] [] false [] [] [],g144,Tryz.func101,by kernel_rfl,rfl⟩
theorem b120:Bears Tryz.prog (102,120):=⟨_,An Tryz.f102 g120 [] [7,13,17,25,29,38,42,53,57] [] [] [] [] false [] [] [],g120,Tryz.func102,by kernel_rfl,rfl⟩
theorem b121:Bears Tryz.prog (103,121):=⟨_,An Tryz.f103 g121 [(2,2,0),(3,3,0),(4,4,0),(12,3,1),(15,3,2),(21,3,2),(36,4,2),(42,4,2),(43,3,3),(48,3,3)] [26] [] [] [] [] false [] [] [],g121,Tryz.func103,by kernel_rfl,rfl⟩
theorem b122:Bears Tryz.prog (104,122):=⟨_,An Tryz.f104 g122 [(2,2,0),(3,3,0),(11,3,1),(14,3,2),(17,3,3),(20,3,4),(30,3,9)] [25] [] [] [] [] false [] [] [],g122,Tryz.func104,by kernel_rfl,rfl⟩
theorem b123:Bears Tryz.prog (105,123):=⟨_,An Tryz.f105 g123 [(1,1,0),(2,2,0),(4,4,0),(7,7,0),(11,11,0),(15,1,0),(21,1,0),(29,4,2),(35,4,3),(40,4,0),(44,4,3),(50,4,3),(58,4,3),(65,1,1),(69,1,1),(76,1,0),(82,1,0),(88,7,3),(95,7,3),(105,7,3),(116,7,0),(120,1,1),(126,1,1),(131,11,3),(134,11,4),(140,11,9),(144,11,0),(148,11,9)] [] [] [] [] [] false [] [] [],g123,Tryz.func105,by kernel_rfl,rfl⟩
theorem b201:Bears Tryz.prog (106,201):=⟨_,An Tryz.f106 g201 [(5,5,0)] [] [] [] [] [] false [] [] [],g201,Tryz.func106,by kernel_rfl,rfl⟩
theorem b238:Bears Tryz.prog (107,238):=⟨_,An Tryz.f107 g238 [(2,2,0),(3,3,0),(7,2,0),(10,2,1),(14,2,0)] [] [] [] [] [] false [] [] [],g238,Tryz.func107,by kernel_rfl,rfl⟩
theorem b20:Bears Tryz.prog (108,20):=⟨_,An Tryz.f108 g20 [(2,2,0),(3,3,0),(5,2,0),(7,3,0),(11,2,1),(13,3,1),(18,2,2),(20,3,2),(25,2,3),(27,3,3),(31,2,4),(33,3,4)] [] [] [] [] [] false [] [] [],g20,Tryz.func108,by kernel_rfl,rfl⟩
theorem b361:Bears Tryz.prog (109,361):=⟨_,An Tryz.f109 g361 [(1,1,0),(2,2,0)] [] [] [] [] [] false [] [] [],g361,Tryz.func109,by kernel_rfl,rfl⟩
theorem b207:Bears Tryz.prog (110,207):=⟨_,An Tryz.f110 g207 [] [] [] [] [] [] false [] [] [],g207,Tryz.func110,by kernel_rfl,rfl⟩
theorem b362:Bears Tryz.prog (111,362):=⟨_,An Tryz.f111 g362 [(7,7,0),(11,11,0),(12,12,0),(14,14,0),(16,16,0),(20,20,0),(23,23,0)] [] [] [] [] [] false [] [] [],g362,Tryz.func111,by kernel_rfl,rfl⟩
theorem b363:Bears Tryz.prog (112,363):=⟨_,An Tryz.f112 g363 [(1,1,0),(2,2,0)] [] [] [] [] [] false [] [] [],g363,Tryz.func112,by kernel_rfl,rfl⟩
theorem b72:Bears Tryz.prog (113,72):=⟨_,An Tryz.f113 g72 [(2,2,0)] [] [] [] [] [] false [] [] [],g72,Tryz.func113,by kernel_rfl,rfl⟩
theorem b109:Bears Tryz.prog (114,109):=⟨_,An Tryz.f114 g109 [] [] [] [] [] [] false [] [] [],g109,Tryz.func114,by kernel_rfl,rfl⟩
theorem b111:Bears Tryz.prog (115,111):=⟨_,An Tryz.f115 g111 [] [] [] [] [] [] false [] [] [],g111,Tryz.func115,by kernel_rfl,rfl⟩
theorem b124:Bears Tryz.prog (116,124):=⟨_,An Tryz.f116 g124 [] [] [] [] [] [] false [] [] [],g124,Tryz.func116,by kernel_rfl,rfl⟩
theorem b110:Bears Tryz.prog (117,110):=⟨_,An Tryz.f117 g110 [] [] [] [] [] [] false [] [] [],g110,Tryz.func117,by kernel_rfl,rfl⟩
theorem b77:Bears Tryz.prog (118,77):=⟨_,An Tryz.f118 g77 [] [] [] [] [] [] false [] [] [],g77,Tryz.func118,by kernel_rfl,rfl⟩
theorem b78:Bears Tryz.prog (119,78):=⟨_,An Tryz.f119 g78 [] [] [] [] [] [] false [] [] [],g78,Tryz.func119,by kernel_rfl,rfl⟩
theorem b137:Bears Tryz.prog (120,137):=⟨_,An Tryz.f120 g137 [] [] [] [] [] [] false [] [] [],g137,Tryz.func120,by kernel_rfl,rfl⟩
theorem b138:Bears Tryz.prog (121,138):=⟨_,An Tryz.f121 g138 [] [] [] [] [] [] false [] [] [],g138,Tryz.func121,by kernel_rfl,rfl⟩
theorem b129:Bears Tryz.prog (122,129):=⟨_,An Tryz.f122 g129 [] [7,13,17,25,29] [] [] [] [] false [] [] [],g129,Tryz.func122,by kernel_rfl,rfl⟩
theorem b146:Bears Tryz.prog (123,146):=⟨_,An Tryz.f123 g146 [] [] [] [] [] [] false [] [] [],g146,Tryz.func123,by kernel_rfl,rfl⟩
theorem b133:Bears Tryz.prog (124,133):=⟨_,An Tryz.f124 g133 [(2,2,0),(3,3,0),(11,3,4),(17,3,4)] [] [] [8] [] [] false [] [] [],g133,Tryz.func124,by kernel_rfl,rfl⟩
theorem b52:Bears Tryz.prog (125,52):=⟨_,An Tryz.f125 g52 [(1,1,0),(6,1,4),(13,1,4)] [] [] [] [] [] false [] [] [],g52,Tryz.func125,by kernel_rfl,rfl⟩
theorem b130:Bears Tryz.prog (126,130):=⟨_,An Tryz.f126 g130 [] [] [] [] [] [] false [] [] [],g130,Tryz.func126,by kernel_rfl,rfl⟩
theorem b131:Bears Tryz.prog (127,131):=⟨_,An Tryz.f127 g131 [(2,2,0),(3,3,0)] [20] [] [15] [] [] false [] [] [],g131,Tryz.func127,by kernel_rfl,rfl⟩
theorem b181:Bears Tryz.prog (128,181):=⟨_,An Tryz.f128 g181 [(4,4,0)] [] [] [] [] [] false [] [] [],g181,Tryz.func128,by kernel_rfl,rfl⟩
theorem b240:Bears Tryz.prog (129,240):=⟨_,An Tryz.f129 g240 [(4,4,0),(5,5,0),(10,4,0),(14,4,2),(21,4,2),(26,4,2),(33,4,2),(36,4,2),(41,4,0),(43,5,0),(47,4,1),(49,5,1),(54,4,2),(56,5,2),(61,4,3),(63,5,3),(68,4,4),(71,5,4),(77,4,4),(83,4,4),(88,5,4)] [23,28] [] [] [] [] false [] [] [],g240,Tryz.func129,by kernel_rfl,rfl⟩
theorem b57:Bears Tryz.prog (130,57):=⟨_,An Tryz.f130 g57 [] [] [] [] [] [] false [] [] [],g57,Tryz.func130,by kernel_rfl,rfl⟩
theorem b59:Bears Tryz.prog (131,59):=⟨_,An Tryz.f131 g59 [] [] [] [16] [(16,[0])] [] false [] [] [],g59,Tryz.func131,by kernel_rfl,rfl⟩
theorem b208:Bears Tryz.prog (132,208):=⟨_,An Tryz.f132 g208 [(2,2,0),(4,4,0)] [] [] [] [] [] false [] [] [],g208,Tryz.func132,by kernel_rfl,rfl⟩
theorem b375:Bears Tryz.prog (133,375):=⟨_,An Tryz.f133 g375 [(1,1,0),(2,2,0),(3,3,0),(5,1,0),(9,1,3),(13,1,2),(18,3,4),(20,1,4),(26,3,4),(28,1,4),(36,3,4)] [] [] [] [] [] false [] [] [],g375,Tryz.func133,by kernel_rfl,rfl⟩
theorem b376:Bears Tryz.prog (134,376):=⟨_,An Tryz.f134 g376 [(3,3,0),(6,6,0),(12,12,0),(15,15,0)] [] [] [] [] [] false [] [] [],g376,Tryz.func134,by kernel_rfl,rfl⟩
theorem b46:Bears Tryz.prog (135,46):=⟨_,An Tryz.f135 g46 [(2,2,0),(4,4,0),(6,6,0),(8,2,0),(22,2,2),(32,6,4),(34,2,4),(40,6,4),(42,2,4),(51,6,4)] [] [] [] [] [] false [] [] [],g46,Tryz.func135,by kernel_rfl,rfl⟩
theorem b377:Bears Tryz.prog (136,377):=⟨_,An Tryz.f136 g377 [(3,3,0),(4,4,0),(5,3,0),(8,3,1)] [] [] [] [] [] false [] [] [],g377,Tryz.func136,by kernel_rfl,rfl⟩
theorem b378:Bears Tryz.prog (137,378):=⟨_,An Tryz.f137 g378 [(6,6,0),(7,7,0),(8,8,0),(11,11,0),(18,18,0),(41,18,3),(42,18,2)] [] [] [] [] [] false [] [] [],g378,Tryz.func137,by kernel_rfl,rfl⟩
theorem b193:Bears Tryz.prog (138,193):=⟨_,An Tryz.f138 g193 [(4,4,0),(9,9,0)] [] [] [] [] [] false [] [] [],g193,Tryz.func138,by kernel_rfl,rfl⟩
theorem b56:Bears Tryz.prog (139,56):=⟨_,An Tryz.f139 g56 [] [] [] [18] [(18,[0])] [] false [] [] [],g56,Tryz.func139,by kernel_rfl,rfl⟩
theorem b108:Bears Tryz.prog (140,108):=⟨_,An Tryz.f140 g108 [] [] [] [] [] [] false [] [] [],g108,Tryz.func140,by kernel_rfl,rfl⟩
theorem b99:Bears Tryz.prog (141,99):=⟨_,An Tryz.f141 g99 [(4,4,0),(9,4,0),(14,4,4),(37,4,4),(44,4,4)] [] [] [50] [(50,[0])] [] false [] [] [],g99,Tryz.func141,by kernel_rfl,rfl⟩
theorem b95:Bears Tryz.prog (142,95):=⟨_,An Tryz.f142 g95 [] [] [] [] [] [] false [] [] [],g95,Tryz.func142,by kernel_rfl,rfl⟩
theorem b63:Bears Tryz.prog (143,63):=⟨_,An Tryz.f143 g63 [(2,2,0)] [] [] [] [] [] false [] [] [],g63,Tryz.func143,by kernel_rfl,rfl⟩
theorem b388:Bears Tryz.prog (144,388):=⟨_,An Tryz.f144 g388 [(0,0,0)] [] [] [] [] [] false [] [] [],g388,Tryz.func144,by kernel_rfl,rfl⟩
theorem b381:Bears Tryz.prog (145,381):=⟨_,An Tryz.f145 g381 [(3,3,0),(6,6,0),(7,7,0),(9,9,0),(10,3,0),(13,3,0),(22,3,1),(29,9,1)] [] [] [] [] [] false [] [] [],g381,Tryz.func145,by kernel_rfl,rfl⟩
theorem b22:Bears Tryz.prog (146,22):=⟨_,An Tryz.f146 g22 [(3,3,0),(4,4,0)] [] [] [] [] [] false [] [] [],g22,Tryz.func146,by kernel_rfl,rfl⟩
theorem b389:Bears Tryz.prog (147,389):=⟨_,An Tryz.f147 g389 [(5,5,0),(6,6,0),(7,7,0),(15,15,0),(16,16,0),(17,17,0),(19,19,0),(20,20,0),(21,21,0),(22,22,0),(23,23,0),(25,25,0),(26,26,0),(31,31,0),(34,34,0),(37,6,0),(51,6,1),(63,17,0),(67,5,0),(69,17,2),(86,5,0),(88,17,2),(95,21,0),(96,21,1),(99,17,2),(105,21,1)] [] [] [198] [] [] false [] [] [],g389,Tryz.func147,by kernel_rfl,rfl⟩
theorem b221:Bears Tryz.prog (148,221):=⟨_,An Tryz.f148 g221 [(1,1,0),(2,2,0),(6,1,2),(17,1,1)] [] [] [] [] [] false [] [] [],g221,Tryz.func148,by kernel_rfl,rfl⟩
theorem b386:Bears Tryz.prog (149,386):=⟨_,An Tryz.f149 g386 [(2,2,0),(3,3,0),(4,4,0),(7,2,0),(18,2,0),(20,3,2)] [] [] [] [] [] false [] [] [],g386,Tryz.func149,by kernel_rfl,rfl⟩
theorem b393:Bears Tryz.prog (150,393):=⟨_,An Tryz.f150 g393 [(3,3,0),(5,5,0),(6,6,0),(8,8,0),(13,3,0),(19,3,0),(23,3,1),(27,3,0),(35,8,1),(36,8,0)] [] [] [] [] [] false [] [21] [(6,[8])],g393,Tryz.func150,by kernel_rfl,rfl⟩
theorem b394:Bears Tryz.prog (151,394):=⟨_,An Tryz.f151 g394 [(2,2,0),(3,3,0),(4,4,0),(5,5,0),(9,3,0),(12,2,0),(14,3,2),(18,5,7),(21,3,2)] [] [] [] [] [] false [] [] [],g394,Tryz.func151,by kernel_rfl,rfl⟩
theorem b385:Bears Tryz.prog (152,385):=⟨_,An Tryz.f152 g385 [(3,3,0),(4,4,0),(5,5,0),(6,6,0),(8,8,0)] [] [] [] [] [] false [] [] [],g385,Tryz.func152,by kernel_rfl,rfl⟩
theorem b355:Bears Tryz.prog (153,355):=⟨_,An Tryz.f153 g355 [(3,3,0),(4,4,0)] [] [] [] [] [] false [] [] [],g355,Tryz.func153,by kernel_rfl,rfl⟩
theorem b358:Bears Tryz.prog (154,358):=⟨_,An Tryz.f154 g358 [(2,2,0),(3,3,0),(4,4,0)] [] [] [] [] [] false [] [] [],g358,Tryz.func154,by kernel_rfl,rfl⟩
theorem b395:Bears Tryz.prog (155,395):=⟨_,An Tryz.f155 g395 [] [] [] [] [] [] false [] [] [],g395,Tryz.func155,by kernel_rfl,rfl⟩
theorem b392:Bears Tryz.prog (156,392):=⟨_,An Tryz.f156 g392 [(2,2,0),(3,3,0),(5,3,0),(9,3,2),(14,3,2),(16,2,0),(22,2,0),(24,3,2)] [] [] [] [] [] false [] [] [],g392,Tryz.func156,by kernel_rfl,rfl⟩
theorem b391:Bears Tryz.prog (157,391):=⟨_,An Tryz.f157 g391 [(3,3,0),(4,4,0),(5,5,0),(6,6,0),(8,8,0),(9,9,0),(47,8,2),(58,9,2),(65,8,0),(67,9,0),(71,8,1),(73,9,1),(78,8,2),(80,9,2),(85,8,3),(87,9,3),(92,8,4),(95,9,4),(102,8,4),(114,8,4),(119,9,4)] [] [] [] [] [] false [] [] [],g391,Tryz.func157,by kernel_rfl,rfl⟩
theorem b371:Bears Tryz.prog (158,371):=⟨_,An Tryz.f158 g371 [(3,3,0),(4,4,0),(13,4,4),(26,4,4)] [] [] [] [] [] false [] [] [],g371,Tryz.func158,by kernel_rfl,rfl⟩
theorem b373:Bears Tryz.prog (159,373):=⟨_,An Tryz.f159 g373 [(2,2,0),(3,3,0),(4,4,0),(5,5,0),(11,5,4),(13,3,4),(19,5,4),(22,3,4),(30,5,4)] [] [] [] [] [] false [] [] [],g373,Tryz.func159,by kernel_rfl,rfl⟩
theorem b396:Bears Tryz.prog (160,396):=⟨_,An Tryz.f160 g396 [(2,2,0),(3,3,0),(5,3,0),(9,3,2),(14,3,2),(16,2,0)] [] [] [] [] [] false [] [] [],g396,Tryz.func160,by kernel_rfl,rfl⟩
theorem b397:Bears Tryz.prog (161,397):=⟨_,An Tryz.f161 g397 [(3,3,0),(4,4,0),(5,5,0),(6,6,0),(9,9,0),(10,10,0),(11,4,2),(13,5,2),(17,4,2),(19,5,2),(22,4,2),(24,5,2),(27,3,0),(32,3,0),(37,9,6),(39,10,6),(42,9,7),(45,10,7),(48,9,6),(49,9,7),(52,10,0),(53,10,1)] [] [] [] [] [] false [] [] [],g397,Tryz.func161,by kernel_rfl,rfl⟩
theorem b398:Bears Tryz.prog (162,398):=⟨_,An Tryz.f162 g398 [(3,3,0),(5,5,0),(6,6,0),(8,8,0),(10,10,0),(11,11,0),(13,13,0),(19,19,0),(20,3,0),(41,8,7),(65,8,6),(79,3,0),(84,8,6),(99,3,0),(104,3,0),(113,8,6),(117,3,0),(125,8,6),(127,19,6),(139,8,0),(140,8,1)] [] [] [] [] [] false [] [] [],g398,Tryz.func162,by kernel_rfl,rfl⟩
theorem b372:Bears Tryz.prog (163,372):=⟨_,An Tryz.f163 g372 [(2,2,0),(8,2,0)] [28] [] [] [] [] false [] [] [],g372,Tryz.func163,by kernel_rfl,rfl⟩
theorem b387:Bears Tryz.prog (164,387):=⟨_,An Tryz.f164 g387 [(3,3,0),(5,3,0),(20,3,2),(29,3,2),(40,3,2),(49,3,2),(58,3,2),(65,3,4),(72,3,4)] [11,18,27,38,42,47,56] [] [] [] [] false [] [39,48] [],g387,Tryz.func164,by kernel_rfl,rfl⟩
theorem b420:Bare Tryz.prog (61,420):=⟨⟨Tryz.f61,uM Tryz.f61,Tryz.func61,by kernel_rfl,by decide⟩,rfl⟩
theorem b422:Bare Tryz.prog (69,422):=⟨⟨Tryz.f69,uM Tryz.f69,Tryz.func69,by kernel_rfl,by decide⟩,rfl⟩
theorem all_bear:∀q∈ns.g,Bears Tryz.prog q∨Bare Tryz.prog q:=by
 intro q hq
 simp only [ns,List.mem_cons,List.not_mem_nil,or_false] at hq
 rcases hq with rfl | rfl | rfl | rfl | rfl | rfl | rfl | rfl | rfl | rfl | rfl | rfl | rfl | rfl | rfl | rfl | rfl | rfl | rfl | rfl | rfl | rfl | rfl | rfl | rfl | rfl | rfl | rfl | rfl | rfl | rfl | rfl | rfl | rfl | rfl | rfl | rfl | rfl | rfl | rfl | rfl | rfl | rfl | rfl | rfl | rfl | rfl | rfl | rfl | rfl | rfl | rfl | rfl | rfl | rfl | rfl | rfl | rfl | rfl | rfl | rfl | rfl | rfl | rfl | rfl | rfl | rfl | rfl | rfl | rfl | rfl | rfl | rfl | rfl | rfl | rfl | rfl | rfl | rfl | rfl | rfl | rfl | rfl | rfl | rfl | rfl | rfl | rfl | rfl | rfl | rfl | rfl | rfl | rfl | rfl | rfl | rfl | rfl | rfl | rfl | rfl | rfl | rfl | rfl | rfl | rfl | rfl | rfl | rfl | rfl | rfl | rfl | rfl | rfl | rfl | rfl | rfl | rfl | rfl | rfl | rfl | rfl | rfl | rfl | rfl | rfl | rfl | rfl | rfl | rfl | rfl | rfl | rfl | rfl | rfl | rfl | rfl | rfl | rfl | rfl | rfl | rfl | rfl | rfl | rfl | rfl | rfl | rfl | rfl | rfl | rfl | rfl | rfl | rfl | rfl | rfl | rfl | rfl | rfl | rfl | rfl | rfl
 · exact .inl b399
 · exact .inl b400
 · exact .inl b401
 · exact .inl b15
 · exact .inl b310
 · exact .inl b402
 · exact .inl b26
 · exact .inl b403
 · exact .inl b353
 · exact .inl b145
 · exact .inl b404
 · exact .inl b405
 · exact .inl b406
 · exact .inl b32
 · exact .inl b407
 · exact .inl b408
 · exact .inl b306
 · exact .inl b335
 · exact .inl b374
 · exact .inl b188
 · exact .inl b214
 · exact .inl b185
 · exact .inl b195
 · exact .inl b409
 · exact .inl b189
 · exact .inl b364
 · exact .inl b365
 · exact .inl b186
 · exact .inl b196
 · exact .inl b366
 · exact .inl b410
 · exact .inl b411
 · exact .inl b412
 · exact .inl b413
 · exact .inl b414
 · exact .inl b190
 · exact .inl b415
 · exact .inl b250
 · exact .inl b79
 · exact .inl b416
 · exact .inl b417
 · exact .inl b418
 · exact .inl b419
 · exact .inl b68
 · exact .inl b27
 · exact .inl b67
 · exact .inl b179
 · exact .inl b176
 · exact .inl b325
 · exact .inl b326
 · exact .inl b327
 · exact .inl b307
 · exact .inl b34
 · exact .inl b162
 · exact .inl b359
 · exact .inl b247
 · exact .inl b223
 · exact .inl b215
 · exact .inl b216
 · exact .inl b217
 · exact .inl b222
 · exact .inl b191
 · exact .inl b379
 · exact .inl b380
 · exact .inl b421
 · exact .inl b118
 · exact .inl b119
 · exact .inl b134
 · exact .inl b139
 · exact .inl b135
 · exact .inl b136
 · exact .inl b112
 · exact .inl b62
 · exact .inl b69
 · exact .inl b106
 · exact .inl b348
 · exact .inl b194
 · exact .inl b175
 · exact .inl b349
 · exact .inl b350
 · exact .inl b351
 · exact .inl b352
 · exact .inl b198
 · exact .inl b71
 · exact .inl b48
 · exact .inl b390
 · exact .inl b117
 · exact .inl b125
 · exact .inl b126
 · exact .inl b132
 · exact .inl b128
 · exact .inl b127
 · exact .inl b140
 · exact .inl b141
 · exact .inl b142
 · exact .inl b143
 · exact .inl b144
 · exact .inl b120
 · exact .inl b121
 · exact .inl b122
 · exact .inl b123
 · exact .inl b201
 · exact .inl b238
 · exact .inl b20
 · exact .inl b361
 · exact .inl b207
 · exact .inl b362
 · exact .inl b363
 · exact .inl b72
 · exact .inl b109
 · exact .inl b111
 · exact .inl b124
 · exact .inl b110
 · exact .inl b77
 · exact .inl b78
 · exact .inl b137
 · exact .inl b138
 · exact .inl b129
 · exact .inl b146
 · exact .inl b133
 · exact .inl b52
 · exact .inl b130
 · exact .inl b131
 · exact .inl b181
 · exact .inl b240
 · exact .inl b57
 · exact .inl b59
 · exact .inl b208
 · exact .inl b375
 · exact .inl b376
 · exact .inl b46
 · exact .inl b377
 · exact .inl b378
 · exact .inl b193
 · exact .inl b56
 · exact .inl b108
 · exact .inl b99
 · exact .inl b95
 · exact .inl b63
 · exact .inl b388
 · exact .inl b381
 · exact .inl b22
 · exact .inl b389
 · exact .inl b221
 · exact .inl b386
 · exact .inl b393
 · exact .inl b394
 · exact .inl b385
 · exact .inl b355
 · exact .inl b358
 · exact .inl b395
 · exact .inl b392
 · exact .inl b391
 · exact .inl b371
 · exact .inl b373
 · exact .inl b396
 · exact .inl b397
 · exact .inl b398
 · exact .inl b372
 · exact .inl b387
 · exact .inr b420
 · exact .inr b422
theorem u420:∀q∈ns.g,q.2=420→q.1=61:=by decide +kernel
theorem clone420:Nonempty (kK Tryz.prog ns 61 1 16):=⟨
 { fn:=Tryz.f61,A:=⟨[],[],[],[],[],[],[],[],false,[],[],[]⟩,t:=(jw (dU Tryz.f61 1 1)).1,el:=Ox Tryz.prog (jw (dU Tryz.f61 1 1)).1,ty:=(jw (dU Tryz.f61 1 1)).2,
   o0:=dU Tryz.f61 0 0,m:=dU Tryz.f61 1 0,e:=dU Tryz.f61 1 1,o2:=dU Tryz.f61 2 0,b:=dU Tryz.f61 3 0,m3:=dU Tryz.f61 3 1,ap:=dU Tryz.f61 3 2,fi:=dU Tryz.f61 3 3,
   r0:=pA Tryz.f61 0,r1:=pA Tryz.f61 1,r2:=pA Tryz.f61 2,r3:=pA Tryz.f61 3,
   hf:=Tryz.func61,kJ:=by kernel_rfl,fD:=by kernel_rfl,hN:=by kernel_rfl,h0:=⟨by kernel_rfl,by kernel_rfl,by kernel_rfl⟩,h1:=⟨by kernel_rfl,by kernel_rfl,by kernel_rfl⟩,h2:=⟨by kernel_rfl,by kernel_rfl,by kernel_rfl⟩,hu:=by kernel_rfl,h3:=⟨by kernel_rfl,by kernel_rfl,by kernel_rfl⟩,h4:=⟨by kernel_rfl,by kernel_rfl,by kernel_rfl⟩,h5:=⟨by kernel_rfl,by kernel_rfl,by kernel_rfl⟩,h6:=⟨by kernel_rfl,by kernel_rfl,by kernel_rfl⟩,h7:=⟨by kernel_rfl,by kernel_rfl,by kernel_rfl⟩ }⟩
theorem u422:∀q∈ns.g,q.2=422→q.1=69:=by decide +kernel
theorem clone422:Nonempty (kK Tryz.prog ns 69 11 152):=⟨
 { fn:=Tryz.f69,A:=⟨[],[],[],[],[],[],[],[],false,[],[],[]⟩,t:=(jw (dU Tryz.f69 1 1)).1,el:=Ox Tryz.prog (jw (dU Tryz.f69 1 1)).1,ty:=(jw (dU Tryz.f69 1 1)).2,
   o0:=dU Tryz.f69 0 0,m:=dU Tryz.f69 1 0,e:=dU Tryz.f69 1 1,o2:=dU Tryz.f69 2 0,b:=dU Tryz.f69 3 0,m3:=dU Tryz.f69 3 1,ap:=dU Tryz.f69 3 2,fi:=dU Tryz.f69 3 3,
   r0:=pA Tryz.f69 0,r1:=pA Tryz.f69 1,r2:=pA Tryz.f69 2,r3:=pA Tryz.f69 3,
   hf:=Tryz.func69,kJ:=by kernel_rfl,fD:=by kernel_rfl,hN:=by kernel_rfl,h0:=⟨by kernel_rfl,by kernel_rfl,by kernel_rfl⟩,h1:=⟨by kernel_rfl,by kernel_rfl,by kernel_rfl⟩,h2:=⟨by kernel_rfl,by kernel_rfl,by kernel_rfl⟩,hu:=by kernel_rfl,h3:=⟨by kernel_rfl,by kernel_rfl,by kernel_rfl⟩,h4:=⟨by kernel_rfl,by kernel_rfl,by kernel_rfl⟩,h5:=⟨by kernel_rfl,by kernel_rfl,by kernel_rfl⟩,h6:=⟨by kernel_rfl,by kernel_rfl,by kernel_rfl⟩,h7:=⟨by kernel_rfl,by kernel_rfl,by kernel_rfl⟩ }⟩
theorem look_memI {α:Type} {t:Nat} {v:α}:∀{l:List (Nat×α)},look l t=some v→(t,v)∈l
 | [],h=>by simp [look] at h
 | (k,u)::r,h=>by
   simp only [look] at h
   split at h
   · rename_i e;cases h;subst e;exact List.mem_cons_self
   · exact List.mem_cons_of_mem _ (look_memI h)
theorem backs_ok:pV Tryz.prog ns:=by
 intro gb sz ag h f hf
 simp [look,ns] at h
theorem clones_ok:∀g sz bytes f,look ns.cl g=some (sz,bytes)→ns.of f=some g→Nonempty (kK Tryz.prog ns f sz bytes):=by
 intro g sz bytes f h hf
 simp only [ns,look] at h
 split at h
 · rename_i e;subst e;cases h
   have:=u420 (f,420) (look_memI hf) rfl
   simp only at this;subst this;exact clone420
 split at h
 · rename_i e;subst e;cases h
   have:=u422 (f,422) (look_memI hf) rfl
   simp only at this;subst this;exact clone422
 cases h
theorem impl:Impl Tryz.prog ns AP:=⟨by kernel_rfl,fun f g h=>(all_bear (f,g) (look_memI h)).imp id fun ⟨h1,h2⟩=>⟨h1,.inl h2⟩,backs_ok,clones_ok⟩
end Go.Ab
