import Derived.Test.YthcoecdbgdhihaaGreatDoorRows
import Derived.Test.YthcoecdbgdhihaaGreatDoorCodeA
import Derived.Test.YthcoecdbgdhihaaGreatDoorAbDat
import Derived.Test.YthcoecdbgdhihaaGreatDoorAbBridge
import Derived.Test.YthcoecdbgdhihaaGreatDoorShelf
/-
  Each function of the given program that has slim code bears just that code: the kernel translates it anew and compares.
-/
set_option linter.unusedVariables false
set_option linter.unusedSimpArgs false
set_option linter.unnecessarySimpa false
set_option maxRecDepth 100000
set_option maxHeartbeats 8000000
namespace Go.Ab
open Proofs Shelf
def ns:Names:=⟨[(4,522),(9,527),(10,15),(11,310),(12,528),(13,529),(14,26),(15,530),(16,531),(17,532),(18,533),(19,534),(20,535),(21,536),(23,538),(24,306),(25,247),(26,539),(30,335),(31,543),(32,404),(33,214),(34,440),(35,432),(36,112),(37,483),(38,405),(39,544),(40,545),(41,546),(42,547),(43,548),(47,359),(51,266),(52,57),(53,20),(54,253),(55,32),(56,68),(57,27),(58,67),(59,179),(60,176),(61,325),(62,326),(63,327),(64,307),(65,34),(66,175),(67,145),(69,162),(70,414),(71,410),(72,411),(73,412),(74,413),(75,223),(76,364),(77,439),(78,380),(79,118),(80,119),(81,120),(82,121),(83,122),(84,123),(85,495),(86,496),(87,29),(88,497),(89,33),(90,498),(91,499),(92,500),(93,501),(94,190),(95,415),(96,185),(97,409),(101,556),(102,51),(104,336),(105,337),(107,77),(108,78),(111,191),(114,374),(115,135),(120,267),(121,79),(122,62),(123,69),(124,106),(125,348),(126,194),(127,349),(128,350),(129,351),(130,352),(131,196),(132,198),(133,71),(134,48),(137,421),(138,117),(139,125),(140,126),(141,127),(142,128),(143,129),(144,130),(145,131),(146,132),(147,133),(148,134),(149,52),(150,136),(151,73),(152,74),(153,75),(154,76),(155,515),(156,35),(157,516),(158,407),(159,215),(162,265),(164,252),(165,248),(166,108),(167,109),(168,110),(169,111),(172,216),(174,143),(175,144),(180,201),(181,238),(182,361),(183,207),(184,362),(185,363),(186,222),(187,72),(188,124),(189,137),(190,138),(191,139),(192,140),(193,141),(194,142),(195,107),(196,80),(197,81),(198,82),(199,83),(200,416),(201,417),(202,418),(203,419),(205,258),(207,245),(208,264),(209,257),(211,259),(212,260),(213,181),(214,240),(215,59),(216,208),(217,375),(218,376),(219,46),(220,377),(221,378),(222,193),(223,56),(224,146),(225,113),(226,114),(229,99),(230,95),(231,63),(232,388),(233,381),(234,22),(235,389),(236,221),(239,386),(240,393),(241,394),(242,385),(243,355),(244,358),(245,395),(250,392),(251,391),(252,371),(253,373),(259,396),(260,397),(261,398),(264,372),(265,387),(98,553),(99,554),(100,555),(136,422),(160,420),(44,311),(163,269),(210,255)],
 [247,68,27,326,175,162,412,413,119,120,121,122,498,500,348,349,350,352,421,126,127,128,129,130,131,132,133,134,75,516,139,140,141,107,83,416,417,418,257,240,387],[],[(553,4,72),(554,20,256),(555,3,48),(422,11,152),(420,1,16)],Ih 1⟩
def lv1 (i:Nat):au→List (Nat×List Nat)
 | .bl _ l=>[(i,l)]
 | .seq a b=>lv1 i b++lv1 i a
 | _=>[]
def fe:Code→au→List (Nat×List Nat)
 | .region i _ _,x=>lv1 i x
 | .seq a b,.seq x y=>fe a x++fe b y
 | .cond _ a b,.cond _ x y=>fe a x++fe b y
 | .block _ a,.block _ x=>fe a x
 | .loop a,.loop _ x=>fe a x
 | .rangeFunc _ _ a b,.back _ _ _ _ _ _ _ x y=>fe a x++fe b y
 | _,_=>[]
def lp1 (o:Option Nat) (l:List Nat):List (Nat×List Nat):=match o with | some i=>[(i,l)] | none=>[]
def lps:Code→au→List (Nat×List Nat)
 | .seq a b,.seq x y=>lps a x++lps b y
 | .cond _ a b,.cond _ x y=>lps a x++lps b y
 | .block _ a,.block _ x=>lps a x
 | .loop a,.loop l x=>lp1 (jT a) l++lps a x
 | .rangeFunc _ _ a b,.back _ _ _ _ _ _ l x y=>lp1 (jT a) l++lps a x++lps b y
 | _,_=>[]
def An (fn:Func) (af:aD) (p:List (Nat×Nat×Nat)) (s h si:List Nat) (ow:List (Nat×List Nat)) (bk:List (Nat×Nat)) (ks:Bool) (q ho:List Nat) (fz:List (Nat×List Nat)) (du:List (Nat×Nat)) (ro:List Nat) (fa:List (Nat×List (Nat×Nat))) (pu:List (Nat×List (Nat×Nat×Bool))) (pr:List (Nat×List (Nat×Nat×Nat))) (cu:List (Nat×Nat×List Nat×List Nat)) (fs:List (Nat×List Nat)) (kp:List Nat):lf:=
 ⟨p,s,h,fe (fn.body.getD .skip) af.body,lps (fn.body.getD .skip) af.body,si,ow,bk,ks,q,ho,fz,du,ro,fa,pu,pr,cu,fs,kp⟩
def Bears (P:Program) (q:Nat×Nat):Prop:=∃fn A af,P.funcs[q.1]?=some fn∧pk P ns A fn=some af∧AP q.2=some af
def Bare (P:Program) (q:Nat×Nat):Prop:=(∃fn b,P.funcs[q.1]?=some fn∧fn.body=some b∧fn.name ≠ "runtime.NumGoroutine")∧AP q.2=none
theorem b522:Bears Tryz.prog (4,522):=⟨_,An Tryz.f4 g522 [(9,9,0)] [] [] [] [] [] false [] [] [] [] [] [] [] [] [] [] [],g522,Tryz.func4,by kernel_rfl,rfl⟩
theorem b527:Bears Tryz.prog (9,527):=⟨_,An Tryz.f9 g527 [(1,1,0),(4,4,0)] [] [] [] [] [] false [] [] [] [] [] [] [] [] [] [] [],g527,Tryz.func9,by kernel_rfl,rfl⟩
theorem b15:Bears Tryz.prog (10,15):=⟨_,An Tryz.f10 g15 [] [] [] [] [] [] false [] [] [] [] [] [] [] [] [] [] [],g15,Tryz.func10,by kernel_rfl,rfl⟩
theorem b310:Bears Tryz.prog (11,310):=⟨_,An Tryz.f11 g310 [(6,6,0),(7,7,0)] [] [] [11,22] [] [] true [] [] [] [] [] [] [] [] [] [] [],g310,Tryz.func11,by kernel_rfl,rfl⟩
theorem b528:Bears Tryz.prog (12,528):=⟨_,An Tryz.f12 g528 [(1,1,0),(5,5,0),(6,1,1),(14,5,9)] [] [] [] [] [] false [] [] [] [] [] [] [] [] [] [] [],g528,Tryz.func12,by kernel_rfl,rfl⟩
theorem b529:Bears Tryz.prog (13,529):=⟨_,An Tryz.f13 g529 [(1,1,0),(6,1,1),(13,1,1)] [] [] [] [] [] false [] [] [] [] [] [] [] [] [] [] [],g529,Tryz.func13,by kernel_rfl,rfl⟩
theorem b26:Bears Tryz.prog (14,26):=⟨_,An Tryz.f14 g26 [] [] [] [] [] [] false [] [] [] [] [] [] [] [] [] [] [],g26,Tryz.func14,by kernel_rfl,rfl⟩
theorem b530:Bears Tryz.prog (15,530):=⟨_,An Tryz.f15 g530 [(2,2,0),(8,8,0),(12,2,1),(20,8,9)] [] [] [] [] [] false [] [] [] [] [] [] [] [] [] [] [],g530,Tryz.func15,by kernel_rfl,rfl⟩
theorem b531:Bears Tryz.prog (16,531):=⟨_,An Tryz.f16 g531 [(2,2,0),(10,2,1),(20,2,1)] [] [] [] [] [] false [] [] [] [] [] [] [] [] [] [] [],g531,Tryz.func16,by kernel_rfl,rfl⟩
theorem b532:Bears Tryz.prog (17,532):=⟨_,An Tryz.f17 g532 [(2,2,0),(11,11,0),(12,12,0),(25,2,1),(35,11,2),(40,2,1),(45,12,1),(48,12,2),(53,12,9)] [] [] [] [] [] false [] [] [] [] [] [] [] [] [] [] [],g532,Tryz.func17,by kernel_rfl,rfl⟩
theorem b533:Bears Tryz.prog (18,533):=⟨_,An Tryz.f18 g533 [(2,2,0),(26,2,1),(34,2,1),(41,2,1),(50,2,1)] [] [] [] [] [] false [] [] [] [] [] [] [] [] [] [] [],g533,Tryz.func18,by kernel_rfl,rfl⟩
theorem b534:Bears Tryz.prog (19,534):=⟨_,An Tryz.f19 g534 [] [] [] [] [] [] false [] [] [] [] [] [] [] [] [] [] [],g534,Tryz.func19,by kernel_rfl,rfl⟩
theorem b535:Bears Tryz.prog (20,535):=⟨_,An Tryz.f20 g535 [(2,2,0),(3,3,0),(4,4,0)] [] [] [] [] [] false [] [] [] [] [] [] [] [] [] [] [],g535,Tryz.func20,by kernel_rfl,rfl⟩
theorem b536:Bears Tryz.prog (21,536):=⟨_,An Tryz.f21 g536 [(3,3,0),(5,5,0),(6,6,0),(10,10,0),(14,14,0),(15,15,0),(33,3,0),(38,10,0),(42,10,0),(54,14,1),(66,14,1)] [58] [83] [52] [] [] false [] [] [(15,[14])] [] [] [] [] [] [] [] [],g536,Tryz.func21,by kernel_rfl,rfl⟩
theorem b538:Bears Tryz.prog (23,538):=⟨_,An Tryz.f23 g538 [(2,2,0),(3,3,0),(6,6,0),(7,7,0),(10,10,0),(11,11,0),(12,2,0),(15,3,0),(20,2,1),(23,3,1),(29,2,0),(35,2,0),(40,3,0),(45,6,1),(47,7,1),(51,6,2),(53,7,2),(59,6,3),(62,7,3),(68,6,3),(74,6,3),(80,7,3),(88,6,3),(94,7,3),(104,2,1),(110,2,1),(115,3,1),(120,10,1),(122,11,1),(126,10,2),(128,11,2),(133,10,3),(135,11,3),(140,10,4),(142,11,4),(148,10,9),(150,11,9)] [] [] [] [] [] false [] [] [] [] [] [] [] [] [] [] [],g538,Tryz.func23,by kernel_rfl,rfl⟩
theorem b306:Bears Tryz.prog (24,306):=⟨_,An Tryz.f24 g306 [(4,4,0),(6,6,0),(10,10,0),(11,11,0),(13,13,0),(14,14,0),(38,6,0),(46,6,0),(52,10,3),(53,10,3),(56,10,4),(58,10,1),(61,10,2),(68,6,0),(74,10,9),(80,10,3),(84,10,9),(88,10,9),(96,10,2),(100,6,1),(105,6,1)] [] [] [] [] [] true [] [104] [] [] [] [] [] [] [] [] [],g306,Tryz.func24,by kernel_rfl,rfl⟩
theorem b247:Bears Tryz.prog (25,247):=⟨_,An Tryz.f25 g247 [(6,6,0),(8,8,0),(9,9,0),(12,12,0),(13,13,0),(14,14,0),(16,16,0),(48,8,3),(51,8,3),(158,13,3),(164,13,3),(172,13,3),(182,16,2),(188,16,2),(194,16,3),(195,14,5),(200,14,5)] [46,148] [] [] [] [] false [] [] [] [] [] [] [] [] [] [] [],g247,Tryz.func25,by kernel_rfl,rfl⟩
theorem b539:Bears Tryz.prog (26,539):=⟨_,An Tryz.f26 g539 [(1,1,0),(8,1,0)] [] [] [] [] [] false [] [] [] [] [] [] [] [] [] [] [],g539,Tryz.func26,by kernel_rfl,rfl⟩
theorem b335:Bears Tryz.prog (30,335):=⟨_,An Tryz.f30 g335 [(2,2,0),(4,4,0),(8,8,0),(12,12,0),(16,2,1),(26,2,1),(30,2,1),(60,2,1),(63,12,1),(65,12,1),(68,2,1),(76,2,0)] [34] [] [] [] [] true [] [62] [(15,[2])] [] [] [] [] [] [] [] [],g335,Tryz.func30,by kernel_rfl,rfl⟩
theorem b543:Bears Tryz.prog (31,543):=⟨_,An Tryz.f31 g543 [(1,1,0),(5,5,0),(8,1,0)] [] [] [] [] [] false [] [] [] [] [] [] [] [] [] [] [],g543,Tryz.func31,by kernel_rfl,rfl⟩
theorem b404:Bears Tryz.prog (32,404):=⟨_,An Tryz.f32 g404 [(2,2,0),(5,5,0)] [11] [] [36] [(36,[0])] [] true [] [40] [] [] [] [] [] [] [] [] [],g404,Tryz.func32,by kernel_rfl,rfl⟩
theorem b214:Bears Tryz.prog (33,214):=⟨_,An Tryz.f33 g214 [] [] [] [] [] [] false [] [] [] [] [] [] [] [] [] [] [],g214,Tryz.func33,by kernel_rfl,rfl⟩
theorem b440:Bears Tryz.prog (34,440):=⟨_,An Tryz.f34 g440 [] [] [] [] [] [] false [] [] [] [] [] [] [] [] [] [] [],g440,Tryz.func34,by kernel_rfl,rfl⟩
theorem b432:Bears Tryz.prog (35,432):=⟨_,An Tryz.f35 g432 [(2,2,0),(5,5,0)] [] [] [] [] [] false [] [] [] [] [] [] [] [] [] [] [],g432,Tryz.func35,by kernel_rfl,rfl⟩
theorem b112:Bears Tryz.prog (36,112):=⟨_,An Tryz.f36 g112 [(2,2,0),(3,3,0),(5,5,0),(6,6,0),(13,5,0),(36,6,0),(42,6,0),(43,6,1),(49,6,1),(62,5,0)] [22,28,52,57] [] [] [] [] true [] [] [] [] [] [] [] [] [] [] [],g112,Tryz.func36,by kernel_rfl,rfl⟩
theorem b483:Bears Tryz.prog (37,483):=⟨_,An Tryz.f37 g483 [(1,1,0),(6,6,0),(7,1,0),(27,1,1),(31,1,4),(38,1,5),(42,1,0),(48,1,3),(52,1,3),(57,1,3),(61,1,0),(70,1,2),(75,1,0),(79,1,2),(88,1,0),(93,1,2),(100,1,0),(104,1,6),(109,1,6),(116,1,0),(120,1,6),(126,1,5),(133,6,0),(137,6,1),(143,6,2),(149,6,2)] [] [] [] [] [] false [] [] [] [] [] [] [] [] [] [] [],g483,Tryz.func37,by kernel_rfl,rfl⟩
theorem b405:Bears Tryz.prog (38,405):=⟨_,An Tryz.f38 g405 [(5,5,0),(6,6,0),(7,7,0),(13,13,0),(14,14,0),(15,5,0),(20,5,2),(24,5,1),(31,5,2),(39,5,1),(50,5,6),(56,5,1),(59,7,0),(79,14,0)] [] [] [] [] [] false [] [] [] [] [] [] [] [] [] [] [],g405,Tryz.func38,by kernel_rfl,rfl⟩
theorem b544:Bears Tryz.prog (39,544):=⟨_,An Tryz.f39 g544 [(1,1,0),(2,2,0),(8,1,0),(11,1,1)] [28,36,45,66] [] [] [] [] true [] [10,13,30] [] [] [] [] [] [] [(6,8,[2,3,4,5,15,16,23,24,30],[3,23])] [(12,[3])] [],g544,Tryz.func39,by kernel_rfl,rfl⟩
theorem b545:Bears Tryz.prog (40,545):=⟨_,An Tryz.f40 g545 [(3,3,0),(5,5,0),(6,6,0),(10,10,0)] [33] [50] [17] [] [] false [] [] [] [] [] [] [] [] [] [] [],g545,Tryz.func40,by kernel_rfl,rfl⟩
theorem b546:Bears Tryz.prog (41,546):=⟨_,An Tryz.f41 g546 [(1,1,0),(2,2,0),(5,5,0),(25,1,1),(26,1,5),(32,1,5)] [14] [] [8,24] [] [] false [] [] [(7,[3])] [] [] [] [] [] [] [] [],g546,Tryz.func41,by kernel_rfl,rfl⟩
theorem b547:Bears Tryz.prog (42,547):=⟨_,An Tryz.f42 g547 [(1,1,0),(5,5,0)] [] [] [] [] [] false [] [] [] [] [] [] [] [] [] [] [],g547,Tryz.func42,by kernel_rfl,rfl⟩
theorem b548:Bears Tryz.prog (43,548):=⟨_,An Tryz.f43 g548 [(1,1,0),(3,1,6)] [] [] [] [] [] false [] [] [] [] [] [] [] [] [] [] [],g548,Tryz.func43,by kernel_rfl,rfl⟩
theorem b359:Bears Tryz.prog (47,359):=⟨_,An Tryz.f47 g359 [(3,3,0),(5,5,0),(6,6,0),(9,9,0)] [35] [54] [16] [] [] false [] [] [] [] [] [] [] [] [] [] [],g359,Tryz.func47,by kernel_rfl,rfl⟩
theorem b266:Bears Tryz.prog (51,266):=⟨_,An Tryz.f51 g266 [] [] [] [] [] [] false [] [] [] [] [] [] [] [] [] [] [],g266,Tryz.func51,by kernel_rfl,rfl⟩
theorem b57:Bears Tryz.prog (52,57):=⟨_,An Tryz.f52 g57 [] [] [] [] [] [] false [] [] [] [] [] [] [] [] [] [] [],g57,Tryz.func52,by kernel_rfl,rfl⟩
theorem b20:Bears Tryz.prog (53,20):=⟨_,An Tryz.f53 g20 [(2,2,0),(3,3,0),(5,2,0),(7,3,0),(11,2,1),(13,3,1),(18,2,2),(20,3,2),(25,2,3),(27,3,3),(31,2,4),(33,3,4)] [] [] [] [] [] false [] [] [] [] [] [] [] [] [] [] [],g20,Tryz.func53,by kernel_rfl,rfl⟩
theorem b253:Bears Tryz.prog (54,253):=⟨_,An Tryz.f54 g253 [(2,2,0),(3,3,0),(6,2,0),(8,3,0),(12,2,2),(14,3,2),(19,2,3),(21,3,3),(26,2,6),(28,3,6),(34,2,4),(37,3,4),(43,2,5),(46,3,5),(52,2,5),(58,2,5),(64,3,5),(72,2,5),(78,3,5)] [] [] [] [] [] false [] [] [] [] [] [] [] [] [] [] [],g253,Tryz.func54,by kernel_rfl,rfl⟩
theorem b32:Bears Tryz.prog (55,32):=⟨_,An Tryz.f55 g32 [] [] [] [] [] [] false [] [] [] [] [] [] [] [] [] [] [],g32,Tryz.func55,by kernel_rfl,rfl⟩
theorem b68:Bears Tryz.prog (56,68):=⟨_,An Tryz.f56 g68 [] [7,11,17,24,28] [] [] [] [] false [] [] [] [] [] [] [] [] [] [] [],g68,Tryz.func56,by kernel_rfl,rfl⟩
theorem b27:Bears Tryz.prog (57,27):=⟨_,An Tryz.f57 g27 [(8,8,0),(10,10,0),(13,13,0),(62,10,2),(77,10,1)] [29,59] [] [] [] [] false [] [] [] [] [] [] [] [] [] [] [],g27,Tryz.func57,by kernel_rfl,rfl⟩
theorem b67:Bears Tryz.prog (58,67):=⟨_,An Tryz.f58 g67 [] [] [] [] [] [] false [] [] [] [] [] [] [] [] [] [] [],g67,Tryz.func58,by kernel_rfl,rfl⟩
theorem b179:Bears Tryz.prog (59,179):=⟨_,An Tryz.f59 g179 [(5,5,0)] [] [] [] [] [] false [] [] [] [] [] [] [] [] [] [] [],g179,Tryz.func59,by kernel_rfl,rfl⟩
theorem b176:Bears Tryz.prog (60,176):=⟨_,An Tryz.f60 g176 [(1,1,0),(2,2,0)] [] [] [] [] [] false [] [] [] [] [] [] [] [] [] [] [],g176,Tryz.func60,by kernel_rfl,rfl⟩
theorem b325:Bears Tryz.prog (61,325):=⟨_,An Tryz.f61 g325 [(1,1,0),(2,2,0),(3,3,0),(4,4,0)] [] [] [] [] [] false [] [] [] [] [] [] [] [] [] [] [],g325,Tryz.func61,by kernel_rfl,rfl⟩
theorem b326:Bears Tryz.prog (62,326):=⟨_,An Tryz.f62 g326 [(8,8,0),(10,10,0),(11,11,0),(12,12,0),(16,16,0),(17,17,0)] [] [53] [] [] [] false [] [] [] [] [] [] [] [] [] [] [],g326,Tryz.func62,by kernel_rfl,rfl⟩
theorem b327:Bears Tryz.prog (63,327):=⟨_,An Tryz.f63 g327 [(2,2,0),(4,4,0),(5,5,0),(7,7,0)] [] [] [] [] [] false [] [] [] [] [] [] [] [] [] [] [],g327,Tryz.func63,by kernel_rfl,rfl⟩
theorem b307:Bears Tryz.prog (64,307):=⟨_,An Tryz.f64 g307 [(2,2,0),(7,2,0)] [] [] [] [] [] false [] [] [] [] [] [] [] [] [] [] [],g307,Tryz.func64,by kernel_rfl,rfl⟩
theorem b34:Bears Tryz.prog (65,34):=⟨_,An Tryz.f65 g34 [(0,0,0)] [] [] [] [] [] false [] [] [] [] [] [] [] [] [] [] [],g34,Tryz.func65,by kernel_rfl,rfl⟩
theorem b175:Bears Tryz.prog (66,175):=⟨_,An Tryz.f66 g175 [] [] [] [] [] [] false [] [] [] [] [] [] [] [] [] [] [],g175,Tryz.func66,by kernel_rfl,rfl⟩
theorem b145:Bears Tryz.prog (67,145):=⟨_,An Tryz.f67 g145 [(1,1,0),(5,1,4),(9,1,5),(16,1,5)] [20] [] [] [] [] true [] [7,23] [] [] [] [] [] [] [] [] [],g145,Tryz.func67,by kernel_rfl,rfl⟩
theorem b162:Bears Tryz.prog (69,162):=⟨_,An Tryz.f69 g162 [] [5,9] [] [] [] [] false [] [] [] [] [] [] [] [] [] [] [],g162,Tryz.func69,by kernel_rfl,rfl⟩
theorem b414:Bears Tryz.prog (70,414):=⟨_,An Tryz.f70 g414 [(1,1,0),(5,5,0),(6,1,4),(9,1,5),(17,5,3)] [] [] [8] [] [] true [] [8,20] [] [] [] [] [] [] [] [] [],g414,Tryz.func70,by kernel_rfl,rfl⟩
theorem b410:Bears Tryz.prog (71,410):=⟨_,An Tryz.f71 g410 [(2,2,0),(4,4,0)] [] [] [] [] [] false [] [] [] [] [] [] [] [] [] [] [],g410,Tryz.func71,by kernel_rfl,rfl⟩
theorem b411:Bears Tryz.prog (72,411):=⟨_,An Tryz.f72 g411 [(2,2,0),(5,2,0),(10,2,2),(17,2,2),(23,2,4),(27,2,5),(30,2,4)] [] [] [] [] [] false [] [] [] [] [] [] [] [] [] [] [],g411,Tryz.func72,by kernel_rfl,rfl⟩
theorem b412:Bears Tryz.prog (73,412):=⟨_,An Tryz.f73 g412 [] [24] [] [] [] [] true [] [38,41] [] [] [] [] [] [] [] [] [],g412,Tryz.func73,by kernel_rfl,rfl⟩
theorem b413:Bears Tryz.prog (74,413):=⟨_,An Tryz.f74 g413 [] [1] [] [] [] [] false [] [] [] [] [] [] [] [] [] [] [],g413,Tryz.func74,by kernel_rfl,rfl⟩
theorem b223:Bears Tryz.prog (75,223):=⟨_,An Tryz.f75 g223 [] [] [] [] [] [] false [] [] [] [] [] [] [] [] [] [] [],g223,Tryz.func75,by kernel_rfl,rfl⟩
theorem b364:Bears Tryz.prog (76,364):=⟨_,An Tryz.f76 g364 [] [] [] [] [] [] false [] [] [] [] [] [] [] [] [] [] [],g364,Tryz.func76,by kernel_rfl,rfl⟩
theorem b439:Bears Tryz.prog (77,439):=⟨_,An Tryz.f77 g439 [(2,2,0),(4,4,0)] [] [] [] [] [] false [] [] [] [] [] [] [] [] [] [] [],g439,Tryz.func77,by kernel_rfl,rfl⟩
theorem b380:Bears Tryz.prog (78,380):=⟨_,An Tryz.f78 g380 [(2,2,0),(6,2,0),(9,2,0),(12,2,0),(19,2,2),(23,2,0),(30,2,5)] [] [] [] [] [] false [] [] [] [] [] [] [] [] [] [] [],g380,Tryz.func78,by kernel_rfl,rfl⟩
theorem b118:Bears Tryz.prog (79,118):=⟨_,An Tryz.f79 g118 [(3,3,0)] [] [] [] [] [] false [] [] [] [] [] [] [] [] [] [] [],g118,Tryz.func79,by kernel_rfl,rfl⟩
theorem b119:Bears Tryz.prog (80,119):=⟨_,An Tryz.f80 g119 [] [] [] [] [] [] false [] [] [] [] [] [] [] [] [] [] [],g119,Tryz.func80,by kernel_rfl,rfl⟩
theorem b120:Bears Tryz.prog (81,120):=⟨_,An Tryz.f81 g120 [] [7,13,17,25,29,38,42,53,57] [] [] [] [] false [] [] [] [] [] [] [] [] [] [] [],g120,Tryz.func81,by kernel_rfl,rfl⟩
theorem b121:Bears Tryz.prog (82,121):=⟨_,An Tryz.f82 g121 [(2,2,0),(3,3,0),(4,4,0),(12,3,1),(15,3,2),(21,3,2),(36,4,2),(42,4,2),(43,3,3),(48,3,3)] [26] [] [] [] [] false [] [] [] [] [] [] [] [] [] [] [],g121,Tryz.func82,by kernel_rfl,rfl⟩
theorem b122:Bears Tryz.prog (83,122):=⟨_,An Tryz.f83 g122 [(2,2,0),(3,3,0),(11,3,1),(14,3,2),(17,3,3),(20,3,4),(30,3,9)] [25] [] [] [] [] false [] [] [] [] [] [] [] [] [] [] [],g122,Tryz.func83,by kernel_rfl,rfl⟩
theorem b123:Bears Tryz.prog (84,123):=⟨_,An Tryz.f84 g123 [(1,1,0),(2,2,0),(4,4,0),(7,7,0),(11,11,0),(15,1,0),(21,1,0),(29,4,2),(35,4,3),(40,4,0),(44,4,3),(50,4,3),(58,4,3),(65,1,1),(69,1,1),(76,1,0),(82,1,0),(88,7,3),(95,7,3),(105,7,3),(116,7,0),(120,1,1),(126,1,1),(131,11,3),(134,11,4),(140,11,9),(144,11,0),(148,11,9)] [] [] [] [] [] false [] [] [] [] [] [] [] [] [] [] [],g123,Tryz.func84,by kernel_rfl,rfl⟩
theorem b495:Bears Tryz.prog (85,495):=⟨_,An Tryz.f85 g495 [] [] [] [] [] [] false [] [] [] [] [] [] [] [] [] [] [],g495,Tryz.func85,by kernel_rfl,rfl⟩
theorem b496:Bears Tryz.prog (86,496):=⟨_,An Tryz.f86 g496 [] [] [] [] [] [] false [] [] [] [] [] [] [] [] [] [] [],g496,Tryz.func86,by kernel_rfl,rfl⟩
theorem b29:Bears Tryz.prog (87,29):=⟨_,An Tryz.f87 g29 [(1,1,0),(4,1,1),(8,1,4),(14,1,2),(19,1,2),(23,1,0),(30,1,3),(38,1,3),(43,1,3),(49,1,4),(54,1,2),(59,1,3),(64,1,1),(70,1,2),(74,1,3),(79,1,1),(81,1,4),(87,1,4)] [] [] [] [] [] false [] [] [] [] [] [] [] [] [] [] [],g29,Tryz.func87,by kernel_rfl,rfl⟩
theorem b497:Bears Tryz.prog (88,497):=⟨_,An Tryz.f88 g497 [(1,1,0),(3,1,0),(7,1,0),(11,1,4)] [] [] [] [] [] false [] [] [] [] [] [] [] [] [] [] [],g497,Tryz.func88,by kernel_rfl,rfl⟩
theorem b33:Bears Tryz.prog (89,33):=⟨_,An Tryz.f89 g33 [(2,2,0),(3,3,0)] [] [] [] [] [] false [] [] [] [] [] [] [] [] [] [] [],g33,Tryz.func89,by kernel_rfl,rfl⟩
theorem b498:Bears Tryz.prog (90,498):=⟨_,An Tryz.f90 g498 [] [] [] [] [] [] false [] [] [] [] [] [] [] [] [] [] [],g498,Tryz.func90,by kernel_rfl,rfl⟩
theorem b499:Bears Tryz.prog (91,499):=⟨_,An Tryz.f91 g499 [] [] [] [] [] [] false [] [] [] [] [] [] [] [] [] [] [],g499,Tryz.func91,by kernel_rfl,rfl⟩
theorem b500:Bears Tryz.prog (92,500):=⟨_,An Tryz.f92 g500 [] [] [] [] [] [] false [] [] [] [] [] [] [] [] [] [] [],g500,Tryz.func92,by kernel_rfl,rfl⟩
theorem b501:Bears Tryz.prog (93,501):=⟨_,An Tryz.f93 g501 [(1,1,0)] [] [] [] [] [] false [] [] [] [] [] [] [] [] [] [] [],g501,Tryz.func93,by kernel_rfl,rfl⟩
theorem b190:Bears Tryz.prog (94,190):=⟨_,An Tryz.f94 g190 [(8,8,0),(10,10,0),(18,8,3),(26,10,1)] [] [] [] [] [] false [] [] [] [] [] [] [] [] [] [] [],g190,Tryz.func94,by kernel_rfl,rfl⟩
theorem b415:Bears Tryz.prog (95,415):=⟨_,An Tryz.f95 g415 [(3,3,0),(4,4,0),(6,6,0),(13,13,0),(16,3,5),(25,6,1),(33,6,0),(39,3,5),(46,3,1),(49,3,5),(57,13,2),(71,13,0),(74,13,2),(82,13,2),(88,13,0)] [] [] [] [] [] false [] [] [] [] [] [] [] [] [] [] [],g415,Tryz.func95,by kernel_rfl,rfl⟩
theorem b185:Bears Tryz.prog (96,185):=⟨_,An Tryz.f96 g185 [(4,4,0),(10,10,0),(12,4,0),(17,4,1),(25,4,1),(33,4,4),(37,4,4)] [] [] [] [] [] false [] [] [] [] [] [] [] [] [] [] [],g185,Tryz.func96,by kernel_rfl,rfl⟩
theorem b409:Bears Tryz.prog (97,409):=⟨_,An Tryz.f97 g409 [] [] [] [6] [] [] false [] [] [] [] [] [] [] [] [] [] [],g409,Tryz.func97,by kernel_rfl,rfl⟩
theorem b556:Bears Tryz.prog (101,556):=⟨_,An Tryz.f101 g556 [(2,2,0),(4,4,0),(9,2,4),(15,2,5),(23,2,5),(31,2,5),(52,2,4),(53,2,5)] [] [] [] [] [] true [] [] [] [] [] [] [(4,[(26,14,true)])] [(4,[(26,26,0)])] [] [] [],g556,Tryz.func101,by kernel_rfl,rfl⟩
theorem b51:Bears Tryz.prog (102,51):=⟨_,An Tryz.f102 g51 [(1,1,0),(5,5,0),(6,1,4)] [] [] [] [] [] false [] [] [] [] [] [] [] [] [] [] [],g51,Tryz.func102,by kernel_rfl,rfl⟩
theorem b336:Bears Tryz.prog (104,336):=⟨_,An Tryz.f104 g336 [(1,1,0),(5,5,0),(7,7,0),(8,1,3),(12,1,3),(22,5,1),(25,5,2),(43,1,1),(46,1,2)] [34] [52] [] [] [] false [] [] [] [] [] [] [] [] [] [] [],g336,Tryz.func104,by kernel_rfl,rfl⟩
theorem b337:Bears Tryz.prog (105,337):=⟨_,An Tryz.f105 g337 [(1,1,0),(4,1,1),(9,1,2),(12,1,3),(15,1,4),(22,1,9)] [] [] [] [] [] false [] [] [] [] [] [] [] [] [] [] [],g337,Tryz.func105,by kernel_rfl,rfl⟩
theorem b77:Bears Tryz.prog (107,77):=⟨_,An Tryz.f107 g77 [] [] [] [] [] [] false [] [] [] [] [] [] [] [] [] [] [],g77,Tryz.func107,by kernel_rfl,rfl⟩
theorem b78:Bears Tryz.prog (108,78):=⟨_,An Tryz.f108 g78 [] [] [] [] [] [] false [] [] [] [] [] [] [] [] [] [] [],g78,Tryz.func108,by kernel_rfl,rfl⟩
theorem b191:Bears Tryz.prog (111,191):=⟨_,An Tryz.f111 g191 [] [] [] [] [] [] false [] [] [] [] [] [] [] [] [] [] [],g191,Tryz.func111,by kernel_rfl,rfl⟩
theorem b374:Bears Tryz.prog (114,374):=⟨_,An Tryz.f114 g374 [(2,2,0),(4,4,0),(6,6,0),(8,2,4),(14,2,5),(25,2,5),(28,6,4),(29,6,5),(31,6,5),(37,6,5)] [] [] [] [] [] true [] [27] [] [] [] [] [] [] [] [] [],g374,Tryz.func114,by kernel_rfl,rfl⟩
theorem b135:Bears Tryz.prog (115,135):=⟨_,An Tryz.f115 g135 [(1,1,0)] [] [] [] [] [] false [] [] [] [] [] [] [] [] [] [] [],g135,Tryz.func115,by kernel_rfl,rfl⟩
theorem b267:Bears Tryz.prog (120,267):=⟨_,An Tryz.f120 g267 [] [] [] [] [] [] false [] [] [] [] [] [] [] [] [] [] [],g267,Tryz.func120,by kernel_rfl,rfl⟩
theorem b79:Bears Tryz.prog (121,79):=⟨_,An Tryz.f121 g79 [(1,1,0),(2,2,0),(7,1,0)] [] [] [] [] [] false [] [] [] [] [] [] [] [] [] [] [],g79,Tryz.func121,by kernel_rfl,rfl⟩
theorem b62:Bears Tryz.prog (122,62):=⟨_,An Tryz.f122 g62 [(4,4,0)] [] [] [] [] [] false [] [] [] [] [] [] [] [] [] [] [],g62,Tryz.func122,by kernel_rfl,rfl⟩
theorem b69:Bears Tryz.prog (123,69):=⟨_,An Tryz.f123 g69 [(2,2,0),(3,3,0),(4,4,0)] [] [] [] [] [] false [] [] [] [] [] [] [] [] [] [] [],g69,Tryz.func123,by kernel_rfl,rfl⟩
theorem b106:Bears Tryz.prog (124,106):=⟨_,An Tryz.f124 g106 [(2,2,0)] [] [] [] [] [] false [] [] [] [] [] [] [] [] [] [] [],g106,Tryz.func124,by kernel_rfl,rfl⟩
theorem b348:Bears Tryz.prog (125,348):=⟨_,An Tryz.f125 g348 [(7,7,0),(8,8,0)] [] [15] [] [] [] false [] [] [] [] [] [] [] [] [] [] [],g348,Tryz.func125,by kernel_rfl,rfl⟩
theorem b194:Bears Tryz.prog (126,194):=⟨_,An Tryz.f126 g194 [(1,1,0),(2,2,0),(3,3,0),(5,1,0),(9,1,1),(14,1,4),(19,1,4),(23,1,4)] [] [] [] [] [] false [] [] [] [] [] [] [] [] [] [] [],g194,Tryz.func126,by kernel_rfl,rfl⟩
theorem b349:Bears Tryz.prog (127,349):=⟨_,An Tryz.f127 g349 [(8,8,0),(10,10,0),(15,15,0),(17,17,0),(18,18,0)] [] [43,69] [] [] [] false [] [] [] [] [] [] [] [] [] [] [],g349,Tryz.func127,by kernel_rfl,rfl⟩
theorem b350:Bears Tryz.prog (128,350):=⟨_,An Tryz.f128 g350 [(8,8,0),(10,10,0),(11,11,0),(14,14,0),(18,18,0),(38,11,2),(53,11,1),(63,11,3),(71,11,3),(81,11,3),(100,18,2),(105,18,2),(121,18,3),(122,14,5),(127,14,5)] [35] [78,113] [] [] [] false [] [] [] [] [] [] [] [] [] [] [],g350,Tryz.func128,by kernel_rfl,rfl⟩
theorem b351:Bears Tryz.prog (129,351):=⟨_,An Tryz.f129 g351 [(2,2,0),(6,2,0),(11,2,4),(17,2,4)] [] [] [] [] [] false [] [] [] [] [] [] [] [] [] [] [],g351,Tryz.func129,by kernel_rfl,rfl⟩
theorem b352:Bears Tryz.prog (130,352):=⟨_,An Tryz.f130 g352 [(8,8,0),(10,10,0),(12,12,0),(13,13,0),(15,15,0),(35,12,0),(38,12,1),(40,13,0),(42,12,2),(48,12,2)] [] [19] [] [] [] false [] [] [] [] [] [] [] [] [] [] [],g352,Tryz.func130,by kernel_rfl,rfl⟩
theorem b196:Bears Tryz.prog (131,196):=⟨_,An Tryz.f131 g196 [(1,1,0)] [] [] [4] [(4,[0])] [] false [] [] [] [] [] [] [] [] [] [] [],g196,Tryz.func131,by kernel_rfl,rfl⟩
theorem b198:Bears Tryz.prog (132,198):=⟨_,An Tryz.f132 g198 [(2,2,0),(4,4,0),(6,6,0),(8,2,0),(12,2,1),(21,6,4),(23,2,4),(29,6,4),(31,2,4),(40,6,4)] [] [] [] [] [] false [] [] [] [] [] [] [] [] [] [] [],g198,Tryz.func132,by kernel_rfl,rfl⟩
theorem b71:Bears Tryz.prog (133,71):=⟨_,An Tryz.f133 g71 [(4,4,0)] [] [] [] [] [] false [] [] [] [] [] [] [] [] [] [] [],g71,Tryz.func133,by kernel_rfl,rfl⟩
theorem b48:Bears Tryz.prog (134,48):=⟨_,An Tryz.f134 g48 [(2,2,0),(4,4,0),(5,5,0),(7,2,0),(11,2,2),(16,2,2),(23,2,2),(28,5,4),(30,2,4),(36,5,4),(38,2,4),(47,5,4)] [] [] [] [] [] false [] [] [] [] [] [] [] [] [] [] [],g48,Tryz.func134,by kernel_rfl,rfl⟩
theorem b421:Bears Tryz.prog (137,421):=⟨_,An Tryz.f137 g421 [] [14] [] [] [] [] false [] [] [] [] [] [] [] [] [] [] [],g421,Tryz.func137,by kernel_rfl,rfl⟩
theorem b117:Bears Tryz.prog (138,117):=⟨_,An Tryz.f138 g117 [] [] [] [] [] [] false [] [] [] [] [] [] [] [] [] [] [],g117,Tryz.func138,by kernel_rfl,rfl⟩
theorem b125:Bears Tryz.prog (139,125):=⟨_,An Tryz.f139 g125 [] [] [] [] [] [] false [] [] [] [] [] [] [] [] [] [] [],g125,Tryz.func139,by kernel_rfl,rfl⟩
theorem b126:Bears Tryz.prog (140,126):=⟨_,An Tryz.f140 g126 [] [5,9,15,19] [] [] [] [] false [] [] [] [] [] [] [] [] [] [] [],g126,Tryz.func140,by kernel_rfl,rfl⟩
theorem b127:Bears Tryz.prog (141,127):=⟨_,An Tryz.f141 g127 [] [] [] [] [] [] false [] [] [] [] [] [] [] [] [] [] [],g127,Tryz.func141,by kernel_rfl,rfl⟩
theorem b128:Bears Tryz.prog (142,128):=⟨_,An Tryz.f142 g128 [] [13,20,24] [] [] [] [] false [] [] [] [] [] [] [] [] [] [] [],g128,Tryz.func142,by kernel_rfl,rfl⟩
theorem b129:Bears Tryz.prog (143,129):=⟨_,An Tryz.f143 g129 [] [7,13,17,25,29] [] [] [] [] false [] [] [] [] [] [] [] [] [] [] [],g129,Tryz.func143,by kernel_rfl,rfl⟩
theorem b130:Bears Tryz.prog (144,130):=⟨_,An Tryz.f144 g130 [] [] [] [] [] [] false [] [] [] [] [] [] [] [] [] [] [],g130,Tryz.func144,by kernel_rfl,rfl⟩
theorem b131:Bears Tryz.prog (145,131):=⟨_,An Tryz.f145 g131 [(2,2,0),(3,3,0)] [20] [] [15] [] [] false [] [] [] [] [] [] [] [] [] [] [],g131,Tryz.func145,by kernel_rfl,rfl⟩
theorem b132:Bears Tryz.prog (146,132):=⟨_,An Tryz.f146 g132 [] [10] [] [] [] [] false [] [] [] [] [] [] [] [] [] [] [],g132,Tryz.func146,by kernel_rfl,rfl⟩
theorem b133:Bears Tryz.prog (147,133):=⟨_,An Tryz.f147 g133 [(2,2,0),(3,3,0),(11,3,4),(17,3,4)] [] [] [8] [] [] false [] [] [] [] [] [] [] [] [] [] [],g133,Tryz.func147,by kernel_rfl,rfl⟩
theorem b134:Bears Tryz.prog (148,134):=⟨_,An Tryz.f148 g134 [(2,2,0),(7,7,0),(8,8,0),(9,9,0),(101,8,1)] [21,41,50,71,77,81,89,93] [] [] [] [] false [] [] [] [] [] [] [] [] [] [] [],g134,Tryz.func148,by kernel_rfl,rfl⟩
theorem b52:Bears Tryz.prog (149,52):=⟨_,An Tryz.f149 g52 [(1,1,0),(6,1,4),(13,1,4)] [] [] [] [] [] false [] [] [] [] [] [] [] [] [] [] [],g52,Tryz.func149,by kernel_rfl,rfl⟩
theorem b136:Bears Tryz.prog (150,136):=⟨_,An Tryz.f150 g136 [(1,1,0),(10,1,5),(16,1,5),(24,1,5)] [] [] [] [] [] false [] [] [] [] [] [] [] [] [] [] [],g136,Tryz.func150,by kernel_rfl,rfl⟩
theorem b73:Bears Tryz.prog (151,73):=⟨_,An Tryz.f151 g73 [] [] [] [] [] [] false [] [] [] [] [] [] [] [] [] [] [],g73,Tryz.func151,by kernel_rfl,rfl⟩
theorem b74:Bears Tryz.prog (152,74):=⟨_,An Tryz.f152 g74 [] [] [] [] [] [] false [] [] [] [] [] [] [] [] [] [] [],g74,Tryz.func152,by kernel_rfl,rfl⟩
theorem b75:Bears Tryz.prog (153,75):=⟨_,An Tryz.f153 g75 [] [] [] [] [] [] false [] [] [] [] [] [] [] [] [] [] [],g75,Tryz.func153,by kernel_rfl,rfl⟩
theorem b76:Bears Tryz.prog (154,76):=⟨_,An Tryz.f154 g76 [(1,1,0)] [] [] [] [] [] false [] [] [] [] [] [] [] [] [] [] [],g76,Tryz.func154,by kernel_rfl,rfl⟩
theorem b515:Bears Tryz.prog (155,515):=⟨_,An Tryz.f155 g515 [(1,1,0)] [] [] [] [] [] false [] [] [] [] [] [] [] [] [] [] [],g515,Tryz.func155,by kernel_rfl,rfl⟩
theorem b35:Bears Tryz.prog (156,35):=⟨_,An Tryz.f156 g35 [(2,2,0),(3,3,0),(6,2,0),(8,3,0),(11,2,1),(13,3,1),(16,2,2),(18,3,2),(21,2,3),(23,3,3),(26,2,4),(29,3,4),(38,2,4),(40,3,4)] [] [] [] [] [] false [] [] [] [] [] [] [] [] [] [] [],g35,Tryz.func156,by kernel_rfl,rfl⟩
theorem b516:Bears Tryz.prog (157,516):=⟨_,An Tryz.f157 g516 [] [14] [] [] [] [] false [] [] [] [] [] [] [] [] [] [] [],g516,Tryz.func157,by kernel_rfl,rfl⟩
theorem b407:Bears Tryz.prog (158,407):=⟨_,An Tryz.f158 g407 [] [] [] [] [] [] false [] [] [] [] [] [] [] [] [] [] [],g407,Tryz.func158,by kernel_rfl,rfl⟩
theorem b215:Bears Tryz.prog (159,215):=⟨_,An Tryz.f159 g215 [(7,7,0),(19,7,1),(23,7,2)] [] [] [] [] [] false [] [] [] [] [] [] [] [] [] [] [],g215,Tryz.func159,by kernel_rfl,rfl⟩
theorem b265:Bears Tryz.prog (162,265):=⟨_,An Tryz.f162 g265 [(1,1,0),(5,1,0),(9,1,4)] [] [] [] [] [] false [] [] [] [] [] [] [] [] [] [] [],g265,Tryz.func162,by kernel_rfl,rfl⟩
theorem b252:Bears Tryz.prog (164,252):=⟨_,An Tryz.f164 g252 [(1,1,0),(5,5,0),(6,1,0),(10,1,2),(16,1,2),(21,1,2),(27,1,1),(31,1,4),(36,1,4),(43,1,4),(49,1,1),(51,1,4)] [] [] [] [] [] false [] [] [] [] [] [] [] [] [] [] [],g252,Tryz.func164,by kernel_rfl,rfl⟩
theorem b248:Bears Tryz.prog (165,248):=⟨_,An Tryz.f165 g248 [(4,4,0),(5,5,0),(50,4,0)] [7,12,16,23,32,36,40,65,78,95,106] [] [] [] [] false [] [] [] [] [28,45,57,70,74,83,87,92,103,114] [] [] [] [] [] [],g248,Tryz.func165,by kernel_rfl,rfl⟩
theorem b108:Bears Tryz.prog (166,108):=⟨_,An Tryz.f166 g108 [] [] [] [] [] [] false [] [] [] [] [] [] [] [] [] [] [],g108,Tryz.func166,by kernel_rfl,rfl⟩
theorem b109:Bears Tryz.prog (167,109):=⟨_,An Tryz.f167 g109 [] [] [] [] [] [] false [] [] [] [] [] [] [] [] [] [] [],g109,Tryz.func167,by kernel_rfl,rfl⟩
theorem b110:Bears Tryz.prog (168,110):=⟨_,An Tryz.f168 g110 [] [] [] [] [] [] false [] [] [] [] [] [] [] [] [] [] [],g110,Tryz.func168,by kernel_rfl,rfl⟩
theorem b111:Bears Tryz.prog (169,111):=⟨_,An Tryz.f169 g111 [] [] [] [] [] [] false [] [] [] [] [] [] [] [] [] [] [],g111,Tryz.func169,by kernel_rfl,rfl⟩
theorem b216:Bears Tryz.prog (172,216):=⟨_,An Tryz.f172 g216 [] [] [] [] [] [] false [] [] [] [] [] [] [] [] [] [] [],g216,Tryz.func172,by kernel_rfl,rfl⟩
theorem b143:Bears Tryz.prog (174,143):=⟨_,An Tryz.f174 g143 [(1,1,0)] [] [] [] [] [] false [] [] [] [] [] [] [] [] [] [] [],g143,Tryz.func174,by kernel_rfl,rfl⟩
theorem b144:Bears Tryz.prog (175,144):=⟨_,An Tryz.f175 g144 [(1,1,0),(5,1,0),(9,1,6)] [] [] [] [] [] false [] [] [] [] [] [] [] [] [] [] [],g144,Tryz.func175,by kernel_rfl,rfl⟩
theorem b201:Bears Tryz.prog (180,201):=⟨_,An Tryz.f180 g201 [(5,5,0)] [] [] [] [] [] false [] [] [] [] [] [] [] [] [] [] [],g201,Tryz.func180,by kernel_rfl,rfl⟩
theorem b238:Bears Tryz.prog (181,238):=⟨_,An Tryz.f181 g238 [(2,2,0),(3,3,0),(7,2,0),(10,2,1),(14,2,0)] [] [] [] [] [] false [] [] [] [] [] [] [] [] [] [] [],g238,Tryz.func181,by kernel_rfl,rfl⟩
theorem b361:Bears Tryz.prog (182,361):=⟨_,An Tryz.f182 g361 [(1,1,0),(2,2,0)] [] [] [] [] [] false [] [] [] [] [] [] [] [] [] [] [],g361,Tryz.func182,by kernel_rfl,rfl⟩
theorem b207:Bears Tryz.prog (183,207):=⟨_,An Tryz.f183 g207 [] [] [] [] [] [] false [] [] [] [] [] [] [] [] [] [] [],g207,Tryz.func183,by kernel_rfl,rfl⟩
theorem b362:Bears Tryz.prog (184,362):=⟨_,An Tryz.f184 g362 [(7,7,0),(11,11,0),(12,12,0),(14,14,0),(16,16,0),(20,20,0),(23,23,0)] [] [] [] [] [] false [] [] [] [] [] [] [] [] [] [] [],g362,Tryz.func184,by kernel_rfl,rfl⟩
theorem b363:Bears Tryz.prog (185,363):=⟨_,An Tryz.f185 g363 [(1,1,0),(2,2,0)] [] [] [] [] [] false [] [] [] [] [] [] [] [] [] [] [],g363,Tryz.func185,by kernel_rfl,rfl⟩
theorem b222:Bears Tryz.prog (186,222):=⟨_,An Tryz.f186 g222 [(3,3,0),(6,3,0),(11,3,1),(17,3,1),(22,3,4),(29,3,4)] [] [] [34] [(34,[0])] [] false [] [] [] [] [] [] [] [] [] [] [],g222,Tryz.func186,by kernel_rfl,rfl⟩
theorem b72:Bears Tryz.prog (187,72):=⟨_,An Tryz.f187 g72 [(2,2,0)] [] [] [] [] [] false [] [] [] [] [] [] [] [] [] [] [],g72,Tryz.func187,by kernel_rfl,rfl⟩
theorem b124:Bears Tryz.prog (188,124):=⟨_,An Tryz.f188 g124 [] [] [] [] [] [] false [] [] [] [] [] [] [] [] [] [] [],g124,Tryz.func188,by kernel_rfl,rfl⟩
theorem b137:Bears Tryz.prog (189,137):=⟨_,An Tryz.f189 g137 [] [] [] [] [] [] false [] [] [] [] [] [] [] [] [] [] [],g137,Tryz.func189,by kernel_rfl,rfl⟩
theorem b138:Bears Tryz.prog (190,138):=⟨_,An Tryz.f190 g138 [] [] [] [] [] [] false [] [] [] [] [] [] [] [] [] [] [],g138,Tryz.func190,by kernel_rfl,rfl⟩
theorem b139:Bears Tryz.prog (191,139):=⟨_,An Tryz.f191 g139 [(2,2,0),(55,2,2),(57,2,1)] [5,13,17,24,28,38,44,48] [] [] [] [] false [] [] [] [] [] [] [] [] [] [] [],g139,Tryz.func191,by kernel_rfl,rfl⟩
theorem b140:Bears Tryz.prog (192,140):=⟨_,An Tryz.f192 g140 [(4,4,0),(5,5,0),(6,6,0),(21,6,2),(27,6,2),(37,6,3),(38,5,5),(43,5,5)] [32] [] [] [] [] false [] [] [] [] [] [] [] [] [] [] [],g140,Tryz.func192,by kernel_rfl,rfl⟩
theorem b141:Bears Tryz.prog (193,141):=⟨_,An Tryz.f193 g141 [(2,2,0),(4,4,0),(5,5,0),(6,6,0)] [51] [] [] [] [] false [] [] [] [] [] [] [] [] [] [] [],g141,Tryz.func193,by kernel_rfl,rfl⟩
theorem b142:Bears Tryz.prog (194,142):=⟨_,An Tryz.f194 g142 [(1,1,0),(3,1,0),(11,1,1),(15,1,1),(20,1,1)] [] [] [] [] [] false [] [] [] [] [] [] [] [] [] [] [],g142,Tryz.func194,by kernel_rfl,rfl⟩
theorem b107:Bears Tryz.prog (195,107):=⟨_,An Tryz.f195 g107 [] [14] [] [] [] [] false [] [] [] [] [] [] [] [] [] [] [],g107,Tryz.func195,by kernel_rfl,rfl⟩
theorem b80:Bears Tryz.prog (196,80):=⟨_,An Tryz.f196 g80 [] [] [] [] [] [] false [] [] [] [] [] [] [] [] [] [] [],g80,Tryz.func196,by kernel_rfl,rfl⟩
theorem b81:Bears Tryz.prog (197,81):=⟨_,An Tryz.f197 g81 [] [] [] [] [] [] false [] [] [] [] [] [] [] [] [] [] [],g81,Tryz.func197,by kernel_rfl,rfl⟩
theorem b82:Bears Tryz.prog (198,82):=⟨_,An Tryz.f198 g82 [] [] [] [] [] [] false [] [] [] [] [] [] [] [] [] [] [],g82,Tryz.func198,by kernel_rfl,rfl⟩
theorem b83:Bears Tryz.prog (199,83):=⟨_,An Tryz.f199 g83 [(8,8,0),(9,9,0)] [16,24] [] [] [] [] false [] [] [] [] [] [] [] [] [] [] [],g83,Tryz.func199,by kernel_rfl,rfl⟩
theorem b416:Bears Tryz.prog (200,416):=⟨_,An Tryz.f200 g416 [] [14] [] [] [] [] false [] [] [] [] [] [] [] [] [] [] [],g416,Tryz.func200,by kernel_rfl,rfl⟩
theorem b417:Bears Tryz.prog (201,417):=⟨_,An Tryz.f201 g417 [(2,2,0),(4,2,3)] [1] [] [] [] [] false [] [] [] [] [] [] [] [] [] [] [],g417,Tryz.func201,by kernel_rfl,rfl⟩
theorem b418:Bears Tryz.prog (202,418):=⟨_,An Tryz.f202 g418 [(8,8,0),(9,9,0)] [20,24] [] [] [] [] false [] [] [] [] [] [] [] [] [] [] [],g418,Tryz.func202,by kernel_rfl,rfl⟩
theorem b419:Bears Tryz.prog (203,419):=⟨_,An Tryz.f203 g419 [(2,2,0),(3,3,0),(5,2,1),(7,3,1)] [] [] [] [] [] false [] [] [] [] [] [] [] [] [] [] [],g419,Tryz.func203,by kernel_rfl,rfl⟩
theorem b258:Bears Tryz.prog (205,258):=⟨_,An Tryz.f205 g258 [] [] [] [] [] [] false [] [] [] [] [] [] [] [] [] [] [],g258,Tryz.func205,by kernel_rfl,rfl⟩
theorem b245:Bears Tryz.prog (207,245):=⟨_,An Tryz.f207 g245 [] [] [] [] [] [] false [] [] [] [] [] [] [] [] [] [] [],g245,Tryz.func207,by kernel_rfl,rfl⟩
theorem b264:Bears Tryz.prog (208,264):=⟨_,An Tryz.f208 g264 [(1,1,0),(3,1,0),(7,1,1),(12,1,4)] [] [] [] [] [] false [] [] [] [] [] [] [] [] [] [] [],g264,Tryz.func208,by kernel_rfl,rfl⟩
theorem b257:Bears Tryz.prog (209,257):=⟨_,An Tryz.f209 g257 [] [5,9] [] [] [] [] false [] [] [] [] [] [] [] [] [] [] [],g257,Tryz.func209,by kernel_rfl,rfl⟩
theorem b259:Bears Tryz.prog (211,259):=⟨_,An Tryz.f211 g259 [(1,1,0),(3,1,0)] [] [] [] [] [] false [] [] [] [] [] [] [] [] [] [] [],g259,Tryz.func211,by kernel_rfl,rfl⟩
theorem b260:Bears Tryz.prog (212,260):=⟨_,An Tryz.f212 g260 [(5,5,0),(18,5,1),(21,5,2),(26,5,3)] [] [33] [] [] [] false [] [] [] [] [] [] [] [] [] [] [],g260,Tryz.func212,by kernel_rfl,rfl⟩
theorem b181:Bears Tryz.prog (213,181):=⟨_,An Tryz.f213 g181 [(4,4,0)] [] [] [] [] [] false [] [] [] [] [] [] [] [] [] [] [],g181,Tryz.func213,by kernel_rfl,rfl⟩
theorem b240:Bears Tryz.prog (214,240):=⟨_,An Tryz.f214 g240 [(4,4,0),(5,5,0),(10,4,0),(14,4,2),(21,4,2),(26,4,2),(33,4,2),(36,4,2),(41,4,0),(43,5,0),(47,4,1),(49,5,1),(54,4,2),(56,5,2),(61,4,3),(63,5,3),(68,4,4),(71,5,4),(77,4,4),(83,4,4),(88,5,4)] [23,28] [] [] [] [] false [] [] [] [] [] [] [] [] [] [] [],g240,Tryz.func214,by kernel_rfl,rfl⟩
theorem b59:Bears Tryz.prog (215,59):=⟨_,An Tryz.f215 g59 [] [] [] [16] [(16,[0])] [] false [] [] [] [] [] [] [] [] [] [] [],g59,Tryz.func215,by kernel_rfl,rfl⟩
theorem b208:Bears Tryz.prog (216,208):=⟨_,An Tryz.f216 g208 [(2,2,0),(4,4,0)] [] [] [] [] [] false [] [] [] [] [] [] [] [] [] [] [],g208,Tryz.func216,by kernel_rfl,rfl⟩
theorem b375:Bears Tryz.prog (217,375):=⟨_,An Tryz.f217 g375 [(1,1,0),(2,2,0),(3,3,0),(5,1,0),(9,1,3),(13,1,2),(18,3,4),(20,1,4),(26,3,4),(28,1,4),(36,3,4)] [] [] [] [] [] false [] [] [] [] [] [] [] [] [] [] [],g375,Tryz.func217,by kernel_rfl,rfl⟩
theorem b376:Bears Tryz.prog (218,376):=⟨_,An Tryz.f218 g376 [(3,3,0),(6,6,0),(12,12,0),(15,15,0)] [] [] [] [] [] false [] [] [] [] [] [] [] [] [] [] [],g376,Tryz.func218,by kernel_rfl,rfl⟩
theorem b46:Bears Tryz.prog (219,46):=⟨_,An Tryz.f219 g46 [(2,2,0),(4,4,0),(6,6,0),(8,2,0),(22,2,2),(32,6,4),(34,2,4),(40,6,4),(42,2,4),(51,6,4)] [] [] [] [] [] false [] [] [] [] [] [] [] [] [] [] [],g46,Tryz.func219,by kernel_rfl,rfl⟩
theorem b377:Bears Tryz.prog (220,377):=⟨_,An Tryz.f220 g377 [(3,3,0),(4,4,0),(5,3,0),(8,3,1)] [] [] [] [] [] false [] [] [] [] [] [] [] [] [] [] [],g377,Tryz.func220,by kernel_rfl,rfl⟩
theorem b378:Bears Tryz.prog (221,378):=⟨_,An Tryz.f221 g378 [(6,6,0),(7,7,0),(8,8,0),(11,11,0),(18,18,0),(41,18,3),(42,18,2)] [] [] [] [] [] false [] [] [] [] [] [] [] [] [] [] [],g378,Tryz.func221,by kernel_rfl,rfl⟩
theorem b193:Bears Tryz.prog (222,193):=⟨_,An Tryz.f222 g193 [(4,4,0),(9,9,0)] [] [] [] [] [] false [] [] [] [] [] [] [] [] [] [] [],g193,Tryz.func222,by kernel_rfl,rfl⟩
theorem b56:Bears Tryz.prog (223,56):=⟨_,An Tryz.f223 g56 [] [] [] [18] [(18,[0])] [] false [] [] [] [] [] [] [] [] [] [] [],g56,Tryz.func223,by kernel_rfl,rfl⟩
theorem b146:Bears Tryz.prog (224,146):=⟨_,An Tryz.f224 g146 [] [] [] [] [] [] false [] [] [] [] [] [] [] [] [] [] [],g146,Tryz.func224,by kernel_rfl,rfl⟩
theorem b113:Bears Tryz.prog (225,113):=⟨_,An Tryz.f225 g113 [] [] [] [] [] [] false [] [] [] [] [] [] [] [] [] [] [],g113,Tryz.func225,by kernel_rfl,rfl⟩
theorem b114:Bears Tryz.prog (226,114):=⟨_,An Tryz.f226 g114 [] [] [] [] [] [] false [] [] [] [] [] [] [] [] [] [] [],g114,Tryz.func226,by kernel_rfl,rfl⟩
theorem b99:Bears Tryz.prog (229,99):=⟨_,An Tryz.f229 g99 [(4,4,0),(9,4,0),(14,4,4),(37,4,4),(44,4,4)] [] [] [50] [(50,[0])] [] false [] [] [] [] [] [] [] [] [] [] [],g99,Tryz.func229,by kernel_rfl,rfl⟩
theorem b95:Bears Tryz.prog (230,95):=⟨_,An Tryz.f230 g95 [] [] [] [] [] [] false [] [] [] [] [] [] [] [] [] [] [],g95,Tryz.func230,by kernel_rfl,rfl⟩
theorem b63:Bears Tryz.prog (231,63):=⟨_,An Tryz.f231 g63 [(2,2,0)] [] [] [] [] [] false [] [] [] [] [] [] [] [] [] [] [],g63,Tryz.func231,by kernel_rfl,rfl⟩
theorem b388:Bears Tryz.prog (232,388):=⟨_,An Tryz.f232 g388 [(0,0,0)] [] [] [] [] [] false [] [] [] [] [] [] [] [] [] [] [],g388,Tryz.func232,by kernel_rfl,rfl⟩
theorem b381:Bears Tryz.prog (233,381):=⟨_,An Tryz.f233 g381 [(3,3,0),(6,6,0),(7,7,0),(9,9,0),(10,3,0),(13,3,0),(22,3,1),(29,9,1)] [] [] [] [] [] false [] [] [] [] [] [] [] [] [] [] [],g381,Tryz.func233,by kernel_rfl,rfl⟩
theorem b22:Bears Tryz.prog (234,22):=⟨_,An Tryz.f234 g22 [(3,3,0),(4,4,0)] [] [] [] [] [] false [] [] [] [] [] [] [] [] [] [] [],g22,Tryz.func234,by kernel_rfl,rfl⟩
theorem b389:Bears Tryz.prog (235,389):=⟨_,An Tryz.f235 g389 [(5,5,0),(6,6,0),(7,7,0),(15,15,0),(16,16,0),(17,17,0),(19,19,0),(20,20,0),(21,21,0),(22,22,0),(23,23,0),(25,25,0),(26,26,0),(31,31,0),(34,34,0),(37,6,0),(51,6,1),(63,17,0),(67,5,0),(69,17,2),(86,5,0),(88,17,2),(95,21,0),(96,21,1),(99,17,2),(105,21,1)] [] [] [198] [] [] false [] [] [] [] [] [] [] [] [] [] [],g389,Tryz.func235,by kernel_rfl,rfl⟩
theorem b221:Bears Tryz.prog (236,221):=⟨_,An Tryz.f236 g221 [(1,1,0),(2,2,0),(6,1,2),(17,1,1)] [] [] [] [] [] false [] [] [] [] [] [] [] [] [] [] [],g221,Tryz.func236,by kernel_rfl,rfl⟩
theorem b386:Bears Tryz.prog (239,386):=⟨_,An Tryz.f239 g386 [(2,2,0),(3,3,0),(4,4,0),(7,2,0),(18,2,0),(20,3,2)] [] [] [] [] [] false [] [] [] [] [] [] [] [] [] [] [],g386,Tryz.func239,by kernel_rfl,rfl⟩
theorem b393:Bears Tryz.prog (240,393):=⟨_,An Tryz.f240 g393 [(3,3,0),(5,5,0),(6,6,0),(8,8,0),(13,3,0),(19,3,0),(23,3,1),(27,3,0),(35,8,1),(36,8,0)] [] [] [] [] [] false [] [21] [(6,[8])] [] [] [] [] [] [] [] [],g393,Tryz.func240,by kernel_rfl,rfl⟩
theorem b394:Bears Tryz.prog (241,394):=⟨_,An Tryz.f241 g394 [(2,2,0),(3,3,0),(4,4,0),(5,5,0),(9,3,0),(12,2,0),(14,3,2),(18,5,7),(21,3,2)] [] [] [] [] [] false [] [] [] [] [] [] [] [] [] [] [],g394,Tryz.func241,by kernel_rfl,rfl⟩
theorem b385:Bears Tryz.prog (242,385):=⟨_,An Tryz.f242 g385 [(3,3,0),(4,4,0),(5,5,0),(6,6,0),(8,8,0)] [] [] [] [] [] false [] [] [] [] [] [] [] [] [] [] [],g385,Tryz.func242,by kernel_rfl,rfl⟩
theorem b355:Bears Tryz.prog (243,355):=⟨_,An Tryz.f243 g355 [(3,3,0),(4,4,0)] [] [] [] [] [] false [] [] [] [] [] [] [] [] [] [] [],g355,Tryz.func243,by kernel_rfl,rfl⟩
theorem b358:Bears Tryz.prog (244,358):=⟨_,An Tryz.f244 g358 [(2,2,0),(3,3,0),(4,4,0)] [] [] [] [] [] false [] [] [] [] [] [] [] [] [] [] [],g358,Tryz.func244,by kernel_rfl,rfl⟩
theorem b395:Bears Tryz.prog (245,395):=⟨_,An Tryz.f245 g395 [] [] [] [] [] [] false [] [] [] [] [] [] [] [] [] [] [],g395,Tryz.func245,by kernel_rfl,rfl⟩
theorem b392:Bears Tryz.prog (250,392):=⟨_,An Tryz.f250 g392 [(2,2,0),(3,3,0),(5,3,0),(9,3,2),(14,3,2),(16,2,0),(22,2,0),(24,3,2)] [] [] [] [] [] false [] [] [] [] [] [] [] [] [] [] [],g392,Tryz.func250,by kernel_rfl,rfl⟩
theorem b391:Bears Tryz.prog (251,391):=⟨_,An Tryz.f251 g391 [(3,3,0),(4,4,0),(5,5,0),(6,6,0),(8,8,0),(9,9,0),(47,8,2),(58,9,2),(65,8,0),(67,9,0),(71,8,1),(73,9,1),(78,8,2),(80,9,2),(85,8,3),(87,9,3),(92,8,4),(95,9,4),(102,8,4),(114,8,4),(119,9,4)] [] [] [] [] [] false [] [] [] [] [] [] [] [] [] [] [],g391,Tryz.func251,by kernel_rfl,rfl⟩
theorem b371:Bears Tryz.prog (252,371):=⟨_,An Tryz.f252 g371 [(3,3,0),(4,4,0),(13,4,4),(26,4,4)] [] [] [] [] [] false [] [] [] [] [] [] [] [] [] [] [],g371,Tryz.func252,by kernel_rfl,rfl⟩
theorem b373:Bears Tryz.prog (253,373):=⟨_,An Tryz.f253 g373 [(2,2,0),(3,3,0),(4,4,0),(5,5,0),(11,5,4),(13,3,4),(19,5,4),(22,3,4),(30,5,4)] [] [] [] [] [] false [] [] [] [] [] [] [] [] [] [] [],g373,Tryz.func253,by kernel_rfl,rfl⟩
theorem b396:Bears Tryz.prog (259,396):=⟨_,An Tryz.f259 g396 [(2,2,0),(3,3,0),(5,3,0),(9,3,2),(14,3,2),(16,2,0)] [] [] [] [] [] false [] [] [] [] [] [] [] [] [] [] [],g396,Tryz.func259,by kernel_rfl,rfl⟩
theorem b397:Bears Tryz.prog (260,397):=⟨_,An Tryz.f260 g397 [(3,3,0),(4,4,0),(5,5,0),(6,6,0),(9,9,0),(10,10,0),(11,4,2),(13,5,2),(17,4,2),(19,5,2),(22,4,2),(24,5,2),(27,3,0),(32,3,0),(37,9,6),(39,10,6),(42,9,7),(45,10,7),(48,9,6),(49,9,7),(52,10,0),(53,10,1)] [] [] [] [] [] false [] [] [] [] [] [] [] [] [] [] [],g397,Tryz.func260,by kernel_rfl,rfl⟩
theorem b398:Bears Tryz.prog (261,398):=⟨_,An Tryz.f261 g398 [(3,3,0),(5,5,0),(6,6,0),(8,8,0),(10,10,0),(11,11,0),(13,13,0),(19,19,0),(20,3,0),(41,8,7),(65,8,6),(79,3,0),(84,8,6),(99,3,0),(104,3,0),(113,8,6),(117,3,0),(125,8,6),(127,19,6),(139,8,0),(140,8,1)] [] [] [] [] [] false [] [] [] [] [] [] [] [] [] [] [],g398,Tryz.func261,by kernel_rfl,rfl⟩
theorem b372:Bears Tryz.prog (264,372):=⟨_,An Tryz.f264 g372 [(2,2,0),(8,2,0)] [28] [] [] [] [] false [] [] [] [] [] [] [] [] [] [] [],g372,Tryz.func264,by kernel_rfl,rfl⟩
theorem b387:Bears Tryz.prog (265,387):=⟨_,An Tryz.f265 g387 [(3,3,0),(5,3,0),(20,3,2),(29,3,2),(40,3,2),(49,3,2),(58,3,2),(65,3,4),(72,3,4)] [11,18,27,38,42,47,56] [] [] [] [] false [] [39,48] [] [] [] [] [] [] [] [] [],g387,Tryz.func265,by kernel_rfl,rfl⟩
theorem b553:Bare Tryz.prog (98,553):=⟨⟨Tryz.f98,ga Tryz.f98,Tryz.func98,by kernel_rfl,by decide⟩,rfl⟩
theorem b554:Bare Tryz.prog (99,554):=⟨⟨Tryz.f99,ga Tryz.f99,Tryz.func99,by kernel_rfl,by decide⟩,rfl⟩
theorem b555:Bare Tryz.prog (100,555):=⟨⟨Tryz.f100,ga Tryz.f100,Tryz.func100,by kernel_rfl,by decide⟩,rfl⟩
theorem b422:Bare Tryz.prog (136,422):=⟨⟨Tryz.f136,ga Tryz.f136,Tryz.func136,by kernel_rfl,by decide⟩,rfl⟩
theorem b420:Bare Tryz.prog (160,420):=⟨⟨Tryz.f160,ga Tryz.f160,Tryz.func160,by kernel_rfl,by decide⟩,rfl⟩
def IsPrim (P:Program) (q:Nat×Nat):Prop:=(∃fn b,P.funcs[q.1]?=some fn∧fn.body=some b∧fn.name ≠ "runtime.NumGoroutine") ∧
 ∃af pf,AP q.2=some af∧af.qb=some pf∧af.body=.exit 0∧∀orc,gF P ns orc→∀dC rs,pf.f orc.p dC=some rs→tX P ns q.1 dC rs
def HasB (P:Program) (f:Nat):Prop:=∃fn b,P.funcs[f]?=some fn∧fn.body=some b∧fn.name ≠ "runtime.NumGoroutine"
theorem lays166:Lays.n166 Tryz.prog Tryz.lays156_ren where
 mixed:=Tryz.lays156.mixed
 f166:=Tryz.lays156.f166
 f240:=Tryz.lays156.f240
 f276:=Tryz.lays156.f276
 t0:=Tryz.lays156.t0
 a0:=Tryz.lays156.a0
 z0:=Tryz.lays156.z0
 v0:=Tryz.lays156.v0
 t3:=Tryz.lays156.t3
 a3:=Tryz.lays156.a3
 z3:=Tryz.lays156.z3
 v3:=Tryz.lays156.v3
 t4:=Tryz.lays156.t4
 a4:=Tryz.lays156.a4
 z4:=Tryz.lays156.z4
 v4:=Tryz.lays156.v4
 t9:=Tryz.lays156.t9
 a9:=Tryz.lays156.a9
 z9:=Tryz.lays156.z9
 v9:=Tryz.lays156.v9
 t20:=Tryz.lays156.t20
 a20:=Tryz.lays156.a20
 z20:=Tryz.lays156.z20
 v20:=Tryz.lays156.v20
 t37:=Tryz.lays156.t37
 a37:=Tryz.lays156.a37
 z37:=Tryz.lays156.z37
 v37:=Tryz.lays156.v37
 t70:=Tryz.lays156.t70
 a70:=Tryz.lays156.a70
 z70:=Tryz.lays156.z70
 v70:=Tryz.lays156.v70
 t72:=Tryz.lays156.t72
 a72:=Tryz.lays156.a72
 z72:=Tryz.lays156.z72
 v72:=Tryz.lays156.v72
 t75:=Tryz.lays156.t75
 a75:=Tryz.lays156.a75
 z75:=Tryz.lays156.z75
 v75:=Tryz.lays156.v75
 t164:=Tryz.lays156.t164
 a164:=Tryz.lays156.a164
 z164:=Tryz.lays156.z164
 v164:=Tryz.lays156.v164
theorem lays169:Lays.n169 Tryz.prog Tryz.lays156_ren where
 mixed:=Tryz.lays156.mixed
 f169:=Tryz.lays156.f169
 t0:=Tryz.lays156.t0
 a0:=Tryz.lays156.a0
 z0:=Tryz.lays156.z0
 v0:=Tryz.lays156.v0
 t3:=Tryz.lays156.t3
 a3:=Tryz.lays156.a3
 z3:=Tryz.lays156.z3
 v3:=Tryz.lays156.v3
 t9:=Tryz.lays156.t9
 a9:=Tryz.lays156.a9
 z9:=Tryz.lays156.z9
 v9:=Tryz.lays156.v9
 t37:=Tryz.lays156.t37
 a37:=Tryz.lays156.a37
 z37:=Tryz.lays156.z37
 v37:=Tryz.lays156.v37
 t70:=Tryz.lays156.t70
 a70:=Tryz.lays156.a70
 z70:=Tryz.lays156.z70
 v70:=Tryz.lays156.v70
 t72:=Tryz.lays156.t72
 a72:=Tryz.lays156.a72
 z72:=Tryz.lays156.z72
 v72:=Tryz.lays156.v72
 t127:=Tryz.lays156.t127
 a127:=Tryz.lays156.a127
 z127:=Tryz.lays156.z127
 v127:=Tryz.lays156.v127
theorem hb_of {P:Program} {q:Nat×Nat} (h:Bears P q):HasB P q.1:=by
 obtain ⟨fn,A,af,h1,h2,_⟩:=h;unfold pk at h2;split at h2
 · rename_i b rs hb _;simp only [Option.ite_none_right_eq_some] at h2;obtain ⟨⟨_,hn⟩,_⟩:=h2;exact ⟨fn,b,h1,hb,by simpa using hn⟩
 · simp at h2
theorem look_mem0 {α:Type} {t:Nat} {v:α}:∀{l:List (Nat×α)},look l t=some v→(t,v)∈l
 | [],h=>by simp [look] at h
 | (k,u)::r,h=>by
   simp only [look] at h;split at h
   · rename_i e;cases h;subst e;exact List.mem_cons_self
   · exact List.mem_cons_of_mem _ (look_mem0 h)
theorem vZ:eT Tryz.prog ns:=by
 have h:∀q∈ns.g,HasB Tryz.prog q.1:=by
     intro q hq;simp only [ns,List.mem_cons,List.not_mem_nil,or_false] at hq;rcases hq with rfl|rfl|rfl|rfl|rfl|rfl|rfl|rfl|rfl|rfl|rfl|rfl|rfl|rfl|rfl|rfl|rfl|rfl|rfl|rfl|rfl|rfl|rfl|rfl|rfl|rfl|rfl|rfl|rfl|rfl|rfl|rfl|rfl|rfl|rfl|rfl|rfl|rfl|rfl|rfl|rfl|rfl|rfl|rfl|rfl|rfl|rfl|rfl|rfl|rfl|rfl|rfl|rfl|rfl|rfl|rfl|rfl|rfl|rfl|rfl|rfl|rfl|rfl|rfl|rfl|rfl|rfl|rfl|rfl|rfl|rfl|rfl|rfl|rfl|rfl|rfl|rfl|rfl|rfl|rfl|rfl|rfl|rfl|rfl|rfl|rfl|rfl|rfl|rfl|rfl|rfl|rfl|rfl|rfl|rfl|rfl|rfl|rfl|rfl|rfl|rfl|rfl|rfl|rfl|rfl|rfl|rfl|rfl|rfl|rfl|rfl|rfl|rfl|rfl|rfl|rfl|rfl|rfl|rfl|rfl|rfl|rfl|rfl|rfl|rfl|rfl|rfl|rfl|rfl|rfl|rfl|rfl|rfl|rfl|rfl|rfl|rfl|rfl|rfl|rfl|rfl|rfl|rfl|rfl|rfl|rfl|rfl|rfl|rfl|rfl|rfl|rfl|rfl|rfl|rfl|rfl|rfl|rfl|rfl|rfl|rfl|rfl|rfl|rfl|rfl|rfl|rfl|rfl|rfl|rfl|rfl|rfl|rfl|rfl|rfl|rfl|rfl|rfl|rfl|rfl|rfl|rfl|rfl|rfl|rfl|rfl|rfl|rfl|rfl|rfl|rfl|rfl|rfl|rfl|rfl|rfl|rfl|rfl|rfl|rfl|rfl|rfl|rfl|rfl|rfl|rfl|rfl|rfl|rfl|rfl|rfl|rfl
     · exact hb_of b522
     · exact hb_of b527
     · exact hb_of b15
     · exact hb_of b310
     · exact hb_of b528
     · exact hb_of b529
     · exact hb_of b26
     · exact hb_of b530
     · exact hb_of b531
     · exact hb_of b532
     · exact hb_of b533
     · exact hb_of b534
     · exact hb_of b535
     · exact hb_of b536
     · exact hb_of b538
     · exact hb_of b306
     · exact hb_of b247
     · exact hb_of b539
     · exact hb_of b335
     · exact hb_of b543
     · exact hb_of b404
     · exact hb_of b214
     · exact hb_of b440
     · exact hb_of b432
     · exact hb_of b112
     · exact hb_of b483
     · exact hb_of b405
     · exact hb_of b544
     · exact hb_of b545
     · exact hb_of b546
     · exact hb_of b547
     · exact hb_of b548
     · exact hb_of b359
     · exact hb_of b266
     · exact hb_of b57
     · exact hb_of b20
     · exact hb_of b253
     · exact hb_of b32
     · exact hb_of b68
     · exact hb_of b27
     · exact hb_of b67
     · exact hb_of b179
     · exact hb_of b176
     · exact hb_of b325
     · exact hb_of b326
     · exact hb_of b327
     · exact hb_of b307
     · exact hb_of b34
     · exact hb_of b175
     · exact hb_of b145
     · exact hb_of b162
     · exact hb_of b414
     · exact hb_of b410
     · exact hb_of b411
     · exact hb_of b412
     · exact hb_of b413
     · exact hb_of b223
     · exact hb_of b364
     · exact hb_of b439
     · exact hb_of b380
     · exact hb_of b118
     · exact hb_of b119
     · exact hb_of b120
     · exact hb_of b121
     · exact hb_of b122
     · exact hb_of b123
     · exact hb_of b495
     · exact hb_of b496
     · exact hb_of b29
     · exact hb_of b497
     · exact hb_of b33
     · exact hb_of b498
     · exact hb_of b499
     · exact hb_of b500
     · exact hb_of b501
     · exact hb_of b190
     · exact hb_of b415
     · exact hb_of b185
     · exact hb_of b409
     · exact hb_of b556
     · exact hb_of b51
     · exact hb_of b336
     · exact hb_of b337
     · exact hb_of b77
     · exact hb_of b78
     · exact hb_of b191
     · exact hb_of b374
     · exact hb_of b135
     · exact hb_of b267
     · exact hb_of b79
     · exact hb_of b62
     · exact hb_of b69
     · exact hb_of b106
     · exact hb_of b348
     · exact hb_of b194
     · exact hb_of b349
     · exact hb_of b350
     · exact hb_of b351
     · exact hb_of b352
     · exact hb_of b196
     · exact hb_of b198
     · exact hb_of b71
     · exact hb_of b48
     · exact hb_of b421
     · exact hb_of b117
     · exact hb_of b125
     · exact hb_of b126
     · exact hb_of b127
     · exact hb_of b128
     · exact hb_of b129
     · exact hb_of b130
     · exact hb_of b131
     · exact hb_of b132
     · exact hb_of b133
     · exact hb_of b134
     · exact hb_of b52
     · exact hb_of b136
     · exact hb_of b73
     · exact hb_of b74
     · exact hb_of b75
     · exact hb_of b76
     · exact hb_of b515
     · exact hb_of b35
     · exact hb_of b516
     · exact hb_of b407
     · exact hb_of b215
     · exact hb_of b265
     · exact hb_of b252
     · exact hb_of b248
     · exact hb_of b108
     · exact hb_of b109
     · exact hb_of b110
     · exact hb_of b111
     · exact hb_of b216
     · exact hb_of b143
     · exact hb_of b144
     · exact hb_of b201
     · exact hb_of b238
     · exact hb_of b361
     · exact hb_of b207
     · exact hb_of b362
     · exact hb_of b363
     · exact hb_of b222
     · exact hb_of b72
     · exact hb_of b124
     · exact hb_of b137
     · exact hb_of b138
     · exact hb_of b139
     · exact hb_of b140
     · exact hb_of b141
     · exact hb_of b142
     · exact hb_of b107
     · exact hb_of b80
     · exact hb_of b81
     · exact hb_of b82
     · exact hb_of b83
     · exact hb_of b416
     · exact hb_of b417
     · exact hb_of b418
     · exact hb_of b419
     · exact hb_of b258
     · exact hb_of b245
     · exact hb_of b264
     · exact hb_of b257
     · exact hb_of b259
     · exact hb_of b260
     · exact hb_of b181
     · exact hb_of b240
     · exact hb_of b59
     · exact hb_of b208
     · exact hb_of b375
     · exact hb_of b376
     · exact hb_of b46
     · exact hb_of b377
     · exact hb_of b378
     · exact hb_of b193
     · exact hb_of b56
     · exact hb_of b146
     · exact hb_of b113
     · exact hb_of b114
     · exact hb_of b99
     · exact hb_of b95
     · exact hb_of b63
     · exact hb_of b388
     · exact hb_of b381
     · exact hb_of b22
     · exact hb_of b389
     · exact hb_of b221
     · exact hb_of b386
     · exact hb_of b393
     · exact hb_of b394
     · exact hb_of b385
     · exact hb_of b355
     · exact hb_of b358
     · exact hb_of b395
     · exact hb_of b392
     · exact hb_of b391
     · exact hb_of b371
     · exact hb_of b373
     · exact hb_of b396
     · exact hb_of b397
     · exact hb_of b398
     · exact hb_of b372
     · exact hb_of b387
     · exact b553.1
     · exact b554.1
     · exact b555.1
     · exact b422.1
     · exact b420.1
     · exact ⟨Tryz.f44,ga Tryz.f44,Tryz.func44,by kernel_rfl,by decide⟩
     · exact ⟨Tryz.f163,ga Tryz.f163,Tryz.func163,by kernel_rfl,by decide⟩
     · exact ⟨Tryz.f210,ga Tryz.f210,Tryz.func210,by kernel_rfl,by decide⟩
 intro f g hg;exact h (f,g) (look_mem0 hg)
def fldOf (o:Oper):TypeId×Nat:=match o.op with | .fieldAddr t _ i=>(t,i) | _=>(0,0)
def boxOf (o:Oper):TypeId:=match o.op with | .box t _=>t | _=>0
def loadOf (o:Oper):TypeId:=match o.op with | .load t _=>t | _=>0
def fdOf (P:Program) (q:TypeId×Nat):Field:=(gg P q.1 q.2).getD default
noncomputable def show311:nY Tryz.prog ns 44 336 337 where
 fn:=Tryz.f44
 A:=⟨[(5,5,0),(7,7,0)],[],[],[],[],[],[],[],false,[],[],[],[],[],[],[],[],[],[],[]⟩
 T:=138
 E:=5
 Tp:=boxOf (bm Tryz.f44 0 0)
 fw:=103
 fs:=106
 t1:=typesOf (bm Tryz.f44 5 2)
 t2:=typesOf (bm Tryz.f44 10 2)
 t3:=typesOf (bm Tryz.f44 12 0)
 tf:=(fldOf (bm Tryz.f44 2 0)).1
 f0:=(fldOf (bm Tryz.f44 2 0)).2
 f1:=(fldOf (bm Tryz.f44 7 0)).2
 Qp:=(fdOf Tryz.prog (fldOf (bm Tryz.f44 2 0)))
 Qq:=(fdOf Tryz.prog (fldOf (bm Tryz.f44 7 0)))
 s0:=(cW Tryz.prog (fdOf Tryz.prog (fldOf (bm Tryz.f44 2 0))).type).getD 0
 s1:=(cW Tryz.prog (fdOf Tryz.prog (fldOf (bm Tryz.f44 7 0))).type).getD 0
 td:=loadOf (bm Tryz.f44 2 1)
 tb:=loadOf (bm Tryz.f44 7 1)
 bx:=bm Tryz.f44 0 0
 rs:=bm Tryz.f44 0 1
 al:=bm Tryz.f44 1 0
 fa:=bm Tryz.f44 2 0
 ld:=bm Tryz.f44 2 1
 r2:=(lG Tryz.f44 2).toList.drop 2
 o3:=lG Tryz.f44 3
 o4:=lG Tryz.f44 4
 l5:=(lG Tryz.f44 5).toList.take 2
 w5:=bm Tryz.f44 5 2
 o6:=lG Tryz.f44 6
 KL:=bm Tryz.f44 7 0
 KM:=bm Tryz.f44 7 1
 r7:=(lG Tryz.f44 7).toList.drop 2
 o8:=lG Tryz.f44 8
 o9:=lG Tryz.f44 9
 l10:=(lG Tryz.f44 10).toList.take 2
 Ik:=bm Tryz.f44 10 2
 M4:=lG Tryz.f44 11
 st:=bm Tryz.f44 12 0
 fi:=bm Tryz.f44 12 1
 i0:=dL Tryz.f44 0
 i1:=dL Tryz.f44 1
 i2:=dL Tryz.f44 2
 i3:=dL Tryz.f44 3
 i4:=dL Tryz.f44 4
 i5:=dL Tryz.f44 5
 i6:=dL Tryz.f44 6
 i7:=dL Tryz.f44 7
 i8:=dL Tryz.f44 8
 i9:=dL Tryz.f44 9
 OL:=dL Tryz.f44 10
 OM:=dL Tryz.f44 11
 Qr:=dL Tryz.f44 12
 b0:=qw Tryz.f44 0
 b1:=qw Tryz.f44 1
 b2:=qw Tryz.f44 2
 b3:=qw Tryz.f44 3
 hf:=Tryz.func44
 jA:=by kernel_rfl
 gk:=by kernel_rfl
 hN:=by kernel_rfl
 ON:=⟨by kernel_rfl,by kernel_rfl,by kernel_rfl⟩
 MT:=⟨by kernel_rfl,by kernel_rfl,by kernel_rfl⟩
 KN:=⟨by kernel_rfl,by kernel_rfl,by kernel_rfl⟩
 hz:=by kernel_rfl
 NV:=⟨by kernel_rfl,by kernel_rfl,by kernel_rfl⟩
 Q_:=⟨by kernel_rfl,by kernel_rfl,by kernel_rfl,by decide +kernel⟩
 NW:=⟨by kernel_rfl,by kernel_rfl,by kernel_rfl⟩
 QO:=⟨by kernel_rfl,by kernel_rfl⟩
 c2:=by kernel_rfl
 FV:=⟨by kernel_rfl,by kernel_rfl,by kernel_rfl⟩
 OO:=⟨by kernel_rfl,by kernel_rfl,by kernel_rfl,by decide +kernel⟩
 FW:=⟨by kernel_rfl,by kernel_rfl,by kernel_rfl⟩
 NQ:=⟨by kernel_rfl,by kernel_rfl⟩
 c7:=by kernel_rfl
 c3:=by kernel_rfl
 c4:=by kernel_rfl
 c5:=by kernel_rfl
 c6:=by kernel_rfl
 Qs:=⟨by kernel_rfl,by kernel_rfl,by kernel_rfl⟩
 c8:=by kernel_rfl
 c9:=by kernel_rfl
 c10:=by kernel_rfl
 c11:=by kernel_rfl
 KO:=⟨by kernel_rfl,by kernel_rfl,by kernel_rfl⟩
 tV:=⟨by kernel_rfl,by kernel_rfl,by kernel_rfl⟩
 NP:=⟨by kernel_rfl,by kernel_rfl,by kernel_rfl⟩
 QP:=⟨Tryz.f103,ga Tryz.f103,Tryz.func103,by kernel_rfl,by decide⟩
 OP:=⟨Tryz.f106,ga Tryz.f106,Tryz.func106,by kernel_rfl,by decide⟩
 Rp:=⟨104,by kernel_rfl⟩
 Rq:=⟨105,by kernel_rfl⟩
 write:=fun B b bs s w h1 h2 h3=>Any.Builder_WriteString lays166 Tryz.Builder_Extra_156 B b bs s w h1 h2 h3
 read:=fun B b l w h1 h2=>Any.Builder_String_any lays169 Tryz.Builder_Extra_156 B b l w h1 h2
theorem b311:IsPrim Tryz.prog (44,311):=⟨⟨Tryz.f44,ga Tryz.f44,Tryz.func44,by kernel_rfl,by decide⟩,_,_,rfl,rfl,rfl,fun orc ho _ _ h=>FX vZ ho show311 h⟩
theorem b269:IsPrim Tryz.prog (163,269):=⟨⟨Tryz.f163,ga Tryz.f163,Tryz.func163,by kernel_rfl,by decide⟩,_,_,rfl,rfl,rfl,fun _ _=>FR (fun a c sep w=>Tryz.strings_Join_none a c sep w) (fun bk o c xs sep w h1 h2 h3 h4 h5=>Tryz.strings_Join bk o c xs sep w h1 h2 h3 h4 h5)⟩
theorem b255:IsPrim Tryz.prog (210,255):=⟨⟨Tryz.f210,ga Tryz.f210,Tryz.func210,by kernel_rfl,by decide⟩,_,_,rfl,rfl,rfl,fun _ _=>B5 (show ns.jS 1=some we from FT 1) (by kernel_rfl) (fun n h0 h1 w ht=>Tryz.strconv_Itoa n h0 h1 w ht)⟩
theorem all_bear:∀q∈ns.g,Bears Tryz.prog q∨Bare Tryz.prog q∨IsPrim Tryz.prog q:=by
 intro q hq;simp only [ns,List.mem_cons,List.not_mem_nil,or_false] at hq;rcases hq with rfl|rfl|rfl|rfl|rfl|rfl|rfl|rfl|rfl|rfl|rfl|rfl|rfl|rfl|rfl|rfl|rfl|rfl|rfl|rfl|rfl|rfl|rfl|rfl|rfl|rfl|rfl|rfl|rfl|rfl|rfl|rfl|rfl|rfl|rfl|rfl|rfl|rfl|rfl|rfl|rfl|rfl|rfl|rfl|rfl|rfl|rfl|rfl|rfl|rfl|rfl|rfl|rfl|rfl|rfl|rfl|rfl|rfl|rfl|rfl|rfl|rfl|rfl|rfl|rfl|rfl|rfl|rfl|rfl|rfl|rfl|rfl|rfl|rfl|rfl|rfl|rfl|rfl|rfl|rfl|rfl|rfl|rfl|rfl|rfl|rfl|rfl|rfl|rfl|rfl|rfl|rfl|rfl|rfl|rfl|rfl|rfl|rfl|rfl|rfl|rfl|rfl|rfl|rfl|rfl|rfl|rfl|rfl|rfl|rfl|rfl|rfl|rfl|rfl|rfl|rfl|rfl|rfl|rfl|rfl|rfl|rfl|rfl|rfl|rfl|rfl|rfl|rfl|rfl|rfl|rfl|rfl|rfl|rfl|rfl|rfl|rfl|rfl|rfl|rfl|rfl|rfl|rfl|rfl|rfl|rfl|rfl|rfl|rfl|rfl|rfl|rfl|rfl|rfl|rfl|rfl|rfl|rfl|rfl|rfl|rfl|rfl|rfl|rfl|rfl|rfl|rfl|rfl|rfl|rfl|rfl|rfl|rfl|rfl|rfl|rfl|rfl|rfl|rfl|rfl|rfl|rfl|rfl|rfl|rfl|rfl|rfl|rfl|rfl|rfl|rfl|rfl|rfl|rfl|rfl|rfl|rfl|rfl|rfl|rfl|rfl|rfl|rfl|rfl|rfl|rfl|rfl|rfl|rfl|rfl|rfl|rfl
 · exact .inl b522
 · exact .inl b527
 · exact .inl b15
 · exact .inl b310
 · exact .inl b528
 · exact .inl b529
 · exact .inl b26
 · exact .inl b530
 · exact .inl b531
 · exact .inl b532
 · exact .inl b533
 · exact .inl b534
 · exact .inl b535
 · exact .inl b536
 · exact .inl b538
 · exact .inl b306
 · exact .inl b247
 · exact .inl b539
 · exact .inl b335
 · exact .inl b543
 · exact .inl b404
 · exact .inl b214
 · exact .inl b440
 · exact .inl b432
 · exact .inl b112
 · exact .inl b483
 · exact .inl b405
 · exact .inl b544
 · exact .inl b545
 · exact .inl b546
 · exact .inl b547
 · exact .inl b548
 · exact .inl b359
 · exact .inl b266
 · exact .inl b57
 · exact .inl b20
 · exact .inl b253
 · exact .inl b32
 · exact .inl b68
 · exact .inl b27
 · exact .inl b67
 · exact .inl b179
 · exact .inl b176
 · exact .inl b325
 · exact .inl b326
 · exact .inl b327
 · exact .inl b307
 · exact .inl b34
 · exact .inl b175
 · exact .inl b145
 · exact .inl b162
 · exact .inl b414
 · exact .inl b410
 · exact .inl b411
 · exact .inl b412
 · exact .inl b413
 · exact .inl b223
 · exact .inl b364
 · exact .inl b439
 · exact .inl b380
 · exact .inl b118
 · exact .inl b119
 · exact .inl b120
 · exact .inl b121
 · exact .inl b122
 · exact .inl b123
 · exact .inl b495
 · exact .inl b496
 · exact .inl b29
 · exact .inl b497
 · exact .inl b33
 · exact .inl b498
 · exact .inl b499
 · exact .inl b500
 · exact .inl b501
 · exact .inl b190
 · exact .inl b415
 · exact .inl b185
 · exact .inl b409
 · exact .inl b556
 · exact .inl b51
 · exact .inl b336
 · exact .inl b337
 · exact .inl b77
 · exact .inl b78
 · exact .inl b191
 · exact .inl b374
 · exact .inl b135
 · exact .inl b267
 · exact .inl b79
 · exact .inl b62
 · exact .inl b69
 · exact .inl b106
 · exact .inl b348
 · exact .inl b194
 · exact .inl b349
 · exact .inl b350
 · exact .inl b351
 · exact .inl b352
 · exact .inl b196
 · exact .inl b198
 · exact .inl b71
 · exact .inl b48
 · exact .inl b421
 · exact .inl b117
 · exact .inl b125
 · exact .inl b126
 · exact .inl b127
 · exact .inl b128
 · exact .inl b129
 · exact .inl b130
 · exact .inl b131
 · exact .inl b132
 · exact .inl b133
 · exact .inl b134
 · exact .inl b52
 · exact .inl b136
 · exact .inl b73
 · exact .inl b74
 · exact .inl b75
 · exact .inl b76
 · exact .inl b515
 · exact .inl b35
 · exact .inl b516
 · exact .inl b407
 · exact .inl b215
 · exact .inl b265
 · exact .inl b252
 · exact .inl b248
 · exact .inl b108
 · exact .inl b109
 · exact .inl b110
 · exact .inl b111
 · exact .inl b216
 · exact .inl b143
 · exact .inl b144
 · exact .inl b201
 · exact .inl b238
 · exact .inl b361
 · exact .inl b207
 · exact .inl b362
 · exact .inl b363
 · exact .inl b222
 · exact .inl b72
 · exact .inl b124
 · exact .inl b137
 · exact .inl b138
 · exact .inl b139
 · exact .inl b140
 · exact .inl b141
 · exact .inl b142
 · exact .inl b107
 · exact .inl b80
 · exact .inl b81
 · exact .inl b82
 · exact .inl b83
 · exact .inl b416
 · exact .inl b417
 · exact .inl b418
 · exact .inl b419
 · exact .inl b258
 · exact .inl b245
 · exact .inl b264
 · exact .inl b257
 · exact .inl b259
 · exact .inl b260
 · exact .inl b181
 · exact .inl b240
 · exact .inl b59
 · exact .inl b208
 · exact .inl b375
 · exact .inl b376
 · exact .inl b46
 · exact .inl b377
 · exact .inl b378
 · exact .inl b193
 · exact .inl b56
 · exact .inl b146
 · exact .inl b113
 · exact .inl b114
 · exact .inl b99
 · exact .inl b95
 · exact .inl b63
 · exact .inl b388
 · exact .inl b381
 · exact .inl b22
 · exact .inl b389
 · exact .inl b221
 · exact .inl b386
 · exact .inl b393
 · exact .inl b394
 · exact .inl b385
 · exact .inl b355
 · exact .inl b358
 · exact .inl b395
 · exact .inl b392
 · exact .inl b391
 · exact .inl b371
 · exact .inl b373
 · exact .inl b396
 · exact .inl b397
 · exact .inl b398
 · exact .inl b372
 · exact .inl b387
 · exact .inr (.inl b553)
 · exact .inr (.inl b554)
 · exact .inr (.inl b555)
 · exact .inr (.inl b422)
 · exact .inr (.inl b420)
 · exact .inr (.inr b311)
 · exact .inr (.inr b269)
 · exact .inr (.inr b255)
theorem u553:∀q∈ns.g,q.2=553→q.1=98:=by decide +kernel
theorem clone553:Nonempty (iB Tryz.prog ns 98 4 72):=⟨
 { fn:=Tryz.f98,A:=⟨[],[],[],[],[],[],[],[],false,[],[],[],[],[],[],[],[],[],[],[]⟩,t:=(d4 (bm Tryz.f98 1 1)).1,el:=H4 Tryz.prog (d4 (bm Tryz.f98 1 1)).1,ty:=(d4 (bm Tryz.f98 1 1)).2,
   o0:=bm Tryz.f98 0 0,m:=bm Tryz.f98 1 0,e:=bm Tryz.f98 1 1,o2:=bm Tryz.f98 2 0,b:=bm Tryz.f98 3 0,m3:=bm Tryz.f98 3 1,ap:=bm Tryz.f98 3 2,fi:=bm Tryz.f98 3 3,
   r0:=dL Tryz.f98 0,r1:=dL Tryz.f98 1,r2:=dL Tryz.f98 2,r3:=dL Tryz.f98 3,
   A2:=⟨[],[],[],[],[],[],[],[],false,[],[7],[],[],[],[],[],[],[],[],[]⟩,ag:=true,h8:=by kernel_rfl,hf:=Tryz.func98,jA:=by kernel_rfl,gk:=by kernel_rfl,hN:=by kernel_rfl,h0:=⟨by kernel_rfl,by kernel_rfl,by kernel_rfl⟩,h1:=⟨by kernel_rfl,by kernel_rfl,by kernel_rfl⟩,h2:=⟨by kernel_rfl,by kernel_rfl,by kernel_rfl⟩,hu:=by kernel_rfl,h3:=⟨by kernel_rfl,by kernel_rfl,by kernel_rfl⟩,h4:=⟨by kernel_rfl,by kernel_rfl,by kernel_rfl⟩,h5:=⟨by kernel_rfl,by kernel_rfl,by kernel_rfl⟩,h6:=⟨by kernel_rfl,by kernel_rfl,by kernel_rfl⟩,h7:=⟨by kernel_rfl,by kernel_rfl,by kernel_rfl⟩ }⟩
theorem u554:∀q∈ns.g,q.2=554→q.1=99:=by decide +kernel
theorem clone554:Nonempty (iB Tryz.prog ns 99 20 256):=⟨
 { fn:=Tryz.f99,A:=⟨[],[],[],[],[],[],[],[],false,[],[],[],[],[],[],[],[],[],[],[]⟩,t:=(d4 (bm Tryz.f99 1 1)).1,el:=H4 Tryz.prog (d4 (bm Tryz.f99 1 1)).1,ty:=(d4 (bm Tryz.f99 1 1)).2,
   o0:=bm Tryz.f99 0 0,m:=bm Tryz.f99 1 0,e:=bm Tryz.f99 1 1,o2:=bm Tryz.f99 2 0,b:=bm Tryz.f99 3 0,m3:=bm Tryz.f99 3 1,ap:=bm Tryz.f99 3 2,fi:=bm Tryz.f99 3 3,
   r0:=dL Tryz.f99 0,r1:=dL Tryz.f99 1,r2:=dL Tryz.f99 2,r3:=dL Tryz.f99 3,
   A2:=⟨[],[],[],[],[],[],[],[],false,[],[7],[],[],[],[],[],[],[],[],[]⟩,ag:=true,h8:=by kernel_rfl,hf:=Tryz.func99,jA:=by kernel_rfl,gk:=by kernel_rfl,hN:=by kernel_rfl,h0:=⟨by kernel_rfl,by kernel_rfl,by kernel_rfl⟩,h1:=⟨by kernel_rfl,by kernel_rfl,by kernel_rfl⟩,h2:=⟨by kernel_rfl,by kernel_rfl,by kernel_rfl⟩,hu:=by kernel_rfl,h3:=⟨by kernel_rfl,by kernel_rfl,by kernel_rfl⟩,h4:=⟨by kernel_rfl,by kernel_rfl,by kernel_rfl⟩,h5:=⟨by kernel_rfl,by kernel_rfl,by kernel_rfl⟩,h6:=⟨by kernel_rfl,by kernel_rfl,by kernel_rfl⟩,h7:=⟨by kernel_rfl,by kernel_rfl,by kernel_rfl⟩ }⟩
theorem u555:∀q∈ns.g,q.2=555→q.1=100:=by decide +kernel
theorem clone555:Nonempty (iB Tryz.prog ns 100 3 48):=⟨
 { fn:=Tryz.f100,A:=⟨[],[],[],[],[],[],[],[],false,[],[],[],[],[],[],[],[],[],[],[]⟩,t:=(d4 (bm Tryz.f100 1 1)).1,el:=H4 Tryz.prog (d4 (bm Tryz.f100 1 1)).1,ty:=(d4 (bm Tryz.f100 1 1)).2,
   o0:=bm Tryz.f100 0 0,m:=bm Tryz.f100 1 0,e:=bm Tryz.f100 1 1,o2:=bm Tryz.f100 2 0,b:=bm Tryz.f100 3 0,m3:=bm Tryz.f100 3 1,ap:=bm Tryz.f100 3 2,fi:=bm Tryz.f100 3 3,
   r0:=dL Tryz.f100 0,r1:=dL Tryz.f100 1,r2:=dL Tryz.f100 2,r3:=dL Tryz.f100 3,
   A2:=⟨[],[],[],[],[],[],[],[],false,[],[7],[],[],[],[],[],[],[],[],[]⟩,ag:=true,h8:=by kernel_rfl,hf:=Tryz.func100,jA:=by kernel_rfl,gk:=by kernel_rfl,hN:=by kernel_rfl,h0:=⟨by kernel_rfl,by kernel_rfl,by kernel_rfl⟩,h1:=⟨by kernel_rfl,by kernel_rfl,by kernel_rfl⟩,h2:=⟨by kernel_rfl,by kernel_rfl,by kernel_rfl⟩,hu:=by kernel_rfl,h3:=⟨by kernel_rfl,by kernel_rfl,by kernel_rfl⟩,h4:=⟨by kernel_rfl,by kernel_rfl,by kernel_rfl⟩,h5:=⟨by kernel_rfl,by kernel_rfl,by kernel_rfl⟩,h6:=⟨by kernel_rfl,by kernel_rfl,by kernel_rfl⟩,h7:=⟨by kernel_rfl,by kernel_rfl,by kernel_rfl⟩ }⟩
theorem u422:∀q∈ns.g,q.2=422→q.1=136:=by decide +kernel
theorem clone422:Nonempty (iB Tryz.prog ns 136 11 152):=⟨
 { fn:=Tryz.f136,A:=⟨[],[],[],[],[],[],[],[],false,[],[],[],[],[],[],[],[],[],[],[]⟩,t:=(d4 (bm Tryz.f136 1 1)).1,el:=H4 Tryz.prog (d4 (bm Tryz.f136 1 1)).1,ty:=(d4 (bm Tryz.f136 1 1)).2,
   o0:=bm Tryz.f136 0 0,m:=bm Tryz.f136 1 0,e:=bm Tryz.f136 1 1,o2:=bm Tryz.f136 2 0,b:=bm Tryz.f136 3 0,m3:=bm Tryz.f136 3 1,ap:=bm Tryz.f136 3 2,fi:=bm Tryz.f136 3 3,
   r0:=dL Tryz.f136 0,r1:=dL Tryz.f136 1,r2:=dL Tryz.f136 2,r3:=dL Tryz.f136 3,
   A2:=⟨[],[],[],[],[],[],[],[],false,[],[7],[],[],[],[],[],[],[],[],[]⟩,ag:=true,h8:=by kernel_rfl,hf:=Tryz.func136,jA:=by kernel_rfl,gk:=by kernel_rfl,hN:=by kernel_rfl,h0:=⟨by kernel_rfl,by kernel_rfl,by kernel_rfl⟩,h1:=⟨by kernel_rfl,by kernel_rfl,by kernel_rfl⟩,h2:=⟨by kernel_rfl,by kernel_rfl,by kernel_rfl⟩,hu:=by kernel_rfl,h3:=⟨by kernel_rfl,by kernel_rfl,by kernel_rfl⟩,h4:=⟨by kernel_rfl,by kernel_rfl,by kernel_rfl⟩,h5:=⟨by kernel_rfl,by kernel_rfl,by kernel_rfl⟩,h6:=⟨by kernel_rfl,by kernel_rfl,by kernel_rfl⟩,h7:=⟨by kernel_rfl,by kernel_rfl,by kernel_rfl⟩ }⟩
theorem u420:∀q∈ns.g,q.2=420→q.1=160:=by decide +kernel
theorem clone420:Nonempty (iB Tryz.prog ns 160 1 16):=⟨
 { fn:=Tryz.f160,A:=⟨[],[],[],[],[],[],[],[],false,[],[],[],[],[],[],[],[],[],[],[]⟩,t:=(d4 (bm Tryz.f160 1 1)).1,el:=H4 Tryz.prog (d4 (bm Tryz.f160 1 1)).1,ty:=(d4 (bm Tryz.f160 1 1)).2,
   o0:=bm Tryz.f160 0 0,m:=bm Tryz.f160 1 0,e:=bm Tryz.f160 1 1,o2:=bm Tryz.f160 2 0,b:=bm Tryz.f160 3 0,m3:=bm Tryz.f160 3 1,ap:=bm Tryz.f160 3 2,fi:=bm Tryz.f160 3 3,
   r0:=dL Tryz.f160 0,r1:=dL Tryz.f160 1,r2:=dL Tryz.f160 2,r3:=dL Tryz.f160 3,
   A2:=⟨[],[],[],[],[],[],[],[],false,[],[7],[],[],[],[],[],[],[],[],[]⟩,ag:=false,h8:=by kernel_rfl,hf:=Tryz.func160,jA:=by kernel_rfl,gk:=by kernel_rfl,hN:=by kernel_rfl,h0:=⟨by kernel_rfl,by kernel_rfl,by kernel_rfl⟩,h1:=⟨by kernel_rfl,by kernel_rfl,by kernel_rfl⟩,h2:=⟨by kernel_rfl,by kernel_rfl,by kernel_rfl⟩,hu:=by kernel_rfl,h3:=⟨by kernel_rfl,by kernel_rfl,by kernel_rfl⟩,h4:=⟨by kernel_rfl,by kernel_rfl,by kernel_rfl⟩,h5:=⟨by kernel_rfl,by kernel_rfl,by kernel_rfl⟩,h6:=⟨by kernel_rfl,by kernel_rfl,by kernel_rfl⟩,h7:=⟨by kernel_rfl,by kernel_rfl,by kernel_rfl⟩ }⟩
theorem look_memI {α:Type} {t:Nat} {v:α}:∀{l:List (Nat×α)},look l t=some v→(t,v)∈l
 | [],h=>by simp [look] at h
 | (k,u)::r,h=>by
   simp only [look] at h;split at h
   · rename_i e;cases h;subst e;exact List.mem_cons_self
   · exact List.mem_cons_of_mem _ (look_memI h)
theorem backs_ok:qv Tryz.prog ns:=trivial
theorem clones_ok:∀g sz bytes f,look ns.cl g=some (sz,bytes)→ns.of f=some g→Nonempty (iB Tryz.prog ns f sz bytes):=by
 intro g sz bytes f h hf;simp only [ns,look] at h;split at h
 · rename_i e;subst e;cases h;have:=u553 (f,553) (look_memI hf) rfl;simp only at this;subst this;exact clone553
 split at h
 · rename_i e;subst e;cases h;have:=u554 (f,554) (look_memI hf) rfl;simp only at this;subst this;exact clone554
 split at h
 · rename_i e;subst e;cases h;have:=u555 (f,555) (look_memI hf) rfl;simp only at this;subst this;exact clone555
 split at h
 · rename_i e;subst e;cases h;have:=u422 (f,422) (look_memI hf) rfl;simp only at this;subst this;exact clone422
 split at h
 · rename_i e;subst e;cases h;have:=u420 (f,420) (look_memI hf) rfl;simp only at this;subst this;exact clone420
 cases h
theorem impl:Impl Tryz.prog ns AP:=⟨by kernel_rfl,fun f g h=>(all_bear (f,g) (look_memI h)).imp id (Or.elim · (fun ⟨h1,h2⟩=>⟨h1,.inl h2⟩) (fun ⟨h1,h2⟩=>⟨h1,.inr h2⟩)),backs_ok,clones_ok⟩
end Go.Ab
