import Derived.Test.YtnpbcnjoljebfaaGreatRows
import Derived.Test.YtnpbcnjoljebfaaGreatCodeA
/-
  Each function of the given program that has slim code bears just that code: the kernel translates it anew and compares.
-/
set_option linter.unusedVariables false
set_option linter.defProp false
set_option linter.unusedSimpArgs false
set_option linter.unnecessarySimpa false
set_option maxRecDepth 100000
set_option maxHeartbeats 8000000
namespace Go.Ab
open Proofs
def ns:Names:=⟨[(3,443),(4,448),(5,15),(6,449),(7,32),(8,176),(9,69),(10,34),(11,72),(12,326),(13,27),(14,450),(15,451),(16,37),(17,452),(18,453),(19,454),(20,455),(21,464),(22,63),(23,456),(24,106),(25,20),(26,71),(27,465),(28,79),(29,62),(30,68),(31,348),(32,194),(33,175),(34,179),(35,349),(36,350),(37,351),(38,352),(39,457),(40,466),(41,368),(42,467),(43,356),(44,468),(45,357),(46,469),(47,470),(48,471),(49,95),(50,472),(51,70),(52,473),(53,474),(54,475),(55,476),(56,477),(57,341),(58,195),(59,478),(60,479),(61,197),(62,57),(63,88),(64,112),(65,26),(66,201),(67,238),(68,361),(69,307),(70,207),(71,362),(72,363),(73,366),(74,329),(75,331),(76,333),(77,334),(78,200),(79,367),(80,458),(81,181),(82,193),(83,382),(84,369),(85,370),(86,383),(87,384),(88,355),(89,145),(90,372),(91,480),(92,46),(93,483),(94,484),(95,485),(96,486),(97,487),(98,488),(99,191),(100,390),(101,380),(102,202),(103,489),(104,208),(105,490),(106,491),(107,178),(108,214),(109,223),(110,118),(111,119),(112,120),(113,121),(114,122),(115,123),(116,240),(117,59),(118,375),(119,48),(120,198),(121,376),(122,377),(123,378),(124,56),(125,364),(126,365),(127,379),(128,186),(129,358),(130,225),(131,226),(132,381),(133,221),(134,385),(135,371),(136,387),(137,495),(138,496),(139,29),(140,497),(141,33),(142,498),(143,499),(144,500),(145,414),(146,501),(147,502),(148,75),(149,503),(150,190),(151,407),(153,404),(154,180),(155,504),(156,192),(157,505),(158,506),(159,507),(160,177),(161,438),(162,508),(163,509),(164,220),(165,30),(166,347),(167,183),(168,117),(169,125),(170,126),(171,127),(172,128),(173,129),(174,130),(175,131),(176,132),(177,133),(178,134),(179,52),(180,135),(181,136),(182,99),(183,216),(184,388),(185,22),(186,389),(187,217),(188,373),(189,391),(190,386),(191,392),(192,73),(193,74),(194,76),(195,515),(196,35),(197,421),(198,516),(200,517),(201,107),(202,416),(203,417),(204,418),(205,419),(206,410),(207,411),(208,412),(209,413),(210,210),(211,518),(212,218),(213,219),(214,182),(215,206),(216,209),(217,493),(218,437),(219,77),(220,78),(221,109),(222,111),(223,124),(224,110),(225,137),(226,138),(227,139),(228,140),(229,141),(230,142),(231,143),(232,144),(233,393),(234,394),(235,395),(236,396),(237,397),(238,398),(239,80),(240,81),(241,82),(242,83),(243,520),(245,47),(248,211),(249,212),(250,55),(251,199),(252,513),(253,98),(254,45),(255,108),(256,146),(257,113),(258,114),(259,91),(260,93),(261,234),(262,96),(263,97),(264,224),(265,116),(266,92),(152,420),(199,422),(246,235),(244,233),(247,236)],
 [326,27,37,452,68,348,175,349,350,352,466,368,467,468,357,470,477,478,479,329,331,333,334,367,382,369,370,383,384,489,490,491,119,120,121,122,240,387,498,500,75,126,127,128,129,130,131,132,133,134,421,516,107,416,417,418,412,413,210,219,139,140,141,83,211,212,91,93,234,96,97,92],[(233,7,true),(236,5,true)],[(420,1,16),(422,11,152),(235,5,64)],fun _=>none⟩
def lv1(i:Nat):ae->List (Nat×List Nat)
 | .jt _ l=>[(i,l)]
 | .seq a b=>lv1 i b++lv1 i a
 |_=>[]
def fw:Code->ae->List (Nat×List Nat)
 | .region i _ _,x=>lv1 i x
 | .seq a b,.seq x y=>fw a x++fw b y
 | .cond _ a b,.cond _ x y=>fw a x++fw b y
 | .block _ a,.block _ x=>fw a x
 | .loop a,.loop _ x=>fw a x
 | .rangeFunc _ _ a b,.back _ _ _ _ _ _ _ x y=>fw a x++fw b y
 |_,_=>[]
def lp1(o:Option Nat)(l:List Nat):List (Nat×List Nat):=match o with|some i=>[(i,l)]|none=>[]
def lps:Code->ae->List (Nat×List Nat)
 | .seq a b,.seq x y=>lps a x++lps b y
 | .cond _ a b,.cond _ x y=>lps a x++lps b y
 | .block _ a,.block _ x=>lps a x
 | .loop a,.loop l x=>lp1 (jQ a) l++lps a x
 | .rangeFunc _ _ a b,.back _ _ _ _ _ _ l x y=>lp1 (jQ a) l++lps a x++lps b y
 |_,_=>[]
def An(p:List (Nat×Nat×Nat))(s h si:List Nat)(ow:List (Nat×List Nat))(bk:List (Nat×Nat))(ks:Bool)(q ho:List Nat)(fz:List (Nat×List Nat))(du:List (Nat×Nat))(ro:List Nat)(fa:List (Nat×List (Nat×Nat)))(pu:List (Nat×List (Nat×Nat×Bool)))(pr:List (Nat×List (Nat×Nat×Nat)))(cu:List (Nat×Nat×List Nat×List Nat))(fs:List (Nat×List Nat))(kp zp:List Nat)(fn:Func)(af:aw):mA:=
 ⟨p,s,h,fw (fn.body.getD .skip) af.body,lps (fn.body.getD .skip) af.body,si,ow,bk,ks,q,ho,fz,du,ro,fa,pu,pr,cu,fs,kp,zp⟩
def prO(m:List (Nat×Nat×Nat))(o:dI):List (Nat×Nat×Nat):=match o.dst,o.op,o.args with
 |some d,.alloc k _,_=>(d,k,0)::m
 |some d,.box k _,_=>(d,k,0)::m
 |some d,.v (.iF n),[.t s]=>match look m s with|some (k,f)=>(d,k,f+n)::m|none=>m
 |_,_,_=>m
def prC:ae->List (Nat×Nat×Nat)->List (Nat×Nat×Nat)
 | .jt os _,m=>os.foldl prO m
 | .seq a b,m=>prC b (prC a m)
 | .cond _ a b,m=>prC b (prC a m)
 | .block _ a,m=>prC a m
 | .loop _ a,m=>prC a m
 | .back _ _ _ _ _ _ _ a b,m=>prC b (prC a m)
 |_,m=>m
def Am(s h si:List Nat)(ow:List (Nat×List Nat))(bk:List (Nat×Nat))(ks:Bool)(q ho:List Nat)(fz:List (Nat×List Nat))(fn:Func)(af:aw):mA:=An (prC af.body []) s h si ow bk ks q ho fz [] [] [] [] [] [] [] [] [] fn af
def Al(s:List Nat):Func->aw->mA:=Am s [] [] [] [] false [] [] []
def Ak:Func->aw->mA:=Al []
def E0:mA:=⟨[],[],[],[],[],[],[],[],false,[],[],[],[],[],[],[],[],[],[],[],[]⟩
def E2:mA:=⟨[],[],[],[],[],[],[],[],false,[],[7],[],[],[],[],[],[],[],[],[],[]⟩
def Bears(P:Program)(q:Nat×Nat):Prop:=∃fn A af,P.funcs[q.1]?=some fn∧ri P ns A fn=some af∧AP q.2=some af
theorem zb{i g:Nat}{P:Program}{fn:Func}(af:aw)(A:Func->aw->mA)(h:P.funcs[i]?=some fn)(e:AP g=some af:=by rfl)(k:ri P ns (A fn af) fn=some af:=by kernel_rfl):Bears P (i,g):=⟨fn,A fn af,af,h,k,e⟩
theorem zl{α:Type}{p r:α->Prop}{a:α}{l:List α}(h:p a)(t:∀q∈l,p q∨r q):∀q∈a::l,p q∨r q:=List.forall_mem_cons.2 ⟨.inl h,t⟩
theorem zr{α:Type}{p r:α->Prop}{a:α}{l:List α}(h:r a)(t:∀q∈l,p q∨r q):∀q∈a::l,p q∨r q:=List.forall_mem_cons.2 ⟨.inr h,t⟩
theorem look_memI{α:Type}{t:Nat}{v:α}:∀{l:List (Nat×α)},look l t=some v->(t,v)∈l
 |[],h=>by simp[look]at h
 |(k,u)::r,h=>by
  simp only[look]at h;split at h
  ·rename_i e;cases h;subst e;exact List.mem_cons_self
  ·exact List.mem_cons_of_mem _ (look_memI h)
def Bare (P:Program) (q:Nat×Nat):Prop:=(∃fn b,P.funcs[q.1]?=some fn∧fn.body=some b∧fn.name ≠ "runtime.NumGoroutine")∧AP q.2=none
abbrev Br:Nat×Nat->Prop:=Bears Tryz.prog
theorem b443:Br (3,443):=zb g443 (Am [] [85] [83] [] [] false [] [] [(9,[13])]) Tryz.func3
theorem b448:Br (4,448):=zb g448 Ak Tryz.func4
theorem b15:Br (5,15):=zb g15 Ak Tryz.func5
theorem b449:Br (6,449):=zb g449 Ak Tryz.func6
theorem b32:Br (7,32):=zb g32 Ak Tryz.func7
theorem b176:Br (8,176):=zb g176 Ak Tryz.func8
theorem b69:Br (9,69):=zb g69 Ak Tryz.func9
theorem b34:Br (10,34):=zb g34 Ak Tryz.func10
theorem b72:Br (11,72):=zb g72 Ak Tryz.func11
theorem b326:Br (12,326):=zb g326 (Am [] [53] [] [] [] false [] [] []) Tryz.func12
theorem b27:Br (13,27):=zb g27 (Al [29,59]) Tryz.func13
theorem b450:Br (14,450):=zb g450 (Am [79] [] [] [] [] false [] [] [(6,[17])]) Tryz.func14
theorem b451:Br (15,451):=zb g451 Ak Tryz.func15
theorem b37:Br (16,37):=zb g37 (Am [] [] [23] [] [] false [] [] []) Tryz.func16
theorem b452:Br (17,452):=zb g452 (Am [32] [] [45] [] [] false [] [10] [(6,[3])]) Tryz.func17
theorem b453:Br (18,453):=zb g453 Ak Tryz.func18
theorem b454:Br (19,454):=zb g454 (An [(8,8,0),(9,9,0)] [35] [] [] [] [] false [] [] [] [] [] [] [] [] [] [] [26] []) Tryz.func19
theorem b455:Br (20,455):=zb g455 Ak Tryz.func20
theorem b464:Br (21,464):=zb g464 Ak Tryz.func21
theorem b63:Br (22,63):=zb g63 Ak Tryz.func22
theorem b456:Br (23,456):=zb g456 Ak Tryz.func23
theorem b106:Br (24,106):=zb g106 Ak Tryz.func24
theorem b20:Br (25,20):=zb g20 Ak Tryz.func25
theorem b71:Br (26,71):=zb g71 Ak Tryz.func26
theorem b465:Br (27,465):=zb g465 Ak Tryz.func27
theorem b79:Br (28,79):=zb g79 Ak Tryz.func28
theorem b62:Br (29,62):=zb g62 Ak Tryz.func29
theorem b68:Br (30,68):=zb g68 (Al [7,11,17,24,28]) Tryz.func30
theorem b348:Br (31,348):=zb g348 (Am [] [15] [] [] [] false [] [] []) Tryz.func31
theorem b194:Br (32,194):=zb g194 Ak Tryz.func32
theorem b175:Br (33,175):=zb g175 Ak Tryz.func33
theorem b179:Br (34,179):=zb g179 Ak Tryz.func34
theorem b349:Br (35,349):=zb g349 (Am [] [43,69] [] [] [] false [] [] []) Tryz.func35
theorem b350:Br (36,350):=zb g350 (Am [35] [78,113] [] [] [] false [] [] []) Tryz.func36
theorem b351:Br (37,351):=zb g351 Ak Tryz.func37
theorem b352:Br (38,352):=zb g352 (Am [] [19] [] [] [] false [] [] []) Tryz.func38
theorem b457:Br (39,457):=zb g457 (Am [73,94,102,111,120,132,138,145,174,184] [] [] [] [] false [] [] [(6,[16])]) Tryz.func39
theorem b466:Br (40,466):=zb g466 (An [] [] [18,38] [] [] [] false [] [] [(2,[9])] [] [] [] [] [] [] [] [16] []) Tryz.func40
theorem b368:Br (41,368):=zb g368 (Am [26,48,130] [39,77,145,179] [] [] [] false [] [] [(16,[11]),(19,[12]),(20,[13]),(30,[17]),(34,[20]),(39,[21]),(46,[22])]) Tryz.func41
theorem b467:Br (42,467):=zb g467 (Al [16,33]) Tryz.func42
theorem b356:Br (43,356):=zb g356 Ak Tryz.func43
theorem b468:Br (44,468):=zb g468 (Am [14] [17] [] [] [] false [] [] []) Tryz.func44
theorem b357:Br (45,357):=zb g357 (Am [10] [13] [] [] [] false [] [] []) Tryz.func45
theorem b469:Br (46,469):=zb g469 Ak Tryz.func46
theorem b470:Br (47,470):=zb g470 (Am [] [18] [] [] [] false [] [] []) Tryz.func47
theorem b471:Br (48,471):=zb g471 Ak Tryz.func48
theorem b95:Br (49,95):=zb g95 Ak Tryz.func49
theorem b472:Br (50,472):=zb g472 Ak Tryz.func50
theorem b70:Br (51,70):=zb g70 Ak Tryz.func51
theorem b473:Br (52,473):=zb g473 Ak Tryz.func52
theorem b474:Br (53,474):=zb g474 Ak Tryz.func53
theorem b475:Br (54,475):=zb g475 Ak Tryz.func54
theorem b476:Br (55,476):=zb g476 Ak Tryz.func55
theorem b477:Br (56,477):=zb g477 (Am [80,185] [71,132,200,244] [] [] [] false [] [] []) Tryz.func56
theorem b341:Br (57,341):=zb g341 Ak Tryz.func57
theorem b195:Br (58,195):=zb g195 Ak Tryz.func58
theorem b478:Br (59,478):=zb g478 (Am [35] [14] [] [] [] false [] [] []) Tryz.func59
theorem b479:Br (60,479):=zb g479 (Al [1]) Tryz.func60
theorem b197:Br (61,197):=zb g197 (Am [32] [12] [] [] [] false [] [] []) Tryz.func61
theorem b57:Br (62,57):=zb g57 Ak Tryz.func62
theorem b88:Br (63,88):=zb g88 Ak Tryz.func63
theorem b112:Br (64,112):=zb g112 (Am [22,28,52,57] [] [] [] [] true [] [] []) Tryz.func64
theorem b26:Br (65,26):=zb g26 Ak Tryz.func65
theorem b201:Br (66,201):=zb g201 Ak Tryz.func66
theorem b238:Br (67,238):=zb g238 Ak Tryz.func67
theorem b361:Br (68,361):=zb g361 Ak Tryz.func68
theorem b307:Br (69,307):=zb g307 Ak Tryz.func69
theorem b207:Br (70,207):=zb g207 Ak Tryz.func70
theorem b362:Br (71,362):=zb g362 Ak Tryz.func71
theorem b363:Br (72,363):=zb g363 Ak Tryz.func72
theorem b366:Br (73,366):=zb g366 Ak Tryz.func73
theorem b329:Br (74,329):=zb g329 (Al [7]) Tryz.func74
theorem b331:Br (75,331):=zb g331 Ak Tryz.func75
theorem b333:Br (76,333):=zb g333 (Am [12] [20] [] [] [] false [] [] []) Tryz.func76
theorem b334:Br (77,334):=zb g334 Ak Tryz.func77
theorem b200:Br (78,200):=zb g200 Ak Tryz.func78
theorem b367:Br (79,367):=zb g367 (Al [8,12]) Tryz.func79
theorem b458:Br (80,458):=zb g458 Ak Tryz.func80
theorem b181:Br (81,181):=zb g181 Ak Tryz.func81
theorem b193:Br (82,193):=zb g193 Ak Tryz.func82
theorem b382:Br (83,382):=zb g382 Ak Tryz.func83
theorem b369:Br (84,369):=zb g369 (Al [13,19]) Tryz.func84
theorem b370:Br (85,370):=zb g370 (Am [24,30,44,69,74] [51] [] [] [] false [] [] []) Tryz.func85
theorem b383:Br (86,383):=zb g383 (Am [29,42,64,94] [128] [] [] [] false [] [] [(2,[7]),(21,[18])]) Tryz.func86
theorem b384:Br (87,384):=zb g384 (Al [11,15,30]) Tryz.func87
theorem b355:Br (88,355):=zb g355 Ak Tryz.func88
theorem b145:Br (89,145):=zb g145 (Am [20] [] [] [] [] true [] [7,23] []) Tryz.func89
theorem b372:Br (90,372):=zb g372 (Al [28]) Tryz.func90
theorem b480:Br (91,480):=zb g480 Ak Tryz.func91
theorem b46:Br (92,46):=zb g46 Ak Tryz.func92
theorem b483:Br (93,483):=zb g483 Ak Tryz.func93
theorem b484:Br (94,484):=zb g484 Ak Tryz.func94
theorem b485:Br (95,485):=zb g485 (Am [] [] [54] [] [] false [] [] []) Tryz.func95
theorem b486:Br (96,486):=zb g486 Ak Tryz.func96
theorem b487:Br (97,487):=zb g487 (Am [] [] [124,142] [] [] false [] [] []) Tryz.func97
theorem b488:Br (98,488):=zb g488 Ak Tryz.func98
theorem b191:Br (99,191):=zb g191 Ak Tryz.func99
theorem b390:Br (100,390):=zb g390 Ak Tryz.func100
theorem b380:Br (101,380):=zb g380 Ak Tryz.func101
theorem b202:Br (102,202):=zb g202 Ak Tryz.func102
theorem b489:Br (103,489):=zb g489 (Al [22]) Tryz.func103
theorem b208:Br (104,208):=zb g208 Ak Tryz.func104
theorem b490:Br (105,490):=zb g490 (Am [20,32,48,89] [135] [] [] [] false [] [] []) Tryz.func105
theorem b491:Br (106,491):=zb g491 (Al [11,15,31]) Tryz.func106
theorem b178:Br (107,178):=zb g178 Ak Tryz.func107
theorem b214:Br (108,214):=zb g214 Ak Tryz.func108
theorem b223:Br (109,223):=zb g223 Ak Tryz.func109
theorem b118:Br (110,118):=zb g118 Ak Tryz.func110
theorem b119:Br (111,119):=zb g119 Ak Tryz.func111
theorem b120:Br (112,120):=zb g120 (Al [7,13,17,25,29,38,42,53,57]) Tryz.func112
theorem b121:Br (113,121):=zb g121 (Al [26]) Tryz.func113
theorem b122:Br (114,122):=zb g122 (Al [25]) Tryz.func114
theorem b123:Br (115,123):=zb g123 Ak Tryz.func115
theorem b240:Br (116,240):=zb g240 (Al [23,28]) Tryz.func116
theorem b59:Br (117,59):=zb g59 (Am [] [] [16] [(16,[0])] [] false [] [] []) Tryz.func117
theorem b375:Br (118,375):=zb g375 Ak Tryz.func118
theorem b48:Br (119,48):=zb g48 Ak Tryz.func119
theorem b198:Br (120,198):=zb g198 Ak Tryz.func120
theorem b376:Br (121,376):=zb g376 Ak Tryz.func121
theorem b377:Br (122,377):=zb g377 Ak Tryz.func122
theorem b378:Br (123,378):=zb g378 Ak Tryz.func123
theorem b56:Br (124,56):=zb g56 (Am [] [] [18] [(18,[0])] [] false [] [] []) Tryz.func124
theorem b364:Br (125,364):=zb g364 Ak Tryz.func125
theorem b365:Br (126,365):=zb g365 Ak Tryz.func126
theorem b379:Br (127,379):=zb g379 Ak Tryz.func127
theorem b186:Br (128,186):=zb g186 Ak Tryz.func128
theorem b358:Br (129,358):=zb g358 Ak Tryz.func129
theorem b225:Br (130,225):=zb g225 Ak Tryz.func130
theorem b226:Br (131,226):=zb g226 Ak Tryz.func131
theorem b381:Br (132,381):=zb g381 Ak Tryz.func132
theorem b221:Br (133,221):=zb g221 Ak Tryz.func133
theorem b385:Br (134,385):=zb g385 Ak Tryz.func134
theorem b371:Br (135,371):=zb g371 Ak Tryz.func135
theorem b387:Br (136,387):=zb g387 (Am [11,18,27,38,42,47,56] [] [] [] [] false [] [39,48] []) Tryz.func136
theorem b495:Br (137,495):=zb g495 Ak Tryz.func137
theorem b496:Br (138,496):=zb g496 Ak Tryz.func138
theorem b29:Br (139,29):=zb g29 Ak Tryz.func139
theorem b497:Br (140,497):=zb g497 Ak Tryz.func140
theorem b33:Br (141,33):=zb g33 Ak Tryz.func141
theorem b498:Br (142,498):=zb g498 Ak Tryz.func142
theorem b499:Br (143,499):=zb g499 Ak Tryz.func143
theorem b500:Br (144,500):=zb g500 Ak Tryz.func144
theorem b414:Br (145,414):=zb g414 (Am [] [] [8] [] [] true [] [8,20] []) Tryz.func145
theorem b501:Br (146,501):=zb g501 Ak Tryz.func146
theorem b502:Br (147,502):=zb g502 Ak Tryz.func147
theorem b75:Br (148,75):=zb g75 Ak Tryz.func148
theorem b503:Br (149,503):=zb g503 Ak Tryz.func149
theorem b190:Br (150,190):=zb g190 Ak Tryz.func150
theorem b407:Br (151,407):=zb g407 Ak Tryz.func151
theorem b404:Br (153,404):=zb g404 (Am [11] [] [36] [(36,[0])] [] true [] [40] []) Tryz.func153
theorem b180:Br (154,180):=zb g180 (Am [3] [] [] [] [(9,233)] false [] [] []) Tryz.func154
theorem b504:Br (155,504):=zb g504 Ak Tryz.func155
theorem b192:Br (156,192):=zb g192 (Am [29,44,48,58,12,63] [47] [] [] [(54,236)] false [] [] []) Tryz.func156
theorem b505:Br (157,505):=zb g505 Ak Tryz.func157
theorem b506:Br (158,506):=zb g506 Ak Tryz.func158
theorem b507:Br (159,507):=zb g507 (Am [] [] [73,137] [] [] false [] [] []) Tryz.func159
theorem b177:Br (160,177):=zb g177 (Am [] [] [8] [] [] false [] [] []) Tryz.func160
theorem b438:Br (161,438):=zb g438 Ak Tryz.func161
theorem b508:Br (162,508):=zb g508 (Am [] [43] [27,64] [] [] false [] [] []) Tryz.func162
theorem b509:Br (163,509):=zb g509 Ak Tryz.func163
theorem b220:Br (164,220):=zb g220 Ak Tryz.func164
theorem b30:Br (165,30):=zb g30 Ak Tryz.func165
theorem b347:Br (166,347):=zb g347 Ak Tryz.func166
theorem b183:Br (167,183):=zb g183 Ak Tryz.func167
theorem b117:Br (168,117):=zb g117 Ak Tryz.func168
theorem b125:Br (169,125):=zb g125 Ak Tryz.func169
theorem b126:Br (170,126):=zb g126 (Al [5,9,15,19]) Tryz.func170
theorem b127:Br (171,127):=zb g127 Ak Tryz.func171
theorem b128:Br (172,128):=zb g128 (Al [13,20,24]) Tryz.func172
theorem b129:Br (173,129):=zb g129 (Al [7,13,17,25,29]) Tryz.func173
theorem b130:Br (174,130):=zb g130 Ak Tryz.func174
theorem b131:Br (175,131):=zb g131 (Am [20] [] [15] [] [] false [] [] []) Tryz.func175
theorem b132:Br (176,132):=zb g132 (Al [10]) Tryz.func176
theorem b133:Br (177,133):=zb g133 (Am [] [] [8] [] [] false [] [] []) Tryz.func177
theorem b134:Br (178,134):=zb g134 (Al [21,41,50,71,77,81,89,93]) Tryz.func178
theorem b52:Br (179,52):=zb g52 Ak Tryz.func179
theorem b135:Br (180,135):=zb g135 Ak Tryz.func180
theorem b136:Br (181,136):=zb g136 Ak Tryz.func181
theorem b99:Br (182,99):=zb g99 (Am [] [] [50] [(50,[0])] [] false [] [] []) Tryz.func182
theorem b216:Br (183,216):=zb g216 Ak Tryz.func183
theorem b388:Br (184,388):=zb g388 Ak Tryz.func184
theorem b22:Br (185,22):=zb g22 Ak Tryz.func185
theorem b389:Br (186,389):=zb g389 (Am [] [] [198] [] [] false [] [] []) Tryz.func186
theorem b217:Br (187,217):=zb g217 Ak Tryz.func187
theorem b373:Br (188,373):=zb g373 Ak Tryz.func188
theorem b391:Br (189,391):=zb g391 Ak Tryz.func189
theorem b386:Br (190,386):=zb g386 Ak Tryz.func190
theorem b392:Br (191,392):=zb g392 Ak Tryz.func191
theorem b73:Br (192,73):=zb g73 Ak Tryz.func192
theorem b74:Br (193,74):=zb g74 Ak Tryz.func193
theorem b76:Br (194,76):=zb g76 Ak Tryz.func194
theorem b515:Br (195,515):=zb g515 Ak Tryz.func195
theorem b35:Br (196,35):=zb g35 Ak Tryz.func196
theorem b421:Br (197,421):=zb g421 (Al [14]) Tryz.func197
theorem b516:Br (198,516):=zb g516 (Al [14]) Tryz.func198
theorem b517:Br (200,517):=zb g517 Ak Tryz.func200
theorem b107:Br (201,107):=zb g107 (Al [14]) Tryz.func201
theorem b416:Br (202,416):=zb g416 (Al [14]) Tryz.func202
theorem b417:Br (203,417):=zb g417 (Al [1]) Tryz.func203
theorem b418:Br (204,418):=zb g418 (Al [20,24]) Tryz.func204
theorem b419:Br (205,419):=zb g419 Ak Tryz.func205
theorem b410:Br (206,410):=zb g410 Ak Tryz.func206
theorem b411:Br (207,411):=zb g411 Ak Tryz.func207
theorem b412:Br (208,412):=zb g412 (Am [24] [] [] [] [] true [] [38,41] []) Tryz.func208
theorem b413:Br (209,413):=zb g413 (Al [1]) Tryz.func209
theorem b210:Br (210,210):=zb g210 Ak Tryz.func210
theorem b518:Br (211,518):=zb g518 Ak Tryz.func211
theorem b218:Br (212,218):=zb g218 Ak Tryz.func212
theorem b219:Br (213,219):=zb g219 Ak Tryz.func213
theorem b182:Br (214,182):=zb g182 (Al [5]) Tryz.func214
theorem b206:Br (215,206):=zb g206 Ak Tryz.func215
theorem b209:Br (216,209):=zb g209 Ak Tryz.func216
theorem b493:Br (217,493):=zb g493 (Am [] [] [17] [] [] false [] [] []) Tryz.func217
theorem b437:Br (218,437):=zb g437 Ak Tryz.func218
theorem b77:Br (219,77):=zb g77 Ak Tryz.func219
theorem b78:Br (220,78):=zb g78 Ak Tryz.func220
theorem b109:Br (221,109):=zb g109 Ak Tryz.func221
theorem b111:Br (222,111):=zb g111 Ak Tryz.func222
theorem b124:Br (223,124):=zb g124 Ak Tryz.func223
theorem b110:Br (224,110):=zb g110 Ak Tryz.func224
theorem b137:Br (225,137):=zb g137 Ak Tryz.func225
theorem b138:Br (226,138):=zb g138 Ak Tryz.func226
theorem b139:Br (227,139):=zb g139 (Al [5,13,17,24,28,38,44,48]) Tryz.func227
theorem b140:Br (228,140):=zb g140 (Al [32]) Tryz.func228
theorem b141:Br (229,141):=zb g141 (Al [51]) Tryz.func229
theorem b142:Br (230,142):=zb g142 Ak Tryz.func230
theorem b143:Br (231,143):=zb g143 Ak Tryz.func231
theorem b144:Br (232,144):=zb g144 Ak Tryz.func232
theorem b393:Br (233,393):=zb g393 (Am [] [] [] [] [] false [] [21] [(6,[8])]) Tryz.func233
theorem b394:Br (234,394):=zb g394 Ak Tryz.func234
theorem b395:Br (235,395):=zb g395 Ak Tryz.func235
theorem b396:Br (236,396):=zb g396 Ak Tryz.func236
theorem b397:Br (237,397):=zb g397 Ak Tryz.func237
theorem b398:Br (238,398):=zb g398 Ak Tryz.func238
theorem b80:Br (239,80):=zb g80 Ak Tryz.func239
theorem b81:Br (240,81):=zb g81 Ak Tryz.func240
theorem b82:Br (241,82):=zb g82 Ak Tryz.func241
theorem b83:Br (242,83):=zb g83 (Al [16,24]) Tryz.func242
theorem b520:Br (243,520):=zb g520 Ak Tryz.func243
theorem b47:Br (245,47):=zb g47 Ak Tryz.func245
theorem b211:Br (248,211):=zb g211 Ak Tryz.func248
theorem b212:Br (249,212):=zb g212 (Al [6]) Tryz.func249
theorem b55:Br (250,55):=zb g55 (Al [3]) Tryz.func250
theorem b199:Br (251,199):=zb g199 (Am [] [] [20] [] [] false [] [] []) Tryz.func251
theorem b513:Br (252,513):=zb g513 Ak Tryz.func252
theorem b98:Br (253,98):=zb g98 Ak Tryz.func253
theorem b45:Br (254,45):=zb g45 Ak Tryz.func254
theorem b108:Br (255,108):=zb g108 Ak Tryz.func255
theorem b146:Br (256,146):=zb g146 Ak Tryz.func256
theorem b113:Br (257,113):=zb g113 Ak Tryz.func257
theorem b114:Br (258,114):=zb g114 Ak Tryz.func258
theorem b91:Br (259,91):=zb g91 (Al [25]) Tryz.func259
theorem b93:Br (260,93):=zb g93 (Al [1]) Tryz.func260
theorem b234:Br (261,234):=zb g234 (Al [14]) Tryz.func261
theorem b96:Br (262,96):=zb g96 Ak Tryz.func262
theorem b97:Br (263,97):=zb g97 (Al [1]) Tryz.func263
theorem b224:Br (264,224):=zb g224 (Am [] [] [23] [] [] false [] [] [(7,[3])]) Tryz.func264
theorem b116:Br (265,116):=zb g116 Ak Tryz.func265
theorem b92:Br (266,92):=zb g92 (Al [1]) Tryz.func266
theorem b420:Bare Tryz.prog (152,420):=⟨⟨Tryz.f152,m4 Tryz.f152,Tryz.func152,by kernel_rfl,by decide⟩,rfl⟩
theorem b422:Bare Tryz.prog (199,422):=⟨⟨Tryz.f199,m4 Tryz.f199,Tryz.func199,by kernel_rfl,by decide⟩,rfl⟩
theorem b235:Bare Tryz.prog (246,235):=⟨⟨Tryz.f246,m4 Tryz.f246,Tryz.func246,by kernel_rfl,by decide⟩,rfl⟩
theorem b233:Bare Tryz.prog (244,233):=⟨⟨Tryz.f244,m4 Tryz.f244,Tryz.func244,by kernel_rfl,by decide⟩,rfl⟩
theorem b236:Bare Tryz.prog (247,236):=⟨⟨Tryz.f247,m4 Tryz.f247,Tryz.func247,by kernel_rfl,by decide⟩,rfl⟩
theorem rows_bear:∀q∈ns.g,Br q∨Bare Tryz.prog q:=
 zl b443 <|
 zl b448 <|
 zl b15 <|
 zl b449 <|
 zl b32 <|
 zl b176 <|
 zl b69 <|
 zl b34 <|
 zl b72 <|
 zl b326 <|
 zl b27 <|
 zl b450 <|
 zl b451 <|
 zl b37 <|
 zl b452 <|
 zl b453 <|
 zl b454 <|
 zl b455 <|
 zl b464 <|
 zl b63 <|
 zl b456 <|
 zl b106 <|
 zl b20 <|
 zl b71 <|
 zl b465 <|
 zl b79 <|
 zl b62 <|
 zl b68 <|
 zl b348 <|
 zl b194 <|
 zl b175 <|
 zl b179 <|
 zl b349 <|
 zl b350 <|
 zl b351 <|
 zl b352 <|
 zl b457 <|
 zl b466 <|
 zl b368 <|
 zl b467 <|
 zl b356 <|
 zl b468 <|
 zl b357 <|
 zl b469 <|
 zl b470 <|
 zl b471 <|
 zl b95 <|
 zl b472 <|
 zl b70 <|
 zl b473 <|
 zl b474 <|
 zl b475 <|
 zl b476 <|
 zl b477 <|
 zl b341 <|
 zl b195 <|
 zl b478 <|
 zl b479 <|
 zl b197 <|
 zl b57 <|
 zl b88 <|
 zl b112 <|
 zl b26 <|
 zl b201 <|
 zl b238 <|
 zl b361 <|
 zl b307 <|
 zl b207 <|
 zl b362 <|
 zl b363 <|
 zl b366 <|
 zl b329 <|
 zl b331 <|
 zl b333 <|
 zl b334 <|
 zl b200 <|
 zl b367 <|
 zl b458 <|
 zl b181 <|
 zl b193 <|
 zl b382 <|
 zl b369 <|
 zl b370 <|
 zl b383 <|
 zl b384 <|
 zl b355 <|
 zl b145 <|
 zl b372 <|
 zl b480 <|
 zl b46 <|
 zl b483 <|
 zl b484 <|
 zl b485 <|
 zl b486 <|
 zl b487 <|
 zl b488 <|
 zl b191 <|
 zl b390 <|
 zl b380 <|
 zl b202 <|
 zl b489 <|
 zl b208 <|
 zl b490 <|
 zl b491 <|
 zl b178 <|
 zl b214 <|
 zl b223 <|
 zl b118 <|
 zl b119 <|
 zl b120 <|
 zl b121 <|
 zl b122 <|
 zl b123 <|
 zl b240 <|
 zl b59 <|
 zl b375 <|
 zl b48 <|
 zl b198 <|
 zl b376 <|
 zl b377 <|
 zl b378 <|
 zl b56 <|
 zl b364 <|
 zl b365 <|
 zl b379 <|
 zl b186 <|
 zl b358 <|
 zl b225 <|
 zl b226 <|
 zl b381 <|
 zl b221 <|
 zl b385 <|
 zl b371 <|
 zl b387 <|
 zl b495 <|
 zl b496 <|
 zl b29 <|
 zl b497 <|
 zl b33 <|
 zl b498 <|
 zl b499 <|
 zl b500 <|
 zl b414 <|
 zl b501 <|
 zl b502 <|
 zl b75 <|
 zl b503 <|
 zl b190 <|
 zl b407 <|
 zl b404 <|
 zl b180 <|
 zl b504 <|
 zl b192 <|
 zl b505 <|
 zl b506 <|
 zl b507 <|
 zl b177 <|
 zl b438 <|
 zl b508 <|
 zl b509 <|
 zl b220 <|
 zl b30 <|
 zl b347 <|
 zl b183 <|
 zl b117 <|
 zl b125 <|
 zl b126 <|
 zl b127 <|
 zl b128 <|
 zl b129 <|
 zl b130 <|
 zl b131 <|
 zl b132 <|
 zl b133 <|
 zl b134 <|
 zl b52 <|
 zl b135 <|
 zl b136 <|
 zl b99 <|
 zl b216 <|
 zl b388 <|
 zl b22 <|
 zl b389 <|
 zl b217 <|
 zl b373 <|
 zl b391 <|
 zl b386 <|
 zl b392 <|
 zl b73 <|
 zl b74 <|
 zl b76 <|
 zl b515 <|
 zl b35 <|
 zl b421 <|
 zl b516 <|
 zl b517 <|
 zl b107 <|
 zl b416 <|
 zl b417 <|
 zl b418 <|
 zl b419 <|
 zl b410 <|
 zl b411 <|
 zl b412 <|
 zl b413 <|
 zl b210 <|
 zl b518 <|
 zl b218 <|
 zl b219 <|
 zl b182 <|
 zl b206 <|
 zl b209 <|
 zl b493 <|
 zl b437 <|
 zl b77 <|
 zl b78 <|
 zl b109 <|
 zl b111 <|
 zl b124 <|
 zl b110 <|
 zl b137 <|
 zl b138 <|
 zl b139 <|
 zl b140 <|
 zl b141 <|
 zl b142 <|
 zl b143 <|
 zl b144 <|
 zl b393 <|
 zl b394 <|
 zl b395 <|
 zl b396 <|
 zl b397 <|
 zl b398 <|
 zl b80 <|
 zl b81 <|
 zl b82 <|
 zl b83 <|
 zl b520 <|
 zl b47 <|
 zl b211 <|
 zl b212 <|
 zl b55 <|
 zl b199 <|
 zl b513 <|
 zl b98 <|
 zl b45 <|
 zl b108 <|
 zl b146 <|
 zl b113 <|
 zl b114 <|
 zl b91 <|
 zl b93 <|
 zl b234 <|
 zl b96 <|
 zl b97 <|
 zl b224 <|
 zl b116 <|
 zl b92 <|
 zr b420 <|
 zr b422 <|
 zr b235 <|
 zr b233 <|
 zr b236 <|
 fun _ h=>absurd h List.not_mem_nil
theorem all_bear:∀q∈ns.g,Bears Tryz.prog q∨Bare Tryz.prog q:=rows_bear
theorem u420:∀q∈ns.g,q.2=420->q.1=152:=by decide +kernel
theorem clone420:Nonempty (lz Tryz.prog ns 152 1 16):=⟨
 { fn:=Tryz.f152,A:=E0,t:=(ix (bu Tryz.f152 1 1)).1,el:=TV Tryz.prog (ix (bu Tryz.f152 1 1)).1,ty:=(ix (bu Tryz.f152 1 1)).2,
   o0:=bu Tryz.f152 0 0,m:=bu Tryz.f152 1 0,e:=bu Tryz.f152 1 1,o2:=bu Tryz.f152 2 0,b:=bu Tryz.f152 3 0,m3:=bu Tryz.f152 3 1,ap:=bu Tryz.f152 3 2,fi:=bu Tryz.f152 3 3,
   r0:=ia Tryz.f152 0,r1:=ia Tryz.f152 1,r2:=ia Tryz.f152 2,r3:=ia Tryz.f152 3,
   A2:=E2,ag:=false,hf:=Tryz.func152}⟩
theorem u422:∀q∈ns.g,q.2=422->q.1=199:=by decide +kernel
theorem clone422:Nonempty (lz Tryz.prog ns 199 11 152):=⟨
 { fn:=Tryz.f199,A:=E0,t:=(ix (bu Tryz.f199 1 1)).1,el:=TV Tryz.prog (ix (bu Tryz.f199 1 1)).1,ty:=(ix (bu Tryz.f199 1 1)).2,
   o0:=bu Tryz.f199 0 0,m:=bu Tryz.f199 1 0,e:=bu Tryz.f199 1 1,o2:=bu Tryz.f199 2 0,b:=bu Tryz.f199 3 0,m3:=bu Tryz.f199 3 1,ap:=bu Tryz.f199 3 2,fi:=bu Tryz.f199 3 3,
   r0:=ia Tryz.f199 0,r1:=ia Tryz.f199 1,r2:=ia Tryz.f199 2,r3:=ia Tryz.f199 3,
   A2:=E2,ag:=true,hf:=Tryz.func199}⟩
theorem u235:∀q∈ns.g,q.2=235->q.1=246:=by decide +kernel
theorem clone235:Nonempty (lz Tryz.prog ns 246 5 64):=⟨
 { fn:=Tryz.f246,A:=E0,t:=(ix (bu Tryz.f246 1 1)).1,el:=TV Tryz.prog (ix (bu Tryz.f246 1 1)).1,ty:=(ix (bu Tryz.f246 1 1)).2,
   o0:=bu Tryz.f246 0 0,m:=bu Tryz.f246 1 0,e:=bu Tryz.f246 1 1,o2:=bu Tryz.f246 2 0,b:=bu Tryz.f246 3 0,m3:=bu Tryz.f246 3 1,ap:=bu Tryz.f246 3 2,fi:=bu Tryz.f246 3 3,
   r0:=ia Tryz.f246 0,r1:=ia Tryz.f246 1,r2:=ia Tryz.f246 2,r3:=ia Tryz.f246 3,
   A2:=E2,ag:=true,hf:=Tryz.func246}⟩
theorem u233:∀q∈ns.g,q.2=233->q.1=244:=by decide +kernel
theorem back233:Nonempty (pN Tryz.prog ns 244 7 true):=⟨
 { fn:=Tryz.f244,A:=E0,o0:=pO Tryz.f244 0,o1:=pO Tryz.f244 1,o2:=pO Tryz.f244 3,
   m0:=bu Tryz.f244 2 0,RG:=((pO Tryz.f244 2).toList.drop 1).take 5,y:=bu Tryz.f244 2 6,nt:=bu Tryz.f244 2 7,
   r0:=ia Tryz.f244 0,r1:=ia Tryz.f244 1,r2:=ia Tryz.f244 3,r3:=ia Tryz.f244 2,b0:=s8 Tryz.f244 0,b1:=s8 Tryz.f244 1,
   types:=typesOf (bu Tryz.f244 2 6),tb:=MX (bu Tryz.f244 2 7),
   hf:=Tryz.func244,uv:=by kernel_rfl,ie:=by kernel_rfl,hN:=by kernel_rfl,c0:=by kernel_rfl,c1:=by kernel_rfl,c2:=by kernel_rfl,h0:=⟨by kernel_rfl,by kernel_rfl,by kernel_rfl⟩,c3:=by kernel_rfl,hy:=⟨by kernel_rfl,by kernel_rfl,by kernel_rfl⟩,hn:=⟨by kernel_rfl,by kernel_rfl,by kernel_rfl⟩}⟩
theorem u236:∀q∈ns.g,q.2=236->q.1=247:=by decide +kernel
theorem back236:Nonempty (pN Tryz.prog ns 247 5 true):=⟨
 { fn:=Tryz.f247,A:=E0,o0:=pO Tryz.f247 0,o1:=pO Tryz.f247 1,o2:=pO Tryz.f247 3,
   m0:=bu Tryz.f247 2 0,RG:=((pO Tryz.f247 2).toList.drop 1).take 5,y:=bu Tryz.f247 2 6,nt:=bu Tryz.f247 2 7,
   r0:=ia Tryz.f247 0,r1:=ia Tryz.f247 1,r2:=ia Tryz.f247 3,r3:=ia Tryz.f247 2,b0:=s8 Tryz.f247 0,b1:=s8 Tryz.f247 1,
   types:=typesOf (bu Tryz.f247 2 6),tb:=MX (bu Tryz.f247 2 7),
   hf:=Tryz.func247,uv:=by kernel_rfl,ie:=by kernel_rfl,hN:=by kernel_rfl,c0:=by kernel_rfl,c1:=by kernel_rfl,c2:=by kernel_rfl,h0:=⟨by kernel_rfl,by kernel_rfl,by kernel_rfl⟩,c3:=by kernel_rfl,hy:=⟨by kernel_rfl,by kernel_rfl,by kernel_rfl⟩,hn:=⟨by kernel_rfl,by kernel_rfl,by kernel_rfl⟩}⟩
theorem backs_ok:s7 Tryz.prog ns:=by
 intro gb sz ag h f hf;simp only[ns,look]at h;split at h
 ·rename_i e;subst e;cases h;have:=u233 (f,233) (look_memI hf) rfl;simp only at this;subst this;exact back233
 split at h
 ·rename_i e;subst e;cases h;have:=u236 (f,236) (look_memI hf) rfl;simp only at this;subst this;exact back236
 cases h
theorem clones_ok:∀g sz bytes f,look ns.cl g=some (sz,bytes)->ns.of f=some g->Nonempty (lz Tryz.prog ns f sz bytes):=by
 intro g sz bytes f h hf;simp only[ns,look]at h;split at h
 ·rename_i e;subst e;cases h;have:=u420 (f,420) (look_memI hf) rfl;simp only at this;subst this;exact clone420
 split at h
 ·rename_i e;subst e;cases h;have:=u422 (f,422) (look_memI hf) rfl;simp only at this;subst this;exact clone422
 split at h
 ·rename_i e;subst e;cases h;have:=u235 (f,235) (look_memI hf) rfl;simp only at this;subst this;exact clone235
 cases h
theorem impl:Impl Tryz.prog ns AP:=⟨by kernel_rfl,fun f g h=>(all_bear (f,g) (look_memI h)).imp id fun⟨h1,h2⟩=>⟨h1,.inl h2⟩,backs_ok,clones_ok⟩
end Go.Ab
