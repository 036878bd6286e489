import Derived.Test.YtdfcnacldfnbfaaGreatRows
import Derived.Test.YtdfcnacldfnbfaaGreatCodeA
/-
  Each function of the given program that has slim code bears just that code: the kernel translates it anew and compares.
-/
set_option linter.defProp false
set_option linter.unusedVariables false
set_option linter.unusedSimpArgs false
set_option linter.unnecessarySimpa false
set_option maxRecDepth 100000
set_option maxHeartbeats 8000000
namespace Go.Ab
open Proofs
def ns:Names:=⟨[(3,445),(4,448),(5,15),(6,32),(7,176),(8,63),(9,69),(10,326),(11,34),(12,457),(13,450),(14,458),(15,37),(16,46),(17,459),(18,453),(19,451),(20,464),(21,456),(22,106),(23,20),(24,71),(25,79),(26,62),(27,68),(28,348),(29,194),(30,175),(31,179),(32,27),(33,349),(34,350),(35,351),(36,352),(37,366),(38,476),(39,466),(40,368),(41,329),(42,331),(43,357),(44,356),(45,333),(46,334),(47,467),(48,468),(49,469),(50,470),(51,377),(52,70),(53,473),(54,471),(55,95),(56,472),(57,195),(58,478),(59,479),(60,197),(61,57),(62,112),(63,26),(64,201),(65,238),(66,361),(67,307),(68,207),(69,362),(70,363),(71,364),(72,365),(73,191),(74,379),(75,186),(76,145),(77,380),(78,200),(79,367),(80,181),(81,193),(82,382),(83,369),(84,370),(85,383),(86,384),(87,355),(88,372),(89,358),(90,480),(91,22),(92,483),(93,484),(94,485),(95,486),(96,487),(97,214),(98,223),(99,118),(100,119),(101,120),(102,121),(103,122),(104,123),(105,240),(106,59),(107,208),(108,375),(109,48),(110,198),(111,376),(112,378),(113,56),(114,390),(115,216),(116,217),(117,225),(118,226),(119,381),(120,221),(121,385),(122,371),(123,387),(124,373),(125,495),(126,496),(127,29),(128,497),(129,33),(130,498),(131,499),(132,500),(133,414),(134,501),(135,502),(136,75),(137,503),(138,190),(139,407),(141,404),(142,180),(143,504),(144,192),(145,505),(146,506),(147,507),(148,177),(149,438),(150,508),(151,509),(152,220),(153,117),(154,125),(155,126),(156,127),(157,128),(158,129),(159,130),(160,131),(161,132),(162,133),(163,134),(164,52),(165,135),(166,136),(167,99),(168,72),(169,388),(170,389),(171,391),(172,386),(173,392),(174,73),(175,74),(176,76),(177,515),(178,35),(179,421),(180,516),(182,517),(183,107),(184,416),(185,417),(186,418),(187,419),(188,410),(189,411),(190,412),(191,413),(192,210),(193,518),(194,218),(195,219),(196,182),(197,206),(198,209),(199,493),(200,437),(201,109),(202,111),(203,124),(204,110),(205,77),(206,78),(207,137),(208,138),(209,139),(210,140),(211,141),(212,142),(213,143),(214,144),(215,393),(216,394),(217,395),(218,396),(219,397),(220,398),(221,80),(222,81),(223,82),(224,83),(225,520),(227,47),(230,211),(231,212),(232,55),(233,199),(234,513),(235,98),(236,45),(237,108),(238,146),(239,113),(240,114),(241,91),(242,93),(243,234),(244,96),(245,97),(246,224),(247,116),(248,92),(140,420),(181,422),(228,235),(226,233),(229,236)],
 [326,37,68,348,175,27,349,350,352,466,368,329,331,357,333,334,467,468,470,478,479,367,382,369,370,383,384,119,120,121,122,240,387,498,500,75,126,127,128,129,130,131,132,133,134,421,516,107,416,417,418,412,413,210,219,139,140,141,83,211,212,91,93,234,96,97,92],[(233,7,true),(236,5,true)],[(420,1,16),(422,11,152),(235,5,64)],fun _=>none⟩
def lv1(i:Nat):ah->List (Nat×List Nat)
 | .ka _ l=>[(i,l)]
 | .seq a b=>lv1 i b++lv1 i a
 |_=>[]
def gk:Code->ah->List (Nat×List Nat)
 | .region i _ _,x=>lv1 i x
 | .seq a b,.seq x y=>gk a x++gk b y
 | .cond _ a b,.cond _ x y=>gk a x++gk b y
 | .block _ a,.block _ x=>gk a x
 | .loop a,.loop _ x=>gk a x
 | .rangeFunc _ _ a b,.back _ _ _ _ _ _ _ x y=>gk a x++gk b y
 |_,_=>[]
def lp1(o:Option Nat)(l:List Nat):List (Nat×List Nat):=match o with|some i=>[(i,l)]|none=>[]
def lps:Code->ah->List (Nat×List Nat)
 | .seq a b,.seq x y=>lps a x++lps b y
 | .cond _ a b,.cond _ x y=>lps a x++lps b y
 | .block _ a,.block _ x=>lps a x
 | .loop a,.loop l x=>lp1 (kK a) l++lps a x
 | .rangeFunc _ _ a b,.back _ _ _ _ _ _ l x y=>lp1 (kK a) l++lps a x++lps b y
 |_,_=>[]
def An(p:List (Nat×Nat×Nat))(s h si:List Nat)(ow:List (Nat×List Nat))(bk:List (Nat×Nat))(ks:Bool)(q ho:List Nat)(fz:List (Nat×List Nat))(du:List (Nat×Nat))(ro:List Nat)(fa:List (Nat×List (Nat×Nat)))(pu:List (Nat×List (Nat×Nat×Bool)))(pr:List (Nat×List (Nat×Nat×Nat)))(cu:List (Nat×Nat×List Nat×List Nat))(fs:List (Nat×List Nat))(kp zp:List Nat)(fn:Func)(af:aw):nA:=
 ⟨p,s,h,gk (fn.body.getD .skip) af.body,lps (fn.body.getD .skip) af.body,si,ow,bk,ks,q,ho,fz,du,ro,fa,pu,pr,cu,fs,kp,zp⟩
def prO(m:List (Nat×Nat×Nat))(o:d8):List (Nat×Nat×Nat):=match o.dst,o.op,o.args with
 |some d,.alloc k _,_=>(d,k,0)::m
 |some d,.box k _,_=>(d,k,0)::m
 |some d,.v (.jh n),[.t s]=>match look m s with|some (k,f)=>(d,k,f+n)::m|none=>m
 |_,_,_=>m
def prC:ah->List (Nat×Nat×Nat)->List (Nat×Nat×Nat)
 | .ka os _,m=>os.foldl prO m
 | .seq a b,m=>prC b (prC a m)
 | .cond _ a b,m=>prC b (prC a m)
 | .block _ a,m=>prC a m
 | .loop _ a,m=>prC a m
 | .back _ _ _ _ _ _ _ a b,m=>prC b (prC a m)
 |_,m=>m
def Am(s h si:List Nat)(ow:List (Nat×List Nat))(bk:List (Nat×Nat))(ks:Bool)(q ho:List Nat)(fz:List (Nat×List Nat))(fn:Func)(af:aw):nA:=An (prC af.body []) s h si ow bk ks q ho fz [] [] [] [] [] [] [] [] [] fn af
def Al(s:List Nat):Func->aw->nA:=Am s [] [] [] [] false [] [] []
def Ak:Func->aw->nA:=Al []
def E0:nA:=⟨[],[],[],[],[],[],[],[],false,[],[],[],[],[],[],[],[],[],[],[],[]⟩
def E2:nA:=⟨[],[],[],[],[],[],[],[],false,[],[7],[],[],[],[],[],[],[],[],[],[]⟩
def Bears(P:Program)(q:Nat×Nat):Prop:=∃fn A af,P.funcs[q.1]?=some fn/\s8 P ns A fn=some af/\AP q.2=some af
def zb{i g:Nat}{P:Program}{fn:Func}(af:aw)(A:Func->aw->nA)(h:P.funcs[i]?=some fn)(e:AP g=some af:=by rfl)(k:s8 P ns (A fn af) fn=some af:=by kernel_rfl):Bears P (i,g):=⟨fn,A fn af,af,h,k,e⟩
def zl{α:Type}{p r:α->Prop}{a:α}{l:List α}(h:p a)(t:∀q∈l,p q\/r q):∀q∈a::l,p q\/r q:=List.forall_mem_cons.2 ⟨.inl h,t⟩
def zr{α:Type}{p r:α->Prop}{a:α}{l:List α}(h:r a)(t:∀q∈l,p q\/r q):∀q∈a::l,p q\/r q:=List.forall_mem_cons.2 ⟨.inr h,t⟩
def look_memI{α:Type}{t:Nat}{v:α}:∀{l:List (Nat×α)},look l t=some v->(t,v)∈l
 |[],h=>by simp[look]at h
 |(k,u)::r,h=>by
  simp only[look]at h;split at h
  .rename_i e;cases h;subst e;exact List.mem_cons_self
  .exact List.mem_cons_of_mem _ (look_memI h)
def Bare (P:Program) (q:Nat×Nat):Prop:=(∃fn b,P.funcs[q.1]?=some fn∧fn.body=some b∧fn.name ≠ "runtime.NumGoroutine")∧AP q.2=none
abbrev Br:Nat×Nat->Prop:=Bears Tryz.prog
def b445:Br (3,445):=zb g445 (Am [98] [114,127,131] [86] [] [] false [] [] [(9,[11]),(19,[19])]) Tryz.func3
def b448:Br (4,448):=zb g448 Ak Tryz.func4
def b15:Br (5,15):=zb g15 Ak Tryz.func5
def b32:Br (6,32):=zb g32 Ak Tryz.func6
def b176:Br (7,176):=zb g176 Ak Tryz.func7
def b63:Br (8,63):=zb g63 Ak Tryz.func8
def b69:Br (9,69):=zb g69 Ak Tryz.func9
def b326:Br (10,326):=zb g326 (Am [] [53] [] [] [] false [] [] []) Tryz.func10
def b34:Br (11,34):=zb g34 Ak Tryz.func11
def b457:Br (12,457):=zb g457 (Am [73,94,102,111,120,132,138,145,174,184] [] [] [] [] false [] [] [(6,[16])]) Tryz.func12
def b450:Br (13,450):=zb g450 (Am [79] [] [] [] [] false [] [] [(6,[17])]) Tryz.func13
def b458:Br (14,458):=zb g458 Ak Tryz.func14
def b37:Br (15,37):=zb g37 (Am [] [] [23] [] [] true [] [30] []) Tryz.func15
def b46:Br (16,46):=zb g46 Ak Tryz.func16
def b459:Br (17,459):=zb g459 Ak Tryz.func17
def b453:Br (18,453):=zb g453 Ak Tryz.func18
def b451:Br (19,451):=zb g451 Ak Tryz.func19
def b464:Br (20,464):=zb g464 Ak Tryz.func20
def b456:Br (21,456):=zb g456 Ak Tryz.func21
def b106:Br (22,106):=zb g106 Ak Tryz.func22
def b20:Br (23,20):=zb g20 Ak Tryz.func23
def b71:Br (24,71):=zb g71 Ak Tryz.func24
def b79:Br (25,79):=zb g79 Ak Tryz.func25
def b62:Br (26,62):=zb g62 Ak Tryz.func26
def b68:Br (27,68):=zb g68 (Al [7,11,17,24,28]) Tryz.func27
def b348:Br (28,348):=zb g348 (Am [] [15] [] [] [] false [] [] []) Tryz.func28
def b194:Br (29,194):=zb g194 Ak Tryz.func29
def b175:Br (30,175):=zb g175 Ak Tryz.func30
def b179:Br (31,179):=zb g179 Ak Tryz.func31
def b27:Br (32,27):=zb g27 (Al [29,59]) Tryz.func32
def b349:Br (33,349):=zb g349 (Am [] [43,69] [] [] [] false [] [] []) Tryz.func33
def b350:Br (34,350):=zb g350 (Am [35] [78,113] [] [] [] false [] [] []) Tryz.func34
def b351:Br (35,351):=zb g351 Ak Tryz.func35
def b352:Br (36,352):=zb g352 (Am [] [19] [] [] [] false [] [] []) Tryz.func36
def b366:Br (37,366):=zb g366 Ak Tryz.func37
def b476:Br (38,476):=zb g476 Ak Tryz.func38
def b466:Br (39,466):=zb g466 (An [] [] [18,38] [] [] [] false [] [] [(2,[9])] [] [] [] [] [] [] [] [16] []) Tryz.func39
def b368:Br (40,368):=zb g368 (Am [26,48,130] [39,77,145,179] [] [] [] false [] [] [(16,[11]),(19,[12]),(20,[13]),(30,[17]),(34,[20]),(39,[21]),(46,[22])]) Tryz.func40
def b329:Br (41,329):=zb g329 (Al [7]) Tryz.func41
def b331:Br (42,331):=zb g331 Ak Tryz.func42
def b357:Br (43,357):=zb g357 (Am [10] [13] [] [] [] false [] [] []) Tryz.func43
def b356:Br (44,356):=zb g356 Ak Tryz.func44
def b333:Br (45,333):=zb g333 (Am [12] [20] [] [] [] false [] [] []) Tryz.func45
def b334:Br (46,334):=zb g334 Ak Tryz.func46
def b467:Br (47,467):=zb g467 (Al [16,33]) Tryz.func47
def b468:Br (48,468):=zb g468 (Am [14] [17] [] [] [] false [] [] []) Tryz.func48
def b469:Br (49,469):=zb g469 Ak Tryz.func49
def b470:Br (50,470):=zb g470 (Am [] [18] [] [] [] false [] [] []) Tryz.func50
def b377:Br (51,377):=zb g377 Ak Tryz.func51
def b70:Br (52,70):=zb g70 Ak Tryz.func52
def b473:Br (53,473):=zb g473 Ak Tryz.func53
def b471:Br (54,471):=zb g471 Ak Tryz.func54
def b95:Br (55,95):=zb g95 Ak Tryz.func55
def b472:Br (56,472):=zb g472 Ak Tryz.func56
def b195:Br (57,195):=zb g195 Ak Tryz.func57
def b478:Br (58,478):=zb g478 (Am [35] [14] [] [] [] false [] [] []) Tryz.func58
def b479:Br (59,479):=zb g479 (Al [1]) Tryz.func59
def b197:Br (60,197):=zb g197 (Am [32] [12] [] [] [] false [] [] []) Tryz.func60
def b57:Br (61,57):=zb g57 Ak Tryz.func61
def b112:Br (62,112):=zb g112 (Am [22,28,52,57] [] [] [] [] true [] [] []) Tryz.func62
def b26:Br (63,26):=zb g26 Ak Tryz.func63
def b201:Br (64,201):=zb g201 Ak Tryz.func64
def b238:Br (65,238):=zb g238 Ak Tryz.func65
def b361:Br (66,361):=zb g361 Ak Tryz.func66
def b307:Br (67,307):=zb g307 Ak Tryz.func67
def b207:Br (68,207):=zb g207 Ak Tryz.func68
def b362:Br (69,362):=zb g362 Ak Tryz.func69
def b363:Br (70,363):=zb g363 Ak Tryz.func70
def b364:Br (71,364):=zb g364 Ak Tryz.func71
def b365:Br (72,365):=zb g365 Ak Tryz.func72
def b191:Br (73,191):=zb g191 Ak Tryz.func73
def b379:Br (74,379):=zb g379 Ak Tryz.func74
def b186:Br (75,186):=zb g186 Ak Tryz.func75
def b145:Br (76,145):=zb g145 (Am [20] [] [] [] [] true [] [7,23] []) Tryz.func76
def b380:Br (77,380):=zb g380 Ak Tryz.func77
def b200:Br (78,200):=zb g200 Ak Tryz.func78
def b367:Br (79,367):=zb g367 (Al [8,12]) Tryz.func79
def b181:Br (80,181):=zb g181 Ak Tryz.func80
def b193:Br (81,193):=zb g193 Ak Tryz.func81
def b382:Br (82,382):=zb g382 Ak Tryz.func82
def b369:Br (83,369):=zb g369 (Al [13,19]) Tryz.func83
def b370:Br (84,370):=zb g370 (Am [24,30,44,69,74] [51] [] [] [] false [] [] []) Tryz.func84
def b383:Br (85,383):=zb g383 (Am [29,42,64,94] [128] [] [] [] false [] [] [(2,[7]),(21,[18])]) Tryz.func85
def b384:Br (86,384):=zb g384 (Al [11,15,30]) Tryz.func86
def b355:Br (87,355):=zb g355 Ak Tryz.func87
def b372:Br (88,372):=zb g372 (Al [28]) Tryz.func88
def b358:Br (89,358):=zb g358 Ak Tryz.func89
def b480:Br (90,480):=zb g480 Ak Tryz.func90
def b22:Br (91,22):=zb g22 Ak Tryz.func91
def b483:Br (92,483):=zb g483 Ak Tryz.func92
def b484:Br (93,484):=zb g484 Ak Tryz.func93
def b485:Br (94,485):=zb g485 (Am [] [] [54] [] [] false [] [] []) Tryz.func94
def b486:Br (95,486):=zb g486 Ak Tryz.func95
def b487:Br (96,487):=zb g487 (Am [] [] [124,142] [] [] false [] [] []) Tryz.func96
def b214:Br (97,214):=zb g214 Ak Tryz.func97
def b223:Br (98,223):=zb g223 Ak Tryz.func98
def b118:Br (99,118):=zb g118 Ak Tryz.func99
def b119:Br (100,119):=zb g119 Ak Tryz.func100
def b120:Br (101,120):=zb g120 (Al [7,13,17,25,29,38,42,53,57]) Tryz.func101
def b121:Br (102,121):=zb g121 (Al [26]) Tryz.func102
def b122:Br (103,122):=zb g122 (Al [25]) Tryz.func103
def b123:Br (104,123):=zb g123 Ak Tryz.func104
def b240:Br (105,240):=zb g240 (Al [23,28]) Tryz.func105
def b59:Br (106,59):=zb g59 (Am [] [] [16] [(16,[0])] [] false [] [] []) Tryz.func106
def b208:Br (107,208):=zb g208 Ak Tryz.func107
def b375:Br (108,375):=zb g375 Ak Tryz.func108
def b48:Br (109,48):=zb g48 Ak Tryz.func109
def b198:Br (110,198):=zb g198 Ak Tryz.func110
def b376:Br (111,376):=zb g376 Ak Tryz.func111
def b378:Br (112,378):=zb g378 Ak Tryz.func112
def b56:Br (113,56):=zb g56 (Am [] [] [18] [(18,[0])] [] false [] [] []) Tryz.func113
def b390:Br (114,390):=zb g390 Ak Tryz.func114
def b216:Br (115,216):=zb g216 Ak Tryz.func115
def b217:Br (116,217):=zb g217 Ak Tryz.func116
def b225:Br (117,225):=zb g225 Ak Tryz.func117
def b226:Br (118,226):=zb g226 Ak Tryz.func118
def b381:Br (119,381):=zb g381 Ak Tryz.func119
def b221:Br (120,221):=zb g221 Ak Tryz.func120
def b385:Br (121,385):=zb g385 Ak Tryz.func121
def b371:Br (122,371):=zb g371 Ak Tryz.func122
def b387:Br (123,387):=zb g387 (Am [11,18,27,38,42,47,56] [] [] [] [] false [] [39,48] []) Tryz.func123
def b373:Br (124,373):=zb g373 Ak Tryz.func124
def b495:Br (125,495):=zb g495 Ak Tryz.func125
def b496:Br (126,496):=zb g496 Ak Tryz.func126
def b29:Br (127,29):=zb g29 Ak Tryz.func127
def b497:Br (128,497):=zb g497 Ak Tryz.func128
def b33:Br (129,33):=zb g33 Ak Tryz.func129
def b498:Br (130,498):=zb g498 Ak Tryz.func130
def b499:Br (131,499):=zb g499 Ak Tryz.func131
def b500:Br (132,500):=zb g500 Ak Tryz.func132
def b414:Br (133,414):=zb g414 (Am [] [] [8] [] [] true [] [8,20] []) Tryz.func133
def b501:Br (134,501):=zb g501 Ak Tryz.func134
def b502:Br (135,502):=zb g502 Ak Tryz.func135
def b75:Br (136,75):=zb g75 Ak Tryz.func136
def b503:Br (137,503):=zb g503 Ak Tryz.func137
def b190:Br (138,190):=zb g190 Ak Tryz.func138
def b407:Br (139,407):=zb g407 Ak Tryz.func139
def b404:Br (141,404):=zb g404 (Am [11] [] [36] [(36,[0])] [] true [] [40] []) Tryz.func141
def b180:Br (142,180):=zb g180 (Am [3] [] [] [] [(9,233)] false [] [] []) Tryz.func142
def b504:Br (143,504):=zb g504 Ak Tryz.func143
def b192:Br (144,192):=zb g192 (Am [29,44,48,58,12,63] [47] [] [] [(54,236)] false [] [] []) Tryz.func144
def b505:Br (145,505):=zb g505 Ak Tryz.func145
def b506:Br (146,506):=zb g506 Ak Tryz.func146
def b507:Br (147,507):=zb g507 (Am [] [] [73,137] [] [] false [] [] []) Tryz.func147
def b177:Br (148,177):=zb g177 (Am [] [] [8] [] [] false [] [] []) Tryz.func148
def b438:Br (149,438):=zb g438 Ak Tryz.func149
def b508:Br (150,508):=zb g508 (Am [] [43] [27,64] [] [] false [] [] []) Tryz.func150
def b509:Br (151,509):=zb g509 Ak Tryz.func151
def b220:Br (152,220):=zb g220 Ak Tryz.func152
def b117:Br (153,117):=zb g117 Ak Tryz.func153
def b125:Br (154,125):=zb g125 Ak Tryz.func154
def b126:Br (155,126):=zb g126 (Al [5,9,15,19]) Tryz.func155
def b127:Br (156,127):=zb g127 Ak Tryz.func156
def b128:Br (157,128):=zb g128 (Al [13,20,24]) Tryz.func157
def b129:Br (158,129):=zb g129 (Al [7,13,17,25,29]) Tryz.func158
def b130:Br (159,130):=zb g130 Ak Tryz.func159
def b131:Br (160,131):=zb g131 (Am [20] [] [15] [] [] false [] [] []) Tryz.func160
def b132:Br (161,132):=zb g132 (Al [10]) Tryz.func161
def b133:Br (162,133):=zb g133 (Am [] [] [8] [] [] false [] [] []) Tryz.func162
def b134:Br (163,134):=zb g134 (Al [21,41,50,71,77,81,89,93]) Tryz.func163
def b52:Br (164,52):=zb g52 Ak Tryz.func164
def b135:Br (165,135):=zb g135 Ak Tryz.func165
def b136:Br (166,136):=zb g136 Ak Tryz.func166
def b99:Br (167,99):=zb g99 (Am [] [] [50] [(50,[0])] [] false [] [] []) Tryz.func167
def b72:Br (168,72):=zb g72 Ak Tryz.func168
def b388:Br (169,388):=zb g388 Ak Tryz.func169
def b389:Br (170,389):=zb g389 (Am [] [] [198] [] [] false [] [] []) Tryz.func170
def b391:Br (171,391):=zb g391 Ak Tryz.func171
def b386:Br (172,386):=zb g386 Ak Tryz.func172
def b392:Br (173,392):=zb g392 Ak Tryz.func173
def b73:Br (174,73):=zb g73 Ak Tryz.func174
def b74:Br (175,74):=zb g74 Ak Tryz.func175
def b76:Br (176,76):=zb g76 Ak Tryz.func176
def b515:Br (177,515):=zb g515 Ak Tryz.func177
def b35:Br (178,35):=zb g35 Ak Tryz.func178
def b421:Br (179,421):=zb g421 (Al [14]) Tryz.func179
def b516:Br (180,516):=zb g516 (Al [14]) Tryz.func180
def b517:Br (182,517):=zb g517 Ak Tryz.func182
def b107:Br (183,107):=zb g107 (Al [14]) Tryz.func183
def b416:Br (184,416):=zb g416 (Al [14]) Tryz.func184
def b417:Br (185,417):=zb g417 (Al [1]) Tryz.func185
def b418:Br (186,418):=zb g418 (Al [20,24]) Tryz.func186
def b419:Br (187,419):=zb g419 Ak Tryz.func187
def b410:Br (188,410):=zb g410 Ak Tryz.func188
def b411:Br (189,411):=zb g411 Ak Tryz.func189
def b412:Br (190,412):=zb g412 (Am [24] [] [] [] [] true [] [38,41] []) Tryz.func190
def b413:Br (191,413):=zb g413 (Al [1]) Tryz.func191
def b210:Br (192,210):=zb g210 Ak Tryz.func192
def b518:Br (193,518):=zb g518 Ak Tryz.func193
def b218:Br (194,218):=zb g218 Ak Tryz.func194
def b219:Br (195,219):=zb g219 Ak Tryz.func195
def b182:Br (196,182):=zb g182 (Al [5]) Tryz.func196
def b206:Br (197,206):=zb g206 Ak Tryz.func197
def b209:Br (198,209):=zb g209 Ak Tryz.func198
def b493:Br (199,493):=zb g493 (Am [] [] [17] [] [] false [] [] []) Tryz.func199
def b437:Br (200,437):=zb g437 Ak Tryz.func200
def b109:Br (201,109):=zb g109 Ak Tryz.func201
def b111:Br (202,111):=zb g111 Ak Tryz.func202
def b124:Br (203,124):=zb g124 Ak Tryz.func203
def b110:Br (204,110):=zb g110 Ak Tryz.func204
def b77:Br (205,77):=zb g77 Ak Tryz.func205
def b78:Br (206,78):=zb g78 Ak Tryz.func206
def b137:Br (207,137):=zb g137 Ak Tryz.func207
def b138:Br (208,138):=zb g138 Ak Tryz.func208
def b139:Br (209,139):=zb g139 (Al [5,13,17,24,28,38,44,48]) Tryz.func209
def b140:Br (210,140):=zb g140 (Al [32]) Tryz.func210
def b141:Br (211,141):=zb g141 (Al [51]) Tryz.func211
def b142:Br (212,142):=zb g142 Ak Tryz.func212
def b143:Br (213,143):=zb g143 Ak Tryz.func213
def b144:Br (214,144):=zb g144 Ak Tryz.func214
def b393:Br (215,393):=zb g393 (Am [] [] [] [] [] false [] [21] [(6,[8])]) Tryz.func215
def b394:Br (216,394):=zb g394 Ak Tryz.func216
def b395:Br (217,395):=zb g395 Ak Tryz.func217
def b396:Br (218,396):=zb g396 Ak Tryz.func218
def b397:Br (219,397):=zb g397 Ak Tryz.func219
def b398:Br (220,398):=zb g398 Ak Tryz.func220
def b80:Br (221,80):=zb g80 Ak Tryz.func221
def b81:Br (222,81):=zb g81 Ak Tryz.func222
def b82:Br (223,82):=zb g82 Ak Tryz.func223
def b83:Br (224,83):=zb g83 (Al [16,24]) Tryz.func224
def b520:Br (225,520):=zb g520 Ak Tryz.func225
def b47:Br (227,47):=zb g47 Ak Tryz.func227
def b211:Br (230,211):=zb g211 Ak Tryz.func230
def b212:Br (231,212):=zb g212 (Al [6]) Tryz.func231
def b55:Br (232,55):=zb g55 (Al [3]) Tryz.func232
def b199:Br (233,199):=zb g199 (Am [] [] [20] [] [] false [] [] []) Tryz.func233
def b513:Br (234,513):=zb g513 Ak Tryz.func234
def b98:Br (235,98):=zb g98 Ak Tryz.func235
def b45:Br (236,45):=zb g45 Ak Tryz.func236
def b108:Br (237,108):=zb g108 Ak Tryz.func237
def b146:Br (238,146):=zb g146 Ak Tryz.func238
def b113:Br (239,113):=zb g113 Ak Tryz.func239
def b114:Br (240,114):=zb g114 Ak Tryz.func240
def b91:Br (241,91):=zb g91 (Al [25]) Tryz.func241
def b93:Br (242,93):=zb g93 (Al [1]) Tryz.func242
def b234:Br (243,234):=zb g234 (Al [14]) Tryz.func243
def b96:Br (244,96):=zb g96 Ak Tryz.func244
def b97:Br (245,97):=zb g97 (Al [1]) Tryz.func245
def b224:Br (246,224):=zb g224 (Am [] [] [23] [] [] false [] [] [(7,[3])]) Tryz.func246
def b116:Br (247,116):=zb g116 Ak Tryz.func247
def b92:Br (248,92):=zb g92 (Al [1]) Tryz.func248
def b420:Bare Tryz.prog (140,420):=⟨⟨Tryz.f140,oi Tryz.f140,Tryz.func140,by kernel_rfl,by decide⟩,rfl⟩
def b422:Bare Tryz.prog (181,422):=⟨⟨Tryz.f181,oi Tryz.f181,Tryz.func181,by kernel_rfl,by decide⟩,rfl⟩
def b235:Bare Tryz.prog (228,235):=⟨⟨Tryz.f228,oi Tryz.f228,Tryz.func228,by kernel_rfl,by decide⟩,rfl⟩
def b233:Bare Tryz.prog (226,233):=⟨⟨Tryz.f226,oi Tryz.f226,Tryz.func226,by kernel_rfl,by decide⟩,rfl⟩
def b236:Bare Tryz.prog (229,236):=⟨⟨Tryz.f229,oi Tryz.f229,Tryz.func229,by kernel_rfl,by decide⟩,rfl⟩
def rows_bear:∀q∈ns.g,Br q\/Bare Tryz.prog q:=
 zl b445 <|
 zl b448 <|
 zl b15 <|
 zl b32 <|
 zl b176 <|
 zl b63 <|
 zl b69 <|
 zl b326 <|
 zl b34 <|
 zl b457 <|
 zl b450 <|
 zl b458 <|
 zl b37 <|
 zl b46 <|
 zl b459 <|
 zl b453 <|
 zl b451 <|
 zl b464 <|
 zl b456 <|
 zl b106 <|
 zl b20 <|
 zl b71 <|
 zl b79 <|
 zl b62 <|
 zl b68 <|
 zl b348 <|
 zl b194 <|
 zl b175 <|
 zl b179 <|
 zl b27 <|
 zl b349 <|
 zl b350 <|
 zl b351 <|
 zl b352 <|
 zl b366 <|
 zl b476 <|
 zl b466 <|
 zl b368 <|
 zl b329 <|
 zl b331 <|
 zl b357 <|
 zl b356 <|
 zl b333 <|
 zl b334 <|
 zl b467 <|
 zl b468 <|
 zl b469 <|
 zl b470 <|
 zl b377 <|
 zl b70 <|
 zl b473 <|
 zl b471 <|
 zl b95 <|
 zl b472 <|
 zl b195 <|
 zl b478 <|
 zl b479 <|
 zl b197 <|
 zl b57 <|
 zl b112 <|
 zl b26 <|
 zl b201 <|
 zl b238 <|
 zl b361 <|
 zl b307 <|
 zl b207 <|
 zl b362 <|
 zl b363 <|
 zl b364 <|
 zl b365 <|
 zl b191 <|
 zl b379 <|
 zl b186 <|
 zl b145 <|
 zl b380 <|
 zl b200 <|
 zl b367 <|
 zl b181 <|
 zl b193 <|
 zl b382 <|
 zl b369 <|
 zl b370 <|
 zl b383 <|
 zl b384 <|
 zl b355 <|
 zl b372 <|
 zl b358 <|
 zl b480 <|
 zl b22 <|
 zl b483 <|
 zl b484 <|
 zl b485 <|
 zl b486 <|
 zl b487 <|
 zl b214 <|
 zl b223 <|
 zl b118 <|
 zl b119 <|
 zl b120 <|
 zl b121 <|
 zl b122 <|
 zl b123 <|
 zl b240 <|
 zl b59 <|
 zl b208 <|
 zl b375 <|
 zl b48 <|
 zl b198 <|
 zl b376 <|
 zl b378 <|
 zl b56 <|
 zl b390 <|
 zl b216 <|
 zl b217 <|
 zl b225 <|
 zl b226 <|
 zl b381 <|
 zl b221 <|
 zl b385 <|
 zl b371 <|
 zl b387 <|
 zl b373 <|
 zl b495 <|
 zl b496 <|
 zl b29 <|
 zl b497 <|
 zl b33 <|
 zl b498 <|
 zl b499 <|
 zl b500 <|
 zl b414 <|
 zl b501 <|
 zl b502 <|
 zl b75 <|
 zl b503 <|
 zl b190 <|
 zl b407 <|
 zl b404 <|
 zl b180 <|
 zl b504 <|
 zl b192 <|
 zl b505 <|
 zl b506 <|
 zl b507 <|
 zl b177 <|
 zl b438 <|
 zl b508 <|
 zl b509 <|
 zl b220 <|
 zl b117 <|
 zl b125 <|
 zl b126 <|
 zl b127 <|
 zl b128 <|
 zl b129 <|
 zl b130 <|
 zl b131 <|
 zl b132 <|
 zl b133 <|
 zl b134 <|
 zl b52 <|
 zl b135 <|
 zl b136 <|
 zl b99 <|
 zl b72 <|
 zl b388 <|
 zl b389 <|
 zl b391 <|
 zl b386 <|
 zl b392 <|
 zl b73 <|
 zl b74 <|
 zl b76 <|
 zl b515 <|
 zl b35 <|
 zl b421 <|
 zl b516 <|
 zl b517 <|
 zl b107 <|
 zl b416 <|
 zl b417 <|
 zl b418 <|
 zl b419 <|
 zl b410 <|
 zl b411 <|
 zl b412 <|
 zl b413 <|
 zl b210 <|
 zl b518 <|
 zl b218 <|
 zl b219 <|
 zl b182 <|
 zl b206 <|
 zl b209 <|
 zl b493 <|
 zl b437 <|
 zl b109 <|
 zl b111 <|
 zl b124 <|
 zl b110 <|
 zl b77 <|
 zl b78 <|
 zl b137 <|
 zl b138 <|
 zl b139 <|
 zl b140 <|
 zl b141 <|
 zl b142 <|
 zl b143 <|
 zl b144 <|
 zl b393 <|
 zl b394 <|
 zl b395 <|
 zl b396 <|
 zl b397 <|
 zl b398 <|
 zl b80 <|
 zl b81 <|
 zl b82 <|
 zl b83 <|
 zl b520 <|
 zl b47 <|
 zl b211 <|
 zl b212 <|
 zl b55 <|
 zl b199 <|
 zl b513 <|
 zl b98 <|
 zl b45 <|
 zl b108 <|
 zl b146 <|
 zl b113 <|
 zl b114 <|
 zl b91 <|
 zl b93 <|
 zl b234 <|
 zl b96 <|
 zl b97 <|
 zl b224 <|
 zl b116 <|
 zl b92 <|
 zr b420 <|
 zr b422 <|
 zr b235 <|
 zr b233 <|
 zr b236 <|
 fun _ h=>absurd h List.not_mem_nil
def all_bear:∀q∈ns.g,Bears Tryz.prog q\/Bare Tryz.prog q:=rows_bear
def u420:∀q∈ns.g,q.2=420->q.1=140:=by decide +kernel
theorem clone420:Nonempty (mm Tryz.prog ns 140 1 16):=⟨
 { fn:=Tryz.f140,A:=E0,t:=(i5 (bH Tryz.f140 1 1)).1,el:=XZ Tryz.prog (i5 (bH Tryz.f140 1 1)).1,ty:=(i5 (bH Tryz.f140 1 1)).2,
   o0:=bH Tryz.f140 0 0,m:=bH Tryz.f140 1 0,e:=bH Tryz.f140 1 1,o2:=bH Tryz.f140 2 0,b:=bH Tryz.f140 3 0,m3:=bH Tryz.f140 3 1,ap:=bH Tryz.f140 3 2,fi:=bH Tryz.f140 3 3,
   r0:=iM Tryz.f140 0,r1:=iM Tryz.f140 1,r2:=iM Tryz.f140 2,r3:=iM Tryz.f140 3,
   A2:=E2,ag:=false,hf:=Tryz.func140}⟩
def u422:∀q∈ns.g,q.2=422->q.1=181:=by decide +kernel
theorem clone422:Nonempty (mm Tryz.prog ns 181 11 152):=⟨
 { fn:=Tryz.f181,A:=E0,t:=(i5 (bH Tryz.f181 1 1)).1,el:=XZ Tryz.prog (i5 (bH Tryz.f181 1 1)).1,ty:=(i5 (bH Tryz.f181 1 1)).2,
   o0:=bH Tryz.f181 0 0,m:=bH Tryz.f181 1 0,e:=bH Tryz.f181 1 1,o2:=bH Tryz.f181 2 0,b:=bH Tryz.f181 3 0,m3:=bH Tryz.f181 3 1,ap:=bH Tryz.f181 3 2,fi:=bH Tryz.f181 3 3,
   r0:=iM Tryz.f181 0,r1:=iM Tryz.f181 1,r2:=iM Tryz.f181 2,r3:=iM Tryz.f181 3,
   A2:=E2,ag:=true,hf:=Tryz.func181}⟩
def u235:∀q∈ns.g,q.2=235->q.1=228:=by decide +kernel
theorem clone235:Nonempty (mm Tryz.prog ns 228 5 64):=⟨
 { fn:=Tryz.f228,A:=E0,t:=(i5 (bH Tryz.f228 1 1)).1,el:=XZ Tryz.prog (i5 (bH Tryz.f228 1 1)).1,ty:=(i5 (bH Tryz.f228 1 1)).2,
   o0:=bH Tryz.f228 0 0,m:=bH Tryz.f228 1 0,e:=bH Tryz.f228 1 1,o2:=bH Tryz.f228 2 0,b:=bH Tryz.f228 3 0,m3:=bH Tryz.f228 3 1,ap:=bH Tryz.f228 3 2,fi:=bH Tryz.f228 3 3,
   r0:=iM Tryz.f228 0,r1:=iM Tryz.f228 1,r2:=iM Tryz.f228 2,r3:=iM Tryz.f228 3,
   A2:=E2,ag:=true,hf:=Tryz.func228}⟩
def u233:∀q∈ns.g,q.2=233->q.1=226:=by decide +kernel
theorem back233:Nonempty (qZ Tryz.prog ns 226 7 true):=⟨
 { fn:=Tryz.f226,A:=E0,o0:=q_ Tryz.f226 0,o1:=q_ Tryz.f226 1,o2:=q_ Tryz.f226 3,
   m0:=bH Tryz.f226 2 0,VV:=((q_ Tryz.f226 2).toList.drop 1).take 5,y:=bH Tryz.f226 2 6,nt:=bH Tryz.f226 2 7,
   r0:=iM Tryz.f226 0,r1:=iM Tryz.f226 1,r2:=iM Tryz.f226 3,r3:=iM Tryz.f226 2,b0:=uS Tryz.f226 0,b1:=uS Tryz.f226 1,
   types:=typesOf (bH Tryz.f226 2 6),tb:=Pt (bH Tryz.f226 2 7),
   hf:=Tryz.func226,wv:=by kernel_rfl,iQ:=by kernel_rfl,hN:=by kernel_rfl,c0:=by kernel_rfl,c1:=by kernel_rfl,c2:=by kernel_rfl,h0:=⟨by kernel_rfl,by kernel_rfl,by kernel_rfl⟩,c3:=by kernel_rfl,hy:=⟨by kernel_rfl,by kernel_rfl,by kernel_rfl⟩,hn:=⟨by kernel_rfl,by kernel_rfl,by kernel_rfl⟩}⟩
def u236:∀q∈ns.g,q.2=236->q.1=229:=by decide +kernel
theorem back236:Nonempty (qZ Tryz.prog ns 229 5 true):=⟨
 { fn:=Tryz.f229,A:=E0,o0:=q_ Tryz.f229 0,o1:=q_ Tryz.f229 1,o2:=q_ Tryz.f229 3,
   m0:=bH Tryz.f229 2 0,VV:=((q_ Tryz.f229 2).toList.drop 1).take 5,y:=bH Tryz.f229 2 6,nt:=bH Tryz.f229 2 7,
   r0:=iM Tryz.f229 0,r1:=iM Tryz.f229 1,r2:=iM Tryz.f229 3,r3:=iM Tryz.f229 2,b0:=uS Tryz.f229 0,b1:=uS Tryz.f229 1,
   types:=typesOf (bH Tryz.f229 2 6),tb:=Pt (bH Tryz.f229 2 7),
   hf:=Tryz.func229,wv:=by kernel_rfl,iQ:=by kernel_rfl,hN:=by kernel_rfl,c0:=by kernel_rfl,c1:=by kernel_rfl,c2:=by kernel_rfl,h0:=⟨by kernel_rfl,by kernel_rfl,by kernel_rfl⟩,c3:=by kernel_rfl,hy:=⟨by kernel_rfl,by kernel_rfl,by kernel_rfl⟩,hn:=⟨by kernel_rfl,by kernel_rfl,by kernel_rfl⟩}⟩
def backs_ok:uQ Tryz.prog ns:=by
 intro gb sz ag h f hf;simp only[ns,look]at h;split at h
 .rename_i e;subst e;cases h;have:=u233 (f,233) (look_memI hf) rfl;simp only at this;subst this;exact back233
 split at h
 .rename_i e;subst e;cases h;have:=u236 (f,236) (look_memI hf) rfl;simp only at this;subst this;exact back236
 cases h
theorem clones_ok:∀g sz bytes f,look ns.cl g=some (sz,bytes)->ns.of f=some g->Nonempty (mm Tryz.prog ns f sz bytes):=by
 intro g sz bytes f h hf;simp only[ns,look]at h;split at h
 .rename_i e;subst e;cases h;have:=u420 (f,420) (look_memI hf) rfl;simp only at this;subst this;exact clone420
 split at h
 .rename_i e;subst e;cases h;have:=u422 (f,422) (look_memI hf) rfl;simp only at this;subst this;exact clone422
 split at h
 .rename_i e;subst e;cases h;have:=u235 (f,235) (look_memI hf) rfl;simp only at this;subst this;exact clone235
 cases h
def impl:Impl Tryz.prog ns AP:=⟨by kernel_rfl,fun f g h=>(all_bear (f,g) (look_memI h)).imp id fun⟨h1,h2⟩=>⟨h1,.inl h2⟩,backs_ok,clones_ok⟩
end Go.Ab
