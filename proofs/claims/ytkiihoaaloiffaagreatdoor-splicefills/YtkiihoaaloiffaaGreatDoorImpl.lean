import Derived.Test.YtkiihoaaloiffaaGreatDoorRows
import Derived.Test.YtkiihoaaloiffaaGreatDoorCodeA
import Derived.Test.YtkiihoaaloiffaaGreatDoorShelf
/-
  Each function of the given program that has slim code bears just that code: the kernel translates it anew and compares.
-/
set_option linter.defProp false
set_option linter.unusedVariables false
set_option linter.unusedSimpArgs false
set_option linter.unnecessarySimpa false
set_option maxRecDepth 100000
set_option maxHeartbeats 8000000
namespace Go.Ab
open Proofs Shelf
def ns:Names:=⟨[(3,526),(4,527),(5,15),(6,540),(7,310),(8,26),(9,529),(10,247),(11,536),(12,537),(13,541),(14,542),(15,538),(16,535),(17,532),(18,534),(19,528),(20,552),(21,306),(22,335),(23,539),(24,68),(25,175),(26,27),(27,483),(28,405),(29,530),(30,544),(31,545),(32,546),(33,547),(34,548),(36,533),(37,549),(38,366),(39,531),(40,359),(41,550),(42,551),(43,312),(44,266),(45,57),(46,20),(47,253),(48,112),(49,404),(50,214),(51,543),(52,88),(53,32),(54,67),(55,179),(56,176),(57,325),(58,326),(59,327),(60,307),(61,34),(62,162),(63,145),(64,62),(65,69),(66,495),(67,496),(68,29),(69,497),(70,33),(71,498),(72,499),(73,500),(74,414),(75,501),(76,190),(77,415),(78,185),(79,409),(80,411),(84,556),(85,51),(87,336),(88,337),(90,440),(91,432),(92,77),(93,78),(94,557),(95,364),(96,365),(97,191),(98,379),(99,186),(100,380),(101,374),(102,135),(103,558),(104,270),(105,263),(106,249),(107,267),(108,118),(109,119),(110,120),(111,121),(112,122),(113,123),(114,410),(115,412),(116,413),(117,223),(118,79),(119,106),(120,348),(121,194),(122,349),(123,350),(124,351),(125,352),(126,196),(127,198),(128,71),(129,48),(130,73),(131,74),(132,75),(133,76),(134,515),(135,35),(136,421),(137,516),(139,407),(140,215),(143,265),(145,252),(146,248),(147,439),(148,108),(149,109),(150,110),(151,111),(152,30),(153,390),(154,216),(155,217),(156,143),(157,144),(158,246),(159,256),(160,261),(161,262),(162,117),(163,125),(164,126),(165,127),(166,128),(167,129),(168,130),(169,131),(170,132),(171,133),(172,134),(173,52),(174,136),(175,201),(176,238),(177,361),(178,207),(179,362),(180,363),(181,222),(182,72),(183,107),(184,80),(185,81),(186,82),(187,83),(188,416),(189,417),(190,418),(191,419),(193,258),(195,245),(196,264),(197,257),(199,259),(200,260),(201,124),(202,137),(203,138),(204,139),(205,140),(206,141),(207,142),(208,181),(209,240),(210,59),(211,208),(212,375),(213,376),(214,46),(215,377),(216,378),(217,193),(218,56),(219,113),(220,114),(223,146),(224,99),(225,95),(226,63),(227,388),(228,381),(229,22),(230,389),(231,221),(234,386),(235,393),(236,394),(237,385),(238,355),(239,358),(240,395),(245,392),(246,391),(247,371),(248,373),(254,396),(255,397),(256,398),(259,372),(260,387),(81,553),(82,554),(83,555),(138,422),(141,420),(35,311),(144,269),(198,255)],
 [247,68,175,27,326,162,498,500,119,120,121,122,412,413,348,349,350,352,75,421,516,126,127,128,129,130,131,132,133,134,107,83,416,417,418,257,139,140,141,240,387],[],[(553,4,72),(554,20,256),(555,3,48),(422,11,152),(420,1,16)],O0 1⟩
def lv1(i:Nat):ah->List (Nat×List Nat)
 | .jf _ l=>[(i,l)]
 | .seq a b=>lv1 i b++lv1 i a
 |_=>[]
def fm:Code->ah->List (Nat×List Nat)
 | .region i _ _,x=>lv1 i x
 | .seq a b,.seq x y=>fm a x++fm b y
 | .cond _ a b,.cond _ x y=>fm a x++fm b y
 | .block _ a,.block _ x=>fm a x
 | .loop a,.loop _ x=>fm a x
 | .rangeFunc _ _ a b,.back _ _ _ _ _ _ _ x y=>fm a x++fm b y
 |_,_=>[]
def lp1(o:Option Nat)(l:List Nat):List (Nat×List Nat):=match o with|some i=>[(i,l)]|none=>[]
def lps:Code->ah->List (Nat×List Nat)
 | .seq a b,.seq x y=>lps a x++lps b y
 | .cond _ a b,.cond _ x y=>lps a x++lps b y
 | .block _ a,.block _ x=>lps a x
 | .loop a,.loop l x=>lp1 (lL a) l++lps a x
 | .rangeFunc _ _ a b,.back _ _ _ _ _ _ l x y=>lp1 (lL a) l++lps a x++lps b y
 |_,_=>[]
def An(p:List (Nat×Nat×Nat))(s h si:List Nat)(ow:List (Nat×List Nat))(bk:List (Nat×Nat))(ks:Bool)(q ho:List Nat)(fz:List (Nat×List Nat))(du:List (Nat×Nat))(ro:List Nat)(fa:List (Nat×List (Nat×Nat)))(pu:List (Nat×List (Nat×Nat×Bool)))(pr:List (Nat×List (Nat×Nat×Nat)))(cu:List (Nat×Nat×List Nat×List Nat))(fs:List (Nat×List Nat))(kp zp:List Nat)(fn:Func)(af:aA):lG:=
 ⟨p,s,h,fm (fn.body.getD .skip) af.body,lps (fn.body.getD .skip) af.body,si,ow,bk,ks,q,ho,fz,du,ro,fa,pu,pr,cu,fs,kp,zp⟩
def prO(m:List (Nat×Nat×Nat))(o:dM):List (Nat×Nat×Nat):=match o.dst,o.op,o.args with
 |some d,.alloc k _,_=>(d,k,0)::m
 |some d,.box k _,_=>(d,k,0)::m
 |some d,.v (.iA n),[.t s]=>match look m s with|some (k,f)=>(d,k,f+n)::m|none=>m
 |_,_,_=>m
def ev:ah->List (Nat×Nat×Nat)->List (Nat×Nat×Nat)
 | .jf os _,m=>os.foldl prO m
 | .seq a b,m=>ev b (ev a m)
 | .cond _ a b,m=>ev b (ev a m)
 | .block _ a,m=>ev a m
 | .loop _ a,m=>ev a m
 | .back _ _ _ _ _ _ _ a b,m=>ev b (ev a m)
 |_,m=>m
def Am(s h si:List Nat)(ow:List (Nat×List Nat))(bk:List (Nat×Nat))(ks:Bool)(q ho:List Nat)(fz:List (Nat×List Nat))(fn:Func)(af:aA):lG:=An (ev af.body []) s h si ow bk ks q ho fz [] [] [] [] [] [] [] [] [] fn af
def Al(s:List Nat):Func->aA->lG:=Am s [] [] [] [] false [] [] []
def Ak:Func->aA->lG:=Al []
def E0:lG:=⟨[],[],[],[],[],[],[],[],false,[],[],[],[],[],[],[],[],[],[],[],[]⟩
def E2:lG:=⟨[],[],[],[],[],[],[],[],false,[],[7],[],[],[],[],[],[],[],[],[],[]⟩
def Bears(P:Program)(q:Nat×Nat):Prop:=∃fn A af,P.funcs[q.1]?=some fn/\qc P ns A fn=some af/\AP q.2=some af
def zb{i g:Nat}{P:Program}{fn:Func}(af:aA)(A:Func->aA->lG)(h:P.funcs[i]?=some fn)(e:AP g=some af:=by rfl)(k:qc P ns (A fn af) fn=some af:=by kernel_rfl):Bears P (i,g):=⟨fn,A fn af,af,h,k,e⟩
def zl{α:Type}{p r:α->Prop}{a:α}{l:List α}(h:p a)(t:∀q∈l,p q\/r q):∀q∈a::l,p q\/r q:=List.forall_mem_cons.2 ⟨.inl h,t⟩
def zr{α:Type}{p r:α->Prop}{a:α}{l:List α}(h:r a)(t:∀q∈l,p q\/r q):∀q∈a::l,p q\/r q:=List.forall_mem_cons.2 ⟨.inr h,t⟩
def look_memI{α:Type}{t:Nat}{v:α}:∀{l:List (Nat×α)},look l t=some v->(t,v)∈l
 |[],h=>by simp[look]at h
 |(k,u)::r,h=>by
  simp only[look]at h;split at h
  .rename_i e;cases h;subst e;exact List.mem_cons_self
  .exact List.mem_cons_of_mem _ (look_memI h)
def Bare (P:Program) (q:Nat×Nat):Prop:=(∃fn b,P.funcs[q.1]?=some fn∧fn.body=some b∧fn.name ≠ "runtime.NumGoroutine")∧AP q.2=none
abbrev Br:Nat×Nat->Prop:=Bears Tryz.prog
def b526:Br (3,526):=zb g526 Ak Tryz.func3
def b527:Br (4,527):=zb g527 Ak Tryz.func4
def b15:Br (5,15):=zb g15 Ak Tryz.func5
def b540:Br (6,540):=zb g540 Ak Tryz.func6
def b310:Br (7,310):=zb g310 (Am [] [] [11,22] [] [] true [] [] []) Tryz.func7
def b26:Br (8,26):=zb g26 Ak Tryz.func8
def b529:Br (9,529):=zb g529 Ak Tryz.func9
def b247:Br (10,247):=zb g247 (Al [46,148]) Tryz.func10
def b536:Br (11,536):=zb g536 (Am [58] [83] [52] [] [] false [] [] [(15,[14])]) Tryz.func11
def b537:Br (12,537):=zb g537 (Am [] [76,78] [] [] [] false [] [67] []) Tryz.func12
def b541:Br (13,541):=zb g541 Ak Tryz.func13
def b542:Br (14,542):=zb g542 Ak Tryz.func14
def b538:Br (15,538):=zb g538 Ak Tryz.func15
def b535:Br (16,535):=zb g535 Ak Tryz.func16
def b532:Br (17,532):=zb g532 Ak Tryz.func17
def b534:Br (18,534):=zb g534 Ak Tryz.func18
def b528:Br (19,528):=zb g528 Ak Tryz.func19
def b552:Br (20,552):=zb g552 Ak Tryz.func20
def b306:Br (21,306):=zb g306 (Am [] [] [] [] [] true [] [104] []) Tryz.func21
def b335:Br (22,335):=zb g335 (Am [34] [] [] [] [] true [] [62] [(15,[2])]) Tryz.func22
def b539:Br (23,539):=zb g539 Ak Tryz.func23
def b68:Br (24,68):=zb g68 (Al [7,11,17,24,28]) Tryz.func24
def b175:Br (25,175):=zb g175 Ak Tryz.func25
def b27:Br (26,27):=zb g27 (Al [29,59]) Tryz.func26
def b483:Br (27,483):=zb g483 Ak Tryz.func27
def b405:Br (28,405):=zb g405 Ak Tryz.func28
def b530:Br (29,530):=zb g530 Ak Tryz.func29
def b544:Br (30,544):=zb g544 (An [(1,1,0),(2,2,0),(8,1,0),(11,1,1)] [28,36,45,66] [] [] [] [] true [] [10,13,30] [] [] [] [] [] [] [(6,8,[2,3,4,5,15,16,23,24,30],[3,23])] [(12,[3])] [] []) Tryz.func30
def b545:Br (31,545):=zb g545 (Am [33] [50] [17] [] [] false [] [] []) Tryz.func31
def b546:Br (32,546):=zb g546 (Am [14] [] [8,24] [] [] false [] [] [(7,[3])]) Tryz.func32
def b547:Br (33,547):=zb g547 Ak Tryz.func33
def b548:Br (34,548):=zb g548 Ak Tryz.func34
def b533:Br (36,533):=zb g533 Ak Tryz.func36
def b549:Br (37,549):=zb g549 Ak Tryz.func37
def b366:Br (38,366):=zb g366 Ak Tryz.func38
def b531:Br (39,531):=zb g531 Ak Tryz.func39
def b359:Br (40,359):=zb g359 (Am [35] [54] [16] [] [] false [] [] []) Tryz.func40
def b550:Br (41,550):=zb g550 Ak Tryz.func41
def b551:Br (42,551):=zb g551 (Am [] [] [] [] [] false [] [24] [(12,[5])]) Tryz.func42
def b312:Br (43,312):=zb g312 Ak Tryz.func43
def b266:Br (44,266):=zb g266 Ak Tryz.func44
def b57:Br (45,57):=zb g57 Ak Tryz.func45
def b20:Br (46,20):=zb g20 Ak Tryz.func46
def b253:Br (47,253):=zb g253 Ak Tryz.func47
def b112:Br (48,112):=zb g112 (Am [22,28,52,57] [] [] [] [] true [] [] []) Tryz.func48
def b404:Br (49,404):=zb g404 (Am [11] [] [36] [(36,[0])] [] true [] [40] []) Tryz.func49
def b214:Br (50,214):=zb g214 Ak Tryz.func50
def b543:Br (51,543):=zb g543 Ak Tryz.func51
def b88:Br (52,88):=zb g88 Ak Tryz.func52
def b32:Br (53,32):=zb g32 Ak Tryz.func53
def b67:Br (54,67):=zb g67 Ak Tryz.func54
def b179:Br (55,179):=zb g179 Ak Tryz.func55
def b176:Br (56,176):=zb g176 Ak Tryz.func56
def b325:Br (57,325):=zb g325 Ak Tryz.func57
def b326:Br (58,326):=zb g326 (Am [] [53] [] [] [] false [] [] []) Tryz.func58
def b327:Br (59,327):=zb g327 Ak Tryz.func59
def b307:Br (60,307):=zb g307 Ak Tryz.func60
def b34:Br (61,34):=zb g34 Ak Tryz.func61
def b162:Br (62,162):=zb g162 (Al [5,9]) Tryz.func62
def b145:Br (63,145):=zb g145 (Am [20] [] [] [] [] true [] [7,23] []) Tryz.func63
def b62:Br (64,62):=zb g62 Ak Tryz.func64
def b69:Br (65,69):=zb g69 Ak Tryz.func65
def b495:Br (66,495):=zb g495 Ak Tryz.func66
def b496:Br (67,496):=zb g496 Ak Tryz.func67
def b29:Br (68,29):=zb g29 Ak Tryz.func68
def b497:Br (69,497):=zb g497 Ak Tryz.func69
def b33:Br (70,33):=zb g33 Ak Tryz.func70
def b498:Br (71,498):=zb g498 Ak Tryz.func71
def b499:Br (72,499):=zb g499 Ak Tryz.func72
def b500:Br (73,500):=zb g500 Ak Tryz.func73
def b414:Br (74,414):=zb g414 (Am [] [] [8] [] [] true [] [8,20] []) Tryz.func74
def b501:Br (75,501):=zb g501 Ak Tryz.func75
def b190:Br (76,190):=zb g190 Ak Tryz.func76
def b415:Br (77,415):=zb g415 Ak Tryz.func77
def b185:Br (78,185):=zb g185 Ak Tryz.func78
def b409:Br (79,409):=zb g409 (Am [] [] [6] [] [] false [] [] []) Tryz.func79
def b411:Br (80,411):=zb g411 Ak Tryz.func80
def b556:Br (84,556):=zb g556 (An [(2,2,0),(4,4,0),(9,2,4),(15,2,5),(23,2,5),(31,2,5),(52,2,4),(53,2,5)] [] [] [] [] [] true [] [] [] [] [] [] [(4,[(26,14,true)])] [(4,[(26,26,0)])] [] [] [] []) Tryz.func84
def b51:Br (85,51):=zb g51 Ak Tryz.func85
def b336:Br (87,336):=zb g336 (Am [34] [52] [] [] [] false [] [] []) Tryz.func87
def b337:Br (88,337):=zb g337 Ak Tryz.func88
def b440:Br (90,440):=zb g440 Ak Tryz.func90
def b432:Br (91,432):=zb g432 Ak Tryz.func91
def b77:Br (92,77):=zb g77 Ak Tryz.func92
def b78:Br (93,78):=zb g78 Ak Tryz.func93
def b557:Br (94,557):=zb g557 Ak Tryz.func94
def b364:Br (95,364):=zb g364 Ak Tryz.func95
def b365:Br (96,365):=zb g365 Ak Tryz.func96
def b191:Br (97,191):=zb g191 Ak Tryz.func97
def b379:Br (98,379):=zb g379 Ak Tryz.func98
def b186:Br (99,186):=zb g186 Ak Tryz.func99
def b380:Br (100,380):=zb g380 Ak Tryz.func100
def b374:Br (101,374):=zb g374 (Am [] [] [] [] [] true [] [27] []) Tryz.func101
def b135:Br (102,135):=zb g135 Ak Tryz.func102
def b558:Br (103,558):=zb g558 (Am [19] [] [8,25] [] [] false [] [] [(6,[3])]) Tryz.func103
def b270:Br (104,270):=zb g270 Ak Tryz.func104
def b263:Br (105,263):=zb g263 Ak Tryz.func105
def b249:Br (106,249):=zb g249 Ak Tryz.func106
def b267:Br (107,267):=zb g267 Ak Tryz.func107
def b118:Br (108,118):=zb g118 Ak Tryz.func108
def b119:Br (109,119):=zb g119 Ak Tryz.func109
def b120:Br (110,120):=zb g120 (Al [7,13,17,25,29,38,42,53,57]) Tryz.func110
def b121:Br (111,121):=zb g121 (Al [26]) Tryz.func111
def b122:Br (112,122):=zb g122 (Al [25]) Tryz.func112
def b123:Br (113,123):=zb g123 Ak Tryz.func113
def b410:Br (114,410):=zb g410 Ak Tryz.func114
def b412:Br (115,412):=zb g412 (Am [24] [] [] [] [] true [] [38,41] []) Tryz.func115
def b413:Br (116,413):=zb g413 (Al [1]) Tryz.func116
def b223:Br (117,223):=zb g223 Ak Tryz.func117
def b79:Br (118,79):=zb g79 Ak Tryz.func118
def b106:Br (119,106):=zb g106 Ak Tryz.func119
def b348:Br (120,348):=zb g348 (Am [] [15] [] [] [] false [] [] []) Tryz.func120
def b194:Br (121,194):=zb g194 Ak Tryz.func121
def b349:Br (122,349):=zb g349 (Am [] [43,69] [] [] [] false [] [] []) Tryz.func122
def b350:Br (123,350):=zb g350 (Am [35] [78,113] [] [] [] false [] [] []) Tryz.func123
def b351:Br (124,351):=zb g351 Ak Tryz.func124
def b352:Br (125,352):=zb g352 (Am [] [19] [] [] [] false [] [] []) Tryz.func125
def b196:Br (126,196):=zb g196 (Am [] [] [4] [(4,[0])] [] false [] [] []) Tryz.func126
def b198:Br (127,198):=zb g198 Ak Tryz.func127
def b71:Br (128,71):=zb g71 Ak Tryz.func128
def b48:Br (129,48):=zb g48 Ak Tryz.func129
def b73:Br (130,73):=zb g73 Ak Tryz.func130
def b74:Br (131,74):=zb g74 Ak Tryz.func131
def b75:Br (132,75):=zb g75 Ak Tryz.func132
def b76:Br (133,76):=zb g76 Ak Tryz.func133
def b515:Br (134,515):=zb g515 Ak Tryz.func134
def b35:Br (135,35):=zb g35 Ak Tryz.func135
def b421:Br (136,421):=zb g421 (Al [14]) Tryz.func136
def b516:Br (137,516):=zb g516 (Al [14]) Tryz.func137
def b407:Br (139,407):=zb g407 Ak Tryz.func139
def b215:Br (140,215):=zb g215 Ak Tryz.func140
def b265:Br (143,265):=zb g265 Ak Tryz.func143
def b252:Br (145,252):=zb g252 Ak Tryz.func145
def b248:Br (146,248):=zb g248 (An [(4,4,0),(5,5,0),(50,4,0)] [7,12,16,23,32,36,40,65,78,95,106] [] [] [] [] false [] [] [] [] [28,45,57,70,74,83,87,92,103,114] [] [] [] [] [] [] []) Tryz.func146
def b439:Br (147,439):=zb g439 Ak Tryz.func147
def b108:Br (148,108):=zb g108 Ak Tryz.func148
def b109:Br (149,109):=zb g109 Ak Tryz.func149
def b110:Br (150,110):=zb g110 Ak Tryz.func150
def b111:Br (151,111):=zb g111 Ak Tryz.func151
def b30:Br (152,30):=zb g30 Ak Tryz.func152
def b390:Br (153,390):=zb g390 Ak Tryz.func153
def b216:Br (154,216):=zb g216 Ak Tryz.func154
def b217:Br (155,217):=zb g217 Ak Tryz.func155
def b143:Br (156,143):=zb g143 Ak Tryz.func156
def b144:Br (157,144):=zb g144 Ak Tryz.func157
def b246:Br (158,246):=zb g246 Ak Tryz.func158
def b256:Br (159,256):=zb g256 Ak Tryz.func159
def b261:Br (160,261):=zb g261 Ak Tryz.func160
def b262:Br (161,262):=zb g262 Ak Tryz.func161
def b117:Br (162,117):=zb g117 Ak Tryz.func162
def b125:Br (163,125):=zb g125 Ak Tryz.func163
def b126:Br (164,126):=zb g126 (Al [5,9,15,19]) Tryz.func164
def b127:Br (165,127):=zb g127 Ak Tryz.func165
def b128:Br (166,128):=zb g128 (Al [13,20,24]) Tryz.func166
def b129:Br (167,129):=zb g129 (Al [7,13,17,25,29]) Tryz.func167
def b130:Br (168,130):=zb g130 Ak Tryz.func168
def b131:Br (169,131):=zb g131 (Am [20] [] [15] [] [] false [] [] []) Tryz.func169
def b132:Br (170,132):=zb g132 (Al [10]) Tryz.func170
def b133:Br (171,133):=zb g133 (Am [] [] [8] [] [] false [] [] []) Tryz.func171
def b134:Br (172,134):=zb g134 (Al [21,41,50,71,77,81,89,93]) Tryz.func172
def b52:Br (173,52):=zb g52 Ak Tryz.func173
def b136:Br (174,136):=zb g136 Ak Tryz.func174
def b201:Br (175,201):=zb g201 Ak Tryz.func175
def b238:Br (176,238):=zb g238 Ak Tryz.func176
def b361:Br (177,361):=zb g361 Ak Tryz.func177
def b207:Br (178,207):=zb g207 Ak Tryz.func178
def b362:Br (179,362):=zb g362 Ak Tryz.func179
def b363:Br (180,363):=zb g363 Ak Tryz.func180
def b222:Br (181,222):=zb g222 (Am [] [] [34] [(34,[0])] [] false [] [] []) Tryz.func181
def b72:Br (182,72):=zb g72 Ak Tryz.func182
def b107:Br (183,107):=zb g107 (Al [14]) Tryz.func183
def b80:Br (184,80):=zb g80 Ak Tryz.func184
def b81:Br (185,81):=zb g81 Ak Tryz.func185
def b82:Br (186,82):=zb g82 Ak Tryz.func186
def b83:Br (187,83):=zb g83 (Al [16,24]) Tryz.func187
def b416:Br (188,416):=zb g416 (Al [14]) Tryz.func188
def b417:Br (189,417):=zb g417 (Al [1]) Tryz.func189
def b418:Br (190,418):=zb g418 (Al [20,24]) Tryz.func190
def b419:Br (191,419):=zb g419 Ak Tryz.func191
def b258:Br (193,258):=zb g258 Ak Tryz.func193
def b245:Br (195,245):=zb g245 Ak Tryz.func195
def b264:Br (196,264):=zb g264 Ak Tryz.func196
def b257:Br (197,257):=zb g257 (Al [5,9]) Tryz.func197
def b259:Br (199,259):=zb g259 Ak Tryz.func199
def b260:Br (200,260):=zb g260 (Am [] [33] [] [] [] false [] [] []) Tryz.func200
def b124:Br (201,124):=zb g124 Ak Tryz.func201
def b137:Br (202,137):=zb g137 Ak Tryz.func202
def b138:Br (203,138):=zb g138 Ak Tryz.func203
def b139:Br (204,139):=zb g139 (Al [5,13,17,24,28,38,44,48]) Tryz.func204
def b140:Br (205,140):=zb g140 (Al [32]) Tryz.func205
def b141:Br (206,141):=zb g141 (Al [51]) Tryz.func206
def b142:Br (207,142):=zb g142 Ak Tryz.func207
def b181:Br (208,181):=zb g181 Ak Tryz.func208
def b240:Br (209,240):=zb g240 (Al [23,28]) Tryz.func209
def b59:Br (210,59):=zb g59 (Am [] [] [16] [(16,[0])] [] false [] [] []) Tryz.func210
def b208:Br (211,208):=zb g208 Ak Tryz.func211
def b375:Br (212,375):=zb g375 Ak Tryz.func212
def b376:Br (213,376):=zb g376 Ak Tryz.func213
def b46:Br (214,46):=zb g46 Ak Tryz.func214
def b377:Br (215,377):=zb g377 Ak Tryz.func215
def b378:Br (216,378):=zb g378 Ak Tryz.func216
def b193:Br (217,193):=zb g193 Ak Tryz.func217
def b56:Br (218,56):=zb g56 (Am [] [] [18] [(18,[0])] [] false [] [] []) Tryz.func218
def b113:Br (219,113):=zb g113 Ak Tryz.func219
def b114:Br (220,114):=zb g114 Ak Tryz.func220
def b146:Br (223,146):=zb g146 Ak Tryz.func223
def b99:Br (224,99):=zb g99 (Am [] [] [50] [(50,[0])] [] false [] [] []) Tryz.func224
def b95:Br (225,95):=zb g95 Ak Tryz.func225
def b63:Br (226,63):=zb g63 Ak Tryz.func226
def b388:Br (227,388):=zb g388 Ak Tryz.func227
def b381:Br (228,381):=zb g381 Ak Tryz.func228
def b22:Br (229,22):=zb g22 Ak Tryz.func229
def b389:Br (230,389):=zb g389 (Am [] [] [198] [] [] false [] [] []) Tryz.func230
def b221:Br (231,221):=zb g221 Ak Tryz.func231
def b386:Br (234,386):=zb g386 Ak Tryz.func234
def b393:Br (235,393):=zb g393 (Am [] [] [] [] [] false [] [21] [(6,[8])]) Tryz.func235
def b394:Br (236,394):=zb g394 Ak Tryz.func236
def b385:Br (237,385):=zb g385 Ak Tryz.func237
def b355:Br (238,355):=zb g355 Ak Tryz.func238
def b358:Br (239,358):=zb g358 Ak Tryz.func239
def b395:Br (240,395):=zb g395 Ak Tryz.func240
def b392:Br (245,392):=zb g392 Ak Tryz.func245
def b391:Br (246,391):=zb g391 Ak Tryz.func246
def b371:Br (247,371):=zb g371 Ak Tryz.func247
def b373:Br (248,373):=zb g373 Ak Tryz.func248
def b396:Br (254,396):=zb g396 Ak Tryz.func254
def b397:Br (255,397):=zb g397 Ak Tryz.func255
def b398:Br (256,398):=zb g398 Ak Tryz.func256
def b372:Br (259,372):=zb g372 (Al [28]) Tryz.func259
def b387:Br (260,387):=zb g387 (Am [11,18,27,38,42,47,56] [] [] [] [] false [] [39,48] []) Tryz.func260
def b553:Bare Tryz.prog (81,553):=⟨⟨Tryz.f81,gG Tryz.f81,Tryz.func81,by kernel_rfl,by decide⟩,rfl⟩
def b554:Bare Tryz.prog (82,554):=⟨⟨Tryz.f82,gG Tryz.f82,Tryz.func82,by kernel_rfl,by decide⟩,rfl⟩
def b555:Bare Tryz.prog (83,555):=⟨⟨Tryz.f83,gG Tryz.f83,Tryz.func83,by kernel_rfl,by decide⟩,rfl⟩
def b422:Bare Tryz.prog (138,422):=⟨⟨Tryz.f138,gG Tryz.f138,Tryz.func138,by kernel_rfl,by decide⟩,rfl⟩
def b420:Bare Tryz.prog (141,420):=⟨⟨Tryz.f141,gG Tryz.f141,Tryz.func141,by kernel_rfl,by decide⟩,rfl⟩
def rows_bear:∀q∈ns.g.take 235,Br q\/Bare Tryz.prog q:=
 zl b526 <|
 zl b527 <|
 zl b15 <|
 zl b540 <|
 zl b310 <|
 zl b26 <|
 zl b529 <|
 zl b247 <|
 zl b536 <|
 zl b537 <|
 zl b541 <|
 zl b542 <|
 zl b538 <|
 zl b535 <|
 zl b532 <|
 zl b534 <|
 zl b528 <|
 zl b552 <|
 zl b306 <|
 zl b335 <|
 zl b539 <|
 zl b68 <|
 zl b175 <|
 zl b27 <|
 zl b483 <|
 zl b405 <|
 zl b530 <|
 zl b544 <|
 zl b545 <|
 zl b546 <|
 zl b547 <|
 zl b548 <|
 zl b533 <|
 zl b549 <|
 zl b366 <|
 zl b531 <|
 zl b359 <|
 zl b550 <|
 zl b551 <|
 zl b312 <|
 zl b266 <|
 zl b57 <|
 zl b20 <|
 zl b253 <|
 zl b112 <|
 zl b404 <|
 zl b214 <|
 zl b543 <|
 zl b88 <|
 zl b32 <|
 zl b67 <|
 zl b179 <|
 zl b176 <|
 zl b325 <|
 zl b326 <|
 zl b327 <|
 zl b307 <|
 zl b34 <|
 zl b162 <|
 zl b145 <|
 zl b62 <|
 zl b69 <|
 zl b495 <|
 zl b496 <|
 zl b29 <|
 zl b497 <|
 zl b33 <|
 zl b498 <|
 zl b499 <|
 zl b500 <|
 zl b414 <|
 zl b501 <|
 zl b190 <|
 zl b415 <|
 zl b185 <|
 zl b409 <|
 zl b411 <|
 zl b556 <|
 zl b51 <|
 zl b336 <|
 zl b337 <|
 zl b440 <|
 zl b432 <|
 zl b77 <|
 zl b78 <|
 zl b557 <|
 zl b364 <|
 zl b365 <|
 zl b191 <|
 zl b379 <|
 zl b186 <|
 zl b380 <|
 zl b374 <|
 zl b135 <|
 zl b558 <|
 zl b270 <|
 zl b263 <|
 zl b249 <|
 zl b267 <|
 zl b118 <|
 zl b119 <|
 zl b120 <|
 zl b121 <|
 zl b122 <|
 zl b123 <|
 zl b410 <|
 zl b412 <|
 zl b413 <|
 zl b223 <|
 zl b79 <|
 zl b106 <|
 zl b348 <|
 zl b194 <|
 zl b349 <|
 zl b350 <|
 zl b351 <|
 zl b352 <|
 zl b196 <|
 zl b198 <|
 zl b71 <|
 zl b48 <|
 zl b73 <|
 zl b74 <|
 zl b75 <|
 zl b76 <|
 zl b515 <|
 zl b35 <|
 zl b421 <|
 zl b516 <|
 zl b407 <|
 zl b215 <|
 zl b265 <|
 zl b252 <|
 zl b248 <|
 zl b439 <|
 zl b108 <|
 zl b109 <|
 zl b110 <|
 zl b111 <|
 zl b30 <|
 zl b390 <|
 zl b216 <|
 zl b217 <|
 zl b143 <|
 zl b144 <|
 zl b246 <|
 zl b256 <|
 zl b261 <|
 zl b262 <|
 zl b117 <|
 zl b125 <|
 zl b126 <|
 zl b127 <|
 zl b128 <|
 zl b129 <|
 zl b130 <|
 zl b131 <|
 zl b132 <|
 zl b133 <|
 zl b134 <|
 zl b52 <|
 zl b136 <|
 zl b201 <|
 zl b238 <|
 zl b361 <|
 zl b207 <|
 zl b362 <|
 zl b363 <|
 zl b222 <|
 zl b72 <|
 zl b107 <|
 zl b80 <|
 zl b81 <|
 zl b82 <|
 zl b83 <|
 zl b416 <|
 zl b417 <|
 zl b418 <|
 zl b419 <|
 zl b258 <|
 zl b245 <|
 zl b264 <|
 zl b257 <|
 zl b259 <|
 zl b260 <|
 zl b124 <|
 zl b137 <|
 zl b138 <|
 zl b139 <|
 zl b140 <|
 zl b141 <|
 zl b142 <|
 zl b181 <|
 zl b240 <|
 zl b59 <|
 zl b208 <|
 zl b375 <|
 zl b376 <|
 zl b46 <|
 zl b377 <|
 zl b378 <|
 zl b193 <|
 zl b56 <|
 zl b113 <|
 zl b114 <|
 zl b146 <|
 zl b99 <|
 zl b95 <|
 zl b63 <|
 zl b388 <|
 zl b381 <|
 zl b22 <|
 zl b389 <|
 zl b221 <|
 zl b386 <|
 zl b393 <|
 zl b394 <|
 zl b385 <|
 zl b355 <|
 zl b358 <|
 zl b395 <|
 zl b392 <|
 zl b391 <|
 zl b371 <|
 zl b373 <|
 zl b396 <|
 zl b397 <|
 zl b398 <|
 zl b372 <|
 zl b387 <|
 zr b553 <|
 zr b554 <|
 zr b555 <|
 zr b422 <|
 zr b420 <|
 fun _ h=>absurd h List.not_mem_nil
def prims_g:ns.g.drop 235=[(35,311),(144,269),(198,255)]:=by kernel_rfl
def IsPrim (P:Program) (q:Nat×Nat):Prop:=(∃fn b,P.funcs[q.1]?=some fn∧fn.body=some b∧fn.name ≠ "runtime.NumGoroutine") ∧
 ∃af pf,AP q.2=some af/\af.p8=some pf/\af.body=.exit 0/\∀orc,iD P ns orc->∀dN rs,pf.f orc.p dN=some rs->xy P ns q.1 dN rs
def HasB (P:Program) (f:Nat):Prop:=∃fn b,P.funcs[f]?=some fn∧fn.body=some b∧fn.name ≠ "runtime.NumGoroutine"
def lays166:Lays.n166 Tryz.prog Tryz.lays156_ren:={Tryz.lays156 with}
def lays169:Lays.n169 Tryz.prog Tryz.lays156_ren:={Tryz.lays156 with}
def hb_of{P:Program}{q:Nat×Nat}(h:Bears P q):HasB P q.1:=by
 obtain⟨fn,A,af,h1,h2,_⟩:=h;unfold qc at h2;split at h2
 .rename_i b rs hb _;simp only[Option.ite_none_right_eq_some]at h2;obtain⟨⟨_,hn⟩,_⟩:=h2;exact⟨fn,b,h1,hb,by simpa using hn⟩
 .simp at h2
def z5:fy Tryz.prog ns:=by
 have h:∀q∈ns.g,HasB Tryz.prog q.1:=by
  intro q hq;rw[<-List.take_append_drop 235 ns.g]at hq;rcases List.mem_append.1 hq with h|h
  .exact(rows_bear q h).elim hb_of (·.1)
  rw[prims_g]at h;simp only[List.mem_cons,List.not_mem_nil,or_false]at h;rcases h with rfl|rfl|rfl
  .exact⟨Tryz.f35,gG Tryz.f35,Tryz.func35,by kernel_rfl,by decide⟩
  .exact⟨Tryz.f144,gG Tryz.f144,Tryz.func144,by kernel_rfl,by decide⟩
  .exact⟨Tryz.f198,gG Tryz.f198,Tryz.func198,by kernel_rfl,by decide⟩
 intro f g hg;exact h (f,g) (look_memI hg)
def fldOf(o:Oper):TypeId×Nat:=match o.op with| .fieldAddr t _ i=>(t,i)|_=>(0,0)
def boxOf(o:Oper):TypeId:=match o.op with| .box t _=>t|_=>0
def loadOf(o:Oper):TypeId:=match o.op with| .load t _=>t|_=>0
def fdOf(P:Program)(q:TypeId×Nat):Field:=(gJ P q.1 q.2).getD default
noncomputable def show311:uh Tryz.prog ns 35 336 337 where
 fn:=Tryz.f35
 A:=⟨[(5,5,0),(7,7,0)],[],[],[],[],[],[],[],false,[],[],[],[],[],[],[],[],[],[],[],[]⟩
 T:=124
 E:=5
 Tp:=boxOf (aT Tryz.f35 0 0)
 fw:=86
 fs:=89
 t1:=typesOf (aT Tryz.f35 5 2)
 t2:=typesOf (aT Tryz.f35 10 2)
 t3:=typesOf (aT Tryz.f35 12 0)
 tf:=(fldOf (aT Tryz.f35 2 0)).1
 f0:=(fldOf (aT Tryz.f35 2 0)).2
 f1:=(fldOf (aT Tryz.f35 7 0)).2
 fd0:=(fdOf Tryz.prog (fldOf (aT Tryz.f35 2 0)))
 fd1:=(fdOf Tryz.prog (fldOf (aT Tryz.f35 7 0)))
 s0:=(cT Tryz.prog (fdOf Tryz.prog (fldOf (aT Tryz.f35 2 0))).type).getD 0
 s1:=(cT Tryz.prog (fdOf Tryz.prog (fldOf (aT Tryz.f35 7 0))).type).getD 0
 td:=loadOf (aT Tryz.f35 2 1)
 tb:=loadOf (aT Tryz.f35 7 1)
 bx:=aT Tryz.f35 0 0
 rs:=aT Tryz.f35 0 1
 al:=aT Tryz.f35 1 0
 fa:=aT Tryz.f35 2 0
 ld:=aT Tryz.f35 2 1
 r2:=(nC Tryz.f35 2).toList.drop 2
 o3:=nC Tryz.f35 3
 o4:=nC Tryz.f35 4
 l5:=(nC Tryz.f35 5).toList.take 2
 w5:=aT Tryz.f35 5 2
 o6:=nC Tryz.f35 6
 R9:=aT Tryz.f35 7 0
 R_:=aT Tryz.f35 7 1
 r7:=(nC Tryz.f35 7).toList.drop 2
 o8:=nC Tryz.f35 8
 o9:=nC Tryz.f35 9
 l10:=(nC Tryz.f35 10).toList.take 2
 Wc:=aT Tryz.f35 10 2
 YB:=nC Tryz.f35 11
 st:=aT Tryz.f35 12 0
 fi:=aT Tryz.f35 12 1
 i0:=dB Tryz.f35 0
 i1:=dB Tryz.f35 1
 i2:=dB Tryz.f35 2
 i3:=dB Tryz.f35 3
 i4:=dB Tryz.f35 4
 i5:=dB Tryz.f35 5
 i6:=dB Tryz.f35 6
 i7:=dB Tryz.f35 7
 i8:=dB Tryz.f35 8
 i9:=dB Tryz.f35 9
 Ip:=dB Tryz.f35 10
 i11:=dB Tryz.f35 11
 i12:=dB Tryz.f35 12
 b0:=uf Tryz.f35 0
 b1:=uf Tryz.f35 1
 b2:=uf Tryz.f35 2
 b3:=uf Tryz.f35 3
 hf:=Tryz.func35
 qz:=by kernel_rfl
 jk:=by kernel_rfl
 hN:=by kernel_rfl
 YC:=⟨by kernel_rfl,by kernel_rfl,by kernel_rfl⟩
 VY:=⟨by kernel_rfl,by kernel_rfl,by kernel_rfl⟩
 v7:=⟨by kernel_rfl,by kernel_rfl,by kernel_rfl⟩
 hz:=by kernel_rfl
 XE:=⟨by kernel_rfl,by kernel_rfl,by kernel_rfl⟩
 hfd:=⟨by kernel_rfl,by kernel_rfl,by kernel_rfl,by decide +kernel⟩
 XF:=⟨by kernel_rfl,by kernel_rfl,by kernel_rfl⟩
 htd:=⟨by kernel_rfl,by kernel_rfl⟩
 c2:=by kernel_rfl
 L':=⟨by kernel_rfl,by kernel_rfl,by kernel_rfl⟩
 YD:=⟨by kernel_rfl,by kernel_rfl,by kernel_rfl,by decide +kernel⟩
 Ma:=⟨by kernel_rfl,by kernel_rfl,by kernel_rfl⟩
 XA:=⟨by kernel_rfl,by kernel_rfl⟩
 c7:=by kernel_rfl
 c3:=by kernel_rfl
 c4:=by kernel_rfl
 c5:=by kernel_rfl
 c6:=by kernel_rfl
 XG:=⟨by kernel_rfl,by kernel_rfl,by kernel_rfl⟩
 c8:=by kernel_rfl
 c9:=by kernel_rfl
 c10:=by kernel_rfl
 c11:=by kernel_rfl
 YE:=⟨by kernel_rfl,by kernel_rfl,by kernel_rfl⟩
 t7:=⟨by kernel_rfl,by kernel_rfl,by kernel_rfl⟩
 Xz:=⟨by kernel_rfl,by kernel_rfl,by kernel_rfl⟩
 hfw:=⟨Tryz.f86,gG Tryz.f86,Tryz.func86,by kernel_rfl,by decide⟩
 YF:=⟨Tryz.f89,gG Tryz.f89,Tryz.func89,by kernel_rfl,by decide⟩
 Mb:=⟨87,by kernel_rfl⟩
 hgb:=⟨88,by kernel_rfl⟩
 write:=fun B b bs s w h1 h2 h3=>Any.Builder_WriteString lays166 Tryz.Builder_Extra_156 B b bs s w h1 h2 h3
 read:=fun B b l w h1 h2=>Any.Builder_String_any lays169 Tryz.Builder_Extra_156 B b l w h1 h2
def b311:IsPrim Tryz.prog (35,311):=⟨⟨Tryz.f35,gG Tryz.f35,Tryz.func35,by kernel_rfl,by decide⟩,_,_,rfl,rfl,rfl,fun orc ho _ _ h=>Md z5 ho show311 h⟩
def b269:IsPrim Tryz.prog (144,269):=⟨⟨Tryz.f144,gG Tryz.f144,Tryz.func144,by kernel_rfl,by decide⟩,_,_,rfl,rfl,rfl,fun _ _=>L7 (fun a c sep w=>Tryz.strings_Join_none a c sep w) (fun bk o c xs sep w h1 h2 h3 h4 h5=>Tryz.strings_Join bk o c xs sep w h1 h2 h3 h4 h5)⟩
def b255:IsPrim Tryz.prog (198,255):=⟨⟨Tryz.f198,gG Tryz.f198,Tryz.func198,by kernel_rfl,by decide⟩,_,_,rfl,rfl,rfl,fun _ _=>Ha (show ns.mP 1=some z_ from L8 1) (by kernel_rfl) (fun n h0 h1 w ht=>Tryz.strconv_Itoa n h0 h1 w ht)⟩
def all_bear:∀q∈ns.g,Bears Tryz.prog q\/Bare Tryz.prog q\/IsPrim Tryz.prog q:=by
 intro q hq;rw[<-List.take_append_drop 235 ns.g]at hq;rcases List.mem_append.1 hq with h|h
 .exact(rows_bear q h).elim .inl fun h=>.inr (.inl h)
 rw[prims_g]at h;simp only[List.mem_cons,List.not_mem_nil,or_false]at h;rcases h with rfl|rfl|rfl
 .exact .inr (.inr b311)
 .exact .inr (.inr b269)
 .exact .inr (.inr b255)
def u553:∀q∈ns.g,q.2=553->q.1=81:=by decide +kernel
theorem clone553:Nonempty (ja Tryz.prog ns 81 4 72):=⟨
 { fn:=Tryz.f81,A:=E0,t:=(dX (aT Tryz.f81 1 1)).1,el:=OO Tryz.prog (dX (aT Tryz.f81 1 1)).1,ty:=(dX (aT Tryz.f81 1 1)).2,
   o0:=aT Tryz.f81 0 0,m:=aT Tryz.f81 1 0,e:=aT Tryz.f81 1 1,o2:=aT Tryz.f81 2 0,b:=aT Tryz.f81 3 0,m3:=aT Tryz.f81 3 1,ap:=aT Tryz.f81 3 2,fi:=aT Tryz.f81 3 3,
   r0:=dB Tryz.f81 0,r1:=dB Tryz.f81 1,r2:=dB Tryz.f81 2,r3:=dB Tryz.f81 3,
   A2:=E2,ag:=true,hf:=Tryz.func81}⟩
def u554:∀q∈ns.g,q.2=554->q.1=82:=by decide +kernel
theorem clone554:Nonempty (ja Tryz.prog ns 82 20 256):=⟨
 { fn:=Tryz.f82,A:=E0,t:=(dX (aT Tryz.f82 1 1)).1,el:=OO Tryz.prog (dX (aT Tryz.f82 1 1)).1,ty:=(dX (aT Tryz.f82 1 1)).2,
   o0:=aT Tryz.f82 0 0,m:=aT Tryz.f82 1 0,e:=aT Tryz.f82 1 1,o2:=aT Tryz.f82 2 0,b:=aT Tryz.f82 3 0,m3:=aT Tryz.f82 3 1,ap:=aT Tryz.f82 3 2,fi:=aT Tryz.f82 3 3,
   r0:=dB Tryz.f82 0,r1:=dB Tryz.f82 1,r2:=dB Tryz.f82 2,r3:=dB Tryz.f82 3,
   A2:=E2,ag:=true,hf:=Tryz.func82}⟩
def u555:∀q∈ns.g,q.2=555->q.1=83:=by decide +kernel
theorem clone555:Nonempty (ja Tryz.prog ns 83 3 48):=⟨
 { fn:=Tryz.f83,A:=E0,t:=(dX (aT Tryz.f83 1 1)).1,el:=OO Tryz.prog (dX (aT Tryz.f83 1 1)).1,ty:=(dX (aT Tryz.f83 1 1)).2,
   o0:=aT Tryz.f83 0 0,m:=aT Tryz.f83 1 0,e:=aT Tryz.f83 1 1,o2:=aT Tryz.f83 2 0,b:=aT Tryz.f83 3 0,m3:=aT Tryz.f83 3 1,ap:=aT Tryz.f83 3 2,fi:=aT Tryz.f83 3 3,
   r0:=dB Tryz.f83 0,r1:=dB Tryz.f83 1,r2:=dB Tryz.f83 2,r3:=dB Tryz.f83 3,
   A2:=E2,ag:=true,hf:=Tryz.func83}⟩
def u422:∀q∈ns.g,q.2=422->q.1=138:=by decide +kernel
theorem clone422:Nonempty (ja Tryz.prog ns 138 11 152):=⟨
 { fn:=Tryz.f138,A:=E0,t:=(dX (aT Tryz.f138 1 1)).1,el:=OO Tryz.prog (dX (aT Tryz.f138 1 1)).1,ty:=(dX (aT Tryz.f138 1 1)).2,
   o0:=aT Tryz.f138 0 0,m:=aT Tryz.f138 1 0,e:=aT Tryz.f138 1 1,o2:=aT Tryz.f138 2 0,b:=aT Tryz.f138 3 0,m3:=aT Tryz.f138 3 1,ap:=aT Tryz.f138 3 2,fi:=aT Tryz.f138 3 3,
   r0:=dB Tryz.f138 0,r1:=dB Tryz.f138 1,r2:=dB Tryz.f138 2,r3:=dB Tryz.f138 3,
   A2:=E2,ag:=true,hf:=Tryz.func138}⟩
def u420:∀q∈ns.g,q.2=420->q.1=141:=by decide +kernel
theorem clone420:Nonempty (ja Tryz.prog ns 141 1 16):=⟨
 { fn:=Tryz.f141,A:=E0,t:=(dX (aT Tryz.f141 1 1)).1,el:=OO Tryz.prog (dX (aT Tryz.f141 1 1)).1,ty:=(dX (aT Tryz.f141 1 1)).2,
   o0:=aT Tryz.f141 0 0,m:=aT Tryz.f141 1 0,e:=aT Tryz.f141 1 1,o2:=aT Tryz.f141 2 0,b:=aT Tryz.f141 3 0,m3:=aT Tryz.f141 3 1,ap:=aT Tryz.f141 3 2,fi:=aT Tryz.f141 3 3,
   r0:=dB Tryz.f141 0,r1:=dB Tryz.f141 1,r2:=dB Tryz.f141 2,r3:=dB Tryz.f141 3,
   A2:=E2,ag:=false,hf:=Tryz.func141}⟩
def backs_ok:ue Tryz.prog ns:=trivial
theorem clones_ok:∀g sz bytes f,look ns.cl g=some (sz,bytes)->ns.of f=some g->Nonempty (ja Tryz.prog ns f sz bytes):=by
 intro g sz bytes f h hf;simp only[ns,look]at h;split at h
 .rename_i e;subst e;cases h;have:=u553 (f,553) (look_memI hf) rfl;simp only at this;subst this;exact clone553
 split at h
 .rename_i e;subst e;cases h;have:=u554 (f,554) (look_memI hf) rfl;simp only at this;subst this;exact clone554
 split at h
 .rename_i e;subst e;cases h;have:=u555 (f,555) (look_memI hf) rfl;simp only at this;subst this;exact clone555
 split at h
 .rename_i e;subst e;cases h;have:=u422 (f,422) (look_memI hf) rfl;simp only at this;subst this;exact clone422
 split at h
 .rename_i e;subst e;cases h;have:=u420 (f,420) (look_memI hf) rfl;simp only at this;subst this;exact clone420
 cases h
def impl:Impl Tryz.prog ns AP:=⟨by kernel_rfl,fun f g h=>(all_bear (f,g) (look_memI h)).imp id (Or.elim · (fun⟨h1,h2⟩=>⟨h1,.inl h2⟩) (fun⟨h1,h2⟩=>⟨h1,.inr h2⟩)),backs_ok,clones_ok⟩
end Go.Ab
