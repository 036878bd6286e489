import Derived.Test.YtjegoeahhcieaaaGreatDoorRows
import Derived.Test.YtjegoeahhcieaaaGreatDoorCodeA
import Derived.Test.YtjegoeahhcieaaaGreatDoorShelf
/-
  Each function of the given program that has slim code bears just that code: the kernel translates it anew and compares.
-/
set_option linter.unusedVariables false
set_option linter.unusedSimpArgs false
set_option linter.unnecessarySimpa false
set_option maxRecDepth 100000
set_option maxHeartbeats 8000000
namespace Go.Ab
open Proofs Shelf
def ns:Names:=⟨[(3,297),(4,298),(5,300),(6,301),(7,15),(8,302),(9,68),(10,27),(11,32),(12,63),(13,176),(14,303),(15,304),(16,305),(17,306),(18,307),(19,308),(20,309),(21,70),(22,71),(23,72),(24,28),(25,67),(26,20),(27,313),(28,314),(29,315),(30,316),(31,317),(32,318),(33,319),(34,320),(35,321),(36,322),(37,26),(38,34),(39,62),(40,69),(41,79),(42,85),(43,323),(44,98),(45,324),(46,95),(47,179),(48,325),(49,326),(50,327),(51,145),(52,328),(53,329),(54,330),(55,331),(56,332),(57,333),(58,334),(59,55),(60,106),(61,57),(62,338),(63,339),(64,340),(65,87),(66,183),(67,341),(68,342),(69,343),(70,344),(71,112),(72,345),(73,252),(74,115),(75,116),(76,346),(77,347),(78,348),(79,194),(80,175),(81,349),(82,350),(83,351),(84,352),(85,196),(86,198),(87,48),(88,353),(89,354),(90,355),(91,356),(92,357),(93,358),(94,46),(95,96),(96,97),(97,178),(99,118),(100,119),(101,120),(102,121),(103,122),(104,123),(105,245),(106,264),(107,258),(108,265),(109,56),(110,201),(111,238),(112,361),(113,207),(114,362),(115,363),(116,222),(117,216),(118,189),(119,364),(120,365),(121,186),(122,366),(123,367),(124,368),(125,369),(126,370),(127,371),(128,372),(129,373),(130,117),(131,125),(132,126),(133,127),(134,128),(135,129),(136,130),(137,131),(138,132),(139,133),(140,134),(141,52),(142,135),(143,136),(145,99),(146,181),(147,240),(148,59),(149,208),(150,375),(151,191),(152,376),(153,377),(154,378),(155,193),(156,217),(157,379),(158,380),(159,381),(160,382),(161,383),(162,384),(163,385),(164,386),(165,387),(166,109),(167,111),(168,124),(169,110),(170,77),(171,78),(172,137),(173,138),(174,139),(175,140),(176,141),(177,142),(178,143),(179,144),(181,388),(182,22),(183,389),(184,221),(185,390),(186,391),(187,392),(188,108),(189,146),(191,393),(192,394),(193,395),(194,396),(195,397),(196,398),(98,360),(144,255)],
 [68,27,85,323,326,328,329,330,331,332,333,334,338,115,348,175,349,350,352,354,357,96,97,119,120,121,122,367,368,369,370,126,127,128,129,130,131,132,133,134,240,382,383,384,387,139,140,141],[],[(360,7,88)],Mo 0⟩
def lv1(i:Nat):ae→List (Nat×List Nat)
 | .oG _ l=>[(i,l)]
 | .seq a b=>lv1 i b++lv1 i a
 |_=>[]
def eJ:Code→ae→List (Nat×List Nat)
 | .region i _ _,x=>lv1 i x
 | .seq a b,.seq x y=>eJ a x++eJ b y
 | .cond _ a b,.cond _ x y=>eJ a x++eJ b y
 | .block _ a,.block _ x=>eJ a x
 | .loop a,.loop _ x=>eJ a x
 | .rangeFunc _ _ a b,.back _ _ _ _ _ _ _ x y=>eJ a x++eJ b y
 |_,_=>[]
def lp1(o:Option Nat)(l:List Nat):List (Nat×List Nat):=match o with|some i=>[(i,l)]|none=>[]
def lps:Code→ae→List (Nat×List Nat)
 | .seq a b,.seq x y=>lps a x++lps b y
 | .cond _ a b,.cond _ x y=>lps a x++lps b y
 | .block _ a,.block _ x=>lps a x
 | .loop a,.loop l x=>lp1 (ji a) l++lps a x
 | .rangeFunc _ _ a b,.back _ _ _ _ _ _ l x y=>lp1 (ji a) l++lps a x++lps b y
 |_,_=>[]
def An(p:List (Nat×Nat×Nat))(s h si:List Nat)(ow:List (Nat×List Nat))(bk:List (Nat×Nat))(ks:Bool)(q ho:List Nat)(fz:List (Nat×List Nat))(du:List (Nat×Nat))(ro:List Nat)(fa:List (Nat×List (Nat×Nat)))(pu:List (Nat×List (Nat×Nat×Bool)))(pr:List (Nat×List (Nat×Nat×Nat)))(cu:List (Nat×Nat×List Nat×List Nat))(fs:List (Nat×List Nat))(kp:List Nat)(fn:Func)(af:aC):kD:=
 ⟨p,s,h,eJ (fn.body.getD .skip) af.body,lps (fn.body.getD .skip) af.body,si,ow,bk,ks,q,ho,fz,du,ro,fa,pu,pr,cu,fs,kp⟩
def prO(m:List (Nat×Nat×Nat))(o:dN):List (Nat×Nat×Nat):=match o.dst,o.op,o.args with
 |some d,.alloc k _,_=>(d,k,0)::m
 |some d,.box k _,_=>(d,k,0)::m
 |some d,.v (.gV n),[.t s]=>match look m s with|some (k,f)=>(d,k,f+n)::m|none=>m
 |_,_,_=>m
def prC:ae→List (Nat×Nat×Nat)→List (Nat×Nat×Nat)
 | .oG os _,m=>os.foldl prO m
 | .seq a b,m=>prC b (prC a m)
 | .cond _ a b,m=>prC b (prC a m)
 | .block _ a,m=>prC a m
 | .loop _ a,m=>prC a m
 | .back _ _ _ _ _ _ _ a b,m=>prC b (prC a m)
 |_,m=>m
def Am(s h si:List Nat)(ow:List (Nat×List Nat))(bk:List (Nat×Nat))(ks:Bool)(q ho:List Nat)(fz:List (Nat×List Nat))(fn:Func)(af:aC):kD:=An (prC af.body []) s h si ow bk ks q ho fz [] [] [] [] [] [] [] [] fn af
def Al(s:List Nat):Func→aC→kD:=Am s [] [] [] [] false [] [] []
def Ak:Func→aC→kD:=Al []
def E0:kD:=⟨[],[],[],[],[],[],[],[],false,[],[],[],[],[],[],[],[],[],[],[]⟩
def E2:kD:=⟨[],[],[],[],[],[],[],[],false,[],[7],[],[],[],[],[],[],[],[],[]⟩
def Bears(P:Program)(q:Nat×Nat):Prop:=∃fn A af,P.funcs[q.1]?=some fn∧ql P ns A fn=some af∧AP q.2=some af
theorem zb{i g:Nat}{P:Program}{fn:Func}(af:aC)(A:Func→aC→kD)(h:P.funcs[i]?=some fn)(e:AP g=some af:=by rfl)(k:ql P ns (A fn af) fn=some af:=by kernel_rfl):Bears P (i,g):=⟨fn,A fn af,af,h,k,e⟩
theorem zl{α:Type}{p r:α→Prop}{a:α}{l:List α}(h:p a)(t:∀q∈l,p q∨r q):∀q∈a::l,p q∨r q:=List.forall_mem_cons.2 ⟨.inl h,t⟩
theorem zr{α:Type}{p r:α→Prop}{a:α}{l:List α}(h:r a)(t:∀q∈l,p q∨r q):∀q∈a::l,p q∨r q:=List.forall_mem_cons.2 ⟨.inr h,t⟩
theorem look_memI{α:Type}{t:Nat}{v:α}:∀{l:List (Nat×α)},look l t=some v→(t,v)∈l
 |[],h=>by simp[look]at h
 |(k,u)::r,h=>by
   simp only[look]at h;split at h
   ·rename_i e;cases h;subst e;exact List.mem_cons_self
   ·exact List.mem_cons_of_mem _ (look_memI h)
def Bare (P:Program) (q:Nat×Nat):Prop:=(∃fn b,P.funcs[q.1]?=some fn∧fn.body=some b∧fn.name ≠ "runtime.NumGoroutine")∧AP q.2=none
abbrev Br:Nat×Nat→Prop:=Bears Tryz.prog
theorem b297:Br (3,297):=zb g297 (Am [] [] [] [] [] false [25] [] []) Tryz.func3
theorem b298:Br (4,298):=zb g298 (Al [92]) Tryz.func4
theorem b300:Br (5,300):=zb g300 (Am [] [] [27,36] [] [] false [] [] []) Tryz.func5
theorem b301:Br (6,301):=zb g301 Ak Tryz.func6
theorem b15:Br (7,15):=zb g15 Ak Tryz.func7
theorem b302:Br (8,302):=zb g302 (Am [] [] [] [] [] true [11] [] []) Tryz.func8
theorem b68:Br (9,68):=zb g68 (Al [7,11,17,24,28]) Tryz.func9
theorem b27:Br (10,27):=zb g27 (Al [29,59]) Tryz.func10
theorem b32:Br (11,32):=zb g32 Ak Tryz.func11
theorem b63:Br (12,63):=zb g63 Ak Tryz.func12
theorem b176:Br (13,176):=zb g176 Ak Tryz.func13
theorem b303:Br (14,303):=zb g303 (An [(1,1,0),(18,1,1)] [5,50,56,8,60,65,69,82,101] [] [] [] [] false [] [31,48] [] [] [] [(6,[(5,37)])] [(2,[(22,1,false),(5,1,false)])] [(2,[(22,22,0),(5,5,0)])] [] [] []) Tryz.func14
theorem b304:Br (15,304):=zb g304 (Al [69,73,79,83,88,92,103,119,131]) Tryz.func15
theorem b305:Br (16,305):=zb g305 Ak Tryz.func16
theorem b306:Br (17,306):=zb g306 (Am [] [] [] [] [] true [] [104] []) Tryz.func17
theorem b307:Br (18,307):=zb g307 Ak Tryz.func18
theorem b308:Br (19,308):=zb g308 (Am [128] [] [] [] [] true [] [] []) Tryz.func19
theorem b309:Br (20,309):=zb g309 Ak Tryz.func20
theorem b70:Br (21,70):=zb g70 Ak Tryz.func21
theorem b71:Br (22,71):=zb g71 Ak Tryz.func22
theorem b72:Br (23,72):=zb g72 Ak Tryz.func23
theorem b28:Br (24,28):=zb g28 (Am [] [] [1] [] [] false [] [] []) Tryz.func24
theorem b67:Br (25,67):=zb g67 Ak Tryz.func25
theorem b20:Br (26,20):=zb g20 Ak Tryz.func26
theorem b313:Br (27,313):=zb g313 Ak Tryz.func27
theorem b314:Br (28,314):=zb g314 Ak Tryz.func28
theorem b315:Br (29,315):=zb g315 Ak Tryz.func29
theorem b316:Br (30,316):=zb g316 Ak Tryz.func30
theorem b317:Br (31,317):=zb g317 Ak Tryz.func31
theorem b318:Br (32,318):=zb g318 Ak Tryz.func32
theorem b319:Br (33,319):=zb g319 Ak Tryz.func33
theorem b320:Br (34,320):=zb g320 Ak Tryz.func34
theorem b321:Br (35,321):=zb g321 Ak Tryz.func35
theorem b322:Br (36,322):=zb g322 Ak Tryz.func36
theorem b26:Br (37,26):=zb g26 Ak Tryz.func37
theorem b34:Br (38,34):=zb g34 Ak Tryz.func38
theorem b62:Br (39,62):=zb g62 Ak Tryz.func39
theorem b69:Br (40,69):=zb g69 Ak Tryz.func40
theorem b79:Br (41,79):=zb g79 Ak Tryz.func41
theorem b85:Br (42,85):=zb g85 Ak Tryz.func42
theorem b323:Br (43,323):=zb g323 (Am [1,2,7] [] [] [] [] false [] [5] []) Tryz.func43
theorem b98:Br (44,98):=zb g98 Ak Tryz.func44
theorem b324:Br (45,324):=zb g324 Ak Tryz.func45
theorem b95:Br (46,95):=zb g95 Ak Tryz.func46
theorem b179:Br (47,179):=zb g179 Ak Tryz.func47
theorem b325:Br (48,325):=zb g325 Ak Tryz.func48
theorem b326:Br (49,326):=zb g326 (Am [] [53] [] [] [] false [] [] []) Tryz.func49
theorem b327:Br (50,327):=zb g327 Ak Tryz.func50
theorem b145:Br (51,145):=zb g145 (Am [20] [] [] [] [] true [] [7,23] []) Tryz.func51
theorem b328:Br (52,328):=zb g328 (An [(1,1,0),(5,5,0),(6,6,0),(12,12,0),(13,13,0),(14,14,0),(17,6,0),(21,1,0),(26,1,1),(32,1,1),(60,12,2)] [52,57] [] [] [] [] false [] [] [(5,[7])] [] [] [] [] [] [] [] [24]) Tryz.func52
theorem b329:Br (53,329):=zb g329 (Al [7]) Tryz.func53
theorem b330:Br (54,330):=zb g330 (Al [8,16,25]) Tryz.func54
theorem b331:Br (55,331):=zb g331 Ak Tryz.func55
theorem b332:Br (56,332):=zb g332 (Am [19] [26] [] [] [] false [] [] []) Tryz.func56
theorem b333:Br (57,333):=zb g333 (Am [12] [20] [] [] [] false [] [] []) Tryz.func57
theorem b334:Br (58,334):=zb g334 Ak Tryz.func58
theorem b55:Br (59,55):=zb g55 (Al [3]) Tryz.func59
theorem b106:Br (60,106):=zb g106 Ak Tryz.func60
theorem b57:Br (61,57):=zb g57 Ak Tryz.func61
theorem b338:Br (62,338):=zb g338 (Al [25]) Tryz.func62
theorem b339:Br (63,339):=zb g339 Ak Tryz.func63
theorem b340:Br (64,340):=zb g340 Ak Tryz.func64
theorem b87:Br (65,87):=zb g87 Ak Tryz.func65
theorem b183:Br (66,183):=zb g183 Ak Tryz.func66
theorem b341:Br (67,341):=zb g341 Ak Tryz.func67
theorem b342:Br (68,342):=zb g342 Ak Tryz.func68
theorem b343:Br (69,343):=zb g343 (Am [15] [7,28] [] [] [] false [] [7] []) Tryz.func69
theorem b344:Br (70,344):=zb g344 Ak Tryz.func70
theorem b112:Br (71,112):=zb g112 (Am [22,28,52,57] [] [] [] [] true [] [] []) Tryz.func71
theorem b345:Br (72,345):=zb g345 Ak Tryz.func72
theorem b252:Br (73,252):=zb g252 Ak Tryz.func73
theorem b115:Br (74,115):=zb g115 (Al [14]) Tryz.func74
theorem b116:Br (75,116):=zb g116 Ak Tryz.func75
theorem b346:Br (76,346):=zb g346 Ak Tryz.func76
theorem b347:Br (77,347):=zb g347 Ak Tryz.func77
theorem b348:Br (78,348):=zb g348 (Am [] [15] [] [] [] false [] [] []) Tryz.func78
theorem b194:Br (79,194):=zb g194 Ak Tryz.func79
theorem b175:Br (80,175):=zb g175 Ak Tryz.func80
theorem b349:Br (81,349):=zb g349 (Am [] [43,69] [] [] [] false [] [] []) Tryz.func81
theorem b350:Br (82,350):=zb g350 (Am [35] [78,113] [] [] [] false [] [] []) Tryz.func82
theorem b351:Br (83,351):=zb g351 Ak Tryz.func83
theorem b352:Br (84,352):=zb g352 (Am [] [19] [] [] [] false [] [] []) Tryz.func84
theorem b196:Br (85,196):=zb g196 (Am [] [] [4] [(4,[0])] [] false [] [] []) Tryz.func85
theorem b198:Br (86,198):=zb g198 Ak Tryz.func86
theorem b48:Br (87,48):=zb g48 Ak Tryz.func87
theorem b353:Br (88,353):=zb g353 Ak Tryz.func88
theorem b354:Br (89,354):=zb g354 (Am [17] [45] [] [] [] false [] [] [(10,[14])]) Tryz.func89
theorem b355:Br (90,355):=zb g355 Ak Tryz.func90
theorem b356:Br (91,356):=zb g356 Ak Tryz.func91
theorem b357:Br (92,357):=zb g357 (Am [10] [13] [] [] [] false [] [] []) Tryz.func92
theorem b358:Br (93,358):=zb g358 Ak Tryz.func93
theorem b46:Br (94,46):=zb g46 Ak Tryz.func94
theorem b96:Br (95,96):=zb g96 Ak Tryz.func95
theorem b97:Br (96,97):=zb g97 (Al [1]) Tryz.func96
theorem b178:Br (97,178):=zb g178 Ak Tryz.func97
theorem b118:Br (99,118):=zb g118 Ak Tryz.func99
theorem b119:Br (100,119):=zb g119 Ak Tryz.func100
theorem b120:Br (101,120):=zb g120 (Al [7,13,17,25,29,38,42,53,57]) Tryz.func101
theorem b121:Br (102,121):=zb g121 (Al [26]) Tryz.func102
theorem b122:Br (103,122):=zb g122 (Al [25]) Tryz.func103
theorem b123:Br (104,123):=zb g123 Ak Tryz.func104
theorem b245:Br (105,245):=zb g245 Ak Tryz.func105
theorem b264:Br (106,264):=zb g264 Ak Tryz.func106
theorem b258:Br (107,258):=zb g258 Ak Tryz.func107
theorem b265:Br (108,265):=zb g265 Ak Tryz.func108
theorem b56:Br (109,56):=zb g56 (Am [] [] [18] [(18,[0])] [] false [] [] []) Tryz.func109
theorem b201:Br (110,201):=zb g201 Ak Tryz.func110
theorem b238:Br (111,238):=zb g238 Ak Tryz.func111
theorem b361:Br (112,361):=zb g361 Ak Tryz.func112
theorem b207:Br (113,207):=zb g207 Ak Tryz.func113
theorem b362:Br (114,362):=zb g362 Ak Tryz.func114
theorem b363:Br (115,363):=zb g363 Ak Tryz.func115
theorem b222:Br (116,222):=zb g222 (Am [] [] [34] [(34,[0])] [] false [] [] []) Tryz.func116
theorem b216:Br (117,216):=zb g216 Ak Tryz.func117
theorem b189:Br (118,189):=zb g189 Ak Tryz.func118
theorem b364:Br (119,364):=zb g364 Ak Tryz.func119
theorem b365:Br (120,365):=zb g365 Ak Tryz.func120
theorem b186:Br (121,186):=zb g186 Ak Tryz.func121
theorem b366:Br (122,366):=zb g366 Ak Tryz.func122
theorem b367:Br (123,367):=zb g367 (Al [8,12]) Tryz.func123
theorem b368:Br (124,368):=zb g368 (Am [26,48,130] [39,77,145,179] [] [] [] false [] [] [(16,[11]),(19,[12]),(20,[13]),(30,[17]),(34,[20]),(39,[21]),(46,[22])]) Tryz.func124
theorem b369:Br (125,369):=zb g369 (Al [13,19]) Tryz.func125
theorem b370:Br (126,370):=zb g370 (Am [24,30,44,69,74] [51] [] [] [] false [] [] []) Tryz.func126
theorem b371:Br (127,371):=zb g371 Ak Tryz.func127
theorem b372:Br (128,372):=zb g372 (Al [28]) Tryz.func128
theorem b373:Br (129,373):=zb g373 Ak Tryz.func129
theorem b117:Br (130,117):=zb g117 Ak Tryz.func130
theorem b125:Br (131,125):=zb g125 Ak Tryz.func131
theorem b126:Br (132,126):=zb g126 (Al [5,9,15,19]) Tryz.func132
theorem b127:Br (133,127):=zb g127 Ak Tryz.func133
theorem b128:Br (134,128):=zb g128 (Al [13,20,24]) Tryz.func134
theorem b129:Br (135,129):=zb g129 (Al [7,13,17,25,29]) Tryz.func135
theorem b130:Br (136,130):=zb g130 Ak Tryz.func136
theorem b131:Br (137,131):=zb g131 (Am [20] [] [15] [] [] false [] [] []) Tryz.func137
theorem b132:Br (138,132):=zb g132 (Al [10]) Tryz.func138
theorem b133:Br (139,133):=zb g133 (Am [] [] [8] [] [] false [] [] []) Tryz.func139
theorem b134:Br (140,134):=zb g134 (Al [21,41,50,71,77,81,89,93]) Tryz.func140
theorem b52:Br (141,52):=zb g52 Ak Tryz.func141
theorem b135:Br (142,135):=zb g135 Ak Tryz.func142
theorem b136:Br (143,136):=zb g136 Ak Tryz.func143
theorem b99:Br (145,99):=zb g99 (Am [] [] [50] [(50,[0])] [] false [] [] []) Tryz.func145
theorem b181:Br (146,181):=zb g181 Ak Tryz.func146
theorem b240:Br (147,240):=zb g240 (Al [23,28]) Tryz.func147
theorem b59:Br (148,59):=zb g59 (Am [] [] [16] [(16,[0])] [] false [] [] []) Tryz.func148
theorem b208:Br (149,208):=zb g208 Ak Tryz.func149
theorem b375:Br (150,375):=zb g375 Ak Tryz.func150
theorem b191:Br (151,191):=zb g191 Ak Tryz.func151
theorem b376:Br (152,376):=zb g376 Ak Tryz.func152
theorem b377:Br (153,377):=zb g377 Ak Tryz.func153
theorem b378:Br (154,378):=zb g378 Ak Tryz.func154
theorem b193:Br (155,193):=zb g193 Ak Tryz.func155
theorem b217:Br (156,217):=zb g217 Ak Tryz.func156
theorem b379:Br (157,379):=zb g379 Ak Tryz.func157
theorem b380:Br (158,380):=zb g380 Ak Tryz.func158
theorem b381:Br (159,381):=zb g381 Ak Tryz.func159
theorem b382:Br (160,382):=zb g382 Ak Tryz.func160
theorem b383:Br (161,383):=zb g383 (Am [29,42,64,94] [128] [] [] [] false [] [] [(2,[7]),(21,[18])]) Tryz.func161
theorem b384:Br (162,384):=zb g384 (Al [11,15,30]) Tryz.func162
theorem b385:Br (163,385):=zb g385 Ak Tryz.func163
theorem b386:Br (164,386):=zb g386 Ak Tryz.func164
theorem b387:Br (165,387):=zb g387 (Am [11,18,27,38,42,47,56] [] [] [] [] false [] [39,48] []) Tryz.func165
theorem b109:Br (166,109):=zb g109 Ak Tryz.func166
theorem b111:Br (167,111):=zb g111 Ak Tryz.func167
theorem b124:Br (168,124):=zb g124 Ak Tryz.func168
theorem b110:Br (169,110):=zb g110 Ak Tryz.func169
theorem b77:Br (170,77):=zb g77 Ak Tryz.func170
theorem b78:Br (171,78):=zb g78 Ak Tryz.func171
theorem b137:Br (172,137):=zb g137 Ak Tryz.func172
theorem b138:Br (173,138):=zb g138 Ak Tryz.func173
theorem b139:Br (174,139):=zb g139 (Al [5,13,17,24,28,38,44,48]) Tryz.func174
theorem b140:Br (175,140):=zb g140 (Al [32]) Tryz.func175
theorem b141:Br (176,141):=zb g141 (Al [51]) Tryz.func176
theorem b142:Br (177,142):=zb g142 Ak Tryz.func177
theorem b143:Br (178,143):=zb g143 Ak Tryz.func178
theorem b144:Br (179,144):=zb g144 Ak Tryz.func179
theorem b388:Br (181,388):=zb g388 Ak Tryz.func181
theorem b22:Br (182,22):=zb g22 Ak Tryz.func182
theorem b389:Br (183,389):=zb g389 (Am [] [] [198] [] [] false [] [] []) Tryz.func183
theorem b221:Br (184,221):=zb g221 Ak Tryz.func184
theorem b390:Br (185,390):=zb g390 Ak Tryz.func185
theorem b391:Br (186,391):=zb g391 Ak Tryz.func186
theorem b392:Br (187,392):=zb g392 Ak Tryz.func187
theorem b108:Br (188,108):=zb g108 Ak Tryz.func188
theorem b146:Br (189,146):=zb g146 Ak Tryz.func189
theorem b393:Br (191,393):=zb g393 (Am [] [] [] [] [] false [] [21] [(6,[8])]) Tryz.func191
theorem b394:Br (192,394):=zb g394 Ak Tryz.func192
theorem b395:Br (193,395):=zb g395 Ak Tryz.func193
theorem b396:Br (194,396):=zb g396 Ak Tryz.func194
theorem b397:Br (195,397):=zb g397 Ak Tryz.func195
theorem b398:Br (196,398):=zb g398 Ak Tryz.func196
theorem b360:Bare Tryz.prog (98,360):=⟨⟨Tryz.f98,yg Tryz.f98,Tryz.func98,by kernel_rfl,by decide⟩,rfl⟩
theorem rows_bear:∀q∈ns.g.take 191,Br q∨Bare Tryz.prog q:=
 zl b297 <|
 zl b298 <|
 zl b300 <|
 zl b301 <|
 zl b15 <|
 zl b302 <|
 zl b68 <|
 zl b27 <|
 zl b32 <|
 zl b63 <|
 zl b176 <|
 zl b303 <|
 zl b304 <|
 zl b305 <|
 zl b306 <|
 zl b307 <|
 zl b308 <|
 zl b309 <|
 zl b70 <|
 zl b71 <|
 zl b72 <|
 zl b28 <|
 zl b67 <|
 zl b20 <|
 zl b313 <|
 zl b314 <|
 zl b315 <|
 zl b316 <|
 zl b317 <|
 zl b318 <|
 zl b319 <|
 zl b320 <|
 zl b321 <|
 zl b322 <|
 zl b26 <|
 zl b34 <|
 zl b62 <|
 zl b69 <|
 zl b79 <|
 zl b85 <|
 zl b323 <|
 zl b98 <|
 zl b324 <|
 zl b95 <|
 zl b179 <|
 zl b325 <|
 zl b326 <|
 zl b327 <|
 zl b145 <|
 zl b328 <|
 zl b329 <|
 zl b330 <|
 zl b331 <|
 zl b332 <|
 zl b333 <|
 zl b334 <|
 zl b55 <|
 zl b106 <|
 zl b57 <|
 zl b338 <|
 zl b339 <|
 zl b340 <|
 zl b87 <|
 zl b183 <|
 zl b341 <|
 zl b342 <|
 zl b343 <|
 zl b344 <|
 zl b112 <|
 zl b345 <|
 zl b252 <|
 zl b115 <|
 zl b116 <|
 zl b346 <|
 zl b347 <|
 zl b348 <|
 zl b194 <|
 zl b175 <|
 zl b349 <|
 zl b350 <|
 zl b351 <|
 zl b352 <|
 zl b196 <|
 zl b198 <|
 zl b48 <|
 zl b353 <|
 zl b354 <|
 zl b355 <|
 zl b356 <|
 zl b357 <|
 zl b358 <|
 zl b46 <|
 zl b96 <|
 zl b97 <|
 zl b178 <|
 zl b118 <|
 zl b119 <|
 zl b120 <|
 zl b121 <|
 zl b122 <|
 zl b123 <|
 zl b245 <|
 zl b264 <|
 zl b258 <|
 zl b265 <|
 zl b56 <|
 zl b201 <|
 zl b238 <|
 zl b361 <|
 zl b207 <|
 zl b362 <|
 zl b363 <|
 zl b222 <|
 zl b216 <|
 zl b189 <|
 zl b364 <|
 zl b365 <|
 zl b186 <|
 zl b366 <|
 zl b367 <|
 zl b368 <|
 zl b369 <|
 zl b370 <|
 zl b371 <|
 zl b372 <|
 zl b373 <|
 zl b117 <|
 zl b125 <|
 zl b126 <|
 zl b127 <|
 zl b128 <|
 zl b129 <|
 zl b130 <|
 zl b131 <|
 zl b132 <|
 zl b133 <|
 zl b134 <|
 zl b52 <|
 zl b135 <|
 zl b136 <|
 zl b99 <|
 zl b181 <|
 zl b240 <|
 zl b59 <|
 zl b208 <|
 zl b375 <|
 zl b191 <|
 zl b376 <|
 zl b377 <|
 zl b378 <|
 zl b193 <|
 zl b217 <|
 zl b379 <|
 zl b380 <|
 zl b381 <|
 zl b382 <|
 zl b383 <|
 zl b384 <|
 zl b385 <|
 zl b386 <|
 zl b387 <|
 zl b109 <|
 zl b111 <|
 zl b124 <|
 zl b110 <|
 zl b77 <|
 zl b78 <|
 zl b137 <|
 zl b138 <|
 zl b139 <|
 zl b140 <|
 zl b141 <|
 zl b142 <|
 zl b143 <|
 zl b144 <|
 zl b388 <|
 zl b22 <|
 zl b389 <|
 zl b221 <|
 zl b390 <|
 zl b391 <|
 zl b392 <|
 zl b108 <|
 zl b146 <|
 zl b393 <|
 zl b394 <|
 zl b395 <|
 zl b396 <|
 zl b397 <|
 zl b398 <|
 zr b360 <|
 fun _ h=>absurd h List.not_mem_nil
theorem prims_g:ns.g.drop 191=[(144,255)]:=by kernel_rfl
def IsPrim (P:Program) (q:Nat×Nat):Prop:=(∃fn b,P.funcs[q.1]?=some fn∧fn.body=some b∧fn.name ≠ "runtime.NumGoroutine") ∧
 ∃af pf,AP q.2=some af∧af.rf=some pf∧af.body=.exit 0∧∀orc,iA P ns orc→∀cz rs,pf.f orc.p cz=some rs→zF P ns q.1 cz rs
def HasB (P:Program) (f:Nat):Prop:=∃fn b,P.funcs[f]?=some fn∧fn.body=some b∧fn.name ≠ "runtime.NumGoroutine"
theorem b255:IsPrim Tryz.prog (144,255):=⟨⟨Tryz.f144,yg Tryz.f144,Tryz.func144,by kernel_rfl,by decide⟩,_,_,rfl,rfl,rfl,fun _ _=>EU (show ns.l5 0=some ym from JB 0) (by kernel_rfl) (fun n h0 h1 w ht=>Tryz.strconv_Itoa n h0 h1 w ht)⟩
theorem all_bear:∀q∈ns.g,Bears Tryz.prog q∨Bare Tryz.prog q∨IsPrim Tryz.prog q:=by
 intro q hq;rw[←List.take_append_drop 191 ns.g]at hq;rcases List.mem_append.1 hq with h|h
 ·exact (rows_bear q h).elim .inl fun h=>.inr (.inl h)
 rw[prims_g]at h;simp only[List.mem_cons,List.not_mem_nil,or_false]at h;rcases h with rfl
 ·exact .inr (.inr b255)
theorem u360:∀q∈ns.g,q.2=360→q.1=98:=by decide +kernel
theorem clone360:Nonempty (pc Tryz.prog ns 98 7 88):=⟨
 { fn:=Tryz.f98,A:=E0,t:=(tP (jC Tryz.f98 1 1)).1,el:=Wq Tryz.prog (tP (jC Tryz.f98 1 1)).1,ty:=(tP (jC Tryz.f98 1 1)).2,
   o0:=jC Tryz.f98 0 0,m:=jC Tryz.f98 1 0,e:=jC Tryz.f98 1 1,o2:=jC Tryz.f98 2 0,b:=jC Tryz.f98 3 0,m3:=jC Tryz.f98 3 1,ap:=jC Tryz.f98 3 2,fi:=jC Tryz.f98 3 3,
   r0:=FQ Tryz.f98 0,r1:=FQ Tryz.f98 1,r2:=FQ Tryz.f98 2,r3:=FQ Tryz.f98 3,
   A2:=E2,ag:=true,hf:=Tryz.func98 }⟩
theorem backs_ok:rT Tryz.prog ns:=by
 intro gb sz ag h f hf;simp[look,ns]at h
theorem clones_ok:∀g sz bytes f,look ns.cl g=some (sz,bytes)→ns.of f=some g→Nonempty (pc Tryz.prog ns f sz bytes):=by
 intro g sz bytes f h hf;simp only[ns,look]at h;split at h
 ·rename_i e;subst e;cases h;have:=u360 (f,360) (look_memI hf) rfl;simp only at this;subst this;exact clone360
 cases h
theorem impl:Impl Tryz.prog ns AP:=⟨by kernel_rfl,fun f g h=>(all_bear (f,g) (look_memI h)).imp id (Or.elim · (fun⟨h1,h2⟩=>⟨h1,.inl h2⟩) (fun⟨h1,h2⟩=>⟨h1,.inr h2⟩)),backs_ok,clones_ok⟩
end Go.Ab
