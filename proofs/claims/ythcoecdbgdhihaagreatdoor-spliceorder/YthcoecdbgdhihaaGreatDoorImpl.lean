import Derived.Test.YthcoecdbgdhihaaGreatDoorRows
import Derived.Test.YthcoecdbgdhihaaGreatDoorCodeA
import Derived.Test.YthcoecdbgdhihaaGreatDoorShelf
/-
  Each function of the given program that has slim code bears just that code: the kernel translates it anew and compares.
-/
set_option linter.unusedVariables false
set_option linter.unusedSimpArgs false
set_option linter.unnecessarySimpa false
set_option maxRecDepth 100000
set_option maxHeartbeats 8000000
namespace Go.Ab
open Proofs Shelf
def ns:Names:=⟨[(7,525),(9,527),(10,15),(12,528),(13,529),(14,26),(15,530),(17,532),(19,534),(20,535),(21,536),(23,538),(24,306),(25,247),(26,539),(31,543),(32,404),(33,214),(36,112),(37,483),(38,405),(39,544),(40,545),(41,546),(42,547),(43,548),(51,266),(52,57),(53,20),(54,253),(55,32),(56,68),(57,27),(58,67),(59,179),(60,176),(61,325),(62,326),(63,327),(64,307),(65,34),(66,175),(67,145),(70,414),(71,410),(72,411),(73,412),(74,413),(75,223),(79,118),(80,119),(81,120),(82,121),(83,122),(84,123),(85,495),(86,496),(87,29),(88,497),(89,33),(90,498),(91,499),(92,500),(93,501),(94,190),(95,415),(96,185),(97,409),(101,556),(102,51),(104,336),(105,337),(107,77),(108,78),(111,191),(115,135),(120,267),(121,79),(122,62),(123,69),(124,106),(125,348),(126,194),(127,349),(128,350),(129,351),(130,352),(131,196),(132,198),(133,71),(134,48),(137,421),(138,117),(139,125),(140,126),(141,127),(142,128),(143,129),(144,130),(145,131),(146,132),(147,133),(148,134),(149,52),(150,136),(151,73),(152,74),(153,75),(154,76),(155,515),(156,35),(157,516),(158,407),(159,215),(162,265),(164,252),(165,248),(166,108),(167,109),(168,110),(169,111),(172,216),(174,143),(175,144),(180,201),(181,238),(182,361),(183,207),(184,362),(185,363),(186,222),(187,72),(188,124),(189,137),(190,138),(191,139),(192,140),(193,141),(194,142),(195,107),(196,80),(197,81),(198,82),(199,83),(200,416),(201,417),(202,418),(203,419),(205,258),(207,245),(208,264),(209,257),(211,259),(212,260),(213,181),(214,240),(215,59),(216,208),(217,375),(218,376),(219,46),(220,377),(221,378),(222,193),(223,56),(224,146),(225,113),(226,114),(229,99),(230,95),(231,63),(232,388),(233,381),(234,22),(235,389),(236,221),(239,386),(240,393),(241,394),(242,385),(243,355),(244,358),(245,395),(250,392),(251,391),(252,371),(253,373),(259,396),(260,397),(261,398),(264,372),(265,387),(98,553),(99,554),(100,555),(136,422),(160,420),(44,311),(163,269),(210,255)],
 [247,68,27,326,175,412,413,119,120,121,122,498,500,348,349,350,352,421,126,127,128,129,130,131,132,133,134,75,516,139,140,141,107,83,416,417,418,257,240,387],[],[(553,4,72),(554,20,256),(555,3,48),(422,11,152),(420,1,16)],LN 1⟩
def lv1(i:Nat):aq→List (Nat×List Nat)
 | .iN _ l=>[(i,l)]
 | .seq a b=>lv1 i b++lv1 i a
 |_=>[]
def fe:Code→aq→List (Nat×List Nat)
 | .region i _ _,x=>lv1 i x
 | .seq a b,.seq x y=>fe a x++fe b y
 | .cond _ a b,.cond _ x y=>fe a x++fe b y
 | .block _ a,.block _ x=>fe a x
 | .loop a,.loop _ x=>fe a x
 | .rangeFunc _ _ a b,.back _ _ _ _ _ _ _ x y=>fe a x++fe b y
 |_,_=>[]
def lp1(o:Option Nat)(l:List Nat):List (Nat×List Nat):=match o with|some i=>[(i,l)]|none=>[]
def lps:Code→aq→List (Nat×List Nat)
 | .seq a b,.seq x y=>lps a x++lps b y
 | .cond _ a b,.cond _ x y=>lps a x++lps b y
 | .block _ a,.block _ x=>lps a x
 | .loop a,.loop l x=>lp1 (kA a) l++lps a x
 | .rangeFunc _ _ a b,.back _ _ _ _ _ _ l x y=>lp1 (kA a) l++lps a x++lps b y
 |_,_=>[]
def An(p:List (Nat×Nat×Nat))(s h si:List Nat)(ow:List (Nat×List Nat))(bk:List (Nat×Nat))(ks:Bool)(q ho:List Nat)(fz:List (Nat×List Nat))(du:List (Nat×Nat))(ro:List Nat)(fa:List (Nat×List (Nat×Nat)))(pu:List (Nat×List (Nat×Nat×Bool)))(pr:List (Nat×List (Nat×Nat×Nat)))(cu:List (Nat×Nat×List Nat×List Nat))(fs:List (Nat×List Nat))(kp:List Nat)(fn:Func)(af:aA):ko:=
 ⟨p,s,h,fe (fn.body.getD .skip) af.body,lps (fn.body.getD .skip) af.body,si,ow,bk,ks,q,ho,fz,du,ro,fa,pu,pr,cu,fs,kp⟩
def prO(m:List (Nat×Nat×Nat))(o:dN):List (Nat×Nat×Nat):=match o.dst,o.op,o.args with
 |some d,.alloc k _,_=>(d,k,0)::m
 |some d,.box k _,_=>(d,k,0)::m
 |some d,.v (.g_ n),[.t s]=>match look m s with|some (k,f)=>(d,k,f+n)::m|none=>m
 |_,_,_=>m
def jV:aq→List (Nat×Nat×Nat)→List (Nat×Nat×Nat)
 | .iN os _,m=>os.foldl prO m
 | .seq a b,m=>jV b (jV a m)
 | .cond _ a b,m=>jV b (jV a m)
 | .block _ a,m=>jV a m
 | .loop _ a,m=>jV a m
 | .back _ _ _ _ _ _ _ a b,m=>jV b (jV a m)
 |_,m=>m
def Am(s h si:List Nat)(ow:List (Nat×List Nat))(bk:List (Nat×Nat))(ks:Bool)(q ho:List Nat)(fz:List (Nat×List Nat))(fn:Func)(af:aA):ko:=An (jV af.body []) s h si ow bk ks q ho fz [] [] [] [] [] [] [] [] fn af
def Al(s:List Nat):Func→aA→ko:=Am s [] [] [] [] false [] [] []
def Ak:Func→aA→ko:=Al []
def E0:ko:=⟨[],[],[],[],[],[],[],[],false,[],[],[],[],[],[],[],[],[],[],[]⟩
def E2:ko:=⟨[],[],[],[],[],[],[],[],false,[],[7],[],[],[],[],[],[],[],[],[]⟩
def Bears(P:Program)(q:Nat×Nat):Prop:=∃fn A af,P.funcs[q.1]?=some fn∧oU P ns A fn=some af∧AP q.2=some af
theorem zb{i g:Nat}{P:Program}{fn:Func}(af:aA)(A:Func→aA→ko)(h:P.funcs[i]?=some fn)(e:AP g=some af:=by rfl)(k:oU P ns (A fn af) fn=some af:=by kernel_rfl):Bears P (i,g):=⟨fn,A fn af,af,h,k,e⟩
theorem zl{α:Type}{p r:α→Prop}{a:α}{l:List α}(h:p a)(t:∀q∈l,p q∨r q):∀q∈a::l,p q∨r q:=List.forall_mem_cons.2 ⟨.inl h,t⟩
theorem zr{α:Type}{p r:α→Prop}{a:α}{l:List α}(h:r a)(t:∀q∈l,p q∨r q):∀q∈a::l,p q∨r q:=List.forall_mem_cons.2 ⟨.inr h,t⟩
theorem look_memI{α:Type}{t:Nat}{v:α}:∀{l:List (Nat×α)},look l t=some v→(t,v)∈l
 |[],h=>by simp[look]at h
 |(k,u)::r,h=>by
   simp only[look]at h;split at h
   ·rename_i e;cases h;subst e;exact List.mem_cons_self
   ·exact List.mem_cons_of_mem _ (look_memI h)
def Bare (P:Program) (q:Nat×Nat):Prop:=(∃fn b,P.funcs[q.1]?=some fn∧fn.body=some b∧fn.name ≠ "runtime.NumGoroutine")∧AP q.2=none
abbrev Br:Nat×Nat→Prop:=Bears Tryz.prog
theorem b525:Br (7,525):=zb g525 Ak Tryz.func7
theorem b527:Br (9,527):=zb g527 Ak Tryz.func9
theorem b15:Br (10,15):=zb g15 Ak Tryz.func10
theorem b528:Br (12,528):=zb g528 Ak Tryz.func12
theorem b529:Br (13,529):=zb g529 Ak Tryz.func13
theorem b26:Br (14,26):=zb g26 Ak Tryz.func14
theorem b530:Br (15,530):=zb g530 Ak Tryz.func15
theorem b532:Br (17,532):=zb g532 Ak Tryz.func17
theorem b534:Br (19,534):=zb g534 Ak Tryz.func19
theorem b535:Br (20,535):=zb g535 Ak Tryz.func20
theorem b536:Br (21,536):=zb g536 (Am [58] [83] [52] [] [] false [] [] [(15,[14])]) Tryz.func21
theorem b538:Br (23,538):=zb g538 Ak Tryz.func23
theorem b306:Br (24,306):=zb g306 (Am [] [] [] [] [] true [] [104] []) Tryz.func24
theorem b247:Br (25,247):=zb g247 (Al [46,148]) Tryz.func25
theorem b539:Br (26,539):=zb g539 Ak Tryz.func26
theorem b543:Br (31,543):=zb g543 Ak Tryz.func31
theorem b404:Br (32,404):=zb g404 (Am [11] [] [36] [(36,[0])] [] true [] [40] []) Tryz.func32
theorem b214:Br (33,214):=zb g214 Ak Tryz.func33
theorem b112:Br (36,112):=zb g112 (Am [22,28,52,57] [] [] [] [] true [] [] []) Tryz.func36
theorem b483:Br (37,483):=zb g483 Ak Tryz.func37
theorem b405:Br (38,405):=zb g405 Ak Tryz.func38
theorem b544:Br (39,544):=zb g544 (An [(1,1,0),(2,2,0),(8,1,0),(11,1,1)] [28,36,45,66] [] [] [] [] true [] [10,13,30] [] [] [] [] [] [] [(6,8,[2,3,4,5,15,16,23,24,30],[3,23])] [(12,[3])] []) Tryz.func39
theorem b545:Br (40,545):=zb g545 (Am [33] [50] [17] [] [] false [] [] []) Tryz.func40
theorem b546:Br (41,546):=zb g546 (Am [14] [] [8,24] [] [] false [] [] [(7,[3])]) Tryz.func41
theorem b547:Br (42,547):=zb g547 Ak Tryz.func42
theorem b548:Br (43,548):=zb g548 Ak Tryz.func43
theorem b266:Br (51,266):=zb g266 Ak Tryz.func51
theorem b57:Br (52,57):=zb g57 Ak Tryz.func52
theorem b20:Br (53,20):=zb g20 Ak Tryz.func53
theorem b253:Br (54,253):=zb g253 Ak Tryz.func54
theorem b32:Br (55,32):=zb g32 Ak Tryz.func55
theorem b68:Br (56,68):=zb g68 (Al [7,11,17,24,28]) Tryz.func56
theorem b27:Br (57,27):=zb g27 (Al [29,59]) Tryz.func57
theorem b67:Br (58,67):=zb g67 Ak Tryz.func58
theorem b179:Br (59,179):=zb g179 Ak Tryz.func59
theorem b176:Br (60,176):=zb g176 Ak Tryz.func60
theorem b325:Br (61,325):=zb g325 Ak Tryz.func61
theorem b326:Br (62,326):=zb g326 (Am [] [53] [] [] [] false [] [] []) Tryz.func62
theorem b327:Br (63,327):=zb g327 Ak Tryz.func63
theorem b307:Br (64,307):=zb g307 Ak Tryz.func64
theorem b34:Br (65,34):=zb g34 Ak Tryz.func65
theorem b175:Br (66,175):=zb g175 Ak Tryz.func66
theorem b145:Br (67,145):=zb g145 (Am [20] [] [] [] [] true [] [7,23] []) Tryz.func67
theorem b414:Br (70,414):=zb g414 (Am [] [] [8] [] [] true [] [8,20] []) Tryz.func70
theorem b410:Br (71,410):=zb g410 Ak Tryz.func71
theorem b411:Br (72,411):=zb g411 Ak Tryz.func72
theorem b412:Br (73,412):=zb g412 (Am [24] [] [] [] [] true [] [38,41] []) Tryz.func73
theorem b413:Br (74,413):=zb g413 (Al [1]) Tryz.func74
theorem b223:Br (75,223):=zb g223 Ak Tryz.func75
theorem b118:Br (79,118):=zb g118 Ak Tryz.func79
theorem b119:Br (80,119):=zb g119 Ak Tryz.func80
theorem b120:Br (81,120):=zb g120 (Al [7,13,17,25,29,38,42,53,57]) Tryz.func81
theorem b121:Br (82,121):=zb g121 (Al [26]) Tryz.func82
theorem b122:Br (83,122):=zb g122 (Al [25]) Tryz.func83
theorem b123:Br (84,123):=zb g123 Ak Tryz.func84
theorem b495:Br (85,495):=zb g495 Ak Tryz.func85
theorem b496:Br (86,496):=zb g496 Ak Tryz.func86
theorem b29:Br (87,29):=zb g29 Ak Tryz.func87
theorem b497:Br (88,497):=zb g497 Ak Tryz.func88
theorem b33:Br (89,33):=zb g33 Ak Tryz.func89
theorem b498:Br (90,498):=zb g498 Ak Tryz.func90
theorem b499:Br (91,499):=zb g499 Ak Tryz.func91
theorem b500:Br (92,500):=zb g500 Ak Tryz.func92
theorem b501:Br (93,501):=zb g501 Ak Tryz.func93
theorem b190:Br (94,190):=zb g190 Ak Tryz.func94
theorem b415:Br (95,415):=zb g415 Ak Tryz.func95
theorem b185:Br (96,185):=zb g185 Ak Tryz.func96
theorem b409:Br (97,409):=zb g409 (Am [] [] [6] [] [] false [] [] []) Tryz.func97
theorem b556:Br (101,556):=zb g556 (An [(2,2,0),(4,4,0),(9,2,4),(15,2,5),(23,2,5),(31,2,5),(52,2,4),(53,2,5)] [] [] [] [] [] true [] [] [] [] [] [] [(4,[(26,14,true)])] [(4,[(26,26,0)])] [] [] []) Tryz.func101
theorem b51:Br (102,51):=zb g51 Ak Tryz.func102
theorem b336:Br (104,336):=zb g336 (Am [34] [52] [] [] [] false [] [] []) Tryz.func104
theorem b337:Br (105,337):=zb g337 Ak Tryz.func105
theorem b77:Br (107,77):=zb g77 Ak Tryz.func107
theorem b78:Br (108,78):=zb g78 Ak Tryz.func108
theorem b191:Br (111,191):=zb g191 Ak Tryz.func111
theorem b135:Br (115,135):=zb g135 Ak Tryz.func115
theorem b267:Br (120,267):=zb g267 Ak Tryz.func120
theorem b79:Br (121,79):=zb g79 Ak Tryz.func121
theorem b62:Br (122,62):=zb g62 Ak Tryz.func122
theorem b69:Br (123,69):=zb g69 Ak Tryz.func123
theorem b106:Br (124,106):=zb g106 Ak Tryz.func124
theorem b348:Br (125,348):=zb g348 (Am [] [15] [] [] [] false [] [] []) Tryz.func125
theorem b194:Br (126,194):=zb g194 Ak Tryz.func126
theorem b349:Br (127,349):=zb g349 (Am [] [43,69] [] [] [] false [] [] []) Tryz.func127
theorem b350:Br (128,350):=zb g350 (Am [35] [78,113] [] [] [] false [] [] []) Tryz.func128
theorem b351:Br (129,351):=zb g351 Ak Tryz.func129
theorem b352:Br (130,352):=zb g352 (Am [] [19] [] [] [] false [] [] []) Tryz.func130
theorem b196:Br (131,196):=zb g196 (Am [] [] [4] [(4,[0])] [] false [] [] []) Tryz.func131
theorem b198:Br (132,198):=zb g198 Ak Tryz.func132
theorem b71:Br (133,71):=zb g71 Ak Tryz.func133
theorem b48:Br (134,48):=zb g48 Ak Tryz.func134
theorem b421:Br (137,421):=zb g421 (Al [14]) Tryz.func137
theorem b117:Br (138,117):=zb g117 Ak Tryz.func138
theorem b125:Br (139,125):=zb g125 Ak Tryz.func139
theorem b126:Br (140,126):=zb g126 (Al [5,9,15,19]) Tryz.func140
theorem b127:Br (141,127):=zb g127 Ak Tryz.func141
theorem b128:Br (142,128):=zb g128 (Al [13,20,24]) Tryz.func142
theorem b129:Br (143,129):=zb g129 (Al [7,13,17,25,29]) Tryz.func143
theorem b130:Br (144,130):=zb g130 Ak Tryz.func144
theorem b131:Br (145,131):=zb g131 (Am [20] [] [15] [] [] false [] [] []) Tryz.func145
theorem b132:Br (146,132):=zb g132 (Al [10]) Tryz.func146
theorem b133:Br (147,133):=zb g133 (Am [] [] [8] [] [] false [] [] []) Tryz.func147
theorem b134:Br (148,134):=zb g134 (Al [21,41,50,71,77,81,89,93]) Tryz.func148
theorem b52:Br (149,52):=zb g52 Ak Tryz.func149
theorem b136:Br (150,136):=zb g136 Ak Tryz.func150
theorem b73:Br (151,73):=zb g73 Ak Tryz.func151
theorem b74:Br (152,74):=zb g74 Ak Tryz.func152
theorem b75:Br (153,75):=zb g75 Ak Tryz.func153
theorem b76:Br (154,76):=zb g76 Ak Tryz.func154
theorem b515:Br (155,515):=zb g515 Ak Tryz.func155
theorem b35:Br (156,35):=zb g35 Ak Tryz.func156
theorem b516:Br (157,516):=zb g516 (Al [14]) Tryz.func157
theorem b407:Br (158,407):=zb g407 Ak Tryz.func158
theorem b215:Br (159,215):=zb g215 Ak Tryz.func159
theorem b265:Br (162,265):=zb g265 Ak Tryz.func162
theorem b252:Br (164,252):=zb g252 Ak Tryz.func164
theorem b248:Br (165,248):=zb g248 (An [(4,4,0),(5,5,0),(50,4,0)] [7,12,16,23,32,36,40,65,78,95,106] [] [] [] [] false [] [] [] [] [28,45,57,70,74,83,87,92,103,114] [] [] [] [] [] []) Tryz.func165
theorem b108:Br (166,108):=zb g108 Ak Tryz.func166
theorem b109:Br (167,109):=zb g109 Ak Tryz.func167
theorem b110:Br (168,110):=zb g110 Ak Tryz.func168
theorem b111:Br (169,111):=zb g111 Ak Tryz.func169
theorem b216:Br (172,216):=zb g216 Ak Tryz.func172
theorem b143:Br (174,143):=zb g143 Ak Tryz.func174
theorem b144:Br (175,144):=zb g144 Ak Tryz.func175
theorem b201:Br (180,201):=zb g201 Ak Tryz.func180
theorem b238:Br (181,238):=zb g238 Ak Tryz.func181
theorem b361:Br (182,361):=zb g361 Ak Tryz.func182
theorem b207:Br (183,207):=zb g207 Ak Tryz.func183
theorem b362:Br (184,362):=zb g362 Ak Tryz.func184
theorem b363:Br (185,363):=zb g363 Ak Tryz.func185
theorem b222:Br (186,222):=zb g222 (Am [] [] [34] [(34,[0])] [] false [] [] []) Tryz.func186
theorem b72:Br (187,72):=zb g72 Ak Tryz.func187
theorem b124:Br (188,124):=zb g124 Ak Tryz.func188
theorem b137:Br (189,137):=zb g137 Ak Tryz.func189
theorem b138:Br (190,138):=zb g138 Ak Tryz.func190
theorem b139:Br (191,139):=zb g139 (Al [5,13,17,24,28,38,44,48]) Tryz.func191
theorem b140:Br (192,140):=zb g140 (Al [32]) Tryz.func192
theorem b141:Br (193,141):=zb g141 (Al [51]) Tryz.func193
theorem b142:Br (194,142):=zb g142 Ak Tryz.func194
theorem b107:Br (195,107):=zb g107 (Al [14]) Tryz.func195
theorem b80:Br (196,80):=zb g80 Ak Tryz.func196
theorem b81:Br (197,81):=zb g81 Ak Tryz.func197
theorem b82:Br (198,82):=zb g82 Ak Tryz.func198
theorem b83:Br (199,83):=zb g83 (Al [16,24]) Tryz.func199
theorem b416:Br (200,416):=zb g416 (Al [14]) Tryz.func200
theorem b417:Br (201,417):=zb g417 (Al [1]) Tryz.func201
theorem b418:Br (202,418):=zb g418 (Al [20,24]) Tryz.func202
theorem b419:Br (203,419):=zb g419 Ak Tryz.func203
theorem b258:Br (205,258):=zb g258 Ak Tryz.func205
theorem b245:Br (207,245):=zb g245 Ak Tryz.func207
theorem b264:Br (208,264):=zb g264 Ak Tryz.func208
theorem b257:Br (209,257):=zb g257 (Al [5,9]) Tryz.func209
theorem b259:Br (211,259):=zb g259 Ak Tryz.func211
theorem b260:Br (212,260):=zb g260 (Am [] [33] [] [] [] false [] [] []) Tryz.func212
theorem b181:Br (213,181):=zb g181 Ak Tryz.func213
theorem b240:Br (214,240):=zb g240 (Al [23,28]) Tryz.func214
theorem b59:Br (215,59):=zb g59 (Am [] [] [16] [(16,[0])] [] false [] [] []) Tryz.func215
theorem b208:Br (216,208):=zb g208 Ak Tryz.func216
theorem b375:Br (217,375):=zb g375 Ak Tryz.func217
theorem b376:Br (218,376):=zb g376 Ak Tryz.func218
theorem b46:Br (219,46):=zb g46 Ak Tryz.func219
theorem b377:Br (220,377):=zb g377 Ak Tryz.func220
theorem b378:Br (221,378):=zb g378 Ak Tryz.func221
theorem b193:Br (222,193):=zb g193 Ak Tryz.func222
theorem b56:Br (223,56):=zb g56 (Am [] [] [18] [(18,[0])] [] false [] [] []) Tryz.func223
theorem b146:Br (224,146):=zb g146 Ak Tryz.func224
theorem b113:Br (225,113):=zb g113 Ak Tryz.func225
theorem b114:Br (226,114):=zb g114 Ak Tryz.func226
theorem b99:Br (229,99):=zb g99 (Am [] [] [50] [(50,[0])] [] false [] [] []) Tryz.func229
theorem b95:Br (230,95):=zb g95 Ak Tryz.func230
theorem b63:Br (231,63):=zb g63 Ak Tryz.func231
theorem b388:Br (232,388):=zb g388 Ak Tryz.func232
theorem b381:Br (233,381):=zb g381 Ak Tryz.func233
theorem b22:Br (234,22):=zb g22 Ak Tryz.func234
theorem b389:Br (235,389):=zb g389 (Am [] [] [198] [] [] false [] [] []) Tryz.func235
theorem b221:Br (236,221):=zb g221 Ak Tryz.func236
theorem b386:Br (239,386):=zb g386 Ak Tryz.func239
theorem b393:Br (240,393):=zb g393 (Am [] [] [] [] [] false [] [21] [(6,[8])]) Tryz.func240
theorem b394:Br (241,394):=zb g394 Ak Tryz.func241
theorem b385:Br (242,385):=zb g385 Ak Tryz.func242
theorem b355:Br (243,355):=zb g355 Ak Tryz.func243
theorem b358:Br (244,358):=zb g358 Ak Tryz.func244
theorem b395:Br (245,395):=zb g395 Ak Tryz.func245
theorem b392:Br (250,392):=zb g392 Ak Tryz.func250
theorem b391:Br (251,391):=zb g391 Ak Tryz.func251
theorem b371:Br (252,371):=zb g371 Ak Tryz.func252
theorem b373:Br (253,373):=zb g373 Ak Tryz.func253
theorem b396:Br (259,396):=zb g396 Ak Tryz.func259
theorem b397:Br (260,397):=zb g397 Ak Tryz.func260
theorem b398:Br (261,398):=zb g398 Ak Tryz.func261
theorem b372:Br (264,372):=zb g372 (Al [28]) Tryz.func264
theorem b387:Br (265,387):=zb g387 (Am [11,18,27,38,42,47,56] [] [] [] [] false [] [39,48] []) Tryz.func265
theorem b553:Bare Tryz.prog (98,553):=⟨⟨Tryz.f98,fZ Tryz.f98,Tryz.func98,by kernel_rfl,by decide⟩,rfl⟩
theorem b554:Bare Tryz.prog (99,554):=⟨⟨Tryz.f99,fZ Tryz.f99,Tryz.func99,by kernel_rfl,by decide⟩,rfl⟩
theorem b555:Bare Tryz.prog (100,555):=⟨⟨Tryz.f100,fZ Tryz.f100,Tryz.func100,by kernel_rfl,by decide⟩,rfl⟩
theorem b422:Bare Tryz.prog (136,422):=⟨⟨Tryz.f136,fZ Tryz.f136,Tryz.func136,by kernel_rfl,by decide⟩,rfl⟩
theorem b420:Bare Tryz.prog (160,420):=⟨⟨Tryz.f160,fZ Tryz.f160,Tryz.func160,by kernel_rfl,by decide⟩,rfl⟩
theorem rows_bear:∀q∈ns.g.take 197,Br q∨Bare Tryz.prog q:=
 zl b525 <|
 zl b527 <|
 zl b15 <|
 zl b528 <|
 zl b529 <|
 zl b26 <|
 zl b530 <|
 zl b532 <|
 zl b534 <|
 zl b535 <|
 zl b536 <|
 zl b538 <|
 zl b306 <|
 zl b247 <|
 zl b539 <|
 zl b543 <|
 zl b404 <|
 zl b214 <|
 zl b112 <|
 zl b483 <|
 zl b405 <|
 zl b544 <|
 zl b545 <|
 zl b546 <|
 zl b547 <|
 zl b548 <|
 zl b266 <|
 zl b57 <|
 zl b20 <|
 zl b253 <|
 zl b32 <|
 zl b68 <|
 zl b27 <|
 zl b67 <|
 zl b179 <|
 zl b176 <|
 zl b325 <|
 zl b326 <|
 zl b327 <|
 zl b307 <|
 zl b34 <|
 zl b175 <|
 zl b145 <|
 zl b414 <|
 zl b410 <|
 zl b411 <|
 zl b412 <|
 zl b413 <|
 zl b223 <|
 zl b118 <|
 zl b119 <|
 zl b120 <|
 zl b121 <|
 zl b122 <|
 zl b123 <|
 zl b495 <|
 zl b496 <|
 zl b29 <|
 zl b497 <|
 zl b33 <|
 zl b498 <|
 zl b499 <|
 zl b500 <|
 zl b501 <|
 zl b190 <|
 zl b415 <|
 zl b185 <|
 zl b409 <|
 zl b556 <|
 zl b51 <|
 zl b336 <|
 zl b337 <|
 zl b77 <|
 zl b78 <|
 zl b191 <|
 zl b135 <|
 zl b267 <|
 zl b79 <|
 zl b62 <|
 zl b69 <|
 zl b106 <|
 zl b348 <|
 zl b194 <|
 zl b349 <|
 zl b350 <|
 zl b351 <|
 zl b352 <|
 zl b196 <|
 zl b198 <|
 zl b71 <|
 zl b48 <|
 zl b421 <|
 zl b117 <|
 zl b125 <|
 zl b126 <|
 zl b127 <|
 zl b128 <|
 zl b129 <|
 zl b130 <|
 zl b131 <|
 zl b132 <|
 zl b133 <|
 zl b134 <|
 zl b52 <|
 zl b136 <|
 zl b73 <|
 zl b74 <|
 zl b75 <|
 zl b76 <|
 zl b515 <|
 zl b35 <|
 zl b516 <|
 zl b407 <|
 zl b215 <|
 zl b265 <|
 zl b252 <|
 zl b248 <|
 zl b108 <|
 zl b109 <|
 zl b110 <|
 zl b111 <|
 zl b216 <|
 zl b143 <|
 zl b144 <|
 zl b201 <|
 zl b238 <|
 zl b361 <|
 zl b207 <|
 zl b362 <|
 zl b363 <|
 zl b222 <|
 zl b72 <|
 zl b124 <|
 zl b137 <|
 zl b138 <|
 zl b139 <|
 zl b140 <|
 zl b141 <|
 zl b142 <|
 zl b107 <|
 zl b80 <|
 zl b81 <|
 zl b82 <|
 zl b83 <|
 zl b416 <|
 zl b417 <|
 zl b418 <|
 zl b419 <|
 zl b258 <|
 zl b245 <|
 zl b264 <|
 zl b257 <|
 zl b259 <|
 zl b260 <|
 zl b181 <|
 zl b240 <|
 zl b59 <|
 zl b208 <|
 zl b375 <|
 zl b376 <|
 zl b46 <|
 zl b377 <|
 zl b378 <|
 zl b193 <|
 zl b56 <|
 zl b146 <|
 zl b113 <|
 zl b114 <|
 zl b99 <|
 zl b95 <|
 zl b63 <|
 zl b388 <|
 zl b381 <|
 zl b22 <|
 zl b389 <|
 zl b221 <|
 zl b386 <|
 zl b393 <|
 zl b394 <|
 zl b385 <|
 zl b355 <|
 zl b358 <|
 zl b395 <|
 zl b392 <|
 zl b391 <|
 zl b371 <|
 zl b373 <|
 zl b396 <|
 zl b397 <|
 zl b398 <|
 zl b372 <|
 zl b387 <|
 zr b553 <|
 zr b554 <|
 zr b555 <|
 zr b422 <|
 zr b420 <|
 fun _ h=>absurd h List.not_mem_nil
theorem prims_g:ns.g.drop 197=[(44,311),(163,269),(210,255)]:=by kernel_rfl
def IsPrim (P:Program) (q:Nat×Nat):Prop:=(∃fn b,P.funcs[q.1]?=some fn∧fn.body=some b∧fn.name ≠ "runtime.NumGoroutine") ∧
 ∃af pf,AP q.2=some af∧af.qc=some pf∧af.body=.exit 0∧∀orc,gD P ns orc→∀cW rs,pf.f orc.p cW=some rs→v5 P ns q.1 cW rs
def HasB (P:Program) (f:Nat):Prop:=∃fn b,P.funcs[f]?=some fn∧fn.body=some b∧fn.name ≠ "runtime.NumGoroutine"
theorem lays166:Lays.n166 Tryz.prog Tryz.lays156_ren:={Tryz.lays156 with}
theorem lays169:Lays.n169 Tryz.prog Tryz.lays156_ren:={Tryz.lays156 with}
theorem hb_of{P:Program}{q:Nat×Nat}(h:Bears P q):HasB P q.1:=by
 obtain⟨fn,A,af,h1,h2,_⟩:=h;unfold oU at h2;split at h2
 ·rename_i b rs hb _;simp only[Option.ite_none_right_eq_some]at h2;obtain⟨⟨_,hn⟩,_⟩:=h2;exact⟨fn,b,h1,hb,by simpa using hn⟩
 ·simp at h2
theorem yz:eU Tryz.prog ns:=by
 have h:∀q∈ns.g,HasB Tryz.prog q.1:=by
   intro q hq;rw[←List.take_append_drop 197 ns.g]at hq;rcases List.mem_append.1 hq with h|h
   ·exact (rows_bear q h).elim hb_of (·.1)
   rw[prims_g]at h;simp only[List.mem_cons,List.not_mem_nil,or_false]at h;rcases h with rfl|rfl|rfl
   ·exact⟨Tryz.f44,fZ Tryz.f44,Tryz.func44,by kernel_rfl,by decide⟩
   ·exact⟨Tryz.f163,fZ Tryz.f163,Tryz.func163,by kernel_rfl,by decide⟩
   ·exact⟨Tryz.f210,fZ Tryz.f210,Tryz.func210,by kernel_rfl,by decide⟩
 intro f g hg;exact h (f,g) (look_memI hg)
def fldOf(o:Oper):TypeId×Nat:=match o.op with| .fieldAddr t _ i=>(t,i)|_=>(0,0)
def boxOf(o:Oper):TypeId:=match o.op with| .box t _=>t|_=>0
def loadOf(o:Oper):TypeId:=match o.op with| .load t _=>t|_=>0
def fdOf(P:Program)(q:TypeId×Nat):Field:=(gh P q.1 q.2).getD default
noncomputable def show311:pD Tryz.prog ns 44 336 337 where
 fn:=Tryz.f44
 A:=⟨[(5,5,0),(7,7,0)],[],[],[],[],[],[],[],false,[],[],[],[],[],[],[],[],[],[],[]⟩
 T:=138
 E:=5
 Tp:=boxOf (aS Tryz.f44 0 0)
 fw:=103
 fs:=106
 t1:=typesOf (aS Tryz.f44 5 2)
 t2:=typesOf (aS Tryz.f44 10 2)
 t3:=typesOf (aS Tryz.f44 12 0)
 tf:=(fldOf (aS Tryz.f44 2 0)).1
 f0:=(fldOf (aS Tryz.f44 2 0)).2
 f1:=(fldOf (aS Tryz.f44 7 0)).2
 VT:=(fdOf Tryz.prog (fldOf (aS Tryz.f44 2 0)))
 VU:=(fdOf Tryz.prog (fldOf (aS Tryz.f44 7 0)))
 s0:=(cE Tryz.prog (fdOf Tryz.prog (fldOf (aS Tryz.f44 2 0))).type).getD 0
 s1:=(cE Tryz.prog (fdOf Tryz.prog (fldOf (aS Tryz.f44 7 0))).type).getD 0
 td:=loadOf (aS Tryz.f44 2 1)
 tb:=loadOf (aS Tryz.f44 7 1)
 bx:=aS Tryz.f44 0 0
 rs:=aS Tryz.f44 0 1
 al:=aS Tryz.f44 1 0
 fa:=aS Tryz.f44 2 0
 ld:=aS Tryz.f44 2 1
 r2:=(mi Tryz.f44 2).toList.drop 2
 o3:=mi Tryz.f44 3
 o4:=mi Tryz.f44 4
 l5:=(mi Tryz.f44 5).toList.take 2
 w5:=aS Tryz.f44 5 2
 o6:=mi Tryz.f44 6
 OS:=aS Tryz.f44 7 0
 OT:=aS Tryz.f44 7 1
 r7:=(mi Tryz.f44 7).toList.drop 2
 o8:=mi Tryz.f44 8
 o9:=mi Tryz.f44 9
 l10:=(mi Tryz.f44 10).toList.take 2
 LR:=aS Tryz.f44 10 2
 RB:=mi Tryz.f44 11
 st:=aS Tryz.f44 12 0
 fi:=aS Tryz.f44 12 1
 i0:=dk Tryz.f44 0
 i1:=dk Tryz.f44 1
 i2:=dk Tryz.f44 2
 i3:=dk Tryz.f44 3
 i4:=dk Tryz.f44 4
 i5:=dk Tryz.f44 5
 i6:=dk Tryz.f44 6
 i7:=dk Tryz.f44 7
 i8:=dk Tryz.f44 8
 i9:=dk Tryz.f44 9
 Cm:=dk Tryz.f44 10
 TS:=dk Tryz.f44 11
 VV:=dk Tryz.f44 12
 b0:=sJ Tryz.f44 0
 b1:=sJ Tryz.f44 1
 b2:=sJ Tryz.f44 2
 b3:=sJ Tryz.f44 3
 hf:=Tryz.func44
 ui:=by kernel_rfl
 ie:=by kernel_rfl
 hN:=by kernel_rfl
 TT:=⟨by kernel_rfl,by kernel_rfl,by kernel_rfl⟩
 Rs:=⟨by kernel_rfl,by kernel_rfl,by kernel_rfl⟩
 OU:=⟨by kernel_rfl,by kernel_rfl,by kernel_rfl⟩
 hz:=by kernel_rfl
 SI:=⟨by kernel_rfl,by kernel_rfl,by kernel_rfl⟩
 WX:=⟨by kernel_rfl,by kernel_rfl,by kernel_rfl,by decide +kernel⟩
 SJ:=⟨by kernel_rfl,by kernel_rfl,by kernel_rfl⟩
 Ws:=⟨by kernel_rfl,by kernel_rfl⟩
 c2:=by kernel_rfl
 Je:=⟨by kernel_rfl,by kernel_rfl,by kernel_rfl⟩
 TV:=⟨by kernel_rfl,by kernel_rfl,by kernel_rfl,by decide +kernel⟩
 Jf:=⟨by kernel_rfl,by kernel_rfl,by kernel_rfl⟩
 SD:=⟨by kernel_rfl,by kernel_rfl⟩
 c7:=by kernel_rfl
 c3:=by kernel_rfl
 c4:=by kernel_rfl
 c5:=by kernel_rfl
 c6:=by kernel_rfl
 VW:=⟨by kernel_rfl,by kernel_rfl,by kernel_rfl⟩
 c8:=by kernel_rfl
 c9:=by kernel_rfl
 c10:=by kernel_rfl
 c11:=by kernel_rfl
 OV:=⟨by kernel_rfl,by kernel_rfl,by kernel_rfl⟩
 vY:=⟨by kernel_rfl,by kernel_rfl,by kernel_rfl⟩
 SB:=⟨by kernel_rfl,by kernel_rfl,by kernel_rfl⟩
 Wt:=⟨Tryz.f103,fZ Tryz.f103,Tryz.func103,by kernel_rfl,by decide⟩
 TW:=⟨Tryz.f106,fZ Tryz.f106,Tryz.func106,by kernel_rfl,by decide⟩
 Xq:=⟨104,by kernel_rfl⟩
 Xr:=⟨105,by kernel_rfl⟩
 write:=fun B b bs s w h1 h2 h3=>Any.Builder_WriteString lays166 Tryz.Builder_Extra_156 B b bs s w h1 h2 h3
 read:=fun B b l w h1 h2=>Any.Builder_String_any lays169 Tryz.Builder_Extra_156 B b l w h1 h2
theorem b311:IsPrim Tryz.prog (44,311):=⟨⟨Tryz.f44,fZ Tryz.f44,Tryz.func44,by kernel_rfl,by decide⟩,_,_,rfl,rfl,rfl,fun orc ho _ _ h=>Jg yz ho show311 h⟩
theorem b269:IsPrim Tryz.prog (163,269):=⟨⟨Tryz.f163,fZ Tryz.f163,Tryz.func163,by kernel_rfl,by decide⟩,_,_,rfl,rfl,rfl,fun _ _=>Jb (fun a c sep w=>Tryz.strings_Join_none a c sep w) (fun bk o c xs sep w h1 h2 h3 h4 h5=>Tryz.strings_Join bk o c xs sep w h1 h2 h3 h4 h5)⟩
theorem b255:IsPrim Tryz.prog (210,255):=⟨⟨Tryz.f210,fZ Tryz.f210,Tryz.func210,by kernel_rfl,by decide⟩,_,_,rfl,rfl,rfl,fun _ _=>EP (show ns.kz 1=some yE from Jc 1) (by kernel_rfl) (fun n h0 h1 w ht=>Tryz.strconv_Itoa n h0 h1 w ht)⟩
theorem all_bear:∀q∈ns.g,Bears Tryz.prog q∨Bare Tryz.prog q∨IsPrim Tryz.prog q:=by
 intro q hq;rw[←List.take_append_drop 197 ns.g]at hq;rcases List.mem_append.1 hq with h|h
 ·exact (rows_bear q h).elim .inl fun h=>.inr (.inl h)
 rw[prims_g]at h;simp only[List.mem_cons,List.not_mem_nil,or_false]at h;rcases h with rfl|rfl|rfl
 ·exact .inr (.inr b311)
 ·exact .inr (.inr b269)
 ·exact .inr (.inr b255)
theorem u553:∀q∈ns.g,q.2=553→q.1=98:=by decide +kernel
theorem clone553:Nonempty (iJ Tryz.prog ns 98 4 72):=⟨
 { fn:=Tryz.f98,A:=E0,t:=(dE (aS Tryz.f98 1 1)).1,el:=LA Tryz.prog (dE (aS Tryz.f98 1 1)).1,ty:=(dE (aS Tryz.f98 1 1)).2,
   o0:=aS Tryz.f98 0 0,m:=aS Tryz.f98 1 0,e:=aS Tryz.f98 1 1,o2:=aS Tryz.f98 2 0,b:=aS Tryz.f98 3 0,m3:=aS Tryz.f98 3 1,ap:=aS Tryz.f98 3 2,fi:=aS Tryz.f98 3 3,
   r0:=dk Tryz.f98 0,r1:=dk Tryz.f98 1,r2:=dk Tryz.f98 2,r3:=dk Tryz.f98 3,
   A2:=E2,ag:=true,hf:=Tryz.func98 }⟩
theorem u554:∀q∈ns.g,q.2=554→q.1=99:=by decide +kernel
theorem clone554:Nonempty (iJ Tryz.prog ns 99 20 256):=⟨
 { fn:=Tryz.f99,A:=E0,t:=(dE (aS Tryz.f99 1 1)).1,el:=LA Tryz.prog (dE (aS Tryz.f99 1 1)).1,ty:=(dE (aS Tryz.f99 1 1)).2,
   o0:=aS Tryz.f99 0 0,m:=aS Tryz.f99 1 0,e:=aS Tryz.f99 1 1,o2:=aS Tryz.f99 2 0,b:=aS Tryz.f99 3 0,m3:=aS Tryz.f99 3 1,ap:=aS Tryz.f99 3 2,fi:=aS Tryz.f99 3 3,
   r0:=dk Tryz.f99 0,r1:=dk Tryz.f99 1,r2:=dk Tryz.f99 2,r3:=dk Tryz.f99 3,
   A2:=E2,ag:=true,hf:=Tryz.func99 }⟩
theorem u555:∀q∈ns.g,q.2=555→q.1=100:=by decide +kernel
theorem clone555:Nonempty (iJ Tryz.prog ns 100 3 48):=⟨
 { fn:=Tryz.f100,A:=E0,t:=(dE (aS Tryz.f100 1 1)).1,el:=LA Tryz.prog (dE (aS Tryz.f100 1 1)).1,ty:=(dE (aS Tryz.f100 1 1)).2,
   o0:=aS Tryz.f100 0 0,m:=aS Tryz.f100 1 0,e:=aS Tryz.f100 1 1,o2:=aS Tryz.f100 2 0,b:=aS Tryz.f100 3 0,m3:=aS Tryz.f100 3 1,ap:=aS Tryz.f100 3 2,fi:=aS Tryz.f100 3 3,
   r0:=dk Tryz.f100 0,r1:=dk Tryz.f100 1,r2:=dk Tryz.f100 2,r3:=dk Tryz.f100 3,
   A2:=E2,ag:=true,hf:=Tryz.func100 }⟩
theorem u422:∀q∈ns.g,q.2=422→q.1=136:=by decide +kernel
theorem clone422:Nonempty (iJ Tryz.prog ns 136 11 152):=⟨
 { fn:=Tryz.f136,A:=E0,t:=(dE (aS Tryz.f136 1 1)).1,el:=LA Tryz.prog (dE (aS Tryz.f136 1 1)).1,ty:=(dE (aS Tryz.f136 1 1)).2,
   o0:=aS Tryz.f136 0 0,m:=aS Tryz.f136 1 0,e:=aS Tryz.f136 1 1,o2:=aS Tryz.f136 2 0,b:=aS Tryz.f136 3 0,m3:=aS Tryz.f136 3 1,ap:=aS Tryz.f136 3 2,fi:=aS Tryz.f136 3 3,
   r0:=dk Tryz.f136 0,r1:=dk Tryz.f136 1,r2:=dk Tryz.f136 2,r3:=dk Tryz.f136 3,
   A2:=E2,ag:=true,hf:=Tryz.func136 }⟩
theorem u420:∀q∈ns.g,q.2=420→q.1=160:=by decide +kernel
theorem clone420:Nonempty (iJ Tryz.prog ns 160 1 16):=⟨
 { fn:=Tryz.f160,A:=E0,t:=(dE (aS Tryz.f160 1 1)).1,el:=LA Tryz.prog (dE (aS Tryz.f160 1 1)).1,ty:=(dE (aS Tryz.f160 1 1)).2,
   o0:=aS Tryz.f160 0 0,m:=aS Tryz.f160 1 0,e:=aS Tryz.f160 1 1,o2:=aS Tryz.f160 2 0,b:=aS Tryz.f160 3 0,m3:=aS Tryz.f160 3 1,ap:=aS Tryz.f160 3 2,fi:=aS Tryz.f160 3 3,
   r0:=dk Tryz.f160 0,r1:=dk Tryz.f160 1,r2:=dk Tryz.f160 2,r3:=dk Tryz.f160 3,
   A2:=E2,ag:=false,hf:=Tryz.func160 }⟩
theorem backs_ok:sI Tryz.prog ns:=trivial
theorem clones_ok:∀g sz bytes f,look ns.cl g=some (sz,bytes)→ns.of f=some g→Nonempty (iJ Tryz.prog ns f sz bytes):=by
 intro g sz bytes f h hf;simp only[ns,look]at h;split at h
 ·rename_i e;subst e;cases h;have:=u553 (f,553) (look_memI hf) rfl;simp only at this;subst this;exact clone553
 split at h
 ·rename_i e;subst e;cases h;have:=u554 (f,554) (look_memI hf) rfl;simp only at this;subst this;exact clone554
 split at h
 ·rename_i e;subst e;cases h;have:=u555 (f,555) (look_memI hf) rfl;simp only at this;subst this;exact clone555
 split at h
 ·rename_i e;subst e;cases h;have:=u422 (f,422) (look_memI hf) rfl;simp only at this;subst this;exact clone422
 split at h
 ·rename_i e;subst e;cases h;have:=u420 (f,420) (look_memI hf) rfl;simp only at this;subst this;exact clone420
 cases h
theorem impl:Impl Tryz.prog ns AP:=⟨by kernel_rfl,fun f g h=>(all_bear (f,g) (look_memI h)).imp id (Or.elim · (fun⟨h1,h2⟩=>⟨h1,.inl h2⟩) (fun⟨h1,h2⟩=>⟨h1,.inr h2⟩)),backs_ok,clones_ok⟩
end Go.Ab
