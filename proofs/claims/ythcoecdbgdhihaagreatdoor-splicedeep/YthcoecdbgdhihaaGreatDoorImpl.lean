import Derived.Test.YthcoecdbgdhihaaGreatDoorRows
import Derived.Test.YthcoecdbgdhihaaGreatDoorCodeA
import Derived.Test.YthcoecdbgdhihaaGreatDoorShelf
/-
  Each function of the given program that has slim code bears just that code: the kernel translates it anew and compares.
-/
set_option linter.unusedVariables false
set_option linter.unusedSimpArgs false
set_option linter.unnecessarySimpa false
set_option maxRecDepth 100000
set_option maxHeartbeats 8000000
namespace Go.Ab
open Proofs Shelf
def ns:Names:=⟨[(5,523),(9,527),(12,528),(13,529),(14,26),(15,530),(16,531),(17,532),(18,533),(19,534),(20,535),(21,536),(22,537),(23,538),(26,539),(31,543),(32,404),(33,214),(34,440),(35,432),(36,112),(37,483),(38,405),(39,544),(40,545),(41,546),(42,547),(43,548),(45,549),(46,366),(47,359),(48,550),(49,551),(50,312),(51,266),(52,57),(53,20),(54,253),(67,145),(70,414),(71,410),(72,411),(73,412),(74,413),(75,223),(76,364),(77,439),(78,380),(79,118),(80,119),(81,120),(82,121),(83,122),(84,123),(85,495),(86,496),(87,29),(88,497),(89,33),(90,498),(91,499),(92,500),(93,501),(94,190),(95,415),(96,185),(97,409),(101,556),(102,51),(104,336),(105,337),(107,77),(108,78),(110,365),(111,191),(112,379),(113,186),(114,374),(115,135),(116,558),(119,249),(120,267),(122,62),(123,69),(124,106),(137,421),(138,117),(139,125),(140,126),(141,127),(142,128),(143,129),(144,130),(145,131),(146,132),(147,133),(148,134),(149,52),(150,136),(151,73),(152,74),(153,75),(154,76),(155,515),(156,35),(157,516),(158,407),(159,215),(162,265),(164,252),(165,248),(166,108),(167,109),(168,110),(169,111),(171,390),(172,216),(173,217),(174,143),(175,144),(177,256),(178,261),(179,262),(188,124),(189,137),(190,138),(191,139),(192,140),(193,141),(194,142),(195,107),(196,80),(197,81),(198,82),(199,83),(200,416),(201,417),(202,418),(203,419),(205,258),(207,245),(208,264),(209,257),(211,259),(212,260),(224,146),(225,113),(226,114),(98,553),(99,554),(100,555),(136,422),(160,420),(109,557),(117,270),(118,263),(44,311),(163,269),(210,255)],
 [412,413,119,120,121,122,498,500,421,126,127,128,129,130,131,132,133,134,75,516,139,140,141,107,83,416,417,418,257],[],[(553,4,72),(554,20,256),(555,3,48),(422,11,152),(420,1,16)],FZ 1⟩
def lv1(i:Nat):ae→List (Nat×List Nat)
 | .gk _ l=>[(i,l)]
 | .seq a b=>lv1 i b++lv1 i a
 |_=>[]
def IX:Code→ae→List (Nat×List Nat)
 | .region i _ _,x=>lv1 i x
 | .seq a b,.seq x y=>IX a x++IX b y
 | .cond _ a b,.cond _ x y=>IX a x++IX b y
 | .block _ a,.block _ x=>IX a x
 | .loop a,.loop _ x=>IX a x
 | .rangeFunc _ _ a b,.back _ _ _ _ _ _ _ x y=>IX a x++IX b y
 |_,_=>[]
def lp1(o:Option Nat)(l:List Nat):List (Nat×List Nat):=match o with|some i=>[(i,l)]|none=>[]
def lps:Code→ae→List (Nat×List Nat)
 | .seq a b,.seq x y=>lps a x++lps b y
 | .cond _ a b,.cond _ x y=>lps a x++lps b y
 | .block _ a,.block _ x=>lps a x
 | .loop a,.loop l x=>lp1 (iG a) l++lps a x
 | .rangeFunc _ _ a b,.back _ _ _ _ _ _ l x y=>lp1 (iG a) l++lps a x++lps b y
 |_,_=>[]
def An(p:List (Nat×Nat×Nat))(s h si:List Nat)(ow:List (Nat×List Nat))(bk:List (Nat×Nat))(ks:Bool)(q ho:List Nat)(fz:List (Nat×List Nat))(du:List (Nat×Nat))(ro:List Nat)(fa:List (Nat×List (Nat×Nat)))(pu:List (Nat×List (Nat×Nat×Bool)))(pr:List (Nat×List (Nat×Nat×Nat)))(cu:List (Nat×Nat×List Nat×List Nat))(fs:List (Nat×List Nat))(kp:List Nat)(fn:Func)(af:aA):iy:=
 ⟨p,s,h,IX (fn.body.getD .skip) af.body,lps (fn.body.getD .skip) af.body,si,ow,bk,ks,q,ho,fz,du,ro,fa,pu,pr,cu,fs,kp⟩
def prO(m:List (Nat×Nat×Nat))(o:dr):List (Nat×Nat×Nat):=match o.dst,o.op,o.args with
 |some d,.alloc k _,_=>(d,k,0)::m
 |some d,.box k _,_=>(d,k,0)::m
 |some d,.v (.fQ n),[.t s]=>match look m s with|some (k,f)=>(d,k,f+n)::m|none=>m
 |_,_,_=>m
def fh:ae→List (Nat×Nat×Nat)→List (Nat×Nat×Nat)
 | .gk os _,m=>os.foldl prO m
 | .seq a b,m=>fh b (fh a m)
 | .cond _ a b,m=>fh b (fh a m)
 | .block _ a,m=>fh a m
 | .loop _ a,m=>fh a m
 | .back _ _ _ _ _ _ _ a b,m=>fh b (fh a m)
 |_,m=>m
def Am(s h si:List Nat)(ow:List (Nat×List Nat))(bk:List (Nat×Nat))(ks:Bool)(q ho:List Nat)(fz:List (Nat×List Nat))(fn:Func)(af:aA):iy:=An (fh af.body []) s h si ow bk ks q ho fz [] [] [] [] [] [] [] [] fn af
def Al(s:List Nat):Func→aA→iy:=Am s [] [] [] [] false [] [] []
def Ak:Func→aA→iy:=Al []
def E0:iy:=⟨[],[],[],[],[],[],[],[],false,[],[],[],[],[],[],[],[],[],[],[]⟩
def E2:iy:=⟨[],[],[],[],[],[],[],[],false,[],[7],[],[],[],[],[],[],[],[],[]⟩
def Bears(P:Program)(q:Nat×Nat):Prop:=∃fn A af,P.funcs[q.1]?=some fn∧lA P ns A fn=some af∧AP q.2=some af
theorem zb{i g:Nat}{P:Program}{fn:Func}(af:aA)(A:Func→aA→iy)(h:P.funcs[i]?=some fn)(e:AP g=some af:=by rfl)(k:lA P ns (A fn af) fn=some af:=by kernel_rfl):Bears P (i,g):=⟨fn,A fn af,af,h,k,e⟩
theorem zl{α:Type}{p r:α→Prop}{a:α}{l:List α}(h:p a)(t:∀q∈l,p q∨r q):∀q∈a::l,p q∨r q:=List.forall_mem_cons.2 ⟨.inl h,t⟩
theorem zr{α:Type}{p r:α→Prop}{a:α}{l:List α}(h:r a)(t:∀q∈l,p q∨r q):∀q∈a::l,p q∨r q:=List.forall_mem_cons.2 ⟨.inr h,t⟩
theorem look_memI{α:Type}{t:Nat}{v:α}:∀{l:List (Nat×α)},look l t=some v→(t,v)∈l
 |[],h=>by simp[look]at h
 |(k,u)::r,h=>by
   simp only[look]at h;split at h
   ·rename_i e;cases h;subst e;exact List.mem_cons_self
   ·exact List.mem_cons_of_mem _ (look_memI h)
def Bare (P:Program) (q:Nat×Nat):Prop:=(∃fn b,P.funcs[q.1]?=some fn∧fn.body=some b∧fn.name ≠ "runtime.NumGoroutine")∧AP q.2=none
abbrev Br:Nat×Nat→Prop:=Bears Tryz.prog
theorem b523:Br (5,523):=zb g523 Ak Tryz.func5
theorem b527:Br (9,527):=zb g527 Ak Tryz.func9
theorem b528:Br (12,528):=zb g528 Ak Tryz.func12
theorem b529:Br (13,529):=zb g529 Ak Tryz.func13
theorem b26:Br (14,26):=zb g26 Ak Tryz.func14
theorem b530:Br (15,530):=zb g530 Ak Tryz.func15
theorem b531:Br (16,531):=zb g531 Ak Tryz.func16
theorem b532:Br (17,532):=zb g532 Ak Tryz.func17
theorem b533:Br (18,533):=zb g533 Ak Tryz.func18
theorem b534:Br (19,534):=zb g534 Ak Tryz.func19
theorem b535:Br (20,535):=zb g535 Ak Tryz.func20
theorem b536:Br (21,536):=zb g536 (Am [58] [83] [52] [] [] false [] [] [(15,[14])]) Tryz.func21
theorem b537:Br (22,537):=zb g537 (Am [] [76,78] [] [] [] false [] [67] []) Tryz.func22
theorem b538:Br (23,538):=zb g538 Ak Tryz.func23
theorem b539:Br (26,539):=zb g539 Ak Tryz.func26
theorem b543:Br (31,543):=zb g543 Ak Tryz.func31
theorem b404:Br (32,404):=zb g404 (Am [11] [] [36] [(36,[0])] [] true [] [40] []) Tryz.func32
theorem b214:Br (33,214):=zb g214 Ak Tryz.func33
theorem b440:Br (34,440):=zb g440 Ak Tryz.func34
theorem b432:Br (35,432):=zb g432 Ak Tryz.func35
theorem b112:Br (36,112):=zb g112 (Am [22,28,52,57] [] [] [] [] true [] [] []) Tryz.func36
theorem b483:Br (37,483):=zb g483 Ak Tryz.func37
theorem b405:Br (38,405):=zb g405 Ak Tryz.func38
theorem b544:Br (39,544):=zb g544 (An [(1,1,0),(2,2,0),(8,1,0),(11,1,1)] [28,36,45,66] [] [] [] [] true [] [10,13,30] [] [] [] [] [] [] [(6,8,[2,3,4,5,15,16,23,24,30],[3,23])] [(12,[3])] []) Tryz.func39
theorem b545:Br (40,545):=zb g545 (Am [33] [50] [17] [] [] false [] [] []) Tryz.func40
theorem b546:Br (41,546):=zb g546 (Am [14] [] [8,24] [] [] false [] [] [(7,[3])]) Tryz.func41
theorem b547:Br (42,547):=zb g547 Ak Tryz.func42
theorem b548:Br (43,548):=zb g548 Ak Tryz.func43
theorem b549:Br (45,549):=zb g549 Ak Tryz.func45
theorem b366:Br (46,366):=zb g366 Ak Tryz.func46
theorem b359:Br (47,359):=zb g359 (Am [35] [54] [16] [] [] false [] [] []) Tryz.func47
theorem b550:Br (48,550):=zb g550 Ak Tryz.func48
theorem b551:Br (49,551):=zb g551 (Am [] [] [] [] [] false [] [24] [(12,[5])]) Tryz.func49
theorem b312:Br (50,312):=zb g312 Ak Tryz.func50
theorem b266:Br (51,266):=zb g266 Ak Tryz.func51
theorem b57:Br (52,57):=zb g57 Ak Tryz.func52
theorem b20:Br (53,20):=zb g20 Ak Tryz.func53
theorem b253:Br (54,253):=zb g253 Ak Tryz.func54
theorem b145:Br (67,145):=zb g145 (Am [20] [] [] [] [] true [] [7,23] []) Tryz.func67
theorem b414:Br (70,414):=zb g414 (Am [] [] [8] [] [] true [] [8,20] []) Tryz.func70
theorem b410:Br (71,410):=zb g410 Ak Tryz.func71
theorem b411:Br (72,411):=zb g411 Ak Tryz.func72
theorem b412:Br (73,412):=zb g412 (Am [24] [] [] [] [] true [] [38,41] []) Tryz.func73
theorem b413:Br (74,413):=zb g413 (Al [1]) Tryz.func74
theorem b223:Br (75,223):=zb g223 Ak Tryz.func75
theorem b364:Br (76,364):=zb g364 Ak Tryz.func76
theorem b439:Br (77,439):=zb g439 Ak Tryz.func77
theorem b380:Br (78,380):=zb g380 Ak Tryz.func78
theorem b118:Br (79,118):=zb g118 Ak Tryz.func79
theorem b119:Br (80,119):=zb g119 Ak Tryz.func80
theorem b120:Br (81,120):=zb g120 (Al [7,13,17,25,29,38,42,53,57]) Tryz.func81
theorem b121:Br (82,121):=zb g121 (Al [26]) Tryz.func82
theorem b122:Br (83,122):=zb g122 (Al [25]) Tryz.func83
theorem b123:Br (84,123):=zb g123 Ak Tryz.func84
theorem b495:Br (85,495):=zb g495 Ak Tryz.func85
theorem b496:Br (86,496):=zb g496 Ak Tryz.func86
theorem b29:Br (87,29):=zb g29 Ak Tryz.func87
theorem b497:Br (88,497):=zb g497 Ak Tryz.func88
theorem b33:Br (89,33):=zb g33 Ak Tryz.func89
theorem b498:Br (90,498):=zb g498 Ak Tryz.func90
theorem b499:Br (91,499):=zb g499 Ak Tryz.func91
theorem b500:Br (92,500):=zb g500 Ak Tryz.func92
theorem b501:Br (93,501):=zb g501 Ak Tryz.func93
theorem b190:Br (94,190):=zb g190 Ak Tryz.func94
theorem b415:Br (95,415):=zb g415 Ak Tryz.func95
theorem b185:Br (96,185):=zb g185 Ak Tryz.func96
theorem b409:Br (97,409):=zb g409 (Am [] [] [6] [] [] false [] [] []) Tryz.func97
theorem b556:Br (101,556):=zb g556 (An [(2,2,0),(4,4,0),(9,2,4),(15,2,5),(23,2,5),(31,2,5),(52,2,4),(53,2,5)] [] [] [] [] [] true [] [] [] [] [] [] [(4,[(26,14,true)])] [(4,[(26,26,0)])] [] [] []) Tryz.func101
theorem b51:Br (102,51):=zb g51 Ak Tryz.func102
theorem b336:Br (104,336):=zb g336 (Am [34] [52] [] [] [] false [] [] []) Tryz.func104
theorem b337:Br (105,337):=zb g337 Ak Tryz.func105
theorem b77:Br (107,77):=zb g77 Ak Tryz.func107
theorem b78:Br (108,78):=zb g78 Ak Tryz.func108
theorem b365:Br (110,365):=zb g365 Ak Tryz.func110
theorem b191:Br (111,191):=zb g191 Ak Tryz.func111
theorem b379:Br (112,379):=zb g379 Ak Tryz.func112
theorem b186:Br (113,186):=zb g186 Ak Tryz.func113
theorem b374:Br (114,374):=zb g374 (Am [] [] [] [] [] true [] [27] []) Tryz.func114
theorem b135:Br (115,135):=zb g135 Ak Tryz.func115
theorem b558:Br (116,558):=zb g558 (Am [19] [] [8,25] [] [] false [] [] [(6,[3])]) Tryz.func116
theorem b249:Br (119,249):=zb g249 Ak Tryz.func119
theorem b267:Br (120,267):=zb g267 Ak Tryz.func120
theorem b62:Br (122,62):=zb g62 Ak Tryz.func122
theorem b69:Br (123,69):=zb g69 Ak Tryz.func123
theorem b106:Br (124,106):=zb g106 Ak Tryz.func124
theorem b421:Br (137,421):=zb g421 (Al [14]) Tryz.func137
theorem b117:Br (138,117):=zb g117 Ak Tryz.func138
theorem b125:Br (139,125):=zb g125 Ak Tryz.func139
theorem b126:Br (140,126):=zb g126 (Al [5,9,15,19]) Tryz.func140
theorem b127:Br (141,127):=zb g127 Ak Tryz.func141
theorem b128:Br (142,128):=zb g128 (Al [13,20,24]) Tryz.func142
theorem b129:Br (143,129):=zb g129 (Al [7,13,17,25,29]) Tryz.func143
theorem b130:Br (144,130):=zb g130 Ak Tryz.func144
theorem b131:Br (145,131):=zb g131 (Am [20] [] [15] [] [] false [] [] []) Tryz.func145
theorem b132:Br (146,132):=zb g132 (Al [10]) Tryz.func146
theorem b133:Br (147,133):=zb g133 (Am [] [] [8] [] [] false [] [] []) Tryz.func147
theorem b134:Br (148,134):=zb g134 (Al [21,41,50,71,77,81,89,93]) Tryz.func148
theorem b52:Br (149,52):=zb g52 Ak Tryz.func149
theorem b136:Br (150,136):=zb g136 Ak Tryz.func150
theorem b73:Br (151,73):=zb g73 Ak Tryz.func151
theorem b74:Br (152,74):=zb g74 Ak Tryz.func152
theorem b75:Br (153,75):=zb g75 Ak Tryz.func153
theorem b76:Br (154,76):=zb g76 Ak Tryz.func154
theorem b515:Br (155,515):=zb g515 Ak Tryz.func155
theorem b35:Br (156,35):=zb g35 Ak Tryz.func156
theorem b516:Br (157,516):=zb g516 (Al [14]) Tryz.func157
theorem b407:Br (158,407):=zb g407 Ak Tryz.func158
theorem b215:Br (159,215):=zb g215 Ak Tryz.func159
theorem b265:Br (162,265):=zb g265 Ak Tryz.func162
theorem b252:Br (164,252):=zb g252 Ak Tryz.func164
theorem b248:Br (165,248):=zb g248 (An [(4,4,0),(5,5,0),(50,4,0)] [7,12,16,23,32,36,40,65,78,95,106] [] [] [] [] false [] [] [] [] [28,45,57,70,74,83,87,92,103,114] [] [] [] [] [] []) Tryz.func165
theorem b108:Br (166,108):=zb g108 Ak Tryz.func166
theorem b109:Br (167,109):=zb g109 Ak Tryz.func167
theorem b110:Br (168,110):=zb g110 Ak Tryz.func168
theorem b111:Br (169,111):=zb g111 Ak Tryz.func169
theorem b390:Br (171,390):=zb g390 Ak Tryz.func171
theorem b216:Br (172,216):=zb g216 Ak Tryz.func172
theorem b217:Br (173,217):=zb g217 Ak Tryz.func173
theorem b143:Br (174,143):=zb g143 Ak Tryz.func174
theorem b144:Br (175,144):=zb g144 Ak Tryz.func175
theorem b256:Br (177,256):=zb g256 Ak Tryz.func177
theorem b261:Br (178,261):=zb g261 Ak Tryz.func178
theorem b262:Br (179,262):=zb g262 Ak Tryz.func179
theorem b124:Br (188,124):=zb g124 Ak Tryz.func188
theorem b137:Br (189,137):=zb g137 Ak Tryz.func189
theorem b138:Br (190,138):=zb g138 Ak Tryz.func190
theorem b139:Br (191,139):=zb g139 (Al [5,13,17,24,28,38,44,48]) Tryz.func191
theorem b140:Br (192,140):=zb g140 (Al [32]) Tryz.func192
theorem b141:Br (193,141):=zb g141 (Al [51]) Tryz.func193
theorem b142:Br (194,142):=zb g142 Ak Tryz.func194
theorem b107:Br (195,107):=zb g107 (Al [14]) Tryz.func195
theorem b80:Br (196,80):=zb g80 Ak Tryz.func196
theorem b81:Br (197,81):=zb g81 Ak Tryz.func197
theorem b82:Br (198,82):=zb g82 Ak Tryz.func198
theorem b83:Br (199,83):=zb g83 (Al [16,24]) Tryz.func199
theorem b416:Br (200,416):=zb g416 (Al [14]) Tryz.func200
theorem b417:Br (201,417):=zb g417 (Al [1]) Tryz.func201
theorem b418:Br (202,418):=zb g418 (Al [20,24]) Tryz.func202
theorem b419:Br (203,419):=zb g419 Ak Tryz.func203
theorem b258:Br (205,258):=zb g258 Ak Tryz.func205
theorem b245:Br (207,245):=zb g245 Ak Tryz.func207
theorem b264:Br (208,264):=zb g264 Ak Tryz.func208
theorem b257:Br (209,257):=zb g257 (Al [5,9]) Tryz.func209
theorem b259:Br (211,259):=zb g259 Ak Tryz.func211
theorem b260:Br (212,260):=zb g260 (Am [] [33] [] [] [] false [] [] []) Tryz.func212
theorem b146:Br (224,146):=zb g146 Ak Tryz.func224
theorem b113:Br (225,113):=zb g113 Ak Tryz.func225
theorem b114:Br (226,114):=zb g114 Ak Tryz.func226
theorem b553:Bare Tryz.prog (98,553):=⟨⟨Tryz.f98,dV Tryz.f98,Tryz.func98,by kernel_rfl,by decide⟩,rfl⟩
theorem b554:Bare Tryz.prog (99,554):=⟨⟨Tryz.f99,dV Tryz.f99,Tryz.func99,by kernel_rfl,by decide⟩,rfl⟩
theorem b555:Bare Tryz.prog (100,555):=⟨⟨Tryz.f100,dV Tryz.f100,Tryz.func100,by kernel_rfl,by decide⟩,rfl⟩
theorem b422:Bare Tryz.prog (136,422):=⟨⟨Tryz.f136,dV Tryz.f136,Tryz.func136,by kernel_rfl,by decide⟩,rfl⟩
theorem b420:Bare Tryz.prog (160,420):=⟨⟨Tryz.f160,dV Tryz.f160,Tryz.func160,by kernel_rfl,by decide⟩,rfl⟩
theorem b557:Bare Tryz.prog (109,557):=⟨⟨Tryz.f109,dV Tryz.f109,Tryz.func109,by kernel_rfl,by decide⟩,rfl⟩
theorem b270:Bare Tryz.prog (117,270):=⟨⟨Tryz.f117,dV Tryz.f117,Tryz.func117,by kernel_rfl,by decide⟩,rfl⟩
theorem b263:Bare Tryz.prog (118,263):=⟨⟨Tryz.f118,dV Tryz.f118,Tryz.func118,by kernel_rfl,by decide⟩,rfl⟩
theorem rows_bear:∀q∈ns.g.take 156,Br q∨Bare Tryz.prog q:=
 zl b523 <|
 zl b527 <|
 zl b528 <|
 zl b529 <|
 zl b26 <|
 zl b530 <|
 zl b531 <|
 zl b532 <|
 zl b533 <|
 zl b534 <|
 zl b535 <|
 zl b536 <|
 zl b537 <|
 zl b538 <|
 zl b539 <|
 zl b543 <|
 zl b404 <|
 zl b214 <|
 zl b440 <|
 zl b432 <|
 zl b112 <|
 zl b483 <|
 zl b405 <|
 zl b544 <|
 zl b545 <|
 zl b546 <|
 zl b547 <|
 zl b548 <|
 zl b549 <|
 zl b366 <|
 zl b359 <|
 zl b550 <|
 zl b551 <|
 zl b312 <|
 zl b266 <|
 zl b57 <|
 zl b20 <|
 zl b253 <|
 zl b145 <|
 zl b414 <|
 zl b410 <|
 zl b411 <|
 zl b412 <|
 zl b413 <|
 zl b223 <|
 zl b364 <|
 zl b439 <|
 zl b380 <|
 zl b118 <|
 zl b119 <|
 zl b120 <|
 zl b121 <|
 zl b122 <|
 zl b123 <|
 zl b495 <|
 zl b496 <|
 zl b29 <|
 zl b497 <|
 zl b33 <|
 zl b498 <|
 zl b499 <|
 zl b500 <|
 zl b501 <|
 zl b190 <|
 zl b415 <|
 zl b185 <|
 zl b409 <|
 zl b556 <|
 zl b51 <|
 zl b336 <|
 zl b337 <|
 zl b77 <|
 zl b78 <|
 zl b365 <|
 zl b191 <|
 zl b379 <|
 zl b186 <|
 zl b374 <|
 zl b135 <|
 zl b558 <|
 zl b249 <|
 zl b267 <|
 zl b62 <|
 zl b69 <|
 zl b106 <|
 zl b421 <|
 zl b117 <|
 zl b125 <|
 zl b126 <|
 zl b127 <|
 zl b128 <|
 zl b129 <|
 zl b130 <|
 zl b131 <|
 zl b132 <|
 zl b133 <|
 zl b134 <|
 zl b52 <|
 zl b136 <|
 zl b73 <|
 zl b74 <|
 zl b75 <|
 zl b76 <|
 zl b515 <|
 zl b35 <|
 zl b516 <|
 zl b407 <|
 zl b215 <|
 zl b265 <|
 zl b252 <|
 zl b248 <|
 zl b108 <|
 zl b109 <|
 zl b110 <|
 zl b111 <|
 zl b390 <|
 zl b216 <|
 zl b217 <|
 zl b143 <|
 zl b144 <|
 zl b256 <|
 zl b261 <|
 zl b262 <|
 zl b124 <|
 zl b137 <|
 zl b138 <|
 zl b139 <|
 zl b140 <|
 zl b141 <|
 zl b142 <|
 zl b107 <|
 zl b80 <|
 zl b81 <|
 zl b82 <|
 zl b83 <|
 zl b416 <|
 zl b417 <|
 zl b418 <|
 zl b419 <|
 zl b258 <|
 zl b245 <|
 zl b264 <|
 zl b257 <|
 zl b259 <|
 zl b260 <|
 zl b146 <|
 zl b113 <|
 zl b114 <|
 zr b553 <|
 zr b554 <|
 zr b555 <|
 zr b422 <|
 zr b420 <|
 zr b557 <|
 zr b270 <|
 zr b263 <|
 fun _ h=>absurd h List.not_mem_nil
theorem prims_g:ns.g.drop 156=[(44,311),(163,269),(210,255)]:=by kernel_rfl
def IsPrim (P:Program) (q:Nat×Nat):Prop:=(∃fn b,P.funcs[q.1]?=some fn∧fn.body=some b∧fn.name ≠ "runtime.NumGoroutine") ∧
 ∃af pf,AP q.2=some af∧af.mw=some pf∧af.body=.exit 0∧∀orc,eQ P ns orc→∀cI rs,pf.f orc.p cI=some rs→qM P ns q.1 cI rs
def HasB (P:Program) (f:Nat):Prop:=∃fn b,P.funcs[f]?=some fn∧fn.body=some b∧fn.name ≠ "runtime.NumGoroutine"
theorem lays166:Lays.n166 Tryz.prog Tryz.lays156_ren:={Tryz.lays156 with}
theorem lays169:Lays.n169 Tryz.prog Tryz.lays156_ren:={Tryz.lays156 with}
theorem hb_of{P:Program}{q:Nat×Nat}(h:Bears P q):HasB P q.1:=by
 obtain⟨fn,A,af,h1,h2,_⟩:=h;unfold lA at h2;split at h2
 ·rename_i b rs hb _;simp only[Option.ite_none_right_eq_some]at h2;obtain⟨⟨_,hn⟩,_⟩:=h2;exact⟨fn,b,h1,hb,by simpa using hn⟩
 ·simp at h2
theorem s7:d5 Tryz.prog ns:=by
 have h:∀q∈ns.g,HasB Tryz.prog q.1:=by
   intro q hq;rw[←List.take_append_drop 156 ns.g]at hq;rcases List.mem_append.1 hq with h|h
   ·exact (rows_bear q h).elim hb_of (·.1)
   rw[prims_g]at h;simp only[List.mem_cons,List.not_mem_nil,or_false]at h;rcases h with rfl|rfl|rfl
   ·exact⟨Tryz.f44,dV Tryz.f44,Tryz.func44,by kernel_rfl,by decide⟩
   ·exact⟨Tryz.f163,dV Tryz.f163,Tryz.func163,by kernel_rfl,by decide⟩
   ·exact⟨Tryz.f210,dV Tryz.f210,Tryz.func210,by kernel_rfl,by decide⟩
 intro f g hg;exact h (f,g) (look_memI hg)
def fldOf(o:Oper):TypeId×Nat:=match o.op with| .fieldAddr t _ i=>(t,i)|_=>(0,0)
def boxOf(o:Oper):TypeId:=match o.op with| .box t _=>t|_=>0
def loadOf(o:Oper):TypeId:=match o.op with| .load t _=>t|_=>0
def fdOf(P:Program)(q:TypeId×Nat):Field:=(eF P q.1 q.2).getD default
noncomputable def show311:lZ Tryz.prog ns 44 336 337 where
 fn:=Tryz.f44
 A:=⟨[(5,5,0),(7,7,0)],[],[],[],[],[],[],[],false,[],[],[],[],[],[],[],[],[],[],[]⟩
 T:=138
 E:=5
 Tp:=boxOf (aN Tryz.f44 0 0)
 fw:=103
 fs:=106
 t1:=typesOf (aN Tryz.f44 5 2)
 t2:=typesOf (aN Tryz.f44 10 2)
 t3:=typesOf (aN Tryz.f44 12 0)
 tf:=(fldOf (aN Tryz.f44 2 0)).1
 f0:=(fldOf (aN Tryz.f44 2 0)).2
 f1:=(fldOf (aN Tryz.f44 7 0)).2
 M6:=(fdOf Tryz.prog (fldOf (aN Tryz.f44 2 0)))
 M7:=(fdOf Tryz.prog (fldOf (aN Tryz.f44 7 0)))
 s0:=(ck Tryz.prog (fdOf Tryz.prog (fldOf (aN Tryz.f44 2 0))).type).getD 0
 s1:=(ck Tryz.prog (fdOf Tryz.prog (fldOf (aN Tryz.f44 7 0))).type).getD 0
 td:=loadOf (aN Tryz.f44 2 1)
 tb:=loadOf (aN Tryz.f44 7 1)
 bx:=aN Tryz.f44 0 0
 rs:=aN Tryz.f44 0 1
 al:=aN Tryz.f44 1 0
 fa:=aN Tryz.f44 2 0
 ld:=aN Tryz.f44 2 1
 r2:=(jS Tryz.f44 2).toList.drop 2
 o3:=jS Tryz.f44 3
 o4:=jS Tryz.f44 4
 l5:=(jS Tryz.f44 5).toList.take 2
 w5:=aN Tryz.f44 5 2
 o6:=jS Tryz.f44 6
 Il:=aN Tryz.f44 7 0
 Im:=aN Tryz.f44 7 1
 r7:=(jS Tryz.f44 7).toList.drop 2
 o8:=jS Tryz.f44 8
 o9:=jS Tryz.f44 9
 l10:=(jS Tryz.f44 10).toList.take 2
 F6:=aN Tryz.f44 10 2
 Kk:=jS Tryz.f44 11
 st:=aN Tryz.f44 12 0
 fi:=aN Tryz.f44 12 1
 i0:=cT Tryz.f44 0
 i1:=cT Tryz.f44 1
 i2:=cT Tryz.f44 2
 i3:=cT Tryz.f44 3
 i4:=cT Tryz.f44 4
 i5:=cT Tryz.f44 5
 i6:=cT Tryz.f44 6
 i7:=cT Tryz.f44 7
 i8:=cT Tryz.f44 8
 i9:=cT Tryz.f44 9
 wM:=cT Tryz.f44 10
 LV:=cT Tryz.f44 11
 M8:=cT Tryz.f44 12
 b0:=oE Tryz.f44 0
 b1:=oE Tryz.f44 1
 b2:=oE Tryz.f44 2
 b3:=oE Tryz.f44 3
 hf:=Tryz.func44
 pN:=by kernel_rfl
 fx:=by kernel_rfl
 hN:=by kernel_rfl
 LW:=⟨by kernel_rfl,by kernel_rfl,by kernel_rfl⟩
 Kb:=⟨by kernel_rfl,by kernel_rfl,by kernel_rfl⟩
 Lb:=⟨by kernel_rfl,by kernel_rfl,by kernel_rfl⟩
 hz:=by kernel_rfl
 Lc:=⟨by kernel_rfl,by kernel_rfl,by kernel_rfl⟩
 NX:=⟨by kernel_rfl,by kernel_rfl,by kernel_rfl,by decide +kernel⟩
 Ld:=⟨by kernel_rfl,by kernel_rfl,by kernel_rfl⟩
 Nw:=⟨by kernel_rfl,by kernel_rfl⟩
 c2:=by kernel_rfl
 Dy:=⟨by kernel_rfl,by kernel_rfl,by kernel_rfl⟩
 LX:=⟨by kernel_rfl,by kernel_rfl,by kernel_rfl,by decide +kernel⟩
 Dz:=⟨by kernel_rfl,by kernel_rfl,by kernel_rfl⟩
 K8:=⟨by kernel_rfl,by kernel_rfl⟩
 c7:=by kernel_rfl
 c3:=by kernel_rfl
 c4:=by kernel_rfl
 c5:=by kernel_rfl
 c6:=by kernel_rfl
 M9:=⟨by kernel_rfl,by kernel_rfl,by kernel_rfl⟩
 c8:=by kernel_rfl
 c9:=by kernel_rfl
 c10:=by kernel_rfl
 c11:=by kernel_rfl
 Io:=⟨by kernel_rfl,by kernel_rfl,by kernel_rfl⟩
 ot:=⟨by kernel_rfl,by kernel_rfl,by kernel_rfl⟩
 K7:=⟨by kernel_rfl,by kernel_rfl,by kernel_rfl⟩
 Nx:=⟨Tryz.f103,dV Tryz.f103,Tryz.func103,by kernel_rfl,by decide⟩
 NY:=⟨Tryz.f106,dV Tryz.f106,Tryz.func106,by kernel_rfl,by decide⟩
 Og:=⟨104,by kernel_rfl⟩
 Oh:=⟨105,by kernel_rfl⟩
 write:=fun B b bs s w h1 h2 h3=>Any.Builder_WriteString lays166 Tryz.Builder_Extra_156 B b bs s w h1 h2 h3
 read:=fun B b l w h1 h2=>Any.Builder_String_any lays169 Tryz.Builder_Extra_156 B b l w h1 h2
theorem b311:IsPrim Tryz.prog (44,311):=⟨⟨Tryz.f44,dV Tryz.f44,Tryz.func44,by kernel_rfl,by decide⟩,_,_,rfl,rfl,rfl,fun orc ho _ _ h=>DA s7 ho show311 h⟩
theorem b269:IsPrim Tryz.prog (163,269):=⟨⟨Tryz.f163,dV Tryz.f163,Tryz.func163,by kernel_rfl,by decide⟩,_,_,rfl,rfl,rfl,fun _ _=>Dv (fun a c sep w=>Tryz.strings_Join_none a c sep w) (fun bk o c xs sep w h1 h2 h3 h4 h5=>Tryz.strings_Join bk o c xs sep w h1 h2 h3 h4 h5)⟩
theorem b255:IsPrim Tryz.prog (210,255):=⟨⟨Tryz.f210,dV Tryz.f210,Tryz.func210,by kernel_rfl,by decide⟩,_,_,rfl,rfl,rfl,fun _ _=>zx (show ns.iF 1=some tc from Dw 1) (by kernel_rfl) (fun n h0 h1 w ht=>Tryz.strconv_Itoa n h0 h1 w ht)⟩
theorem all_bear:∀q∈ns.g,Bears Tryz.prog q∨Bare Tryz.prog q∨IsPrim Tryz.prog q:=by
 intro q hq;rw[←List.take_append_drop 156 ns.g]at hq;rcases List.mem_append.1 hq with h|h
 ·exact (rows_bear q h).elim .inl fun h=>.inr (.inl h)
 rw[prims_g]at h;simp only[List.mem_cons,List.not_mem_nil,or_false]at h;rcases h with rfl|rfl|rfl
 ·exact .inr (.inr b311)
 ·exact .inr (.inr b269)
 ·exact .inr (.inr b255)
theorem u553:∀q∈ns.g,q.2=553→q.1=98:=by decide +kernel
theorem clone553:Nonempty (ga Tryz.prog ns 98 4 72):=⟨
 { fn:=Tryz.f98,A:=E0,t:=(dh (aN Tryz.f98 1 1)).1,el:=FL Tryz.prog (dh (aN Tryz.f98 1 1)).1,ty:=(dh (aN Tryz.f98 1 1)).2,
   o0:=aN Tryz.f98 0 0,m:=aN Tryz.f98 1 0,e:=aN Tryz.f98 1 1,o2:=aN Tryz.f98 2 0,b:=aN Tryz.f98 3 0,m3:=aN Tryz.f98 3 1,ap:=aN Tryz.f98 3 2,fi:=aN Tryz.f98 3 3,
   r0:=cT Tryz.f98 0,r1:=cT Tryz.f98 1,r2:=cT Tryz.f98 2,r3:=cT Tryz.f98 3,
   A2:=E2,ag:=true,hf:=Tryz.func98 }⟩
theorem u554:∀q∈ns.g,q.2=554→q.1=99:=by decide +kernel
theorem clone554:Nonempty (ga Tryz.prog ns 99 20 256):=⟨
 { fn:=Tryz.f99,A:=E0,t:=(dh (aN Tryz.f99 1 1)).1,el:=FL Tryz.prog (dh (aN Tryz.f99 1 1)).1,ty:=(dh (aN Tryz.f99 1 1)).2,
   o0:=aN Tryz.f99 0 0,m:=aN Tryz.f99 1 0,e:=aN Tryz.f99 1 1,o2:=aN Tryz.f99 2 0,b:=aN Tryz.f99 3 0,m3:=aN Tryz.f99 3 1,ap:=aN Tryz.f99 3 2,fi:=aN Tryz.f99 3 3,
   r0:=cT Tryz.f99 0,r1:=cT Tryz.f99 1,r2:=cT Tryz.f99 2,r3:=cT Tryz.f99 3,
   A2:=E2,ag:=true,hf:=Tryz.func99 }⟩
theorem u555:∀q∈ns.g,q.2=555→q.1=100:=by decide +kernel
theorem clone555:Nonempty (ga Tryz.prog ns 100 3 48):=⟨
 { fn:=Tryz.f100,A:=E0,t:=(dh (aN Tryz.f100 1 1)).1,el:=FL Tryz.prog (dh (aN Tryz.f100 1 1)).1,ty:=(dh (aN Tryz.f100 1 1)).2,
   o0:=aN Tryz.f100 0 0,m:=aN Tryz.f100 1 0,e:=aN Tryz.f100 1 1,o2:=aN Tryz.f100 2 0,b:=aN Tryz.f100 3 0,m3:=aN Tryz.f100 3 1,ap:=aN Tryz.f100 3 2,fi:=aN Tryz.f100 3 3,
   r0:=cT Tryz.f100 0,r1:=cT Tryz.f100 1,r2:=cT Tryz.f100 2,r3:=cT Tryz.f100 3,
   A2:=E2,ag:=true,hf:=Tryz.func100 }⟩
theorem u422:∀q∈ns.g,q.2=422→q.1=136:=by decide +kernel
theorem clone422:Nonempty (ga Tryz.prog ns 136 11 152):=⟨
 { fn:=Tryz.f136,A:=E0,t:=(dh (aN Tryz.f136 1 1)).1,el:=FL Tryz.prog (dh (aN Tryz.f136 1 1)).1,ty:=(dh (aN Tryz.f136 1 1)).2,
   o0:=aN Tryz.f136 0 0,m:=aN Tryz.f136 1 0,e:=aN Tryz.f136 1 1,o2:=aN Tryz.f136 2 0,b:=aN Tryz.f136 3 0,m3:=aN Tryz.f136 3 1,ap:=aN Tryz.f136 3 2,fi:=aN Tryz.f136 3 3,
   r0:=cT Tryz.f136 0,r1:=cT Tryz.f136 1,r2:=cT Tryz.f136 2,r3:=cT Tryz.f136 3,
   A2:=E2,ag:=true,hf:=Tryz.func136 }⟩
theorem u420:∀q∈ns.g,q.2=420→q.1=160:=by decide +kernel
theorem clone420:Nonempty (ga Tryz.prog ns 160 1 16):=⟨
 { fn:=Tryz.f160,A:=E0,t:=(dh (aN Tryz.f160 1 1)).1,el:=FL Tryz.prog (dh (aN Tryz.f160 1 1)).1,ty:=(dh (aN Tryz.f160 1 1)).2,
   o0:=aN Tryz.f160 0 0,m:=aN Tryz.f160 1 0,e:=aN Tryz.f160 1 1,o2:=aN Tryz.f160 2 0,b:=aN Tryz.f160 3 0,m3:=aN Tryz.f160 3 1,ap:=aN Tryz.f160 3 2,fi:=aN Tryz.f160 3 3,
   r0:=cT Tryz.f160 0,r1:=cT Tryz.f160 1,r2:=cT Tryz.f160 2,r3:=cT Tryz.f160 3,
   A2:=E2,ag:=false,hf:=Tryz.func160 }⟩
theorem backs_ok:oD Tryz.prog ns:=trivial
theorem clones_ok:∀g sz bytes f,look ns.cl g=some (sz,bytes)→ns.of f=some g→Nonempty (ga Tryz.prog ns f sz bytes):=by
 intro g sz bytes f h hf;simp only[ns,look]at h;split at h
 ·rename_i e;subst e;cases h;have:=u553 (f,553) (look_memI hf) rfl;simp only at this;subst this;exact clone553
 split at h
 ·rename_i e;subst e;cases h;have:=u554 (f,554) (look_memI hf) rfl;simp only at this;subst this;exact clone554
 split at h
 ·rename_i e;subst e;cases h;have:=u555 (f,555) (look_memI hf) rfl;simp only at this;subst this;exact clone555
 split at h
 ·rename_i e;subst e;cases h;have:=u422 (f,422) (look_memI hf) rfl;simp only at this;subst this;exact clone422
 split at h
 ·rename_i e;subst e;cases h;have:=u420 (f,420) (look_memI hf) rfl;simp only at this;subst this;exact clone420
 cases h
theorem impl:Impl Tryz.prog ns AP:=⟨by kernel_rfl,fun f g h=>(all_bear (f,g) (look_memI h)).imp id (Or.elim · (fun⟨h1,h2⟩=>⟨h1,.inl h2⟩) (fun⟨h1,h2⟩=>⟨h1,.inr h2⟩)),backs_ok,clones_ok⟩
end Go.Ab
