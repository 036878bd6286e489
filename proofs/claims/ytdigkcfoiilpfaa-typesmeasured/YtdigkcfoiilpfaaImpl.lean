import Derived.Test.YtdigkcfoiilpfaaRows
import Derived.Test.YtdigkcfoiilpfaaCodeA
/-
  Each function of the given program that has slim code bears just that code: the kernel translates it anew and compares.
-/
set_option linter.unusedVariables false
set_option linter.unusedSimpArgs false
set_option linter.unnecessarySimpa false
set_option maxRecDepth 100000
set_option maxHeartbeats 8000000
namespace Go.Ab
open Proofs
def ns:Names:=⟨[(3,12),(4,23),(5,24),(6,15),(7,31),(8,25),(9,27),(10,32),(11,28),(12,49),(13,50),(14,51),(15,52),(16,53),(17,54),(18,26),(19,55),(20,56),(21,57),(22,58),(23,59),(24,63),(25,66),(26,45),(27,34),(28,33),(29,29),(30,40),(31,30),(32,67),(33,68),(34,62),(35,69),(36,79),(37,70),(38,71),(39,72),(40,75),(41,94),(42,95),(43,96),(44,97),(45,98),(46,99),(47,20),(48,100),(49,101),(50,91),(51,92),(52,35),(53,73),(54,74),(55,76),(56,88),(57,77),(58,78),(59,106),(60,112),(61,107),(62,116),(63,80),(64,81),(65,82),(66,83),(67,108),(68,109),(69,110),(70,111),(71,118),(72,119),(73,120),(74,121),(75,122),(76,123),(77,113),(78,114),(79,117),(80,125),(81,126),(82,127),(83,128),(84,129),(85,130),(86,131),(87,132),(88,133),(89,134),(90,135),(91,136),(92,124),(93,137),(94,138),(95,139),(96,140),(97,141),(98,142),(99,143),(100,144),(101,145),(102,146)],
 [25,27,68,75,94,96,97,100,101,91,92,107,83,119,120,121,122,126,127,128,129,130,131,132,133,134,139,140,141],[],[],fun _=>none⟩
def lv1 (i:Nat):aq→List (Nat×List Nat)
 | .kb _ l=>[(i,l)]
 | .seq a b=>lv1 i b++lv1 i a
 | _=>[]
def fu:Code→aq→List (Nat×List Nat)
 | .region i _ _,x=>lv1 i x
 | .seq a b,.seq x y=>fu a x++fu b y
 | .cond _ a b,.cond _ x y=>fu a x++fu b y
 | .block _ a,.block _ x=>fu a x
 | .loop a,.loop _ x=>fu a x
 | .rangeFunc _ _ a b,.back _ _ _ _ _ _ _ x y=>fu a x++fu b y
 | _,_=>[]
def lp1 (o:Option Nat) (l:List Nat):List (Nat×List Nat):=match o with | some i=>[(i,l)] | none=>[]
def lps:Code→aq→List (Nat×List Nat)
 | .seq a b,.seq x y=>lps a x++lps b y
 | .cond _ a b,.cond _ x y=>lps a x++lps b y
 | .block _ a,.block _ x=>lps a x
 | .loop a,.loop l x=>lp1 (gA a) l++lps a x
 | .rangeFunc _ _ a b,.back _ _ _ _ _ _ l x y=>lp1 (gA a) l++lps a x++lps b y
 | _,_=>[]
def An (p:List (Nat×Nat×Nat)) (s h si:List Nat) (ow:List (Nat×List Nat)) (bk:List (Nat×Nat)) (ks:Bool) (q ho:List Nat) (fz:List (Nat×List Nat)) (du:List (Nat×Nat)) (ro:List Nat) (fa:List (Nat×List (Nat×Nat))) (pu:List (Nat×List (Nat×Nat×Bool))) (pr:List (Nat×List (Nat×Nat×Nat))) (cu:List (Nat×Nat×List Nat×List Nat)) (fs:List (Nat×List Nat)) (kp zp:List Nat) (fn:Func) (af:aw):gm:=
 ⟨p,s,h,fu (fn.body.getD .skip) af.body,lps (fn.body.getD .skip) af.body,si,ow,bk,ks,q,ho,fz,du,ro,fa,pu,pr,cu,fs,kp,zp⟩
def prO (m:List (Nat×Nat×Nat)) (o:cr):List (Nat×Nat×Nat):=match o.dst,o.op,o.args with
 | some d,.alloc k _,_=>(d,k,0)::m
 | some d,.box k _,_=>(d,k,0)::m
 | some d,.v (.fw n),[.t s]=>match look m s with | some (k,f)=>(d,k,f+n)::m | none=>m
 | _,_,_=>m
def prC:aq→List (Nat×Nat×Nat)→List (Nat×Nat×Nat)
 | .kb os _,m=>os.foldl prO m
 | .seq a b,m=>prC b (prC a m)
 | .cond _ a b,m=>prC b (prC a m)
 | .block _ a,m=>prC a m
 | .loop _ a,m=>prC a m
 | .back _ _ _ _ _ _ _ a b,m=>prC b (prC a m)
 | _,m=>m
def Am (s h si:List Nat) (ow:List (Nat×List Nat)) (bk:List (Nat×Nat)) (ks:Bool) (q ho:List Nat) (fz:List (Nat×List Nat)) (fn:Func) (af:aw):gm:=An (prC af.body []) s h si ow bk ks q ho fz [] [] [] [] [] [] [] [] [] fn af
def Al (s:List Nat):Func→aw→gm:=Am s [] [] [] [] false [] [] []
def Ak:Func→aw→gm:=Al []
def E0:gm:=⟨[],[],[],[],[],[],[],[],false,[],[],[],[],[],[],[],[],[],[],[],[]⟩
def E2:gm:=⟨[],[],[],[],[],[],[],[],false,[],[7],[],[],[],[],[],[],[],[],[],[]⟩
def Bears (P:Program) (q:Nat×Nat):Prop:=∃fn A af,P.funcs[q.1]?=some fn∧l0 P ns A fn=some af∧AP q.2=some af
theorem zb {i g:Nat} {P:Program} {fn:Func} (af:aw) (A:Func→aw→gm) (h:P.funcs[i]?=some fn) (e:AP g=some af:=by rfl) (k:l0 P ns (A fn af) fn=some af:=by kernel_rfl):Bears P (i,g):=⟨fn,A fn af,af,h,k,e⟩
theorem zl {α:Type} {p r:α→Prop} {a:α} {l:List α} (h:p a) (t:∀q∈l,p q∨r q):∀q∈a::l,p q∨r q:=List.forall_mem_cons.2 ⟨.inl h,t⟩
theorem zr {α:Type} {p r:α→Prop} {a:α} {l:List α} (h:r a) (t:∀q∈l,p q∨r q):∀q∈a::l,p q∨r q:=List.forall_mem_cons.2 ⟨.inr h,t⟩
theorem look_memI {α:Type} {t:Nat} {v:α}:∀{l:List (Nat×α)},look l t=some v→(t,v)∈l
 | [],h=>by simp [look] at h
 | (k,u)::r,h=>by
   simp only [look] at h
   split at h
   · rename_i e;cases h;subst e;exact List.mem_cons_self
   · exact List.mem_cons_of_mem _ (look_memI h)
def Bare (P:Program) (q:Nat×Nat):Prop:=(∃fn b,P.funcs[q.1]?=some fn∧fn.body=some b∧fn.name ≠ "runtime.NumGoroutine")∧AP q.2=none
abbrev Br:Nat×Nat→Prop:=Bears Try.prog
theorem b12:Br (3,12):=zb g12 Ak Try.func3
theorem b23:Br (4,23):=zb g23 Ak Try.func4
theorem b24:Br (5,24):=zb g24 Ak Try.func5
theorem b15:Br (6,15):=zb g15 Ak Try.func6
theorem b31:Br (7,31):=zb g31 Ak Try.func7
theorem b25:Br (8,25):=zb g25 (Am [] [] [13] [] [] false [] [] []) Try.func8
theorem b27:Br (9,27):=zb g27 (Al [29,59]) Try.func9
theorem b32:Br (10,32):=zb g32 Ak Try.func10
theorem b28:Br (11,28):=zb g28 (Am [] [] [1] [] [] false [] [] []) Try.func11
theorem b49:Br (12,49):=zb g49 Ak Try.func12
theorem b50:Br (13,50):=zb g50 Ak Try.func13
theorem b51:Br (14,51):=zb g51 Ak Try.func14
theorem b52:Br (15,52):=zb g52 Ak Try.func15
theorem b53:Br (16,53):=zb g53 (Al [2]) Try.func16
theorem b54:Br (17,54):=zb g54 Ak Try.func17
theorem b26:Br (18,26):=zb g26 Ak Try.func18
theorem b55:Br (19,55):=zb g55 (Al [3]) Try.func19
theorem b56:Br (20,56):=zb g56 (Am [] [] [18] [(18,[0])] [] false [] [] []) Try.func20
theorem b57:Br (21,57):=zb g57 Ak Try.func21
theorem b58:Br (22,58):=zb g58 (Al [3]) Try.func22
theorem b59:Br (23,59):=zb g59 (Am [] [] [16] [(16,[0])] [] false [] [] []) Try.func23
theorem b63:Br (24,63):=zb g63 Ak Try.func24
theorem b66:Br (25,66):=zb g66 Ak Try.func25
theorem b45:Br (26,45):=zb g45 Ak Try.func26
theorem b34:Br (27,34):=zb g34 Ak Try.func27
theorem b33:Br (28,33):=zb g33 Ak Try.func28
theorem b29:Br (29,29):=zb g29 Ak Try.func29
theorem b40:Br (30,40):=zb g40 Ak Try.func30
theorem b30:Br (31,30):=zb g30 Ak Try.func31
theorem b67:Br (32,67):=zb g67 Ak Try.func32
theorem b68:Br (33,68):=zb g68 (Al [7,11,17,24,28]) Try.func33
theorem b62:Br (34,62):=zb g62 Ak Try.func34
theorem b69:Br (35,69):=zb g69 Ak Try.func35
theorem b79:Br (36,79):=zb g79 Ak Try.func36
theorem b70:Br (37,70):=zb g70 Ak Try.func37
theorem b71:Br (38,71):=zb g71 Ak Try.func38
theorem b72:Br (39,72):=zb g72 Ak Try.func39
theorem b75:Br (40,75):=zb g75 Ak Try.func40
theorem b94:Br (41,94):=zb g94 (Al [1]) Try.func41
theorem b95:Br (42,95):=zb g95 Ak Try.func42
theorem b96:Br (43,96):=zb g96 Ak Try.func43
theorem b97:Br (44,97):=zb g97 (Al [1]) Try.func44
theorem b98:Br (45,98):=zb g98 Ak Try.func45
theorem b99:Br (46,99):=zb g99 (Am [] [] [50] [(50,[0])] [] false [] [] []) Try.func46
theorem b20:Br (47,20):=zb g20 Ak Try.func47
theorem b100:Br (48,100):=zb g100 (An [] [3,1,2] [] [] [] [] false [] [] [] [] [] [] [] [] [] [] [] [2]) Try.func48
theorem b101:Br (49,101):=zb g101 (Al [1]) Try.func49
theorem b91:Br (50,91):=zb g91 (Al [25]) Try.func50
theorem b92:Br (51,92):=zb g92 (Al [1]) Try.func51
theorem b35:Br (52,35):=zb g35 Ak Try.func52
theorem b73:Br (53,73):=zb g73 Ak Try.func53
theorem b74:Br (54,74):=zb g74 Ak Try.func54
theorem b76:Br (55,76):=zb g76 Ak Try.func55
theorem b88:Br (56,88):=zb g88 Ak Try.func56
theorem b77:Br (57,77):=zb g77 Ak Try.func57
theorem b78:Br (58,78):=zb g78 Ak Try.func58
theorem b106:Br (59,106):=zb g106 Ak Try.func59
theorem b112:Br (60,112):=zb g112 (Am [22,28,52,57] [] [] [] [] true [] [] []) Try.func60
theorem b107:Br (61,107):=zb g107 (Al [14]) Try.func61
theorem b116:Br (62,116):=zb g116 Ak Try.func62
theorem b80:Br (63,80):=zb g80 Ak Try.func63
theorem b81:Br (64,81):=zb g81 Ak Try.func64
theorem b82:Br (65,82):=zb g82 Ak Try.func65
theorem b83:Br (66,83):=zb g83 (Al [16,24]) Try.func66
theorem b108:Br (67,108):=zb g108 Ak Try.func67
theorem b109:Br (68,109):=zb g109 Ak Try.func68
theorem b110:Br (69,110):=zb g110 Ak Try.func69
theorem b111:Br (70,111):=zb g111 Ak Try.func70
theorem b118:Br (71,118):=zb g118 Ak Try.func71
theorem b119:Br (72,119):=zb g119 Ak Try.func72
theorem b120:Br (73,120):=zb g120 (Al [7,13,17,25,29,38,42,53,57]) Try.func73
theorem b121:Br (74,121):=zb g121 (Al [26]) Try.func74
theorem b122:Br (75,122):=zb g122 (Al [25]) Try.func75
theorem b123:Br (76,123):=zb g123 Ak Try.func76
theorem b113:Br (77,113):=zb g113 Ak Try.func77
theorem b114:Br (78,114):=zb g114 Ak Try.func78
theorem b117:Br (79,117):=zb g117 Ak Try.func79
theorem b125:Br (80,125):=zb g125 Ak Try.func80
theorem b126:Br (81,126):=zb g126 (Al [5,9,15,19]) Try.func81
theorem b127:Br (82,127):=zb g127 Ak Try.func82
theorem b128:Br (83,128):=zb g128 (Al [13,20,24]) Try.func83
theorem b129:Br (84,129):=zb g129 (Al [7,13,17,25,29]) Try.func84
theorem b130:Br (85,130):=zb g130 Ak Try.func85
theorem b131:Br (86,131):=zb g131 (Am [20] [] [15] [] [] false [] [] []) Try.func86
theorem b132:Br (87,132):=zb g132 (Al [10]) Try.func87
theorem b133:Br (88,133):=zb g133 (Am [] [] [8] [] [] false [] [] []) Try.func88
theorem b134:Br (89,134):=zb g134 (Al [21,41,50,71,77,81,89,93]) Try.func89
theorem b135:Br (90,135):=zb g135 Ak Try.func90
theorem b136:Br (91,136):=zb g136 Ak Try.func91
theorem b124:Br (92,124):=zb g124 Ak Try.func92
theorem b137:Br (93,137):=zb g137 Ak Try.func93
theorem b138:Br (94,138):=zb g138 Ak Try.func94
theorem b139:Br (95,139):=zb g139 (Al [5,13,17,24,28,38,44,48]) Try.func95
theorem b140:Br (96,140):=zb g140 (Al [32]) Try.func96
theorem b141:Br (97,141):=zb g141 (Al [51]) Try.func97
theorem b142:Br (98,142):=zb g142 Ak Try.func98
theorem b143:Br (99,143):=zb g143 Ak Try.func99
theorem b144:Br (100,144):=zb g144 Ak Try.func100
theorem b145:Br (101,145):=zb g145 (Am [20] [] [] [] [] true [] [7,23] []) Try.func101
theorem b146:Br (102,146):=zb g146 Ak Try.func102
theorem rows_bear:∀q∈ns.g,Br q∨Bare Try.prog q:=
 zl b12 <|
 zl b23 <|
 zl b24 <|
 zl b15 <|
 zl b31 <|
 zl b25 <|
 zl b27 <|
 zl b32 <|
 zl b28 <|
 zl b49 <|
 zl b50 <|
 zl b51 <|
 zl b52 <|
 zl b53 <|
 zl b54 <|
 zl b26 <|
 zl b55 <|
 zl b56 <|
 zl b57 <|
 zl b58 <|
 zl b59 <|
 zl b63 <|
 zl b66 <|
 zl b45 <|
 zl b34 <|
 zl b33 <|
 zl b29 <|
 zl b40 <|
 zl b30 <|
 zl b67 <|
 zl b68 <|
 zl b62 <|
 zl b69 <|
 zl b79 <|
 zl b70 <|
 zl b71 <|
 zl b72 <|
 zl b75 <|
 zl b94 <|
 zl b95 <|
 zl b96 <|
 zl b97 <|
 zl b98 <|
 zl b99 <|
 zl b20 <|
 zl b100 <|
 zl b101 <|
 zl b91 <|
 zl b92 <|
 zl b35 <|
 zl b73 <|
 zl b74 <|
 zl b76 <|
 zl b88 <|
 zl b77 <|
 zl b78 <|
 zl b106 <|
 zl b112 <|
 zl b107 <|
 zl b116 <|
 zl b80 <|
 zl b81 <|
 zl b82 <|
 zl b83 <|
 zl b108 <|
 zl b109 <|
 zl b110 <|
 zl b111 <|
 zl b118 <|
 zl b119 <|
 zl b120 <|
 zl b121 <|
 zl b122 <|
 zl b123 <|
 zl b113 <|
 zl b114 <|
 zl b117 <|
 zl b125 <|
 zl b126 <|
 zl b127 <|
 zl b128 <|
 zl b129 <|
 zl b130 <|
 zl b131 <|
 zl b132 <|
 zl b133 <|
 zl b134 <|
 zl b135 <|
 zl b136 <|
 zl b124 <|
 zl b137 <|
 zl b138 <|
 zl b139 <|
 zl b140 <|
 zl b141 <|
 zl b142 <|
 zl b143 <|
 zl b144 <|
 zl b145 <|
 zl b146 <|
 fun _ h=>absurd h List.not_mem_nil
theorem all_bear:∀q∈ns.g,Bears Try.prog q∨Bare Try.prog q:=rows_bear
theorem backs_ok:na Try.prog ns:=by
 intro gb sz ag h f hf
 simp [look,ns] at h
theorem clones_ok:∀g sz bytes f,look ns.cl g=some (sz,bytes)→ns.of f=some g→Nonempty (oB Try.prog ns f sz bytes):=by
 intro g sz bytes f h hf
 simp [look,ns] at h
theorem impl:Impl Try.prog ns AP:=⟨by kernel_rfl,fun f g h=>(all_bear (f,g) (look_memI h)).imp id fun ⟨h1,h2⟩=>⟨h1,.inl h2⟩,backs_ok,clones_ok⟩
end Go.Ab
