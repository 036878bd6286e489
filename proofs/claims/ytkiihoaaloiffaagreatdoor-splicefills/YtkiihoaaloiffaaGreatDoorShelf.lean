import Derived.Shelf.Strings.Builder1
import Derived.Shelf.Strings.Builder2
import Derived.Shelf.Strings.OnBuilder
import Derived.Shelf.Strconv.Itoa0
import Derived.Shelf.Strconv.Itoa1
import Derived.Shelf.LaysM
import Derived.Shelf.Strconv.Itoa2
import Derived.Shelf.Strconv.Itoa3
import Derived.Ground.Names2Prog
import Derived.Shelf.Slices.Clone
import Derived.Shelf.Slices.SearchI
import Derived.Ground.SlgnProg
import Derived.Shelf.SlicesE.Clone
import Derived.Test.YtkiihoaaloiffaaGreatDoorProg
/- The contracts of the library that the proof calls, at this program. -/
namespace Go.Proofs.Tryz
set_option maxRecDepth 9999
open Go.Shelf Go.Lib Go.RowKit Go.Sort
theorem k_{α:Type}{a b:α}{x:Option α}(h:x=some a)(e:a=b:=by kernel_rfl):x=some b:=h.trans (congrArg some e)
def lays169_ren:Ren:=⟨fun|169=>89|n=>n,fun|70=>121|9=>9|0=>0|72=>124|37=>122|127=>173|3=>3|5=>5|n=>n,fun|n=>n⟩
theorem lays169:Lays.n169 prog lays169_ren:=⟨by kernel_rfl,k_ func89,underlying0,isAgg0,sizeOf0,zeroValue0,underlying3,isAgg3,sizeOf3,zeroValue3,underlying9,isAgg9,sizeOf9,zeroValue9,underlying122,isAgg122,sizeOf122,zeroValue122,underlying121,isAgg121,sizeOf121,zeroValue121,underlying124,isAgg124,sizeOf124,zeroValue124,underlying173,isAgg173,sizeOf173,zeroValue173⟩
theorem Builder_Extra_169:Builder.Extra prog lays169_ren:={sizeBuilder:=by kernel_rfl,liesBuilder:=by kernel_rfl,t5:=underlying5,a5:=isAgg5,z5:=sizeOf5,v5:=zeroValue5,infoByte:=by kernel_rfl,cellsByte:=by kernel_rfl,sizeByte:=by kernel_rfl,neB5:=by decide}
theorem Builder_String_any (B b:Nat) (l:List UInt8) (w:World) (h:Lib.IsBuilder 124 5 B b (Lib.byteCells l) w) (hBw:B ≤ w.heap.size) :Calls prog 89 #[.pointer (some ⟨b,0,none⟩)] w fun e w'=>e = .returned (.string ⟨l.toArray⟩) ∧ Below B w w':=Any.Builder_String_any lays169 Builder_Extra_169 B b l w h hBw
def lays156_ren:Ren:=⟨fun|156=>144|165=>194|166=>86|169=>89|240=>142|241=>221|276=>192|277=>232|n=>n,fun|31=>50|9=>9|3=>3|4=>4|0=>0|20=>20|72=>124|76=>127|70=>121|37=>122|75=>126|127=>173|164=>203|5=>5|80=>62|n=>n,fun|n=>n⟩
theorem lays156:Lays.n156 prog lays156_ren:=⟨by kernel_rfl,k_ func144,k_ func194,k_ func86,k_ func89,k_ func142,k_ func221,k_ func192,k_ func232,underlying0,isAgg0,sizeOf0,zeroValue0,underlying3,isAgg3,sizeOf3,zeroValue3,underlying4,isAgg4,sizeOf4,zeroValue4,underlying9,isAgg9,sizeOf9,zeroValue9,underlying20,isAgg20,sizeOf20,zeroValue20,underlying50,isAgg50,sizeOf50,zeroValue50,underlying122,isAgg122,sizeOf122,zeroValue122,underlying121,isAgg121,sizeOf121,zeroValue121,underlying124,isAgg124,sizeOf124,zeroValue124,underlying126,isAgg126,sizeOf126,zeroValue126,underlying127,isAgg127,sizeOf127,zeroValue127,underlying173,isAgg173,sizeOf173,zeroValue173,underlying203,isAgg203,sizeOf203,zeroValue203⟩
theorem Builder_Extra_156:Builder.Extra prog lays156_ren:={sizeBuilder:=by kernel_rfl,liesBuilder:=by kernel_rfl,t5:=underlying5,a5:=isAgg5,z5:=sizeOf5,v5:=zeroValue5,infoByte:=by kernel_rfl,cellsByte:=by kernel_rfl,sizeByte:=by kernel_rfl,neB5:=by decide}
theorem strings_Join_none (a:Option Addr) (c:Nat) (sep:ByteArray) (w:World) :Calls prog 144 #[.slice a 0 c,.string sep] w fun e w'=>e = .returned (.string ⟨#[]⟩) ∧ w' = w:=Any.strings_Join_none lays156 Builder_Extra_156 a c sep w
theorem strings_Join (bk o c:Nat) (xs:List ByteArray) (sep:ByteArray) (w:World) (hcells:∀ (j:Nat) x,xs[j]? = some x → w.cell? ⟨bk,o + j,none⟩ = some (.string x)) (hbk:bk < w.heap.size) (hN:xs.length ≤ 140737488355328) (hcap:xs.length ≤ c) (hlen:(Lib.join (xs.map (·.data.toList)) sep.data.toList).length ≤ 140737488355328) :Calls prog 144 #[.slice (some ⟨bk,o,none⟩) xs.length c,.string sep] w fun e w'=>e = .returned (.string ⟨(Lib.join (xs.map (·.data.toList)) sep.data.toList).toArray⟩) ∧ Below w.heap.size w w':=Any.strings_Join lays156 Builder_Extra_156 bk o c xs sep w hcells hbk hN hcap hlen
def laysM171_ren:Ren:=⟨fun|171=>198|243=>222|246=>233|283=>241|284=>242|285=>243|286=>244|129=>250|317=>249|318=>251|319=>252|320=>253|337=>257|338=>258|n=>n,fun|3=>3|9=>9|2=>2|4=>4|171=>254|0=>0|53=>255|37=>122|5=>5|173=>258|212=>262|51=>263|20=>20|213=>264|46=>150|232=>270|233=>271|n=>n,fun|17=>1|18=>2|19=>3|n=>n⟩
theorem laysM171:LaysM.n171 prog laysM171_ren:=⟨⟨by kernel_rfl,k_ func250,k_ func198,k_ func222,k_ func233,k_ func241,k_ func242,k_ func243,k_ func244,k_ func249,k_ func251,k_ func252,k_ func253,k_ func257,k_ func258,underlying0,isAgg0,sizeOf0,zeroValue0,underlying2,isAgg2,sizeOf2,zeroValue2,underlying3,isAgg3,sizeOf3,zeroValue3,underlying4,isAgg4,sizeOf4,zeroValue4,underlying5,isAgg5,sizeOf5,zeroValue5,underlying9,isAgg9,sizeOf9,zeroValue9,underlying20,isAgg20,sizeOf20,zeroValue20,underlying122,isAgg122,sizeOf122,zeroValue122,underlying150,isAgg150,sizeOf150,zeroValue150,underlying263,isAgg263,sizeOf263,zeroValue263,underlying255,isAgg255,sizeOf255,zeroValue255,underlying254,isAgg254,sizeOf254,zeroValue254,underlying258,isAgg258,sizeOf258,zeroValue258,underlying262,isAgg262,sizeOf262,zeroValue262,underlying264,isAgg264,sizeOf264,underlying270,isAgg270,sizeOf270,zeroValue270,underlying271,isAgg271,sizeOf271,zeroValue271,by kernel_rfl,by kernel_rfl,by kernel_rfl⟩,by kernel_rfl,by kernel_rfl,by kernel_rfl,by kernel_rfl,by kernel_rfl,by kernel_rfl,by kernel_rfl,by kernel_rfl,by kernel_rfl,by kernel_rfl,by kernel_rfl,by kernel_rfl,by kernel_rfl,by kernel_rfl,by kernel_rfl,by kernel_rfl,by kernel_rfl,by kernel_rfl,by kernel_rfl⟩
theorem strconv_Itoa (n:Int) (h0:-9223372036854775808 ≤ n) (h1:n ≤ 9223372036854775807) (w:World) (htab:Lib.TabIs prog w "internal/strconv.uint64pow10" .u64 Lib.pow10Tab) :Calls prog 198 #[.int .i64 n] w fun e w'=>e = .returned (.string ⟨(Lib.itoa n).toArray⟩) ∧ ∃ k os,w' = grow (w.drewN k) os:=Any.strconv_Itoa laysM171 n h0 h1 w htab
end Go.Proofs.Tryz
