import Derived.Test.YtnncaaakhfaacaaCodeB
import Derived.Test.YtnncaaakhfaacaaLM
import Derived.Test.YtnncaaakhfaacaaAbForce
import Derived.KernelRfl
/-
  The data declarations that programs are made of: what the reader makes of their text.
-/
set_option linter.unusedVariables false
set_option linter.unusedSimpArgs false
namespace Go.Ab.Lw
set_option maxRecDepth 100000
set_option linter.unusedVariables false
def srcD : List UInt8 := [100, 97, 116, 97, 32, 66, 111, 111, 108, 32, 61, 32, 84, 114, 117, 101, 32, 124, 32, 70, 97, 108, 115, 101, 59, 32, 100, 97, 116, 97, 32, 79, 112, 116, 105, 111, 110, 32, 97, 32, 61, 32, 78, 111, 110, 101, 32, 124, 32, 83, 111, 109, 101, 32, 97, 59, 32, 100, 97, 116, 97, 32, 76, 105, 115, 116, 32, 97, 32, 61, 32, 78, 105, 108, 32, 124, 32, 67, 111, 110, 115, 32, 97, 32, 40, 76, 105, 115, 116, 32, 97, 41, 59, 100, 97, 116, 97, 32, 80, 97, 105, 114, 32, 97, 32, 98, 32, 61, 32, 80, 97, 105, 114, 32, 97, 32, 98, 59, 32, 100, 97, 116, 97, 32, 78, 97, 116, 32, 61, 32, 90, 101, 114, 111, 32, 124, 32, 83, 117, 99, 99, 32, 78, 97, 116, 59, 32, 100, 97, 116, 97, 32, 70, 117, 110, 32, 97, 32, 98, 32, 61, 32, 70, 117, 110, 32, 40, 97, 32, 45, 62, 32, 98, 41, 59, 32, 100, 97, 116, 97, 32, 84, 119, 111, 32, 97, 32, 61, 32, 66, 111, 116, 104, 32, 97, 32, 97, 32, 124, 32, 79, 110, 101, 32, 40, 79, 112, 116, 105, 111, 110, 32, 97, 41, 59]
def toksD : List PV := [.lst [.agg [.int .i64 4, .str [100, 97, 116, 97], .int .i64 0], .agg [.int .i64 2, .str [66, 111, 111, 108], .int .i64 5], .agg [.int .i64 5, .str [61], .int .i64 10], .agg [.int .i64 2, .str [84, 114, 117, 101], .int .i64 12], .agg [.int .i64 5, .str [124], .int .i64 17], .agg [.int .i64 2, .str [70, 97, 108, 115, 101], .int .i64 19], .agg [.int .i64 5, .str [59], .int .i64 24], .agg [.int .i64 4, .str [100, 97, 116, 97], .int .i64 26], .agg [.int .i64 2, .str [79, 112, 116, 105, 111, 110], .int .i64 31], .agg [.int .i64 1, .str [97], .int .i64 38], .agg [.int .i64 5, .str [61], .int .i64 40], .agg [.int .i64 2, .str [78, 111, 110, 101], .int .i64 42], .agg [.int .i64 5, .str [124], .int .i64 47], .agg [.int .i64 2, .str [83, 111, 109, 101], .int .i64 49], .agg [.int .i64 1, .str [97], .int .i64 54], .agg [.int .i64 5, .str [59], .int .i64 55], .agg [.int .i64 4, .str [100, 97, 116, 97], .int .i64 57], .agg [.int .i64 2, .str [76, 105, 115, 116], .int .i64 62], .agg [.int .i64 1, .str [97], .int .i64 67], .agg [.int .i64 5, .str [61], .int .i64 69], .agg [.int .i64 2, .str [78, 105, 108], .int .i64 71], .agg [.int .i64 5, .str [124], .int .i64 75], .agg [.int .i64 2, .str [67, 111, 110, 115], .int .i64 77], .agg [.int .i64 1, .str [97], .int .i64 82], .agg [.int .i64 5, .str [40], .int .i64 84], .agg [.int .i64 2, .str [76, 105, 115, 116], .int .i64 85], .agg [.int .i64 1, .str [97], .int .i64 90], .agg [.int .i64 5, .str [41], .int .i64 91], .agg [.int .i64 5, .str [59], .int .i64 92], .agg [.int .i64 4, .str [100, 97, 116, 97], .int .i64 93], .agg [.int .i64 2, .str [80, 97, 105, 114], .int .i64 98], .agg [.int .i64 1, .str [97], .int .i64 103], .agg [.int .i64 1, .str [98], .int .i64 105], .agg [.int .i64 5, .str [61], .int .i64 107], .agg [.int .i64 2, .str [80, 97, 105, 114], .int .i64 109], .agg [.int .i64 1, .str [97], .int .i64 114], .agg [.int .i64 1, .str [98], .int .i64 116], .agg [.int .i64 5, .str [59], .int .i64 117], .agg [.int .i64 4, .str [100, 97, 116, 97], .int .i64 119], .agg [.int .i64 2, .str [78, 97, 116], .int .i64 124], .agg [.int .i64 5, .str [61], .int .i64 128], .agg [.int .i64 2, .str [90, 101, 114, 111], .int .i64 130], .agg [.int .i64 5, .str [124], .int .i64 135], .agg [.int .i64 2, .str [83, 117, 99, 99], .int .i64 137], .agg [.int .i64 2, .str [78, 97, 116], .int .i64 142], .agg [.int .i64 5, .str [59], .int .i64 145], .agg [.int .i64 4, .str [100, 97, 116, 97], .int .i64 147], .agg [.int .i64 2, .str [70, 117, 110], .int .i64 152], .agg [.int .i64 1, .str [97], .int .i64 156], .agg [.int .i64 1, .str [98], .int .i64 158], .agg [.int .i64 5, .str [61], .int .i64 160], .agg [.int .i64 2, .str [70, 117, 110], .int .i64 162], .agg [.int .i64 5, .str [40], .int .i64 166], .agg [.int .i64 1, .str [97], .int .i64 167], .agg [.int .i64 5, .str [45, 62], .int .i64 169], .agg [.int .i64 1, .str [98], .int .i64 172], .agg [.int .i64 5, .str [41], .int .i64 173], .agg [.int .i64 5, .str [59], .int .i64 174], .agg [.int .i64 4, .str [100, 97, 116, 97], .int .i64 176], .agg [.int .i64 2, .str [84, 119, 111], .int .i64 181], .agg [.int .i64 1, .str [97], .int .i64 185], .agg [.int .i64 5, .str [61], .int .i64 187], .agg [.int .i64 2, .str [66, 111, 116, 104], .int .i64 189], .agg [.int .i64 1, .str [97], .int .i64 194], .agg [.int .i64 1, .str [97], .int .i64 196], .agg [.int .i64 5, .str [124], .int .i64 198], .agg [.int .i64 2, .str [79, 110, 101], .int .i64 200], .agg [.int .i64 5, .str [40], .int .i64 204], .agg [.int .i64 2, .str [79, 112, 116, 105, 111, 110], .int .i64 205], .agg [.int .i64 1, .str [97], .int .i64 212], .agg [.int .i64 5, .str [41], .int .i64 213], .agg [.int .i64 5, .str [59], .int .i64 214]], .agg [.int .i64 0, .int .i64 0]]

/-- All data declarations. -/
def allDatas : List Dt := [⟨0, [66, 111, 111, 108], [], [⟨12, [84, 114, 117, 101], []⟩, ⟨19, [70, 97, 108, 115, 101], []⟩]⟩,
  ⟨26, [79, 112, 116, 105, 111, 110], [[97]], [⟨42, [78, 111, 110, 101], []⟩, ⟨49, [83, 111, 109, 101], [⟨5, [97], 0, 0, []⟩]⟩]⟩,
  ⟨57, [76, 105, 115, 116], [[97]], [⟨71, [78, 105, 108], []⟩, ⟨77, [67, 111, 110, 115], [⟨5, [97], 0, 0, []⟩,⟨4, [76, 105, 115, 116], 0, 0, [⟨5, [97], 0, 0, []⟩]⟩]⟩]⟩,
  ⟨93, [80, 97, 105, 114], [[97], [98]], [⟨109, [80, 97, 105, 114], [⟨5, [97], 0, 0, []⟩,⟨5, [98], 0, 0, []⟩]⟩]⟩,
  ⟨119, [78, 97, 116], [], [⟨130, [90, 101, 114, 111], []⟩, ⟨137, [83, 117, 99, 99], [⟨4, [78, 97, 116], 0, 0, []⟩]⟩]⟩,
  ⟨147, [70, 117, 110], [[97], [98]], [⟨162, [70, 117, 110], [⟨4, [45, 62], 0, 0, [⟨5, [97], 0, 0, []⟩, ⟨5, [98], 0, 0, []⟩]⟩]⟩]⟩,
  ⟨176, [84, 119, 111], [[97]], [⟨189, [66, 111, 116, 104], [⟨5, [97], 0, 0, []⟩,⟨5, [97], 0, 0, []⟩]⟩, ⟨200, [79, 110, 101], [⟨4, [79, 112, 116, 105, 111, 110], 0, 0, [⟨5, [97], 0, 0, []⟩]⟩]⟩]⟩]

theorem scanD : (orcL AP).p 118 [.str srcD] = some toksD := Fc.p_of (k := 400) (n := 20) (by kernel_rfl)

def ovD (g : Nat) (x : List PV) : Option (List PV) := match g, x with
  | 118, [.str s] => if s = srcD then some toksD else none
  | _, _ => none
theorem ovD_ok : ∀ g x r, ovD g x = some r → (orcL AP).p g x = some r := by
  intro g x r h
  unfold ovD at h
  split at h
  · split at h
    · rename_i e; subst e; cases h; exact scanD
    · cases h
  · cases h

theorem c79 : (orcL AP).p 79 [] = some [.lst (allDatas.map Dt.pv)] := Fc.p_ofX (k := 400) (n := 40) ovD_ok (by kernel_rfl)
end Go.Ab.Lw

