import Derived.Test.YtcjggpmnbcfedaaDoorCards
import Derived.Test.YtcjggpmnbcfedaaDoorTie
import Derived.Test.YtcjggpmnbcfedaaDoorImpl
import Derived.Test.YtcjggpmnbcfedaaDoorLibA
import Derived.WalkKit
import Derived.ProofKit
import Derived.OpenShut
import Derived.Deep.DeepHandedRow
import Derived.Lib.LaidTab
import Derived.JoinedCond
/-
  For every input the law ShowLetters returns true: the letter with a number is what the reference says.
  Conditions: none beyond the row's own: the package-level tables of Go's library that it lists start as the program's text lays them, and the card ties that to the text.
-/
namespace Go.Proofs.YtcjggpmnbcfedaaDoor.showLetters
open Go.Ab Go.Ab.Lw Go.ChangeShapes Go.WideShapes Go.ChangeAt Go.RowKit

theorem law : ∀ cv, wM Tryd.prog Tryd.f3.params.toList cv → (bQ AP).p 241 cv = some [.bool true] := by
  intro cv h
  rw [Tryd.params3] at h
  change wM Tryd.prog [3] cv at h
  match cv, h with
  | [q0], ⟨⟨n0, h0⟩, _⟩ =>
    obtain ⟨x, xR, rfl⟩ := yW Tryd.underlying3 h0
    exact Bp x xR

theorem own : ownKnob Tryd.prog.godebug = none := by kernel_rfl
theorem laid : laidOutB Tryd.prog = true := by kernel_rfl
def pureT : List TypeId := [3]

/-- The cells of a table. -/
def cellsD : DataW Unit → Array Value
  | .agg l => (l.map fun | .lit (.int k n) => Value.int k n | _ => .bool false).toArray
  | _ => #[]
/-- A variable's block holding what its initialiser lays. -/
def put (c : Array Value) : Obj → Obj
  | .cells _ t frozen => .cells c t frozen
  | o => o
/-- A world for the witness: the settled one, the listed tables laid. -/
noncomputable def laidWorld (os : Os) : World := { World.holding Tryd.prog os ⟨#[], #[], []⟩ with heap := ((((World.holding Tryd.prog os ⟨#[], #[], []⟩).heap.modify 0 (put (cellsD Rows.laid_internal_strconv_uint64pow10))).modify 2 (put (cellsD Rows.laid_math_bits_deBruijn32tab))).modify 3 (put (cellsD Rows.laid_math_bits_deBruijn64tab))) }
theorem laid_met (os : Os) : laidMet Tryd.prog Rows.showLettersRow.laid ((laidWorld os).forCall (fun _ _ => 0) ⟨#[], #[.int .i64 0], []⟩).memory :=
  laidMet_of_run' 8 (by kernel_rfl) (by kernel_rfl)
theorem reads (os : Os) {H : Type} (enc : TypeId × Value → H) : ∃ places, DataW.whole enc Tryd.prog ((laidWorld os).forCall (fun _ _ => 0) ⟨#[], #[.int .i64 0], []⟩).memory Tryd.f3.params.toList Rows.showLettersSpec.vars false ([.int .i64 0] : List Value) 8 = some ([.lit (.int .i64 0)], [], places) :=
  ⟨[], by kernel_rfl⟩

set_option maxRecDepth 100000 in
theorem lifted (os : Os) (started : os.Started) (H : Type) (enc : TypeId × Value → H) (F : Stop.Interp) :
    ReturnsInHanded {} Tryd.checked os 3 .any ((OpenSpec.ofChange Rows.showLettersSpec).preRow enc Tryd.prog Tryd.f3 Rows.showLettersRow.domain false Rows.showLettersRow.laid) (((OpenSpec.ofChange Rows.showLettersSpec).at F).post enc Tryd.prog Tryd.f3 false true false false) := by
  obtain ⟨places, hx⟩ := reads os enc
  refine returnsInHanded_of_row (C := Tryd.checked) (s := OpenSpec.ofChange Rows.showLettersSpec) own started (by kernel_rfl) Tryd.func3
    (witness_row_at (enc := enc) (C := Tryd.checked) false (laidWorld os) #[.int .i64 0] rfl (by kernel_rfl) (by kernel_rfl) (by kernel_rfl)
      (OpenSpec.preRow_of_cond 8 hx (by kernel_rfl) (fun k hk => by cases hk) (by kernel_rfl) (laid_met os))) ?_
  intro W base args ds gs before hval hW _ _ _ hL _ _
  exact oG impl (g := 241) (T := pureT) (tb := 4) (by kernel_rfl) rfl (by kernel_rfl) Tryd.underlying4 laid (by rw [Tryd.params3]; decide +kernel) (by kernel_rfl) (by rw [Tryd.params3]; decide +kernel)
    (fun ds h => by rw [Tryd.params3] at h; match ds, h with | [_], _ => rfl) law W base args ds gs before hval hW (yO (g := 0) (t := 134) (e := 127) (by kernel_rfl) (by kernel_rfl) Tryd.underlying134 Tryd.underlying127 (by kernel_rfl) (by kernel_rfl) (by kernel_rfl) hL)

theorem said : Rows.ShowLettersSaid :=
  OpenClaim.holds_of_cond 3 Tryd.f3 rfl rfl rfl rfl rfl rfl rfl ⟨rfl, rfl, rfl, rfl, rfl⟩ rfl rfl rfl rfl rfl (by kernel_rfl) Tryd.func3 (by kernel_rfl)
    (of_decide_eq_true (by kernel_rfl)) (by unfold Func.isWrapper; first | (rw [if_pos (by decide +kernel)]; kernel_rfl) | (rw [if_neg (by decide +kernel)]; exact ⟨rfl, rfl⟩))
    (fun os started H enc _ F => by rw [OpenClaim.pre_eq_preRow]; exact lifted os started H enc F)

/-- No parameter wants a stand-in; the program's own looks are off. -/
theorem plain (f : FuncId) (fn : Func) (hf : Tryd.pinned.checked.prog.funcNamed Rows.showLettersRow.func = some f) (hfn : Tryd.pinned.checked.prog.funcs[f]? = some fn) :
    false = Tryd.pinned.checked.prog.looks [] ∧ ∀ (j : Nat) t, fn.params[j]? = some t → Tryd.pinned.checked.prog.wantsStandIn t = false := by
  obtain rfl : f = 3 := Option.some.inj ((show Tryd.prog.funcNamed Rows.showLettersRow.func = some 3 by kernel_rfl).symm.trans hf) |>.symm
  obtain rfl : fn = Tryd.f3 := (Option.some.inj (Tryd.func3.symm.trans hfn)).symm
  refine ⟨by kernel_rfl, fun j t ht => ?_⟩
  rw [Tryd.params3] at ht
  have hm : t ∈ ([3] : List Nat) := by simpa using Array.mem_of_getElem? ht
  have ha : ∀ t ∈ ([3] : List Nat), Tryd.prog.wantsStandIn t = false := by decide +kernel
  exact ha t hm

/-- **The card.** -/
theorem proved : Rows.ShowLettersCardSaid :=
  Claim7.holds_tied_plain_at .later [] _ _ _ _ said (fun _ h => by cases h) (by kernel_rfl) (fun _ h => by cases h) showLetters_row_tie rfl ⟨rfl, rfl⟩ (by kernel_rfl) rfl plain (by kernel_rfl)
end Go.Proofs.YtcjggpmnbcfedaaDoor.showLetters
