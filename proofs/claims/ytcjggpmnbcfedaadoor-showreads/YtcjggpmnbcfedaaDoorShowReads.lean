import Derived.Test.YtcjggpmnbcfedaaDoorCards
import Derived.Test.YtcjggpmnbcfedaaDoorTie
import Derived.Test.YtcjggpmnbcfedaaDoorImpl
import Derived.Test.YtcjggpmnbcfedaaDoorLibA
import Derived.WalkKit
import Derived.ProofKit
import Derived.OpenShut
import Derived.Deep.DeepHandedRow
import Derived.Lib.LaidTab
import Derived.JoinedCond
/-
  For every input the law ShowReads returns true: what the texts of made expressions and types say is read again as these, and equal texts are of equal expressions.
  Conditions: none beyond the row's own: the package-level tables of Go's library that it lists start as the program's text lays them, and the card ties that to the text.
-/
namespace Go.Proofs.YtcjggpmnbcfedaaDoor.showReads
open Go.Ab Go.Ab.Lw Go.ChangeShapes Go.WideShapes Go.ChangeAt Go.RowKit

theorem law : ∀ bZ, zx Tryd.prog Tryd.f5.params.toList bZ → (aD AP).p 243 bZ = some [.bool true] := by
  intro bZ h
  rw [Tryd.params5] at h
  change zx Tryd.prog [3, 26] bZ at h
  match bZ, h with
  | [q0, q1], ⟨⟨n0, h0⟩, ⟨n1, h1⟩, _⟩ =>
    obtain ⟨b, rfl⟩ := wR Tryd.underlying3 h0
    obtain ⟨L, rfl⟩ := BU Tryd.underlying26 Tryd.underlying3 h1
    exact Fq b L

theorem own : ownKnob Tryd.prog.godebug = none := by kernel_rfl
theorem laid : laidOutB Tryd.prog = true := by kernel_rfl
def pureT : List TypeId := [3, 26]

/-- The cells of a table. -/
def cellsD : DataW Unit → Array Value
  | .agg l => (l.map fun | .lit (.int k n) => Value.int k n | _ => .bool false).toArray
  | _ => #[]
/-- A variable's block holding what its initialiser lays. -/
def put (c : Array Value) : Obj → Obj
  | .cells _ t frozen => .cells c t frozen
  | o => o
/-- A world for the witness: the settled one, the listed tables laid. -/
noncomputable def laidWorld (os : Os) : World := { World.holding Tryd.prog os ⟨#[], #[], []⟩ with heap := ((((World.holding Tryd.prog os ⟨#[], #[], []⟩).heap.modify 0 (put (cellsD Rows.laid_internal_strconv_uint64pow10))).modify 2 (put (cellsD Rows.laid_math_bits_deBruijn32tab))).modify 3 (put (cellsD Rows.laid_math_bits_deBruijn64tab))) }
theorem laid_met (os : Os) : laidMet Tryd.prog Rows.showReadsRow.laid ((laidWorld os).forCall (fun _ _ => 0) ⟨#[], #[.int .i64 0, .slice none 0 0], []⟩).memory :=
  laidMet_of_run' 8 (by kernel_rfl) (by kernel_rfl)
theorem reads (os : Os) {H : Type} (enc : TypeId × Value → H) : ∃ places, DataW.whole enc Tryd.prog ((laidWorld os).forCall (fun _ _ => 0) ⟨#[], #[.int .i64 0, .slice none 0 0], []⟩).memory Tryd.f5.params.toList Rows.showReadsSpec.vars false ([.int .i64 0, .slice none 0 0] : List Value) 8 = some ([.lit (.int .i64 0), .nil], [], places) :=
  ⟨[], by kernel_rfl⟩

set_option maxRecDepth 100000 in
theorem lifted (os : Os) (started : os.Started) (H : Type) (enc : TypeId × Value → H) (F : Stop.Interp) :
    ReturnsInHanded {} Tryd.checked os 5 .any ((OpenSpec.ofChange Rows.showReadsSpec).preRow enc Tryd.prog Tryd.f5 Rows.showReadsRow.domain false Rows.showReadsRow.laid) (((OpenSpec.ofChange Rows.showReadsSpec).at F).post enc Tryd.prog Tryd.f5 false true false false) := by
  obtain ⟨places, hx⟩ := reads os enc
  refine returnsInHanded_of_row (C := Tryd.checked) (s := OpenSpec.ofChange Rows.showReadsSpec) own started (by kernel_rfl) Tryd.func5
    (witness_row_at (enc := enc) (C := Tryd.checked) false (laidWorld os) #[.int .i64 0, .slice none 0 0] rfl (by kernel_rfl) (by kernel_rfl) (by kernel_rfl)
      (OpenSpec.preRow_of_cond 8 hx (by kernel_rfl) (fun k hk => by cases hk) (by kernel_rfl) (laid_met os))) ?_
  intro W base args ds gs before hval hW _ _ _ hL _ _
  exact qa impl (g := 243) (T := pureT) (tb := 4) (by kernel_rfl) rfl (by kernel_rfl) Tryd.underlying4 laid (by rw [Tryd.params5]; decide +kernel) (by kernel_rfl) (by rw [Tryd.params5]; decide +kernel)
    (fun ds h => by rw [Tryd.params5] at h; match ds, h with | [_, _], _ => rfl) law W base args ds gs before hval hW (BP (g := 0) (t := 134) (e := 127) (by kernel_rfl) (by kernel_rfl) Tryd.underlying134 Tryd.underlying127 (by kernel_rfl) (by kernel_rfl) (by kernel_rfl) hL)

theorem said : Rows.ShowReadsSaid :=
  OpenClaim.holds_of_cond 5 Tryd.f5 rfl rfl rfl rfl rfl rfl rfl ⟨rfl, rfl, rfl, rfl, rfl⟩ rfl rfl rfl rfl rfl (by kernel_rfl) Tryd.func5 (by kernel_rfl)
    (of_decide_eq_true (by kernel_rfl)) (by unfold Func.isWrapper; first | (rw [if_pos (by decide +kernel)]; kernel_rfl) | (rw [if_neg (by decide +kernel)]; exact ⟨rfl, rfl⟩))
    (fun os started H enc _ F => by rw [OpenClaim.pre_eq_preRow]; exact lifted os started H enc F)

/-- No parameter wants a stand-in; the program's own looks are off. -/
theorem plain (f : FuncId) (fn : Func) (hf : Tryd.pinned.checked.prog.funcNamed Rows.showReadsRow.func = some f) (hfn : Tryd.pinned.checked.prog.funcs[f]? = some fn) :
    false = Tryd.pinned.checked.prog.looks [] ∧ ∀ (j : Nat) t, fn.params[j]? = some t → Tryd.pinned.checked.prog.wantsStandIn t = false := by
  obtain rfl : f = 5 := Option.some.inj ((show Tryd.prog.funcNamed Rows.showReadsRow.func = some 5 by kernel_rfl).symm.trans hf) |>.symm
  obtain rfl : fn = Tryd.f5 := (Option.some.inj (Tryd.func5.symm.trans hfn)).symm
  refine ⟨by kernel_rfl, fun j t ht => ?_⟩
  rw [Tryd.params5] at ht
  have hm : t ∈ ([3, 26] : List Nat) := by simpa using Array.mem_of_getElem? ht
  have ha : ∀ t ∈ ([3, 26] : List Nat), Tryd.prog.wantsStandIn t = false := by decide +kernel
  exact ha t hm

/-- **The card.** -/
theorem proved : Rows.ShowReadsCardSaid :=
  Claim7.holds_tied_plain_at .later [] _ _ _ _ said (fun _ h => by cases h) (by kernel_rfl) (fun _ h => by cases h) showReads_row_tie rfl ⟨rfl, rfl⟩ (by kernel_rfl) rfl plain (by kernel_rfl)
end Go.Proofs.YtcjggpmnbcfedaaDoor.showReads
