import Derived.Test.YtjegoeahhcieaaaGreatDoorCards
import Derived.Test.YtjegoeahhcieaaaGreatDoorTie
import Derived.Test.YtjegoeahhcieaaaGreatDoorImpl
import Derived.Test.YtjegoeahhcieaaaGreatDoorLibA
import Derived.Test.YtjegoeahhcieaaaGreatDoorLibB
import Derived.Test.YtjegoeahhcieaaaGreatDoorLibC
import Derived.WalkKit
import Derived.ProofKit
import Derived.OpenShut
import Derived.Deep.DeepHandedRow
import Derived.Lib.LaidTab
import Derived.JoinedCond
/-
  For every input the law HolesTogether returns true: the groups of aH are what the reference says.
  Conditions: none beyond the row's own: the package-level tables of Go's library that it lists start as the program's text lays them, and the card ties that to the text.
-/
namespace Go.Proofs.YtjegoeahhcieaaaGreatDoor.holesTogether
open Go.Ab Go.Ab.Lw Go.ChangeShapes Go.WideShapes Go.ChangeAt Go.RowKit

theorem law : ∀ cz, vk Tryz.prog Tryz.f3.params.toList cz → (aF AP).p 297 cz = some [.bool true] := by
  intro cz h
  rw [Tryz.params3] at h
  change vk Tryz.prog [3, 22, 22] cz at h
  match cz, h with
  | [q0, q1, q2], ⟨⟨n0, h0⟩, ⟨n1, h1⟩, ⟨n2, h2⟩, _⟩ =>
    obtain ⟨b, rfl⟩ := rU Tryz.underlying3 h0
    obtain ⟨L, rfl⟩ := mI Tryz.underlying22 Tryz.underlying3 h1
    obtain ⟨x, rfl⟩ := mI Tryz.underlying22 Tryz.underlying3 h2
    exact Tu b L x

theorem own : ownKnob Tryz.prog.godebug = none := by kernel_rfl
theorem laid : laidOutB Tryz.prog = true := by kernel_rfl
def pureT : List TypeId := [3, 22]

/-- The cells of a table. -/
def cellsD : DataW Unit → Array Value
  | .agg l => (l.map fun | .lit (.int k n) => Value.int k n | _ => .bool false).toArray
  | _ => #[]
/-- A variable's block holding what its initialiser lays. -/
def put (c : Array Value) : Obj → Obj
  | .cells _ t frozen => .cells c t frozen
  | o => o
/-- A world for the witness: the settled one, the listed tables laid. -/
noncomputable def laidWorld (os : Os) : World := { World.holding Tryz.prog os ⟨#[], #[], []⟩ with heap := ((((World.holding Tryz.prog os ⟨#[], #[], []⟩).heap.modify 0 (put (cellsD Rows.laid_internal_strconv_uint64pow10))).modify 1 (put (cellsD Rows.laid_math_bits_deBruijn32tab))).modify 2 (put (cellsD Rows.laid_math_bits_deBruijn64tab))) }
theorem laid_met (os : Os) : laidMet Tryz.prog Rows.holesTogetherRow.laid ((laidWorld os).forCall (fun _ _ => 0) ⟨#[], #[.int .i64 0, .slice none 0 0, .slice none 0 0], []⟩).memory :=
  laidMet_of_run' 8 (by kernel_rfl) (by kernel_rfl)
theorem reads (os : Os) {H : Type} (enc : TypeId × Value → H) : ∃ places, DataW.whole enc Tryz.prog ((laidWorld os).forCall (fun _ _ => 0) ⟨#[], #[.int .i64 0, .slice none 0 0, .slice none 0 0], []⟩).memory Tryz.f3.params.toList Rows.holesTogetherSpec.vars false ([.int .i64 0, .slice none 0 0, .slice none 0 0] : List Value) 8 = some ([.lit (.int .i64 0), .nil, .nil], [], places) :=
  ⟨[], by kernel_rfl⟩

set_option maxRecDepth 100000 in
theorem lifted (os : Os) (started : os.Started) (H : Type) (enc : TypeId × Value → H) (F : Stop.Interp) :
    ReturnsInHanded {} Tryz.checked os 3 .any ((OpenSpec.ofChange Rows.holesTogetherSpec).preRow enc Tryz.prog Tryz.f3 Rows.holesTogetherRow.domain false Rows.holesTogetherRow.laid) (((OpenSpec.ofChange Rows.holesTogetherSpec).at F).post enc Tryz.prog Tryz.f3 false true false false) := by
  obtain ⟨places, hx⟩ := reads os enc
  refine returnsInHanded_of_row (C := Tryz.checked) (s := OpenSpec.ofChange Rows.holesTogetherSpec) own started (by kernel_rfl) Tryz.func3
    (witness_row_at (enc := enc) (C := Tryz.checked) false (laidWorld os) #[.int .i64 0, .slice none 0 0, .slice none 0 0] rfl (by kernel_rfl) (by kernel_rfl) (by kernel_rfl)
      (OpenSpec.preRow_of_cond 8 hx (by kernel_rfl) (fun k hk => by cases hk) (by kernel_rfl) (laid_met os))) ?_
  intro W base args ds gs before hval hW _ _ _ hL _ _
  exact lE impl (g := 297) (T := pureT) (tb := 4) (by kernel_rfl) rfl (by kernel_rfl) Tryz.underlying4 laid (by rw [Tryz.params3]; decide +kernel) (by kernel_rfl) (by rw [Tryz.params3]; decide +kernel)
    (fun ds h => by rw [Tryz.params3] at h; match ds, h with | [_, _, _], _ => rfl) law W base args ds gs before hval hW (tY (g := 0) (t := 261) (e := 255) (by kernel_rfl) (by kernel_rfl) Tryz.underlying261 Tryz.underlying255 (by kernel_rfl) (by kernel_rfl) (by kernel_rfl) hL)

theorem said : Rows.HolesTogetherSaid :=
  OpenClaim.holds_of_cond 3 Tryz.f3 rfl rfl rfl rfl rfl rfl rfl ⟨rfl, rfl, rfl, rfl, rfl⟩ rfl rfl rfl rfl rfl (by kernel_rfl) Tryz.func3 (by kernel_rfl)
    (of_decide_eq_true (by kernel_rfl)) (by unfold Func.isWrapper; first | (rw [if_pos (by decide +kernel)]; kernel_rfl) | (rw [if_neg (by decide +kernel)]; exact ⟨rfl, rfl⟩))
    (fun os started H enc _ F => by rw [OpenClaim.pre_eq_preRow]; exact lifted os started H enc F)

/-- No parameter wants a stand-in; the program's own looks are off. -/
theorem plain (f : FuncId) (fn : Func) (hf : Tryz.pinned.checked.prog.funcNamed Rows.holesTogetherRow.func = some f) (hfn : Tryz.pinned.checked.prog.funcs[f]? = some fn) :
    false = Tryz.pinned.checked.prog.looks [] ∧ ∀ (j : Nat) t, fn.params[j]? = some t → Tryz.pinned.checked.prog.wantsStandIn t = false := by
  obtain rfl : f = 3 := Option.some.inj ((show Tryz.prog.funcNamed Rows.holesTogetherRow.func = some 3 by kernel_rfl).symm.trans hf) |>.symm
  obtain rfl : fn = Tryz.f3 := (Option.some.inj (Tryz.func3.symm.trans hfn)).symm
  refine ⟨by kernel_rfl, fun j t ht => ?_⟩
  rw [Tryz.params3] at ht
  have hm : t ∈ ([3, 22, 22] : List Nat) := by simpa using Array.mem_of_getElem? ht
  have ha : ∀ t ∈ ([3, 22, 22] : List Nat), Tryz.prog.wantsStandIn t = false := by decide +kernel
  exact ha t hm

/-- **The card.** -/
theorem proved : Rows.HolesTogetherCardSaid :=
  Claim7.holds_tied_plain_at .later [] _ _ _ _ said (fun _ h => by cases h) (by kernel_rfl) (fun _ h => by cases h) holesTogether_row_tie rfl ⟨rfl, rfl⟩ (by kernel_rfl) rfl plain (by kernel_rfl)
end Go.Proofs.YtjegoeahhcieaaaGreatDoor.holesTogether
