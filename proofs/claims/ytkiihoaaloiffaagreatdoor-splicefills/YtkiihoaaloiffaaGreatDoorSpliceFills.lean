import Derived.Test.YtkiihoaaloiffaaGreatDoorCards
import Derived.Test.YtkiihoaaloiffaaGreatDoorTie
import Derived.Test.YtkiihoaaloiffaaGreatDoorImpl
import Derived.Test.YtkiihoaaloiffaaGreatDoorLibA
import Derived.Test.YtkiihoaaloiffaaGreatDoorLibB
import Derived.Test.YtkiihoaaloiffaaGreatDoorLibC
import Derived.Test.YtkiihoaaloiffaaGreatDoorLibD
import Derived.WalkKit
import Derived.ProofKit
import Derived.OpenShut
import Derived.Deep.DeepHandedRow
import Derived.Lib.LaidTab
import Derived.JoinedCond
/-
  For every input the law SpliceFills returns true: the program, or the error, of putting any expression into any hole is what the reference says.
  Conditions: none beyond the row's own: the package-level tables of Go's library that it lists start as the program's text lays them, and the card ties that to the text.
-/
namespace Go.Proofs.YtkiihoaaloiffaaGreatDoor.spliceFills
open Go.Ab Go.Ab.Lw Go.ChangeShapes Go.WideShapes Go.ChangeAt Go.RowKit

theorem law : ∀ dN, L3 Tryz.prog Tryz.f3.params.toList dN → (az AP).p 526 dN = some [.bool true] := by
  intro dN h
  rw [Tryz.params3] at h
  change L3 Tryz.prog [3, 22, 3, 3, 22, 29] dN at h
  match dN, h with
  | [q0, q1, q2, q3, q4, q5], ⟨⟨n0, h0⟩, ⟨n1, h1⟩, ⟨n2, h2⟩, ⟨n3, h3⟩, ⟨n4, h4⟩, ⟨n5, h5⟩, _⟩ =>
    obtain ⟨b, rfl⟩ := iS Tryz.underlying3 h0
    obtain ⟨L, rfl⟩ := C_ Tryz.underlying22 Tryz.underlying3 h1
    obtain ⟨w, rfl⟩ := iS Tryz.underlying3 h2
    obtain ⟨x, xR, rfl⟩ := Ph Tryz.underlying3 h3
    obtain ⟨m, rfl⟩ := C_ Tryz.underlying22 Tryz.underlying3 h4
    obtain ⟨r, rfl, rn⟩ := A5 Tryz.underlying3 Tryz.underlying9 Tryz.underlying25 Tryz.underlying27 Tryz.underlying23 Tryz.underlying24 Tryz.underlying50 Tryz.underlying29 Tryz.underlying70 rfl rfl rfl rfl rfl rfl rfl rfl rfl rfl rfl rfl rfl rfl rfl rfl n5 q5 h5
    exact Xw b L w x m r xR rn

theorem own : ownKnob Tryz.prog.godebug = none := by kernel_rfl
theorem laid : laidOutB Tryz.prog = true := by kernel_rfl
def pureT : List TypeId := [3, 9, 22, 23, 24, 25, 27, 29, 50, 70]

/-- The cells of a table. -/
def cellsD : DataW Unit → Array Value
  | .agg l => (l.map fun | .lit (.int k n) => Value.int k n | _ => .bool false).toArray
  | _ => #[]
/-- A variable's block holding what its initialiser lays. -/
def put (c : Array Value) : Obj → Obj
  | .cells _ t frozen => .cells c t frozen
  | o => o
/-- A world for the witness: the settled one, the listed tables laid. -/
noncomputable def laidWorld (os : Os) : World := { World.holding Tryz.prog os ⟨#[], #[], []⟩ with heap := ((((World.holding Tryz.prog os ⟨#[], #[], []⟩).heap.modify 1 (put (cellsD Rows.laid_internal_strconv_uint64pow10))).modify 2 (put (cellsD Rows.laid_math_bits_deBruijn32tab))).modify 3 (put (cellsD Rows.laid_math_bits_deBruijn64tab))) }
theorem laid_met (os : Os) : laidMet Tryz.prog Rows.spliceFillsRow.laid ((laidWorld os).forCall (fun _ _ => 0) ⟨#[], #[.int .i64 0, .slice none 0 0, .int .i64 0, .int .i64 0, .slice none 0 0, .agg #[.int .i64 0, .int .i64 0, .string ⟨#[]⟩, .int .i64 0, .slice none 0 0, .slice none 0 0, .int .i64 0, .string ⟨#[]⟩, .int .i64 0, .int .i64 0, .slice none 0 0]], []⟩).memory :=
  laidMet_of_run' 8 (by kernel_rfl) (by kernel_rfl)
theorem reads (os : Os) {H : Type} (enc : TypeId × Value → H) : ∃ places, DataW.whole enc Tryz.prog ((laidWorld os).forCall (fun _ _ => 0) ⟨#[], #[.int .i64 0, .slice none 0 0, .int .i64 0, .int .i64 0, .slice none 0 0, .agg #[.int .i64 0, .int .i64 0, .string ⟨#[]⟩, .int .i64 0, .slice none 0 0, .slice none 0 0, .int .i64 0, .string ⟨#[]⟩, .int .i64 0, .int .i64 0, .slice none 0 0]], []⟩).memory Tryz.f3.params.toList Rows.spliceFillsSpec.vars false ([.int .i64 0, .slice none 0 0, .int .i64 0, .int .i64 0, .slice none 0 0, .agg #[.int .i64 0, .int .i64 0, .string ⟨#[]⟩, .int .i64 0, .slice none 0 0, .slice none 0 0, .int .i64 0, .string ⟨#[]⟩, .int .i64 0, .int .i64 0, .slice none 0 0]] : List Value) 8 = some ([.lit (.int .i64 0), .nil, .lit (.int .i64 0), .lit (.int .i64 0), .nil, .agg [.lit (.int .i64 0), .lit (.int .i64 0), .lit (.string []), .lit (.int .i64 0), .nil, .nil, .agg [.lit (.int .i64 0), .lit (.string []), .lit (.int .i64 0), .lit (.int .i64 0), .nil]]], [], places) :=
  ⟨[], by kernel_rfl⟩

set_option maxRecDepth 100000 in
theorem lifted (os : Os) (started : os.Started) (H : Type) (enc : TypeId × Value → H) (F : Stop.Interp) :
    ReturnsInHanded {} Tryz.checked os 3 .any ((OpenSpec.ofChange Rows.spliceFillsSpec).preRow enc Tryz.prog Tryz.f3 Rows.spliceFillsRow.domain false Rows.spliceFillsRow.laid) (((OpenSpec.ofChange Rows.spliceFillsSpec).at F).post enc Tryz.prog Tryz.f3 false true false false) := by
  obtain ⟨places, hx⟩ := reads os enc
  refine returnsInHanded_of_row (C := Tryz.checked) (s := OpenSpec.ofChange Rows.spliceFillsSpec) own started (by kernel_rfl) Tryz.func3
    (witness_row_at (enc := enc) (C := Tryz.checked) false (laidWorld os) #[.int .i64 0, .slice none 0 0, .int .i64 0, .int .i64 0, .slice none 0 0, .agg #[.int .i64 0, .int .i64 0, .string ⟨#[]⟩, .int .i64 0, .slice none 0 0, .slice none 0 0, .int .i64 0, .string ⟨#[]⟩, .int .i64 0, .int .i64 0, .slice none 0 0]] rfl (by kernel_rfl) (by kernel_rfl) (by kernel_rfl)
      (OpenSpec.preRow_of_cond 8 hx (by kernel_rfl) (fun k hk => by cases hk) (by kernel_rfl) (laid_met os))) ?_
  intro W base args ds gs before hval hW _ _ _ hL _ _
  exact z6 impl (g := 526) (T := pureT) (tb := 4) (by kernel_rfl) rfl (by kernel_rfl) Tryz.underlying4 laid (by rw [Tryz.params3]; decide +kernel) (by kernel_rfl) (by rw [Tryz.params3]; decide +kernel)
    (fun ds h => by rw [Tryz.params3] at h; match ds, h with | [_, _, _, _, _, _], _ => rfl) law W base args ds gs before hval hW (O1 (g := 1) (t := 262) (e := 255) (by kernel_rfl) (by kernel_rfl) Tryz.underlying262 Tryz.underlying255 (by kernel_rfl) (by kernel_rfl) (by kernel_rfl) hL)

theorem said : Rows.SpliceFillsSaid :=
  OpenClaim.holds_of_cond 3 Tryz.f3 rfl rfl rfl rfl rfl rfl rfl ⟨rfl, rfl, rfl, rfl, rfl⟩ rfl rfl rfl rfl rfl (by kernel_rfl) Tryz.func3 (by kernel_rfl)
    (of_decide_eq_true (by kernel_rfl)) (by unfold Func.isWrapper; first | (rw [if_pos (by decide +kernel)]; kernel_rfl) | (rw [if_neg (by decide +kernel)]; exact ⟨rfl, rfl⟩))
    (fun os started H enc _ F => by rw [OpenClaim.pre_eq_preRow]; exact lifted os started H enc F)

/-- No parameter wants a stand-in; the program's own looks are off. -/
theorem plain (f : FuncId) (fn : Func) (hf : Tryz.pinned.checked.prog.funcNamed Rows.spliceFillsRow.func = some f) (hfn : Tryz.pinned.checked.prog.funcs[f]? = some fn) :
    false = Tryz.pinned.checked.prog.looks [] ∧ ∀ (j : Nat) t, fn.params[j]? = some t → Tryz.pinned.checked.prog.wantsStandIn t = false := by
  obtain rfl : f = 3 := Option.some.inj ((show Tryz.prog.funcNamed Rows.spliceFillsRow.func = some 3 by kernel_rfl).symm.trans hf) |>.symm
  obtain rfl : fn = Tryz.f3 := (Option.some.inj (Tryz.func3.symm.trans hfn)).symm
  refine ⟨by kernel_rfl, fun j t ht => ?_⟩
  rw [Tryz.params3] at ht
  have hm : t ∈ ([3, 22, 3, 3, 22, 29] : List Nat) := by simpa using Array.mem_of_getElem? ht
  have ha : ∀ t ∈ ([3, 22, 3, 3, 22, 29] : List Nat), Tryz.prog.wantsStandIn t = false := by decide +kernel
  exact ha t hm

/-- **The card.** -/
theorem proved : Rows.SpliceFillsCardSaid :=
  Claim7.holds_tied_plain_at .later [] _ _ _ _ said (fun _ h => by cases h) (by kernel_rfl) (fun _ h => by cases h) spliceFills_row_tie rfl ⟨rfl, rfl⟩ (by kernel_rfl) rfl plain (by kernel_rfl)
end Go.Proofs.YtkiihoaaloiffaaGreatDoor.spliceFills
