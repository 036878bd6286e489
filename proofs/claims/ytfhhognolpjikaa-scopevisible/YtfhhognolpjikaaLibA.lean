import Derived.Test.YtfhhognolpjikaaCodeA
import Derived.Test.YtfhhognolpjikaaAbBridge
import Derived.Test.YtfhhognolpjikaaAbForce
import Derived.KernelRfl
/-
  The program's data.
  The makers: what their functions give.
  The makers: what their functions give.
  The data declarations that programs are made of: what the reader makes of their text.
  The makers: data declarations, chosen by bits.
  The makers: types and substitutions off the tape.
  Types and substitutions: what replaces variables.
  Types: rebuilding with new leaves.
  Substitutions: composing; equality of types and of substitutions.
  Chapter 13: the plain laws, and the law that composition composes.
  Chapter 13: equality of substitutions; the laws SubstAssociates and SubstEqual.
  Functions of package slices over any elements.
  Ranges over a slice backward.
  Which types are valid.
  Contexts: their entries; looking names up.
  What the pure data of a parameter looks like.
  The variables of types, by the program and by the reference.
  The reference's variables of types; they are the program's.
  Contexts: schemes, adding, hidden entries; what law 19 makes.
  Law 19 makes contexts; the law EnvironLooks.
  The maker of types over any list of data types.
  Correct types in declarations.
  Expressions.
  slices.DeleteFunc over an array of texts that may be written.
  Arrays of structs in shared memory: their cells one behind the other.
  Expressions: children, the part at a path, and the names that are bound.
  slices.DeleteFunc over an array of texts that may be written: all of it.
  scope.Visible: one step inward.
  The names that are visible at a path.
  Raw expressions: what the maker gives.
  The maker of raw expressions.
  The maker of raw expressions: cases; all depths.
  The law ScopeVisible.
  Chapter 10's first examples.
  The law ScopeVisible: all of it.
-/
set_option linter.unusedVariables false
set_option linter.unusedSimpArgs false
namespace Go.Ab.Lw
/-- A type. -/
structure Ty where
  kind : Int
  name : List UInt8
  id : Int
  home : Int
  args : List Ty
  deriving Inhabited

noncomputable instance : DecidableEq Ty := fun _ _ => Classical.propDecidable _

mutual
def Ty.pv : Ty → PV
  | ⟨k, n, i, h, as⟩ => .agg [.int .i64 k, .str n, .int .i64 i, .int .i64 h, .lst (Ty.pvs as)]
def Ty.pvs : List Ty → List PV
  | [] => []
  | a :: r => a.pv :: Ty.pvs r
end

theorem Ty.pvs_map : ∀ l : List Ty, Ty.pvs l = l.map Ty.pv
  | [] => by simp [Ty.pvs]
  | a :: r => by simp [Ty.pvs, Ty.pvs_map r]

@[simp] theorem Ty.pv_eq (t : Ty) : t.pv = .agg [.int .i64 t.kind, .str t.name, .int .i64 t.id, .int .i64 t.home, .lst (t.args.map Ty.pv)] := by
  cases t; simp only [Ty.pv, Ty.pvs_map]

/-- A property of all types that are parts. -/
theorem Ty.rec1 {p : Ty → Prop} (h : ∀ t : Ty, (∀ x ∈ t.args, p x) → p t) : ∀ t, p t
  | ⟨k, n, i, hm, as⟩ => h _ (fun x _hx => Ty.rec1 h x)
termination_by t => SizeOf.sizeOf t
decreasing_by have := _root_.List.sizeOf_lt_of_mem _hx; simp at *; omega

/-- A constructor, and a data declaration. -/
structure Con where
  pos : Int
  name : List UInt8
  fields : List Ty
  deriving Inhabited
structure Dt where
  pos : Int
  name : List UInt8
  params : List (List UInt8)
  cons : List Con
  deriving Inhabited
def Con.pv (c : Con) : PV := .agg [.int .i64 c.pos, .str c.name, .lst (c.fields.map Ty.pv)]
def Dt.pv (d : Dt) : PV := .agg [.int .i64 d.pos, .str d.name, .lst (d.params.map .str), .lst (d.cons.map Con.pv)]
@[simp] theorem Con.pv_eq (c : Con) : c.pv = .agg [.int .i64 c.pos, .str c.name, .lst (c.fields.map Ty.pv)] := rfl
@[simp] theorem Dt.pv_eq (d : Dt) : d.pv = .agg [.int .i64 d.pos, .str d.name, .lst (d.params.map .str), .lst (d.cons.map Con.pv)] := rfl

/-- An assignment. -/
structure As where
  id : Int
  ty : Ty
  deriving Inhabited
def As.pv (a : As) : PV := .agg [.int .i64 a.id, .int .i64 a.ty.kind, .str a.ty.name, .int .i64 a.ty.id, .int .i64 a.ty.home, .lst (a.ty.args.map Ty.pv)]
@[simp] theorem As.pv_eq (a : As) : a.pv = .agg [.int .i64 a.id, .int .i64 a.ty.kind, .str a.ty.name, .int .i64 a.ty.id, .int .i64 a.ty.home, .lst (a.ty.args.map Ty.pv)] := rfl

@[simp] theorem Ty.eta (t : Ty) : Ty.mk t.kind t.name t.id t.home t.args = t := by cases t; rfl
@[simp] theorem As.eta (t : As) : As.mk t.id t.ty = t := rfl

abbrev vI (n : Int) : PV := .int .i64 n
def tp (L : List Int) (i : Int) : Sh := [some [.pv (.lst (L.map vI)), .pv (vI i)]]
@[simp] theorem tp_eq (L : List Int) (i : Int) : tp L i = [some [.pv (.lst (L.map vI)), .pv (vI i)]] := rfl

/-- Lists that any memory holds. -/
def Sm {α : Type} (l : List α) : Prop := l.length < 1099511627776

/-- Texts that any memory holds. -/
def SmS {α : Type} (l : List α) : Prop := l.length ≤ 9223372036854775807

@[simp] theorem natNeg (n : Nat) : ((n : Int) < 0) ↔ False := by simp
@[simp] theorem natNeg1 (n : Nat) : ((n : Int) + 1 < 0) ↔ False := by simp; omega

theorem dropC {α : Type} {l : List α} {i : Nat} {x : α} (h : l[i]? = some x) : l.drop i = x :: l.drop (i + 1) := by
  obtain ⟨hi, rfl⟩ := List.getElem?_eq_some_iff.1 h
  exact List.drop_eq_getElem_cons hi
theorem getO {α : Type} {l : List α} {i : Nat} (h : i < l.length) : ∃ x, l[i]? = some x := ⟨_, List.getElem?_eq_getElem h⟩
theorem memO {α : Type} {l : List α} {i : Nat} {x : α} (h : l[i]? = some x) : x ∈ l := List.mem_of_getElem? h
end Go.Ab.Lw
namespace Go.Ab.Lw
open Ev
set_option maxRecDepth 10000
set_option linter.unusedSimpArgs false
theorem c26 {n m : Int} (h1 : 1 ≤ m) (h2 : m < 4611686018427387904) : ∃ r, (orcL AP).p 26 [vI n, vI m] = some [vI r] ∧ 0 ≤ r ∧ r < m := by
  rw [callP_body (af := g26) rfl rfl (by decide)]
  have a1 := Int.tmod_lt_of_pos n (show 0 < m by omega)
  have a2 := Int.lt_tmod_of_pos n (show 0 < m by omega)
  have e1 : ¬ m < 1 := by omega
  have e2 : ¬ m = 0 := by omega
  by_cases h : n.tmod m < 0
  · refine ⟨n.tmod m + m, ?_, by omega, by omega⟩
    simp (disch := omega) [g26, e1, e2, h, wrap_id]
  · refine ⟨n.tmod m, ?_, by omega, by omega⟩
    simp [g26, e1, e2, h]

/-- A choice off the tape. -/
theorem c68 {L : List Int} (hL : Sm L) {i : Nat} (hi : i ≤ L.length) {n : Int} (h1 : 1 ≤ n) (h2 : n < 4611686018427387904) :
    ∃ (r : Int) (j : Nat), (orcL AP).i 68 [.sptr 0 0, .pv (vI n)] (tp L i) [] = some ([.pv (vI r)], tp L j, []) ∧ 0 ≤ r ∧ r < n ∧ j ≤ L.length := by
  unfold Sm at hL
  rw [callI_body (af := g68) rfl (by simp [g68])]
  by_cases h : i < L.length
  · obtain ⟨x, hx⟩ := getO h
    obtain ⟨r, e, e1, e2⟩ := c26 (n := x) h1 h2
    refine ⟨r, i + 1, ?_, e1, e2, h⟩
    have h' : ¬ L.length ≤ i := by omega
    simp (disch := omega) [-getElem?_pos, g68, h', wrap_id, hx, e]
  · have h' : L.length ≤ i := by omega
    refine ⟨0, i, ?_, by omega, by omega, hi⟩
    simp [g68, h']

theorem c62 {s : List UInt8} {l : List Ty} (h : Sm l) : (orcL AP).p 62 [.str s, .lst (l.map Ty.pv)] = some [(Ty.mk 4 s 0 0 l).pv] := by
  unfold Sm at h
  rw [callP_body (af := g62) rfl rfl (by decide)]
  cases l with
  | nil => simp [g62]
  | cons a r =>
    have : (r.length + 1) * 64 ≤ 140737488355328 := by simp at h; omega
    simp [g62, this]
theorem c34 : (orcL AP).p 34 [] = some [(Ty.mk 4 [73, 110, 116] 0 0 []).pv] := by
  rw [callP_body (af := g34) rfl rfl (by decide)]
  have h := c62 (s := [73, 110, 116]) (l := []) (by simp [Sm])
  simp at h
  simp [g34, h]
theorem c69 {a b : Ty} : (orcL AP).p 69 [a.pv, b.pv] = some [(Ty.mk 4 [45, 62] 0 0 [a, b]).pv] := by
  rw [callP_body (af := g69) rfl rfl (by decide)]
  have h := c62 (s := [45, 62]) (l := [a, b]) (by simp [Sm])
  simp at h
  simp [g69, h]
theorem c15 {l : List Int} : (orcL AP).p 15 [.lst (l.map vI)] = some [.bool (decide (l.length ≤ 60))] := by
  rw [callP_body (af := g15) rfl rfl (by decide)]
  simp [g15]
  omega

end Go.Ab.Lw
namespace Go.Ab.Lw
open Ev
set_option maxRecDepth 10000
set_option linter.unusedSimpArgs false
def tyBound (n : Int) : Ty := ⟨2, [], n, 0, []⟩
def tyInt : Ty := ⟨4, [73, 110, 116], 0, 0, []⟩

end Go.Ab.Lw
namespace Go.Ab.Lw
set_option maxRecDepth 100000
set_option linter.unusedVariables false
def srcD : List UInt8 := [100, 97, 116, 97, 32, 66, 111, 111, 108, 32, 61, 32, 84, 114, 117, 101, 32, 124, 32, 70, 97, 108, 115, 101, 59, 32, 100, 97, 116, 97, 32, 79, 112, 116, 105, 111, 110, 32, 97, 32, 61, 32, 78, 111, 110, 101, 32, 124, 32, 83, 111, 109, 101, 32, 97, 59, 32, 100, 97, 116, 97, 32, 76, 105, 115, 116, 32, 97, 32, 61, 32, 78, 105, 108, 32, 124, 32, 67, 111, 110, 115, 32, 97, 32, 40, 76, 105, 115, 116, 32, 97, 41, 59, 100, 97, 116, 97, 32, 80, 97, 105, 114, 32, 97, 32, 98, 32, 61, 32, 80, 97, 105, 114, 32, 97, 32, 98, 59, 32, 100, 97, 116, 97, 32, 78, 97, 116, 32, 61, 32, 90, 101, 114, 111, 32, 124, 32, 83, 117, 99, 99, 32, 78, 97, 116, 59, 32, 100, 97, 116, 97, 32, 70, 117, 110, 32, 97, 32, 98, 32, 61, 32, 70, 117, 110, 32, 40, 97, 32, 45, 62, 32, 98, 41, 59, 32, 100, 97, 116, 97, 32, 84, 119, 111, 32, 97, 32, 61, 32, 66, 111, 116, 104, 32, 97, 32, 97, 32, 124, 32, 79, 110, 101, 32, 40, 79, 112, 116, 105, 111, 110, 32, 97, 41, 59]
def toksD : List PV := [.lst [.agg [.int .i64 4, .str [100, 97, 116, 97], .int .i64 0], .agg [.int .i64 2, .str [66, 111, 111, 108], .int .i64 5], .agg [.int .i64 5, .str [61], .int .i64 10], .agg [.int .i64 2, .str [84, 114, 117, 101], .int .i64 12], .agg [.int .i64 5, .str [124], .int .i64 17], .agg [.int .i64 2, .str [70, 97, 108, 115, 101], .int .i64 19], .agg [.int .i64 5, .str [59], .int .i64 24], .agg [.int .i64 4, .str [100, 97, 116, 97], .int .i64 26], .agg [.int .i64 2, .str [79, 112, 116, 105, 111, 110], .int .i64 31], .agg [.int .i64 1, .str [97], .int .i64 38], .agg [.int .i64 5, .str [61], .int .i64 40], .agg [.int .i64 2, .str [78, 111, 110, 101], .int .i64 42], .agg [.int .i64 5, .str [124], .int .i64 47], .agg [.int .i64 2, .str [83, 111, 109, 101], .int .i64 49], .agg [.int .i64 1, .str [97], .int .i64 54], .agg [.int .i64 5, .str [59], .int .i64 55], .agg [.int .i64 4, .str [100, 97, 116, 97], .int .i64 57], .agg [.int .i64 2, .str [76, 105, 115, 116], .int .i64 62], .agg [.int .i64 1, .str [97], .int .i64 67], .agg [.int .i64 5, .str [61], .int .i64 69], .agg [.int .i64 2, .str [78, 105, 108], .int .i64 71], .agg [.int .i64 5, .str [124], .int .i64 75], .agg [.int .i64 2, .str [67, 111, 110, 115], .int .i64 77], .agg [.int .i64 1, .str [97], .int .i64 82], .agg [.int .i64 5, .str [40], .int .i64 84], .agg [.int .i64 2, .str [76, 105, 115, 116], .int .i64 85], .agg [.int .i64 1, .str [97], .int .i64 90], .agg [.int .i64 5, .str [41], .int .i64 91], .agg [.int .i64 5, .str [59], .int .i64 92], .agg [.int .i64 4, .str [100, 97, 116, 97], .int .i64 93], .agg [.int .i64 2, .str [80, 97, 105, 114], .int .i64 98], .agg [.int .i64 1, .str [97], .int .i64 103], .agg [.int .i64 1, .str [98], .int .i64 105], .agg [.int .i64 5, .str [61], .int .i64 107], .agg [.int .i64 2, .str [80, 97, 105, 114], .int .i64 109], .agg [.int .i64 1, .str [97], .int .i64 114], .agg [.int .i64 1, .str [98], .int .i64 116], .agg [.int .i64 5, .str [59], .int .i64 117], .agg [.int .i64 4, .str [100, 97, 116, 97], .int .i64 119], .agg [.int .i64 2, .str [78, 97, 116], .int .i64 124], .agg [.int .i64 5, .str [61], .int .i64 128], .agg [.int .i64 2, .str [90, 101, 114, 111], .int .i64 130], .agg [.int .i64 5, .str [124], .int .i64 135], .agg [.int .i64 2, .str [83, 117, 99, 99], .int .i64 137], .agg [.int .i64 2, .str [78, 97, 116], .int .i64 142], .agg [.int .i64 5, .str [59], .int .i64 145], .agg [.int .i64 4, .str [100, 97, 116, 97], .int .i64 147], .agg [.int .i64 2, .str [70, 117, 110], .int .i64 152], .agg [.int .i64 1, .str [97], .int .i64 156], .agg [.int .i64 1, .str [98], .int .i64 158], .agg [.int .i64 5, .str [61], .int .i64 160], .agg [.int .i64 2, .str [70, 117, 110], .int .i64 162], .agg [.int .i64 5, .str [40], .int .i64 166], .agg [.int .i64 1, .str [97], .int .i64 167], .agg [.int .i64 5, .str [45, 62], .int .i64 169], .agg [.int .i64 1, .str [98], .int .i64 172], .agg [.int .i64 5, .str [41], .int .i64 173], .agg [.int .i64 5, .str [59], .int .i64 174], .agg [.int .i64 4, .str [100, 97, 116, 97], .int .i64 176], .agg [.int .i64 2, .str [84, 119, 111], .int .i64 181], .agg [.int .i64 1, .str [97], .int .i64 185], .agg [.int .i64 5, .str [61], .int .i64 187], .agg [.int .i64 2, .str [66, 111, 116, 104], .int .i64 189], .agg [.int .i64 1, .str [97], .int .i64 194], .agg [.int .i64 1, .str [97], .int .i64 196], .agg [.int .i64 5, .str [124], .int .i64 198], .agg [.int .i64 2, .str [79, 110, 101], .int .i64 200], .agg [.int .i64 5, .str [40], .int .i64 204], .agg [.int .i64 2, .str [79, 112, 116, 105, 111, 110], .int .i64 205], .agg [.int .i64 1, .str [97], .int .i64 212], .agg [.int .i64 5, .str [41], .int .i64 213], .agg [.int .i64 5, .str [59], .int .i64 214]], .agg [.int .i64 0, .int .i64 0]]

/-- All data declarations. -/
def allDatas : List Dt := [⟨0, [66, 111, 111, 108], [], [⟨12, [84, 114, 117, 101], []⟩, ⟨19, [70, 97, 108, 115, 101], []⟩]⟩,
  ⟨26, [79, 112, 116, 105, 111, 110], [[97]], [⟨42, [78, 111, 110, 101], []⟩, ⟨49, [83, 111, 109, 101], [⟨5, [97], 0, 0, []⟩]⟩]⟩,
  ⟨57, [76, 105, 115, 116], [[97]], [⟨71, [78, 105, 108], []⟩, ⟨77, [67, 111, 110, 115], [⟨5, [97], 0, 0, []⟩,⟨4, [76, 105, 115, 116], 0, 0, [⟨5, [97], 0, 0, []⟩]⟩]⟩]⟩,
  ⟨93, [80, 97, 105, 114], [[97], [98]], [⟨109, [80, 97, 105, 114], [⟨5, [97], 0, 0, []⟩,⟨5, [98], 0, 0, []⟩]⟩]⟩,
  ⟨119, [78, 97, 116], [], [⟨130, [90, 101, 114, 111], []⟩, ⟨137, [83, 117, 99, 99], [⟨4, [78, 97, 116], 0, 0, []⟩]⟩]⟩,
  ⟨147, [70, 117, 110], [[97], [98]], [⟨162, [70, 117, 110], [⟨4, [45, 62], 0, 0, [⟨5, [97], 0, 0, []⟩, ⟨5, [98], 0, 0, []⟩]⟩]⟩]⟩,
  ⟨176, [84, 119, 111], [[97]], [⟨189, [66, 111, 116, 104], [⟨5, [97], 0, 0, []⟩,⟨5, [97], 0, 0, []⟩]⟩, ⟨200, [79, 110, 101], [⟨4, [79, 112, 116, 105, 111, 110], 0, 0, [⟨5, [97], 0, 0, []⟩]⟩]⟩]⟩]

theorem scanD : (orcL AP).p 118 [.str srcD] = some toksD := Fc.p_of (k := 400) (n := 20) (by kernel_rfl)

def ovD (g : Nat) (x : List PV) : Option (List PV) := match g, x with
  | 118, [.str s] => if s = srcD then some toksD else none
  | _, _ => none
theorem ovD_ok : ∀ g x r, ovD g x = some r → (orcL AP).p g x = some r := by
  intro g x r h
  unfold ovD at h
  split at h
  · split at h
    · rename_i e; subst e; cases h; exact scanD
    · cases h
  · cases h

theorem c79 : (orcL AP).p 79 [] = some [.lst (allDatas.map Dt.pv)] := Fc.p_ofX (k := 400) (n := 40) ovD_ok (by kernel_rfl)
end Go.Ab.Lw
namespace Go.Ab.Lw
open Ev
set_option maxRecDepth 10000
set_option linter.unusedSimpArgs false
@[simp] theorem headSz_Dt {l : List Dt} : headSz 4 (l.map Dt.pv) = true := by cases l <;> simp
@[simp] theorem headSz_Ty {l : List Ty} : headSz 5 (l.map Ty.pv) = true := by cases l <;> simp
@[simp] theorem headSz_As {l : List As} : headSz 6 (l.map As.pv) = true := by cases l <;> simp

theorem wrapU_id {n : Int} (h1 : 0 ≤ n) (h2 : n < 18446744073709551616) : IntKind.u64.wrap n = n := by
  simp [IntKind.wrap, IntKind.bits, IntKind.signed]
  omega

def R32 (bits : Int) (ds : List Dt) : Option (AExit × St) :=
  some (.exit 0, ⟨[(0, .pv (vI bits)), (3, .pv (.lst (allDatas.map Dt.pv))), (4, .own (ds.map Dt.pv) 0), (5, .pv (vI 7)), (24, .pv (.bool false))], [], [], [ds.length]⟩)
theorem L32 (bits : Int) : ∀ (n i : Nat), 7 - i = n → i ≤ 7 → ∀ acc : List Dt, (∀ d ∈ acc, d ∈ allDatas) → acc.length ≤ 1 + i →
    ∃ ds : List Dt, cl AP g32L0 ⟨[(0, .pv (vI bits)), (3, .pv (.lst (allDatas.map Dt.pv))), (4, .own (acc.map Dt.pv) 0), (5, .pv (vI i))], [], [], [acc.length]⟩ = R32 bits ds ∧
      (∀ d ∈ ds, d ∈ allDatas) ∧ ds.length ≤ 8
  | 0, i, hn, hi, acc, ha, hl => by
    have : i = 7 := by omega
    subst this
    refine ⟨acc, ?_, ha, by omega⟩
    rw [g32L0_eq]
    have h7 : allDatas.length = 7 := rfl
    simp [g32B0, h7, R32]
  | n + 1, i, hn, hi, acc, ha, hl => by
    have h7 : allDatas.length = 7 := rfl
    have hi : i < 7 := by omega
    obtain ⟨x, hx⟩ := getO (l := allDatas) (i := i) (by omega)
    have hb : (acc.length + 1) * 72 ≤ 140737488355328 := by omega
    obtain ⟨d1, e1, m1, l1⟩ := L32 bits n (i + 1) (by omega) (by omega) (acc ++ [x]) (by
      intro d hd; simp at hd; rcases hd with hd | rfl
      · exact ha d hd
      · exact memO hx) (by simp; omega)
    obtain ⟨d2, e2, m2, l2⟩ := L32 bits n (i + 1) (by omega) (by omega) acc ha (by omega)
    simp at e1 e2
    have hi' : (i : Int) < 7 := by omega
    have key : ∀ S, S = cl AP g32L0 ⟨[(0, .pv (vI bits)), (3, .pv (.lst (allDatas.map Dt.pv))), (4, .own (acc.map Dt.pv) 0), (5, .pv (vI i))], [], [], [acc.length]⟩ → S = R32 bits d1 ∨ S = R32 bits d2 := by
      intro S hS
      rw [g32L0_eq] at hS
      simp (disch := omega) [-getElem?_pos, g32B0, h7, hi', hx, wrap_id, wrapU_id, hb, e1, e2] at hS
      subst hS
      (repeat' split) <;> simp
    rcases key _ rfl with h | h
    · exact ⟨d1, h, m1, l1⟩
    · exact ⟨d2, h, m2, l2⟩

theorem c32 (bits : Int) : ∃ ds : List Dt, (orcL AP).p 32 [vI bits] = some [.lst (ds.map Dt.pv)] ∧ (∀ d ∈ ds, d ∈ allDatas) ∧ ds.length ≤ 8 := by
  have hp := c79
  have h7 : allDatas.length = 7 := rfl
  obtain ⟨x, hx⟩ := getO (l := allDatas) (i := 1) (by decide)
  obtain ⟨d1, e1, m1, l1⟩ := L32 bits 7 0 rfl (by omega) [x] (by intro d hd; simp at hd; subst hd; exact memO hx) (by simp)
  obtain ⟨d2, e2, m2, l2⟩ := L32 bits 7 0 rfl (by omega) [] (by simp) (by simp)
  rw [g32L0_eq] at e1 e2
  simp at e1 e2
  have key : ∀ S, S = (orcL AP).p 32 [vI bits] → S = some [.lst (d1.map Dt.pv)] ∨ S = some [.lst (d2.map Dt.pv)] := by
    intro S hS
    rw [callP_body (af := g32) rfl rfl (by decide)] at hS
    simp [-getElem?_pos, g32, hp, g32L0_eq, hx, e1, e2, R32] at hS
    subst hS
    (repeat' split) <;> simp
  rcases key _ rfl with h | h
  · exact ⟨d1, h, m1, l1⟩
  · exact ⟨d2, h, m2, l2⟩
end Go.Ab.Lw
namespace Go.Ab.Lw
open Ev
set_option maxRecDepth 10000
set_option linter.unusedSimpArgs false
/-- A made type over leaves. -/
inductive Made (lv : Ty → Prop) : Ty → Prop
  | leaf {t : Ty} : lv t → Made lv t
  | int : Made lv tyInt
  | con {d : Dt} {args : List Ty} : d ∈ allDatas → args.length = d.params.length → (∀ x ∈ args, Made lv x) → Made lv ⟨4, d.name, 0, 0, args⟩
  | arrow {a b : Ty} : Made lv a → Made lv b → Made lv ⟨4, [45, 62], 0, 0, [a, b]⟩

/-- A type in its cells. -/
def Ty.av (t : Ty) : AV := .agg [.pv (vI t.kind), .pv (.str t.name), .pv (vI t.id), .pv (vI t.home), .pv (.lst (t.args.map Ty.pv))]
@[simp] theorem Ty.av_eq (t : Ty) : t.av = .agg [.pv (vI t.kind), .pv (.str t.name), .pv (vI t.id), .pv (vI t.home), .pv (.lst (t.args.map Ty.pv))] := rfl

theorem natI {r : Int} {n : Nat} (h0 : 0 ≤ r) (h1 : r < n) : ∃ m : Nat, r = m ∧ m < n := ⟨r.toNat, by omega, by omega⟩

end Go.Ab.Lw
namespace Go.Ab.Lw
open Ev
set_option maxRecDepth 10000
set_option linter.unusedSimpArgs false
/-- No list within is long. -/
inductive Ty.Ok : Ty → Prop
  | mk {t : Ty} : Sm t.args → (∀ x ∈ t.args, Ty.Ok x) → Ty.Ok t
theorem Ty.Ok.sm {t : Ty} (h : t.Ok) : Sm t.args := by cases h; assumption
theorem Ty.Ok.kid {t : Ty} (h : t.Ok) : ∀ x ∈ t.args, x.Ok := by cases h; assumption
/-- Variables have no parts. -/
inductive Ty.Wf : Ty → Prop
  | mk {t : Ty} : (t.kind = 1 → t.args = []) → (∀ x ∈ t.args, Ty.Wf x) → Ty.Wf t
theorem Ty.Wf.var {t : Ty} (h : t.Wf) : t.kind = 1 → t.args = [] := by cases h; assumption
theorem Ty.Wf.kid {t : Ty} (h : t.Wf) : ∀ x ∈ t.args, x.Wf := by cases h; assumption

/-- The first assignment of a variable. -/
def fnd : List As → Int → Option Ty
  | [], _ => none
  | a :: r, id => if a.id = id then some a.ty else fnd r id

mutual
def Ty.sub (s : List As) : Ty → Ty
  | ⟨k, n, i, h, as⟩ => if k = 1 then (fnd s i).getD ⟨k, n, i, h, as⟩ else ⟨k, n, i, h, Ty.subs s as⟩
def Ty.subs (s : List As) : List Ty → List Ty
  | [] => []
  | a :: r => a.sub s :: Ty.subs s r
end
theorem Ty.subs_map (s : List As) : ∀ l : List Ty, Ty.subs s l = l.map (Ty.sub s)
  | [] => by simp [Ty.subs]
  | a :: r => by simp [Ty.subs, Ty.subs_map s r]
theorem Ty.sub_eq (s : List As) (t : Ty) : t.sub s = if t.kind = 1 then (fnd s t.id).getD t else ⟨t.kind, t.name, t.id, t.home, t.args.map (Ty.sub s)⟩ := by
  cases t; simp only [Ty.sub, Ty.subs_map]

end Go.Ab.Lw
namespace Go.Ab.Lw
open Ev
set_option maxRecDepth 10000
set_option linter.unusedSimpArgs false
/-- Shared memory that holds plain data alone. -/
def Quiet (sh : Sh) : Prop := ∀ cs, some cs ∈ sh → ∀ v ∈ cs, ∃ p, v = AV.pv p

theorem normL_pv {old ts : Toks} : ∀ {cs : List AV}, (∀ v ∈ cs, ∃ p, v = AV.pv p) → normL old ts cs = (cs, old, ts)
  | [], _ => rfl
  | v :: r, h => by
    obtain ⟨p, rfl⟩ := h v (by simp)
    simp only [normL_cons, normV_pv, normL_pv (cs := r) (fun v hv => h v (by simp [hv]))]
theorem Quiet.norm : ∀ {sh : Sh}, Quiet sh → ∀ old ts, normS old ts sh = (sh, old, ts)
  | [], _, _, _ => rfl
  | none :: sh, h, old, ts => by
    simp only [normS_none, Quiet.norm (sh := sh) (fun cs hc => h cs (by simp [hc]))]
  | some cs :: sh, h, old, ts => by
    simp only [normS_some, normL_pv (h cs (by simp)), Quiet.norm (sh := sh) (fun cs hc => h cs (by simp [hc]))]
theorem shiftL_pv {n : Nat} : ∀ {cs : List AV}, (∀ v ∈ cs, ∃ p, v = AV.pv p) → cs.map (shiftV n) = cs
  | [], _ => rfl
  | v :: r, h => by
    obtain ⟨p, rfl⟩ := h v (by simp)
    simp only [List.map_cons, shiftV_pv, shiftL_pv (cs := r) (fun v hv => h v (by simp [hv]))]
theorem Quiet.shift : ∀ {sh : Sh}, Quiet sh → ∀ n, shiftS n sh = sh
  | [], _, _ => rfl
  | none :: sh, h, n => by
    simp only [shiftS_none, Quiet.shift (sh := sh) (fun cs hc => h cs (by simp [hc]))]
  | some cs :: sh, h, n => by
    simp only [shiftS_some, shiftL_pv (h cs (by simp)), Quiet.shift (sh := sh) (fun cs hc => h cs (by simp [hc]))]
theorem Quiet.app {a b : Sh} (ha : Quiet a) (hb : Quiet b) : Quiet (a ++ b) := by
  intro cs hc
  simp only [List.mem_append] at hc
  rcases hc with hc | hc
  · exact ha cs hc
  · exact hb cs hc
theorem Quiet.one {cs : List AV} (h : ∀ v ∈ cs, ∃ p, v = AV.pv p) : Quiet [some cs] := by
  intro cs' hc
  simp at hc
  subst hc
  exact h

@[simp] theorem getEnd {α : Type} {l : List α} {x : α} : (l ++ [x])[l.length]? = some x := by simp
@[simp] theorem setEnd {α : Type} {l : List α} {x y : α} : (l ++ [x]).set l.length y = l ++ [y] := by simp [List.set_append]
@[simp] theorem takeEnd {α : Type} {l : List α} {x : α} : (l ++ [x]).take l.length = l := by simp

/-! ### An array of types under way -/

def Ty.cl (t : Ty) : List AV := [.pv (vI t.kind), .pv (.str t.name), .pv (vI t.id), .pv (vI t.home), .pv (.lst (t.args.map Ty.pv))]
def zcl : List AV := [.pv (vI 0), .pv (.str []), .pv (vI 0), .pv (vI 0), .pv (.lst [])]
def arrC (d : List Ty) (m : Nat) : List AV := d.flatMap Ty.cl ++ (List.replicate m zcl).flatten
theorem arrC_pv {d : List Ty} {m : Nat} : ∀ v ∈ arrC d m, ∃ p, v = AV.pv p := by
  intro v hv
  simp only [arrC, List.mem_append, List.mem_flatMap, List.mem_flatten, List.mem_replicate] at hv
  rcases hv with ⟨t, _, hv⟩ | ⟨l, ⟨_, rfl⟩, hv⟩
  · simp [Ty.cl] at hv
    rcases hv with rfl | rfl | rfl | rfl | rfl <;> exact ⟨_, rfl⟩
  · simp [zcl] at hv
    rcases hv with rfl | rfl | rfl | rfl | rfl <;> exact ⟨_, rfl⟩
theorem mapB_pvs {l : List AV} (h : ∀ v ∈ l, ∃ p, v = .pv p) : mapB l = false := by
  cases l with
  | nil => rfl
  | cons c r => obtain ⟨p, rfl⟩ := h c (by simp); rfl
@[simp] theorem arrC_mapB {d : List Ty} {m : Nat} : mapB (arrC d m) = false := mapB_pvs arrC_pv

end Go.Ab.Lw
namespace Go.Ab.Lw
open Ev
set_option maxRecDepth 10000
set_option linter.unusedSimpArgs false
noncomputable instance : DecidableEq As := fun _ _ => Classical.propDecidable _

/-! ### Equal -/
end Go.Ab.Lw
namespace Go.Ab.Lw
open Ev
set_option maxRecDepth 10000
set_option linter.unusedSimpArgs false
theorem params_few : ∀ d ∈ allDatas, d.params.length ≤ 8 := by decide +kernel

theorem Made.ok {lv : Ty → Prop} (h : ∀ t, lv t → t.args = []) {t : Ty} (m : Made lv t) : t.Ok := by
  induction m with
  | leaf hl => exact ⟨by rw [h _ hl]; simp [Sm], by rw [h _ hl]; simp⟩
  | int => exact ⟨by simp [tyInt, Sm], by simp [tyInt]⟩
  | con hd hl _ ih => exact ⟨by have := params_few _ hd; simp only [Sm]; omega, ih⟩
  | arrow _ _ ha hb => exact ⟨by simp [Sm], by intro x hx; simp at hx; rcases hx with rfl | rfl <;> assumption⟩
theorem Made.wf {lv : Ty → Prop} (h : ∀ t, lv t → t.args = []) {t : Ty} (m : Made lv t) : t.Wf := by
  induction m with
  | leaf hl => exact ⟨fun _ => h _ hl, by rw [h _ hl]; simp⟩
  | int => exact ⟨by simp [tyInt], by simp [tyInt]⟩
  | con hd hl _ ih => exact ⟨by simp, ih⟩
  | arrow _ _ ha hb => exact ⟨by simp, by intro x hx; simp at hx; rcases hx with rfl | rfl <;> assumption⟩
theorem fnd_mem : ∀ {s : List As} {id : Int} {t : Ty}, fnd s id = some t → ∃ a ∈ s, a.ty = t
  | a :: r, id, t, h => by
    simp only [fnd] at h
    split at h
    · cases h; exact ⟨a, by simp, rfl⟩
    · obtain ⟨b, hb, e⟩ := fnd_mem h; exact ⟨b, by simp [hb], e⟩

theorem sub_ok {s : List As} (hs : ∀ a ∈ s, a.ty.Ok) {t : Ty} (h : t.Ok) : (t.sub s).Ok := by
  revert h
  refine Ty.rec1 (p := fun t => t.Ok → (t.sub s).Ok) ?_ t
  intro t ih h
  rw [Ty.sub_eq]
  split
  · cases hf : fnd s t.id with
    | none => simpa using h
    | some a => obtain ⟨b, hb, rfl⟩ := fnd_mem hf; simpa using hs b hb
  · refine ⟨by have := h.sm; unfold Sm at *; simpa using this, ?_⟩
    intro x hx
    simp at hx
    obtain ⟨y, hy, rfl⟩ := hx
    exact ih y hy (h.kid y hy)
end Go.Ab.Lw
namespace Go.Ab.Lw
open Ev
set_option maxRecDepth 10000
set_option linter.unusedSimpArgs false
/-- The first place where something holds. -/
def idxB {α : Type} (p : α → Bool) : List α → Option Nat
  | [] => none
  | a :: r => if p a = true then some 0 else (idxB p r).map (· + 1)
end Go.Ab.Lw
namespace Go.Ab.Lw
open Ev
set_option maxRecDepth 10000
set_option linter.unusedSimpArgs false
/-- Elements of that many cells. -/
structure El {α : Type} (f : α → PV) (sz : Nat) (ag : Bool) : Prop where
  len : ∀ x, (cellsP (f x)).length = sz
  of : ∀ x, ofCellsP ag sz (cellsP (f x)) = some (.pv (f x))

theorem El.head {α : Type} {f : α → PV} {sz : Nat} {ag : Bool} (h : El f sz ag) (l : List α) : headSz sz (l.map f) = true := by
  cases l with
  | nil => rfl
  | cons x r => simp [headSz, h.len x]

theorem el_int : El vI 1 false := ⟨fun _ => rfl, fun _ => rfl⟩
theorem el_str : El PV.str 1 false := ⟨fun _ => rfl, fun _ => rfl⟩
def IdxB (sz : Nat) (ag : Bool) : ACode :=
  (.seq
   (.reg [⟨some 9, none, [.t 8, .t 7], .v (.bin .lss)⟩] [0, 1, 7, 8, 9])
   (.seq
    (.cond (.t 9)
     .skip
     (.exit 0))
    (.seq
     (.block 1
      (.seq
       (.reg [⟨some 10, none, [.t 8], .v (.mv)⟩,
         ⟨some 5, none, [.t 10], .v (.mv)⟩] [0, 1, 5, 7, 8])
       (.seq
        (.reg [⟨some 11, none, [.t 1], .v (.mv)⟩,
          ⟨some 12, none, [.t 0], .v (.mv)⟩,
          ⟨some 13, none, [.t 5], .v (.mv)⟩,
          ⟨some 14, none, [.t 12, .t 13], .v (.iaddr sz)⟩,
          ⟨some 15, none, [.t 14], .loadS sz ag⟩,
          ⟨some 16, none, [.t 11, .t 15], .callV⟩] [0, 1, 5, 7, 8, 16])
        (.cond (.t 16)
         (.seq
          (.reg [⟨some 17, none, [.t 5], .v (.mv)⟩,
            ⟨some 4, none, [.t 17], .v (.mv)⟩] [4])
          .ret)
         .skip))))
     (.reg [⟨some 18, none, [.t 8, .c (.pv (.int .i64 1))], .v (.bin .add)⟩,
       ⟨some 8, none, [.t 18], .v (.mv)⟩] [0, 1, 7, 8]))))
def IdxL (sz : Nat) (ag : Bool) : ACode := .loop [0, 1, 7, 8] (IdxB sz ag)
theorem IdxL_eq {sz : Nat} {ag : Bool} {st : St} : cl AP (IdxL sz ag) st = after (cl AP (IdxL sz ag)) (cl AP (IdxB sz ag) (norm (restrict [0, 1, 7, 8] st))) := cl_loop
def IdxF (sz : Nat) (ag : Bool) : AFunc := ⟨2, 19, [.t 4],
  (.seq
   (.reg [⟨some 4, none, [.c (.pv (.int .i64 0))], .v (.mv)⟩] [0, 1])
   (.seq
    (.seq
     (.reg [⟨some 6, none, [.t 0], .v (.mv)⟩,
       ⟨some 7, none, [.t 6], .v (.len)⟩,
       ⟨some 8, none, [.c (.pv (.int .i64 0))], .v (.mv)⟩] [0, 1, 7, 8])
     (.block 0
      (IdxL sz ag)))
    (.seq
     (.reg [⟨some 4, none, [.c (.pv (.int .i64 (-1)))], .v (.mv)⟩] [4])
     .ret))), none, false⟩
def idxI (o : Option Nat) : Int := match o with | some k => k | none => -1
end Go.Ab.Lw
namespace Go.Ab.Lw
open Ev
set_option maxRecDepth 10000
set_option linter.unusedSimpArgs false
/-- Behind a round. -/
def backGo (f : St → Option (AExit × St)) (live : List Nat) (pi px sz : Nat) (ag : Bool) (env : List (Nat × AV)) (r : List (PV × Nat)) : Option (AExit × St) → Option (AExit × St)
  | some (.normal, st') => backN f live pi px sz ag env r st'
  | some (e, st') => some (e, { st' with env := env })
  | none => none
@[simp] theorem backGo_normal {f : St → Option (AExit × St)} {live : List Nat} {pi px sz : Nat} {ag : Bool} {env : List (Nat × AV)} {r : List (PV × Nat)} {st : St} : backGo f live pi px sz ag env r (some (.normal, st)) = backN f live pi px sz ag env r st := rfl
@[simp] theorem backGo_ret {f : St → Option (AExit × St)} {live : List Nat} {pi px sz : Nat} {ag : Bool} {env e : List (Nat × AV)} {r : List (PV × Nat)} {mem : List (Nat × List AV)} {sh : Sh} {toks : Toks} : backGo f live pi px sz ag env r (some (.ret, ⟨e, mem, sh, toks⟩)) = some (.ret, ⟨env, mem, sh, toks⟩) := rfl
@[simp] theorem backGo_exit {f : St → Option (AExit × St)} {live : List Nat} {pi px sz : Nat} {ag : Bool} {env e : List (Nat × AV)} {r : List (PV × Nat)} {mem : List (Nat × List AV)} {sh : Sh} {toks : Toks} {id : Nat} : backGo f live pi px sz ag env r (some (.exit id, ⟨e, mem, sh, toks⟩)) = some (.exit id, ⟨env, mem, sh, toks⟩) := rfl
@[simp] theorem backGo_ite {f : St → Option (AExit × St)} {live : List Nat} {pi px sz : Nat} {ag : Bool} {env : List (Nat × AV)} {r : List (PV × Nat)} {c : Prop} [Decidable c] {x y : Option (AExit × St)} : backGo f live pi px sz ag env r (if c then x else y) = if c then backGo f live pi px sz ag env r x else backGo f live pi px sz ag env r y := by split <;> rfl

@[simp] theorem backN_nil {f : St → Option (AExit × St)} {live : List Nat} {pi px sz : Nat} {ag : Bool} {env e : List (Nat × AV)} {mem : List (Nat × List AV)} {sh : Sh} {toks : Toks} : backN f live pi px sz ag env [] ⟨e, mem, sh, toks⟩ = some (.normal, ⟨env, mem, sh, toks⟩) := rfl
/-- Two parts of a round. -/
def andK (g : St → Option (AExit × St)) : Option (AExit × St) → Option (AExit × St)
  | some (.normal, st') => g st'
  | _ => none
@[simp] theorem andK_normal {g : St → Option (AExit × St)} {st : St} : andK g (some (.normal, st)) = g st := rfl

@[simp] theorem cl_backR {c : AOpd} {gb pi px sz : Nat} {ag : Bool} {live : List Nat} {x y : ACode} {env : List (Nat × AV)} {mem : List (Nat × List AV)} {sh : Sh} {toks : Toks} :
    cl AP (.back c gb pi px sz ag live x y) ⟨env, mem, sh, toks⟩ = backWith (andThen (cl AP x) (cl AP y)) (evOpd env c) gb pi px sz ag live ⟨env, mem, sh, toks⟩ := cl_back

end Go.Ab.Lw
namespace Go.Ab.Lw
open Ev
set_option maxRecDepth 10000
set_option linter.unusedSimpArgs false
/-- Names within are short, too. -/
inductive Ty.Nm : Ty → Prop
  | mk {t : Ty} : SmS t.name → (∀ x ∈ t.args, Ty.Nm x) → Ty.Nm t
theorem Ty.Nm.sm {t : Ty} (h : t.Nm) : SmS t.name := by cases h; assumption
theorem Ty.Nm.kid {t : Ty} (h : t.Nm) : ∀ x ∈ t.args, x.Nm := by cases h; assumption

end Go.Ab.Lw
namespace Go.Ab.Lw
open Ev
set_option maxRecDepth 10000
set_option linter.unusedSimpArgs false
/-- A scheme: its number of quantified variables, and its type. -/
abbrev Sc := As
/-- An entry of a context. -/
structure En where
  name : List UInt8
  sc : Sc
  deriving Inhabited
def En.pv (a : En) : PV := .agg [.str a.name, .int .i64 a.sc.id, .int .i64 a.sc.ty.kind, .str a.sc.ty.name, .int .i64 a.sc.ty.id, .int .i64 a.sc.ty.home, .lst (a.sc.ty.args.map Ty.pv)]
@[simp] theorem En.pv_eq (a : En) : a.pv = .agg [.str a.name, .int .i64 a.sc.id, .int .i64 a.sc.ty.kind, .str a.sc.ty.name, .int .i64 a.sc.ty.id, .int .i64 a.sc.ty.home, .lst (a.sc.ty.args.map Ty.pv)] := rfl
@[simp] theorem En.eta (t : En) : En.mk t.name t.sc = t := rfl
theorem el_en : El En.pv 7 true := ⟨fun x => by simp, fun x => by simp⟩
noncomputable instance : DecidableEq En := fun _ _ => Classical.propDecidable _
@[simp] theorem headSz_En {l : List En} : headSz 7 (l.map En.pv) = true := el_en.head l

end Go.Ab.Lw
namespace Go.Ab.Lw

section
variable {P : Program} {n : Nat} {t e : TypeId} {p : PV}

theorem shp_int (hu : P.underlying t = some (.int .i64)) (h : Shp P n t p) : ∃ i, p = vI i := by
  cases n with
  | zero => simp [Shp] at h
  | succ n => simp only [Shp, hu] at h; obtain ⟨i, rfl, _⟩ := h; exact ⟨i, rfl⟩
theorem shp_bool (hu : P.underlying t = some .bool) (h : Shp P n t p) : ∃ b, p = .bool b := by
  cases n with
  | zero => simp [Shp] at h
  | succ n => simp only [Shp, hu] at h; exact h
theorem shp_str (hu : P.underlying t = some .string) (h : Shp P n t p) : ∃ s, p = .str s := by
  cases n with
  | zero => simp [Shp] at h
  | succ n => simp only [Shp, hu] at h; obtain ⟨s, rfl, _⟩ := h; exact ⟨s, rfl⟩
/-- A slice of what a function of pure data makes. -/
theorem shp_list {α : Type} {f : α → PV} (hu : P.underlying t = some (.slice e)) (he : ∀ (m : Nat) (q : PV), Shp P m e q → ∃ x, q = f x) (h : Shp P n t p) : ∃ l : List α, p = .lst (l.map f) := by
  cases n with
  | zero => simp [Shp] at h
  | succ n =>
    simp only [Shp, hu] at h
    obtain ⟨els, rfl, _, h⟩ := h
    have key : ∀ els : List PV, (∀ q ∈ els, Shp P n e q) → ∃ l : List α, els = l.map f := by
      intro els
      induction els with
      | nil => intro _; exact ⟨[], rfl⟩
      | cons q r ih =>
        intro h
        obtain ⟨x, rfl⟩ := he n q (h q (by simp))
        obtain ⟨l, rfl⟩ := ih (fun q hq => h q (by simp [hq]))
        exact ⟨x :: l, rfl⟩
    obtain ⟨l, rfl⟩ := key els h
    exact ⟨l, rfl⟩
theorem shp_ints (hu : P.underlying t = some (.slice e)) (he : P.underlying e = some (.int .i64)) (h : Shp P n t p) : ∃ L : List Int, p = .lst (L.map vI) :=
  shp_list hu (fun _ _ h => shp_int he h) h

/-- A type. -/
theorem shp_ty {ti ts tl tt : TypeId} {f0 f1 f2 f3 f4 : Field} (hi : P.underlying ti = some (.int .i64)) (hs : P.underlying ts = some .string) (hl : P.underlying tl = some (.slice tt))
    (ht : P.underlying tt = some (.struct #[f0, f1, f2, f3, f4])) (e0 : f0.type = ti) (e1 : f1.type = ts) (e2 : f2.type = ti) (e3 : f3.type = ti) (e4 : f4.type = tl) :
    ∀ (n : Nat) (p : PV), Shp P n tt p → ∃ x : Ty, p = x.pv
  | 0, p, h => by simp [Shp] at h
  | n + 1, p, h => by
    simp only [Shp, ht] at h
    obtain ⟨ps, rfl, h⟩ := h
    match ps, h with
    | [p0, p1, p2, p3, p4], ⟨h0, h1, h2, h3, h4, _⟩ =>
      rw [e0] at h0; rw [e1] at h1; rw [e2] at h2; rw [e3] at h3; rw [e4] at h4
      obtain ⟨k, rfl⟩ := shp_int hi h0
      obtain ⟨s, rfl⟩ := shp_str hs h1
      obtain ⟨i, rfl⟩ := shp_int hi h2
      obtain ⟨m, rfl⟩ := shp_int hi h3
      cases n with
      | zero => simp [Shp] at h4
      | succ n =>
        simp only [Shp, hl] at h4
        obtain ⟨els, rfl, _, h4⟩ := h4
        have key : ∀ els : List PV, (∀ q ∈ els, Shp P n tt q) → ∃ l : List Ty, els = l.map Ty.pv := by
          intro els
          induction els with
          | nil => intro _; exact ⟨[], rfl⟩
          | cons q r ih =>
            intro h
            obtain ⟨x, rfl⟩ := shp_ty hi hs hl ht e0 e1 e2 e3 e4 n q (h q (by simp))
            obtain ⟨l, rfl⟩ := ih (fun q hq => h q (by simp [hq]))
            exact ⟨x :: l, rfl⟩
        obtain ⟨l, rfl⟩ := key els h4
        exact ⟨⟨k, s, i, m, l⟩, by simp [cellsP]⟩
  termination_by n => n
end
end Go.Ab.Lw

namespace Go.Ab.Lw
open Ev
set_option maxRecDepth 10000
set_option linter.unusedSimpArgs false

/-! ### Index and Contains of plain elements -/
mutual
def Ty.nodes : Ty → List Ty
  | ⟨k, n, i, h, as⟩ => ⟨k, n, i, h, as⟩ :: Ty.nodess as
def Ty.nodess : List Ty → List Ty
  | [] => []
  | a :: r => a.nodes ++ Ty.nodess r
end
theorem nodup_len {α : Type} [DecidableEq α] : ∀ {l S : List α}, l.Nodup → (∀ x ∈ l, x ∈ S) → l.length ≤ S.length
  | [], _, _, _ => by simp
  | x :: r, S, hn, h => by
    have hx := h x (by simp)
    have hr := nodup_len (l := r) (S := S.erase x) (List.nodup_cons.1 hn).2 (fun y hy => by
      rw [List.mem_erase_of_ne]
      · exact h y (by simp [hy])
      · rintro rfl; exact (List.nodup_cons.1 hn).1 hy)
    have := List.length_erase_of_mem hx
    have : 0 < S.length := List.length_pos_of_mem hx
    simp; omega

/-- One more variable. -/
def addI (out : List Int) (x : Ty) : List Int := if x.kind = 1 ∧ x.id ∉ out then out ++ [x.id] else out

/-- What was collected: without doubles, among few. -/
structure Coll (S out : List Int) : Prop where
  nodup : out.Nodup
  sub : ∀ x ∈ out, x ∈ S
  few : S.length < 1099511627776
theorem Coll.len {S out : List Int} (h : Coll S out) : Sm out := by
  have := nodup_len h.nodup h.sub
  have := h.few
  unfold Sm; omega
theorem Coll.add {S out : List Int} (h : Coll S out) {x : Ty} (hx : x.kind = 1 → x.id ∈ S) : Coll S (addI out x) := by
  unfold addI
  split
  · rename_i e
    refine ⟨?_, ?_, h.few⟩
    · rw [List.nodup_append]
      refine ⟨h.nodup, by simp, ?_⟩
      intro a ha b hb
      simp at hb; subst hb
      rintro rfl; exact e.2 ha
    · intro y hy
      simp at hy
      rcases hy with hy | rfl
      · exact h.sub y hy
      · exact hx e.1
  · exact h
/-- The variables of types. -/
def vars (l : List Ty) : List Int := (l.flatMap Ty.nodes).foldl addI []

end Go.Ab.Lw
namespace Go.Ab.Lw
open Ev
set_option maxRecDepth 10000
set_option linter.unusedSimpArgs false
mutual
/-- The leaves of a kind. -/
def Ty.lvs (k : Int) : Ty → List Ty
  | ⟨kd, n, i, h, as⟩ => if kd = k ∧ as.length = 0 then [⟨kd, n, i, h, as⟩] else Ty.lvss k as
def Ty.lvss (k : Int) : List Ty → List Ty
  | [] => []
  | a :: r => a.lvs k ++ Ty.lvss k r
end
theorem Ty.lvss_eq (k : Int) : ∀ l : List Ty, Ty.lvss k l = l.flatMap (Ty.lvs k)
  | [] => by simp [Ty.lvss]
  | a :: r => by simp [Ty.lvss, Ty.lvss_eq k r]
theorem Ty.lvs_eq (k : Int) (t : Ty) : t.lvs k = if t.kind = k ∧ t.args.length = 0 then [t] else t.args.flatMap (Ty.lvs k) := by cases t; simp only [Ty.lvs, Ty.lvss_eq]

noncomputable def addT (out : List Ty) (x : Ty) : List Ty := if x ∈ out then out else out ++ [x]

structure CollT (S out : List Ty) : Prop where
  nodup : out.Nodup
  sub : ∀ x ∈ out, x ∈ S
  few : S.length < 1099511627776
  ok : ∀ x ∈ S, x.Ok
theorem CollT.len {S out : List Ty} (h : CollT S out) : Sm out := by
  have := nodup_len h.nodup h.sub
  have := h.few
  unfold Sm; omega
theorem CollT.add {S out : List Ty} (h : CollT S out) {x : Ty} (hx : x ∈ S) : CollT S (addT out x) := by
  unfold addT
  split
  · exact h
  · rename_i e
    refine ⟨?_, ?_, h.few, h.ok⟩
    · rw [List.nodup_append]
      refine ⟨h.nodup, by simp, ?_⟩
      intro a ha b hb
      simp at hb; subst hb
      rintro rfl; exact e ha
    · intro y hy
      simp at hy
      rcases hy with hy | rfl
      · exact h.sub y hy
      · exact hx
end Go.Ab.Lw
namespace Go.Ab.Lw
open Ev
set_option maxRecDepth 10000
set_option linter.unusedSimpArgs false
@[simp] theorem takeEnd1 {α : Type} {l : List α} {x : α} : (l ++ [x]).take (l.length + 1) = l ++ [x] := by rw [List.take_of_length_le]; simp

def varNames : List (List UInt8) := [[120], [121], [122], [102], [103], [118, 49], [118, 50], [105, 100]]
theorem c175 {L : List Int} (hL : Sm L) {i : Nat} (hi : i ≤ L.length) : ∃ (s : List UInt8) (j : Nat), (orcL AP).i 175 [.sptr 0 0] (tp L i) [] = some ([.pv (.str s)], tp L j, []) ∧ s ∈ varNames ∧ j ≤ L.length := by
  obtain ⟨k, j, e, k0, k8, hj⟩ := c68 hL hi (n := 8) (by omega) (by omega)
  obtain ⟨m, rfl, hm⟩ := natI (n := varNames.length) k0 (by simpa [varNames] using k8)
  obtain ⟨s, hs⟩ := getO hm
  refine ⟨s, j, ?_, memO hs, hj⟩
  simp at e
  rw [callI_body (af := g175) rfl (by simp [g175])]
  have hs' : ([PV.str [120], .str [121], .str [122], .str [102], .str [103], .str [118, 49], .str [118, 50], .str [105, 100]] : List PV)[m]? = some (.str s) := by
    have : ([PV.str [120], .str [121], .str [122], .str [102], .str [103], .str [118, 49], .str [118, 50], .str [105, 100]] : List PV) = varNames.map PV.str := rfl
    rw [this]; simp [hs]
  simp [-getElem?_pos, g175, e, hs']

/-- Quantifying some variables. -/
def closeS (ids : List Int) : List Int → List As → List As
  | [], acc => acc
  | v :: r, acc => closeS ids r (if v ∈ ids then acc ++ [⟨v, tyBound acc.length⟩] else acc)
def closeSc (ids : List Int) (t : Ty) (vs : List Int) : Sc := ⟨(closeS ids vs []).length, t.sub (closeS ids vs [])⟩

/-- Types whose variables are few. -/
structure FewV (t : Ty) : Prop where
  ok : t.Ok
  wf : t.Wf
  few : ∃ S : List Ty, S.length < 1099511627776 ∧ (∀ x ∈ S, x.Ok) ∧ ∀ x ∈ t.lvs 1, x ∈ S

end Go.Ab.Lw
namespace Go.Ab.Lw
open Ev
set_option maxRecDepth 10000
set_option linter.unusedSimpArgs false
/-- The leaves of a made type are among the leaves. -/
theorem Made.lvs {lv : Ty → Prop} (h : ∀ t, lv t → t.args = []) {t : Ty} (m : Made lv t) {k : Int} (hk : k ≠ 4) : ∀ x ∈ t.lvs k, lv x := by
  induction m with
  | leaf hl =>
    intro x hx
    rw [Ty.lvs_eq, h _ hl] at hx
    split at hx
    · simp at hx; subst hx; exact hl
    · simp at hx
  | int =>
    intro x hx
    rw [Ty.lvs_eq] at hx
    simp [tyInt] at hx
    exact absurd hx.1.symm hk
  | con hd hl _ ih =>
    intro x hx
    rw [Ty.lvs_eq] at hx
    split at hx
    · rename_i e; exact absurd e.1.symm hk
    · simp only [List.mem_flatMap] at hx
      obtain ⟨y, hy, hx⟩ := hx
      exact ih y hy x hx
  | arrow _ _ ha hb =>
    intro x hx
    rw [Ty.lvs_eq] at hx
    simp at hx
    rcases hx with hx | hx
    · exact ha x hx
    · exact hb x hx
theorem bare_ok {t : Ty} (h : t.args = []) : t.Ok := ⟨by rw [h]; simp [Sm], by rw [h]; simp⟩
theorem Made.few {lv : List Ty} (hl : lv.length < 1099511627776) (h : ∀ t, t ∈ lv → t.args = []) {t : Ty} (m : Made (· ∈ lv) t) : FewV t :=
  ⟨m.ok h, m.wf h, lv, hl, fun x hx => bare_ok (h x hx), m.lvs h (by decide)⟩

theorem closeS_ok {ids : List Int} : ∀ (vs : List Int) (acc : List As), (∀ a ∈ acc, a.ty.Ok) → ∀ a ∈ closeS ids vs acc, a.ty.Ok
  | [], acc, h => by simpa [closeS] using h
  | v :: r, acc, h => by
    simp only [closeS]
    refine closeS_ok r _ ?_
    split
    · intro a ha
      simp at ha
      rcases ha with ha | rfl
      · exact h a ha
      · exact bare_ok rfl
    · exact h
theorem closeSc_ok {ids vs : List Int} {t : Ty} (h : t.Ok) : (closeSc ids t vs).ty.Ok := sub_ok (closeS_ok vs [] (by simp)) h

/-- A made entry. -/
def MadeE (lv : List Ty) (x : En) : Prop := x.name ∈ varNames ∧ ∃ t, Made (· ∈ lv) t ∧ (x.sc = ⟨0, t⟩ ∨ ∃ ids : List Int, ids.length = 2 ∧ x.sc = closeSc ids t (vars [t]))
theorem MadeE.ok {lv : List Ty} (h : ∀ t, t ∈ lv → t.args = []) {x : En} (m : MadeE lv x) : x.sc.ty.Ok := by
  obtain ⟨_, t, mt, e | ⟨ids, _, e⟩⟩ := m
  · rw [e]; exact mt.ok h
  · rw [e]; exact closeSc_ok (mt.ok h)

end Go.Ab.Lw
namespace Go.Ab.Lw
open Ev
set_option maxRecDepth 10000
set_option linter.unusedSimpArgs false
/-- A made type over leaves and data types. -/
inductive MadeG (D : Dt → Prop) (lv : List Ty) : Nat → Ty → Prop
  | leaf {n : Nat} {t : Ty} : t ∈ lv → MadeG D lv n t
  | int {n : Nat} : MadeG D lv n tyInt
  | con {n : Nat} {d : Dt} {args : List Ty} : D d → args.length = d.params.length → (∀ x ∈ args, MadeG D lv n x) → MadeG D lv (n + 1) ⟨4, d.name, 0, 0, args⟩
  | arrow {n : Nat} {a b : Ty} : MadeG D lv n a → MadeG D lv n b → MadeG D lv (n + 1) ⟨4, [45, 62], 0, 0, [a, b]⟩

/-- What the maker of types gives at a depth. -/
def GivesG (L : List Int) (ds : List Dt) (lv : List Ty) (dep : Nat) : Prop := ∀ i : Nat, i ≤ L.length → ∃ (t : Ty) (j : Nat),
  (orcL AP).i 27 [.sptr 0 0, .pv (.lst (ds.map Dt.pv)), .pv (.lst (lv.map Ty.pv)), .pv (vI dep)] (tp L i) [] = some ([t.av], tp L j, []) ∧ MadeG (· ∈ ds) lv dep t ∧ j ≤ L.length

theorem L27g {L : List Int} {ds : List Dt} {lv : List Ty} {dep : Nat} (hdep : dep < 1000) (hg : GivesG L ds lv dep) {d : Dt} (hS : Sm d.params) : ∀ (n k : Nat), d.params.length - k = n → k ≤ d.params.length → ∀ (acc : List Ty) (i : Nat), acc.length = k → (∀ x ∈ acc, MadeG (· ∈ ds) lv dep x) → i ≤ L.length →
    ∃ (r : List Ty) (j : Nat), cl AP g27L0 ⟨[(0, .sptr 0 0), (1, .pv (.lst (ds.map Dt.pv))), (2, .pv (.lst (lv.map Ty.pv))), (3, .pv (vI (dep + 1))), (8, .lptr 8 0), (10, .lptr 10 0), (11, .own (acc.map Ty.pv) 0), (12, .pv (vI k))],
      [(8, [.pv (vI 0), .pv (.str []), .pv (vI 0), .pv (vI 0), .own [] 1]), (10, [.pv (vI d.pos), .pv (.str d.name), .pv (.lst (d.params.map .str)), .pv (.lst (d.cons.map Con.pv))])], tp L i, [acc.length, 0]⟩ =
      some (.exit 1, ⟨[(0, .sptr 0 0), (1, .pv (.lst (ds.map Dt.pv))), (2, .pv (.lst (lv.map Ty.pv))), (3, .pv (vI (dep + 1))), (8, .lptr 8 0), (10, .lptr 10 0), (11, .own (r.map Ty.pv) 0), (12, .pv (vI d.params.length)), (65, .pv (.bool false))],
      [(8, [.pv (vI 0), .pv (.str []), .pv (vI 0), .pv (vI 0), .own [] 1]), (10, [.pv (vI d.pos), .pv (.str d.name), .pv (.lst (d.params.map .str)), .pv (.lst (d.cons.map Con.pv))])], tp L j, [r.length, 0]⟩) ∧
      r.length = d.params.length ∧ (∀ x ∈ r, MadeG (· ∈ ds) lv dep x) ∧ j ≤ L.length
  | 0, k, hn, hk, acc, i, ha, hm, hi => by
    have : k = d.params.length := by omega
    subst this
    refine ⟨acc, i, ?_, ha, hm, hi⟩
    rw [g27L0_eq]
    simp [g27B0]
  | n + 1, k, hn, hk, acc, i, ha, hm, hi => by
    unfold Sm at hS
    have hk : k < d.params.length := by omega
    have hb : (acc.length + 1) * 64 ≤ 140737488355328 := by omega
    obtain ⟨t, j, e, mt, hj⟩ := hg i hi
    simp at e
    obtain ⟨r, j', e', hr, hm', hj'⟩ := L27g hdep hg hS n (k + 1) (by omega) (by omega) (acc ++ [t]) j (by simp; omega) (by
      intro x hx; simp at hx; rcases hx with hx | rfl
      · exact hm x hx
      · exact mt) hj
    simp at e'
    refine ⟨r, j', ?_, hr, hm', hj'⟩
    rw [g27L0_eq]
    have h1 : (dep : Int) + 1 - 1 = dep := by omega
    simp (disch := omega) [-getElem?_pos, g27B0, hk, wrap_id, h1, e, hb]
    rw [e']

theorem g27_0 {L : List Int} (hL : Sm L) {ds : List Dt} {lv : List Ty} (hlv : Sm lv) : GivesG L ds lv 0 := by
  intro i hi
  obtain ⟨k, j1, e1, k0, k7, hj1⟩ := c68 hL hi (n := 7) (by omega) (by omega)
  simp at e1
  unfold Sm at hlv
  by_cases h1 : k < 3
  · by_cases h2 : lv = []
    · subst h2
      refine ⟨tyInt, j1, ?_, .int, hj1⟩
      have c := c34
      simp at c
      rw [callI_body (af := g27) rfl (by simp [g27])]
      simp [-getElem?_pos, g27, e1, h1, c, tyInt]
    · have hp : 0 < lv.length := List.length_pos_iff.2 h2
      obtain ⟨r, j2, e2, r0, r1, hj2⟩ := c68 hL hj1 (n := lv.length) (by omega) (by omega)
      obtain ⟨m, rfl, hm⟩ := natI r0 r1
      obtain ⟨x, hx⟩ := getO hm
      simp at e2
      refine ⟨x, j2, ?_, .leaf (memO hx), hj2⟩
      rw [callI_body (af := g27) rfl (by simp [g27])]
      simp [-getElem?_pos, g27, e1, h1, hp, e2, hx]
  · refine ⟨tyInt, j1, ?_, .int, hj1⟩
    have c := c34
    simp at c
    rw [callI_body (af := g27) rfl (by simp [g27])]
    simp [-getElem?_pos, g27, e1, h1, c, tyInt]

theorem g27_s {L : List Int} (hL : Sm L) {ds : List Dt} (hds : ds.length ≤ 20) (hda : ∀ d ∈ ds, d.params.length ≤ 8) {lv : List Ty} (hlv : Sm lv) {dep : Nat} (hdep : dep < 1000) (hg : GivesG L ds lv dep) : GivesG L ds lv (dep + 1) := by
  intro i hi
  obtain ⟨k, j1, e1, k0, k7, hj1⟩ := c68 hL hi (n := 7) (by omega) (by omega)
  simp at e1
  unfold Sm at hlv
  have hd1 : ¬ ((dep : Int) + 1 < 1) := by omega
  have hd2 : (dep : Int) + 1 - 1 = dep := by omega
  have leafCase : ∀ h1 : k < 3, ∀ h2 : ¬ lv = [], ∃ (t : Ty) (j : Nat), (orcL AP).i 27 [.sptr 0 0, .pv (.lst (ds.map Dt.pv)), .pv (.lst (lv.map Ty.pv)), .pv (vI ((dep + 1 : Nat) : Int))] (tp L i) [] = some ([t.av], tp L j, []) ∧ MadeG (· ∈ ds) lv (dep + 1) t ∧ j ≤ L.length := by
    intro h1 h2
    have hp : 0 < lv.length := List.length_pos_iff.2 h2
    obtain ⟨r, j2, e2, r0, r1, hj2⟩ := c68 hL hj1 (n := lv.length) (by omega) (by omega)
    obtain ⟨m, rfl, hm⟩ := natI r0 r1
    obtain ⟨x, hx⟩ := getO hm
    simp at e2
    refine ⟨x, j2, ?_, .leaf (memO hx), hj2⟩
    rw [callI_body (af := g27) rfl (by simp [g27])]
    simp [-getElem?_pos, g27, e1, h1, hp, e2, hx]
  by_cases h1 : k < 3 ∧ ¬ lv = []
  · exact leafCase h1.1 h1.2
  · have h1' : ¬ k < 3 ∨ lv = [] := by
      by_cases h : k < 3
      · right; by_cases h' : lv = []
        · exact h'
        · exact absurd ⟨h, h'⟩ h1
      · exact .inl h
    by_cases h2 : k < 4
    · refine ⟨tyInt, j1, ?_, .int, hj1⟩
      have c := c34
      simp at c
      rw [callI_body (af := g27) rfl (by simp [g27])]
      rcases h1' with h | h
      · simp [-getElem?_pos, g27, e1, h, h2, c, tyInt]
      · subst h
        simp [-getElem?_pos, g27, e1, h2, c, tyInt]
    · have h3 : ¬ k < 3 := by omega
      by_cases h4 : (k = 4 ∨ k = 5) ∧ ¬ ds = []
      · obtain ⟨h4, h5⟩ := h4
        have hp : 0 < ds.length := List.length_pos_iff.2 h5
        obtain ⟨r, j2, e2, r0, r1, hj2⟩ := c68 hL hj1 (n := ds.length) (by omega) (by omega)
        obtain ⟨m, rfl, hm⟩ := natI r0 r1
        obtain ⟨d, hx⟩ := getO hm
        simp at e2
        have hdm := memO hx
        have hps : Sm d.params := by
          unfold Sm
          have := hda d hdm
          omega
        obtain ⟨as, j3, e3, ha, hm3, hj3⟩ := L27g hdep hg hps d.params.length 0 rfl (by omega) [] j2 rfl (by simp) hj2
        rw [g27L0_eq] at e3
        simp at e3
        have hsa : Sm as := by unfold Sm at hps ⊢; omega
        have c := c62 (s := d.name) (l := as) hsa
        simp at c
        refine ⟨⟨4, d.name, 0, 0, as⟩, j3, ?_, .con hdm ha hm3, hj3⟩
        rw [callI_body (af := g27) rfl (by simp [g27])]
        rcases h4 with rfl | rfl
        · simp [-getElem?_pos, g27, e1, hp, hd1, e2, hx, g27L0_eq, e3, c]
        · simp [-getElem?_pos, g27, e1, hp, hd1, e2, hx, g27L0_eq, e3, c]
      · obtain ⟨a, j2, ea, ma, hj2⟩ := hg j1 hj1
        obtain ⟨b, j3, eb, mb, hj3⟩ := hg j2 hj2
        simp at ea eb
        have c := c69 (a := a) (b := b)
        simp at c
        refine ⟨⟨4, [45, 62], 0, 0, [a, b]⟩, j3, ?_, .arrow ma mb, hj3⟩
        rw [callI_body (af := g27) rfl (by simp [g27])]
        by_cases h5 : ds = []
        · subst h5
          simp at ea eb
          simp (disch := omega) [-getElem?_pos, g27, e1, h2, h3, hd1, hd2, wrap_id, ea, eb, c]
        · have h6 : ¬ k = 4 ∧ ¬ k = 5 := by
            constructor
            · intro h; exact h4 ⟨.inl h, h5⟩
            · intro h; exact h4 ⟨.inr h, h5⟩
          simp (disch := omega) [-getElem?_pos, g27, e1, h2, h3, h6.1, h6.2, hd1, hd2, wrap_id, ea, eb, c]
theorem mk27 {L : List Int} (hL : Sm L) {ds : List Dt} (hds : ds.length ≤ 20) (hda : ∀ d ∈ ds, d.params.length ≤ 8) {lv : List Ty} (hlv : Sm lv) : ∀ dep : Nat, dep < 1000 → GivesG L ds lv dep
  | 0, _ => g27_0 hL hlv
  | dep + 1, h => g27_s hL hds hda hlv (by omega) (mk27 hL hds hda hlv dep (by omega))

theorem MadeG.ok {D : Dt → Prop} (hD : ∀ d, D d → d.params.length ≤ 8) {lv : List Ty} (h : ∀ t ∈ lv, t.args = []) {n : Nat} {t : Ty} (m : MadeG D lv n t) : t.Ok := by
  induction m with
  | leaf hl => exact bare_ok (h _ hl)
  | int => exact bare_ok rfl
  | con hd hl _ ih => exact ⟨by have := hD _ hd; unfold Sm; simp; omega, ih⟩
  | arrow _ _ ha hb => exact ⟨by simp [Sm], by intro x hx; simp at hx; rcases hx with rfl | rfl <;> assumption⟩
end Go.Ab.Lw
namespace Go.Ab.Lw
open Ev
set_option maxRecDepth 10000
set_option linter.unusedSimpArgs false
abbrev Txt := List UInt8
def tyC (t : Ty) : List AV := [.pv (vI t.kind), .pv (.str t.name), .pv (vI t.id), .pv (vI t.home), .pv (.lst (t.args.map Ty.pv))]
@[simp] theorem tyC_eq (t : Ty) : tyC t = [.pv (vI t.kind), .pv (.str t.name), .pv (vI t.id), .pv (vI t.home), .pv (.lst (t.args.map Ty.pv))] := rfl

/-- Only constructed types have parts. -/
inductive Ty.Cw : Ty → Prop
  | mk {t : Ty} : (t.kind ≠ 4 → t.args = []) → (∀ x ∈ t.args, Ty.Cw x) → Ty.Cw t
theorem Ty.Cw.kid {t : Ty} (h : t.Cw) : ∀ x ∈ t.args, x.Cw := by cases h; assumption
end Go.Ab.Lw
namespace Go.Ab.Lw
/-- An arm over bodies. -/
structure ArmOf (E : Type) where
  pos : Int
  con : List UInt8
  vars : List (List UInt8)
  body : E

/-- An expression. -/
structure Ex where
  kind : Int
  pos : Int
  name : List UInt8
  num : Int
  kids : List Ex
  arms : List (ArmOf Ex)
  ty : Ty

abbrev Ar := ArmOf Ex

def tyZ : Ty := ⟨0, [], 0, 0, []⟩
instance : Inhabited Ex := ⟨⟨0, 0, [], 0, [], [], tyZ⟩⟩
instance : Inhabited Ar := ⟨⟨0, [], [], default⟩⟩

/-- The cells of a type. -/
def Ty.cells (t : Ty) : List PV := [.int .i64 t.kind, .str t.name, .int .i64 t.id, .int .i64 t.home, .lst (t.args.map Ty.pv)]

mutual
def Ex.cells : Ex → List PV
  | ⟨k, p, n, m, ks, as, t⟩ => .int .i64 k :: .int .i64 p :: .str n :: .int .i64 m :: .lst (Ex.pvs ks) :: .lst (Ex.avs as) :: t.cells
def Ex.pvs : List Ex → List PV
  | [] => []
  | e :: r => .agg (Ex.cells e) :: Ex.pvs r
def Ex.avs : List (ArmOf Ex) → List PV
  | [] => []
  | ⟨p, c, v, b⟩ :: r => .agg (.int .i64 p :: .str c :: .lst (v.map .str) :: Ex.cells b) :: Ex.avs r
end

def Ex.pv (e : Ex) : PV := .agg e.cells
def Ar.pv (a : Ar) : PV := .agg (.int .i64 a.pos :: .str a.con :: .lst (a.vars.map .str) :: a.body.cells)

theorem Ex.pvs_map : ∀ l : List Ex, Ex.pvs l = l.map Ex.pv
  | [] => by simp [Ex.pvs]
  | e :: r => by simp [Ex.pvs, Ex.pvs_map r, Ex.pv]
theorem Ex.avs_map : ∀ l : List Ar, Ex.avs l = l.map Ar.pv
  | [] => by simp [Ex.avs]
  | ⟨p, c, v, b⟩ :: r => by simp [Ex.avs, Ex.avs_map r, Ar.pv]
theorem Ex.cells_eq (e : Ex) : e.cells = [.int .i64 e.kind, .int .i64 e.pos, .str e.name, .int .i64 e.num, .lst (e.kids.map Ex.pv), .lst (e.arms.map Ar.pv), .int .i64 e.ty.kind, .str e.ty.name, .int .i64 e.ty.id, .int .i64 e.ty.home, .lst (e.ty.args.map Ty.pv)] := by
  cases e; simp only [Ex.cells, Ex.pvs_map, Ex.avs_map, Ty.cells]
@[simp] theorem Ex.pv_eq (e : Ex) : e.pv = .agg [.int .i64 e.kind, .int .i64 e.pos, .str e.name, .int .i64 e.num, .lst (e.kids.map Ex.pv), .lst (e.arms.map Ar.pv), .int .i64 e.ty.kind, .str e.ty.name, .int .i64 e.ty.id, .int .i64 e.ty.home, .lst (e.ty.args.map Ty.pv)] := by
  rw [Ex.pv, Ex.cells_eq]
@[simp] theorem Ar.pv_eq (a : Ar) : a.pv = .agg [.int .i64 a.pos, .str a.con, .lst (a.vars.map .str), .int .i64 a.body.kind, .int .i64 a.body.pos, .str a.body.name, .int .i64 a.body.num, .lst (a.body.kids.map Ex.pv), .lst (a.body.arms.map Ar.pv), .int .i64 a.body.ty.kind, .str a.body.ty.name, .int .i64 a.body.ty.id, .int .i64 a.body.ty.home, .lst (a.body.ty.args.map Ty.pv)] := by
  rw [Ar.pv, Ex.cells_eq]

/-- What a struct of an expression looks like out of pure cells. -/
def Ex.av (e : Ex) : AV := .agg [.pv (vI e.kind), .pv (vI e.pos), .pv (.str e.name), .pv (vI e.num), .pv (.lst (e.kids.map Ex.pv)), .pv (.lst (e.arms.map Ar.pv)), .pv (vI e.ty.kind), .pv (.str e.ty.name), .pv (vI e.ty.id), .pv (vI e.ty.home), .pv (.lst (e.ty.args.map Ty.pv))]

theorem el_ex : El Ex.pv 11 true := ⟨fun x => by simp, fun x => by simp⟩
theorem el_arm : El Ar.pv 14 true := ⟨fun x => by simp, fun x => by simp⟩
@[simp] theorem headSz_Ex {l : List Ex} : headSz 11 (l.map Ex.pv) = true := el_ex.head l
@[simp] theorem headSz_Ar {l : List Ar} : headSz 14 (l.map Ar.pv) = true := el_arm.head l

@[simp] theorem headSz_Str {l : List (List UInt8)} : headSz 1 (l.map PV.str) = true := el_str.head l
@[simp] theorem headSz_vI {l : List Int} : headSz 1 (l.map vI) = true := el_int.head l

@[simp] theorem Ex.eta (e : Ex) : Ex.mk e.kind e.pos e.name e.num e.kids e.arms e.ty = e := by cases e; rfl

/-- The children. -/
def Ex.ch (e : Ex) : List Ex := e.kids ++ e.arms.map ArmOf.body

theorem ArmOf.size_body (a : Ar) : SizeOf.sizeOf a.body < SizeOf.sizeOf a := by cases a; simp; omega

/-- A property of all expressions that are parts. -/
theorem Ex.rec1 {p : Ex → Prop} (h : ∀ e : Ex, (∀ x ∈ e.kids, p x) → (∀ a ∈ e.arms, p a.body) → p e) : ∀ e, p e
  | ⟨k, ps, n, m, ks, as, t⟩ => h _ (fun x _hx => Ex.rec1 h x) (fun a _ha => Ex.rec1 h a.body)
termination_by e => SizeOf.sizeOf e
decreasing_by
  · have := _root_.List.sizeOf_lt_of_mem _hx; simp at *; omega
  · have := _root_.List.sizeOf_lt_of_mem _ha; have := ArmOf.size_body a; simp at *; omega

end Go.Ab.Lw
namespace Go.Ab.Lw
open Ev
set_option maxRecDepth 10000
set_option linter.unusedSimpArgs false
/-- The cells of an array of texts. -/
def tx (l : List (List UInt8)) : List AV := l.map fun s => AV.pv (.str s)
/-- Shared memory: an array of texts, and a text's box, behind something. -/
def SA (X : Sh) (l : List (List UInt8)) (t : List UInt8) : Sh := X ++ [some (tx l), some [.pv (.str t)]]
theorem tx_pv {l : List (List UInt8)} : ∀ v ∈ tx l, ∃ p, v = AV.pv p := by
  intro v hv
  simp only [tx, List.mem_map] at hv
  obtain ⟨s, _, rfl⟩ := hv
  exact ⟨_, rfl⟩
theorem SA_quiet {X : Sh} (hX : Quiet X) {l : List (List UInt8)} {t : List UInt8} : Quiet (SA X l t) := by
  refine hX.app fun cs hc => ?_
  simp at hc
  rcases hc with rfl | rfl
  · exact tx_pv
  · intro v hv; simp at hv; exact ⟨_, hv⟩
theorem SA_arr {X : Sh} {l : List (List UInt8)} {t : List UInt8} : (SA X l t)[X.length]? = some (some (tx l)) := by simp [SA]
theorem SA_box {X : Sh} {l : List (List UInt8)} {t : List UInt8} : (SA X l t)[X.length + 1]? = some (some [.pv (.str t)]) := by simp [SA]
theorem SA_set {X : Sh} {l l' : List (List UInt8)} {t : List UInt8} : (SA X l t).set X.length (some (tx l')) = SA X l' t := by simp [SA]
theorem SA_len {X : Sh} {l : List (List UInt8)} {t : List UInt8} : (SA X l t).length = X.length + 2 := by simp [SA]
theorem tx_get {l : List (List UInt8)} {i : Nat} {s : List UInt8} (h : l[i]? = some s) : (tx l)[i]? = some (.pv (.str s)) := by simp [tx, h]
theorem tx_len {l : List (List UInt8)} : (tx l).length = l.length := by simp [tx]
theorem tx_set {l : List (List UInt8)} {i : Nat} (h : i < l.length) {s : List UInt8} : setRange (tx l) i [.pv (.str s)] = tx (l.set i s) := by
  rw [List.set_eq_take_append_cons_drop, if_pos h]
  simp [setRange_eq, tx, List.map_take, List.map_drop]

theorem c413 {SH : Sh} (hn : ∀ old ts, normS old ts SH = (SH, old, ts)) {c : Nat} {t x : List UInt8} (hb : SH[c]? = some (some [.pv (.str t)])) (hc : c < SH.length) :
    (orcL AP).i 413 [.pv (.str x), .sptr c 0] SH [] = some ([.pv (.bool (decide (x = t)))], SH, []) := by
  rw [callI_body (af := g413) rfl (by simp [g413])]
  simp [-getElem?_pos, g413, hb, hn]
  by_cases e : x = t <;> simp [e]

theorem ask413 {SH : Sh} (hn : ∀ old ts, normS old ts SH = (SH, old, ts)) (hs : ∀ n, shiftS n SH = SH) {c : Nat} {t x : List UInt8} (hb : SH[c]? = some (some [.pv (.str t)])) (hc : c < SH.length) :
    exec (orcL AP) .callV [.fn 413 [.sptr c 0], .pv (.str x)] none SH [] = some ⟨.pv (.bool (decide (x = t))), none, SH, []⟩ := by
  have k := c413 hn hb hc (x := x)
  simp [hn, k, hs]

theorem L421 {SH : Sh} (hn : ∀ old ts, normS old ts SH = (SH, old, ts)) (hs : ∀ n, shiftS n SH = SH) {b c : Nat} {t : List UInt8} {l : List (List UInt8)} (hS : Sm l) (ha : SH[b]? = some (some (tx l))) (hb : SH[c]? = some (some [.pv (.str t)])) (hc : c < SH.length) :
    ∀ (n i : Nat), l.length - i = n → i ≤ l.length →
    cl AP (IdxL 1 false) ⟨[(0, .sarr b 1 l.length false), (1, .fn 413 [.sptr c 0]), (7, .pv (vI l.length)), (8, .pv (vI i))], [], SH, []⟩ =
      match idxB (fun x => decide (x = t)) (l.drop i) with
      | some k => some (.ret, ⟨[(4, .pv (vI (i + k : Nat)))], [], SH, []⟩)
      | none => some (.exit 0, ⟨[(0, .sarr b 1 l.length false), (1, .fn 413 [.sptr c 0]), (7, .pv (vI l.length)), (8, .pv (vI l.length)), (9, .pv (.bool false))], [], SH, []⟩)
  | 0, i, hk, hi => by
    have : i = l.length := by omega
    subst this
    rw [IdxL_eq]
    simp [IdxB, idxB, hn]
  | n + 1, i, hk, hi => by
    have hi : i < l.length := by omega
    obtain ⟨x, hx⟩ := getO hi
    unfold Sm at hS
    have ih := L421 hn hs hS ha hb hc n (i + 1) (by omega) (by omega)
    have hg := tx_get hx
    have hB : mapB (tx l) = false := mapB_pvs tx_pv
    have hle : i + 1 ≤ (tx l).length := by rw [tx_len]; omega
    have q := ask413 hn hs hb hc (x := x)
    simp at ih
    rw [IdxL_eq, dropC hx]
    by_cases e : x = t
    · rw [decide_eq_true e] at q
      subst e
      simp (disch := omega) [-getElem?_pos, -exec_callV, IdxB, hx, hi, ha, hg, hB, hle, idxB, hn, q]
    · rw [decide_eq_false e] at q
      simp (disch := omega) [-getElem?_pos, -exec_callV, IdxB, hx, hi, ha, hg, hB, hle, e, idxB, wrap_id, hn, q, ih]
      cases idxB (fun x => decide (x = t)) (l.drop (i + 1)) with
      | none => rfl
      | some k => simp; omega
end Go.Ab.Lw
namespace Go.Ab.Lw
open Ev

/-- A struct as that many cells, all pure. -/
structure Row {α : Type} (f : α → List PV) (sz : Nat) : Prop where
  pos : 0 < sz
  len : ∀ x, (f x).length = sz

section
variable {α : Type} {f : α → List PV} {sz : Nat}
/-- The cells. -/
def flt (f : α → List PV) (l : List α) : List AV := l.flatMap fun x => (f x).map .pv
theorem flt_nil : flt f [] = [] := rfl
theorem flt_cons {x : α} {l : List α} : flt f (x :: l) = (f x).map .pv ++ flt f l := rfl
theorem flt_app {l m : List α} : flt f (l ++ m) = flt f l ++ flt f m := by simp [flt]
theorem flt_len (h : Row f sz) : ∀ {l : List α}, (flt f l).length = l.length * sz
  | [] => by simp [flt]
  | x :: r => by rw [flt_cons, List.length_append, List.length_map, h.len, flt_len h, List.length_cons, Nat.add_mul]; omega
theorem flt_pv {l : List α} : ∀ v ∈ flt f l, ∃ p, v = AV.pv p := by
  intro v hv
  simp only [flt, List.mem_flatMap, List.mem_map] at hv
  obtain ⟨x, _, p, _, rfl⟩ := hv
  exact ⟨p, rfl⟩
theorem flt_drop (h : Row f sz) : ∀ {l : List α} {i : Nat} {x : α}, l[i]? = some x → (flt f l).drop (i * sz) = (f x).map .pv ++ flt f (l.drop (i + 1))
  | x :: r, 0, y, e => by simp at e; subst e; simp [flt]
  | x :: r, i + 1, y, e => by
    have ih := flt_drop h (l := r) (i := i) (x := y) (by simpa using e)
    rw [flt_cons, List.drop_append, List.drop_eq_nil_of_le (by rw [List.length_map, h.len, Nat.add_mul]; omega), List.length_map, h.len, show (i + 1) * sz - sz = i * sz from by rw [Nat.add_mul]; omega, ih]
    simp
  | [], _, _, e => by simp at e
theorem flt_take (h : Row f sz) : ∀ {l : List α} {i : Nat}, i ≤ l.length → (flt f l).take (i * sz) = flt f (l.take i)
  | l, 0, _ => by simp [flt]
  | x :: r, i + 1, e => by
    have ih := flt_take h (l := r) (i := i) (by simpa using e)
    rw [flt_cons, List.take_append, List.take_of_length_le (by rw [List.length_map, h.len, Nat.add_mul]; omega), List.length_map, h.len, show (i + 1) * sz - sz = i * sz from by rw [Nat.add_mul]; omega, ih]
    simp [flt_cons]
  | [], i + 1, e => by simp at e
theorem flt_sub (h : Row f sz) {l : List α} {i : Nat} {x : α} (e : l[i]? = some x) {o k : Nat} (hk : o + k ≤ sz) : ((flt f l).drop (i * sz + o)).take k = (((f x).drop o).take k).map .pv := by
  rw [← List.drop_drop, flt_drop h e, List.drop_append, List.take_append, List.length_drop, List.length_map, h.len]
  have e1 : k - (sz - o) = 0 := by omega
  rw [e1, List.take_zero, List.append_nil, ← List.map_drop, ← List.map_take]
theorem flt_le (h : Row f sz) {l : List α} {i : Nat} (hi : i < l.length) {o k : Nat} (hk : o + k ≤ sz) : i * sz + o + k ≤ (flt f l).length := by
  rw [flt_len h]
  have : (i + 1) * sz ≤ l.length * sz := Nat.mul_le_mul_right _ hi
  rw [Nat.add_mul] at this
  omega
/-- One or more cells out of an array. -/
theorem flt_of (h : Row f sz) {l : List α} {i : Nat} {x : α} (e : l[i]? = some x) {o k : Nat} (hk : o + k ≤ sz) : ofCells true k (flt f l) (i * sz + o) = some (.agg ((((f x).drop o).take k).map .pv)) := by
  have hi := (List.getElem?_eq_some_iff.1 e).1
  unfold ofCells
  rw [if_pos (flt_le h hi hk), if_pos rfl, flt_sub h e hk]
theorem flt_get (h : Row f sz) {l : List α} {i : Nat} {x : α} (e : l[i]? = some x) {o : Nat} (hk : o < sz) {p : PV} (hp : (f x)[o]? = some p) : (flt f l)[i * sz + o]? = some (.pv p) := by
  have e1 := flt_drop h e
  rw [← List.getElem?_drop, e1, List.getElem?_append_left (by rw [List.length_map, h.len]; exact hk), List.getElem?_map, hp]
  rfl
theorem flt_of1 (h : Row f sz) {l : List α} {i : Nat} {x : α} (e : l[i]? = some x) {o : Nat} (hk : o < sz) {p : PV} (hp : (f x)[o]? = some p) : ofCells false 1 (flt f l) (i * sz + o) = some (.pv p) := by
  have hi := (List.getElem?_eq_some_iff.1 e).1
  unfold ofCells
  rw [if_pos (flt_le h hi (k := 1) (by omega)), if_neg (by simp), if_pos rfl, flt_get h e hk hp]
theorem flt_set (h : Row f sz) {l : List α} {i : Nat} {x y : α} (e : l[i]? = some x) {o : Nat} {vs : List PV} (hk : o + vs.length ≤ sz) (hy : f y = (f x).take o ++ vs ++ (f x).drop (o + vs.length)) : setRange (flt f l) (i * sz + o) (vs.map .pv) = flt f (l.set i y) := by
  have hi := (List.getElem?_eq_some_iff.1 e).1
  have e3 : l.set i y = l.take i ++ y :: l.drop (i + 1) := by rw [List.set_eq_take_append_cons_drop, if_pos hi]
  have e1 := flt_drop h e
  have e2 := flt_take h (l := l) (i := i) (by omega)
  rw [e3, setRange_eq, flt_app, flt_cons, ← e2, hy]
  have e4 : (flt f l).drop (i * sz + o + (vs.map AV.pv).length) = ((f x).drop (o + vs.length)).map .pv ++ flt f (l.drop (i + 1)) := by
    rw [List.length_map, Nat.add_assoc, ← List.drop_drop, e1, List.drop_append, List.length_map, h.len, show o + vs.length - sz = 0 from by omega]
    simp
  have e5 : (flt f l).take (i * sz + o) = (flt f l).take (i * sz) ++ ((f x).take o).map .pv := by
    rw [List.take_add, e1, List.take_append, List.length_map, h.len, show o - sz = 0 from by omega]
    simp
  rw [e4, e5]
  simp
theorem flt_set1 (h : Row f sz) {l : List α} {i : Nat} {x y : α} (e : l[i]? = some x) {o : Nat} {p : PV} (hk : o + 1 ≤ sz) (hy : f y = (f x).take o ++ [p] ++ (f x).drop (o + 1)) : setRange (flt f l) (i * sz + o) [.pv p] = flt f (l.set i y) :=
  flt_set h e (vs := [p]) (by simpa using hk) hy
theorem flt_frz (h : Row f sz) : ∀ {l : List α}, ∃ ps, frzL (flt f l) = some ps ∧ (chunk sz l.length ps).map PV.agg = l.map fun x => .agg (f x)
  | [] => ⟨[], rfl, rfl⟩
  | x :: r => by
    obtain ⟨ps, h1, h2⟩ := flt_frz h (l := r)
    have key : ∀ (a : List PV) (b : List AV), frzL b = some ps → frzL (a.map AV.pv ++ b) = some (a ++ ps) := by
      intro a b hb
      induction a with
      | nil => simpa using hb
      | cons c a ih => simp only [List.map_cons, List.cons_append, frzL, frz0, ih]
    refine ⟨f x ++ ps, key _ _ h1, ?_⟩
    simp only [List.length_cons, chunk, List.map_cons]
    rw [List.take_left' (h.len x), List.drop_left' (h.len x), h2]
/-- Frozen, the cells are a list. -/
theorem flt_lst (h : Row f sz) {l : List α} : ((frzL (flt f l)).bind (arrEls sz true l.length)).map PV.lst = some (.lst (l.map fun x => .agg (f x))) := by
  obtain ⟨ps, h1, h2⟩ := flt_frz h (l := l)
  rw [h1]
  simp only [Option.bind_some, arrEls, if_true, Option.map_some, h2]
theorem flt_map (h : Row f sz) {l : List α} : ((l.map fun x => PV.agg (f x)).flatMap cellsP).map AV.pv = flt f l := by
  induction l with
  | nil => rfl
  | cons x r ih => simp only [List.map_cons, List.flatMap_cons, List.map_append, ih, flt_cons, cellsP]
end

/-- Dead blocks. -/
abbrev nn (k : Nat) : Sh := List.replicate k none
theorem nn_quiet (k : Nat) : Quiet (nn k) := by
  intro cs hc
  simp [nn, List.mem_replicate] at hc
end Go.Ab.Lw

namespace Go.Ab.Lw
open Ev
set_option maxRecDepth 10000
set_option linter.unusedSimpArgs false
/-- Expressions of moderate width. -/
inductive Ex.Ok : Ex → Prop
  | mk {e : Ex} : e.kids.length ≤ 1000 → e.arms.length ≤ 1000 → (∀ a ∈ e.arms, a.vars.length ≤ 1000) → e.ty.Ok → (∀ x ∈ e.ch, x.Ok) → e.Ok
theorem Ex.Ok.k {e : Ex} (h : e.Ok) : e.kids.length ≤ 1000 := by cases h; assumption
theorem Ex.Ok.a {e : Ex} (h : e.Ok) : e.arms.length ≤ 1000 := by cases h; assumption
theorem Ex.Ok.v {e : Ex} (h : e.Ok) : ∀ a ∈ e.arms, a.vars.length ≤ 1000 := by cases h; assumption
theorem Ex.Ok.t {e : Ex} (h : e.Ok) : e.ty.Ok := by cases h; assumption
theorem Ex.Ok.c {e : Ex} (h : e.Ok) : ∀ x ∈ e.ch, x.Ok := by cases h; assumption

theorem Ex.ch_len {e : Ex} : e.ch.length = e.kids.length + e.arms.length := by simp [Ex.ch]

/-- The cells of an expression in memory. -/
@[simp] def Ex.cl (e : Ex) : List AV := [.pv (vI e.kind), .pv (vI e.pos), .pv (.str e.name), .pv (vI e.num), .pv (.lst (e.kids.map Ex.pv)), .pv (.lst (e.arms.map Ar.pv)), .pv (vI e.ty.kind), .pv (.str e.ty.name), .pv (vI e.ty.id), .pv (vI e.ty.home), .pv (.lst (e.ty.args.map Ty.pv))]

theorem row_ex : Row Ex.cells 11 := ⟨by omega, fun x => by rw [Ex.cells_eq]; rfl⟩
/-- The cells of an arm. -/
def Ar.cells (a : Ar) : List PV := .int .i64 a.pos :: .str a.con :: .lst (a.vars.map .str) :: a.body.cells
theorem row_ar : Row Ar.cells 14 := ⟨by omega, fun x => by simp [Ar.cells, Ex.cells_eq]⟩
theorem Ex.cl_eq (e : Ex) : e.cells.map AV.pv = e.cl := by rw [Ex.cells_eq]; rfl

/-- The cells of an expression whose arms stand somewhere. -/
@[simp] def Ex.clA (e : Ex) (A : AV) : List AV := [.pv (vI e.kind), .pv (vI e.pos), .pv (.str e.name), .pv (vI e.num), .pv (.lst (e.kids.map Ex.pv)), A, .pv (vI e.ty.kind), .pv (.str e.ty.name), .pv (vI e.ty.id), .pv (vI e.ty.home), .pv (.lst (e.ty.args.map Ty.pv))]
/-- Arms: a list, or an array that may be written. -/
def AIs (A : AV) (as : List Ar) (X : Sh) : Prop := A = .pv (.lst (as.map Ar.pv)) ∨ ∃ b, b < X.length ∧ A = .sarr b 14 as.length true ∧ X[b]? = some (some (flt Ar.cells as))
theorem AIs.app {A : AV} {as : List Ar} {X Y : Sh} (h : AIs A as X) : AIs A as (X ++ Y) := by
  rcases h with h | ⟨b, h1, h2, h3⟩
  · exact .inl h
  · exact .inr ⟨b, by rw [List.length_append]; omega, h2, by rw [List.getElem?_append_left h1]; exact h3⟩

/-- Where a list of expressions stands that is made by appends. -/
def hV (X : Sh) (l : List Ex) : AV := if l = [] then .own [] 0 else .sarr X.length 11 l.length true
def hS (X : Sh) (l : List Ex) : Sh := if l = [] then X else X ++ [some (flt Ex.cells l)]
def hT (l : List Ex) : Toks := if l = [] then [0] else []
theorem hS_quiet {X : Sh} (h : Quiet X) (l : List Ex) : Quiet (hS X l) := by
  unfold hS
  by_cases h0 : l = []
  · rw [if_pos h0]; exact h
  · rw [if_neg h0]; exact h.app (Quiet.one flt_pv)

theorem L145 {e : Ex} {A : AV} (ha : e.arms.length ≤ 1000) : ∀ (n i : Nat), e.arms.length - i = n → i ≤ e.arms.length → ∀ (X : Sh) (acc : List Ex), Quiet X → AIs A e.arms X → acc.length + n ≤ 1000000 → ∃ k,
    cl AP g145L0 ⟨[(1, .lptr 1 0), (3, hV X acc), (4, .pv (vI i))], [(1, e.clA A)], hS X acc, hT acc⟩ =
      some (.exit 0, ⟨[(1, .lptr 1 0), (3, hV (X ++ nn k) (acc ++ (e.arms.drop i).map ArmOf.body)), (4, .pv (vI e.arms.length)), (12, .pv (.bool false))], [(1, e.clA A)], hS (X ++ nn k) (acc ++ (e.arms.drop i).map ArmOf.body), hT (acc ++ (e.arms.drop i).map ArmOf.body)⟩)
  | 0, i, hn, hi, X, acc, hX, hA, hl => by
    have : i = e.arms.length := by omega
    subst this
    refine ⟨0, ?_⟩
    rw [List.drop_length, List.map_nil, List.append_nil, show nn 0 = [] from rfl, List.append_nil]
    have hn := (hS_quiet hX acc).norm
    have vc : (hV X acc = .own [] 0 ∧ hT acc = [0]) ∨ (∃ b z k g, hV X acc = .sarr b z k g ∧ hT acc = []) := by
      unfold hV hT
      by_cases h0 : acc = []
      · left; simp [h0]
      · right; exact ⟨X.length, 11, acc.length, true, by simp [h0], by simp [h0]⟩
    rw [g145L0_eq]
    rcases vc with ⟨v1, t1⟩ | ⟨b1, z1, k1, f1, v1, t1⟩ <;> rw [v1, t1] <;> generalize hS X acc = S0 at hn ⊢ <;>
      rcases hA with rfl | ⟨b, hb, rfl, hx⟩ <;> simp [g145B0, hn]
  | n + 1, i, hn, hi, X, acc, hX, hA, hl => by
    have hi : i < e.arms.length := by omega
    obtain ⟨x, hx⟩ := getO hi
    have hnX := hX.norm
    have hB11 : ∀ m : Nat, m ≤ 1000000 → m * 152 ≤ 140737488355328 := by omega
    have hcl := Ex.cells_eq x.body
    rw [dropC hx, List.map_cons]
    have step : ∃ k, cl AP g145L0 ⟨[(1, .lptr 1 0), (3, hV (if acc = [] then X else X ++ [none]) (acc ++ [x.body])), (4, .pv (vI (i + 1 : Nat)))], [(1, e.clA A)], hS (if acc = [] then X else X ++ [none]) (acc ++ [x.body]), hT (acc ++ [x.body])⟩ =
      some (.exit 0, ⟨[(1, .lptr 1 0), (3, hV (X ++ nn k) (acc ++ (x.body :: (e.arms.drop (i + 1)).map ArmOf.body))), (4, .pv (vI e.arms.length)), (12, .pv (.bool false))], [(1, e.clA A)], hS (X ++ nn k) (acc ++ (x.body :: (e.arms.drop (i + 1)).map ArmOf.body)), hT (acc ++ (x.body :: (e.arms.drop (i + 1)).map ArmOf.body))⟩) := by
      by_cases h0 : acc = []
      · rw [if_pos h0]
        obtain ⟨k, ih⟩ := L145 ha n (i + 1) (by omega) (by omega) X (acc ++ [x.body]) hX hA (by simp; omega)
        refine ⟨k, ?_⟩
        rw [ih]
        simp only [List.append_assoc, List.singleton_append]
      · rw [if_neg h0]
        obtain ⟨k, ih⟩ := L145 ha n (i + 1) (by omega) (by omega) (X ++ [none]) (acc ++ [x.body]) (hX.app (nn_quiet 1)) hA.app (by simp; omega)
        refine ⟨k + 1, ?_⟩
        have e1 : X ++ [none] ++ nn k = X ++ nn (k + 1) := by simp [nn, List.replicate_succ]
        rw [ih, e1]
        simp only [List.append_assoc, List.singleton_append]
    obtain ⟨k, ih⟩ := step
    refine ⟨k, ?_⟩
    generalize hV (X ++ nn k) (acc ++ (x.body :: (e.arms.drop (i + 1)).map ArmOf.body)) = V2 at ih ⊢
    generalize hS (X ++ nn k) (acc ++ (x.body :: (e.arms.drop (i + 1)).map ArmOf.body)) = S2 at ih ⊢
    generalize hT (acc ++ (x.body :: (e.arms.drop (i + 1)).map ArmOf.body)) = T2 at ih ⊢
    have hne : acc ++ [x.body] ≠ [] := by simp
    have hn1 : ∀ Y, Quiet Y → ∀ old ts, normS old ts (Y ++ [some (flt Ex.cells (acc ++ [x.body]))]) = (Y ++ [some (flt Ex.cells (acc ++ [x.body]))], old, ts) := fun Y hY => (hY.app (Quiet.one flt_pv)).norm
    have hfl : flt Ex.cells (acc ++ [x.body]) = flt Ex.cells acc ++ x.body.cl := by rw [flt_app, ← Ex.cl_eq]; simp [flt]
    by_cases h0 : acc = []
    · subst h0
      rw [if_pos rfl] at ih
      have hn2 := hn1 X hX
      simp only [List.nil_append] at hne hn2 hfl ih
      simp only [hV, hS, hT, if_neg hne, if_true] at ih ⊢
      rw [hfl] at hn2 ih
      simp only [flt_nil, List.nil_append] at hn2 ih
      simp only [Ex.cl] at hn2
      rw [g145L0_eq] at ih ⊢
      rcases hA with rfl | ⟨b, hb, rfl, hxb⟩
      · simp [hn2] at ih
        simp (disch := omega) [-getElem?_pos, g145B0, hx, hi, wrap_id, hnX]
        rw [g145L0_eq]
        simp [hn2, ih]
      · have q1 := flt_sub row_ar hx (o := 3) (k := 11) (by omega)
        have q2 : i * 14 + 3 + 11 ≤ e.arms.length * 14 := by omega
        have q3 : (flt Ar.cells e.arms).length = e.arms.length * 14 := flt_len row_ar
        have q4 : mapB (flt Ar.cells e.arms) = false := mapB_pvs flt_pv
        have q5 : (((Ar.cells x).drop 3).take 11).map AV.pv = x.body.cl := by simp [Ar.cells, hcl]
        rw [q5] at q1
        generalize flt Ar.cells e.arms = T at *
        simp [hn2] at ih q1
        simp (disch := omega) [-getElem?_pos, g145B0, hx, hi, wrap_id, hnX, hxb, q1, q2, q3, q4]
        rw [g145L0_eq]
        simp [hn2, ih]
    · rw [if_neg h0] at ih
      have hn2 := hn1 (X ++ [none]) (hX.app (nn_quiet 1))
      have hn3 : ∀ old ts, normS old ts (X ++ [some (flt Ex.cells acc)]) = (X ++ [some (flt Ex.cells acc)], old, ts) := (hX.app (Quiet.one flt_pv)).norm
      simp only [hV, hS, hT, if_neg hne, if_neg h0] at ih ⊢
      have r1 : (flt Ex.cells acc).length = acc.length * 11 := flt_len row_ex
      have r2 : mapB (flt Ex.cells acc) = false := mapB_pvs flt_pv
      have r3 : (flt Ex.cells acc).take (acc.length * 11) = flt Ex.cells acc := List.take_of_length_le (by omega)
      have hb2 : (acc.length + 1) * 152 ≤ 140737488355328 := by omega
      rw [hfl] at hn2 ih
      rw [List.length_append, List.length_singleton, List.length_append, List.length_singleton] at ih
      have s1 : ∀ u w : Option (List AV), (X ++ [u]).set X.length w = X ++ [w] := fun u w => by simp
      have s2 : ∀ u : Option (List AV), (X ++ [u])[X.length]? = some u := fun u => by simp
      simp only [Ex.cl] at hn2
      rw [g145L0_eq] at ih ⊢
      rcases hA with rfl | ⟨b, hb, rfl, hxb⟩
      · generalize flt Ex.cells acc = F at *
        simp [hn2] at ih
        simp (disch := omega) [-getElem?_pos, g145B0, hx, hi, wrap_id, hn3, r1, r2, r3, s1, s2, hb2]
        rw [g145L0_eq]
        simp [hn2, ih]
      · have q1 := flt_sub row_ar hx (o := 3) (k := 11) (by omega)
        have q2 : i * 14 + 3 + 11 ≤ e.arms.length * 14 := by omega
        have q3 : (flt Ar.cells e.arms).length = e.arms.length * 14 := flt_len row_ar
        have q4 : mapB (flt Ar.cells e.arms) = false := mapB_pvs flt_pv
        have q5 : (((Ar.cells x).drop 3).take 11).map AV.pv = x.body.cl := by simp [Ar.cells, hcl]
        have q6 : ∀ u : Option (List AV), (X ++ [u])[b]? = X[b]? := fun u => List.getElem?_append_left hb
        rw [q5] at q1
        generalize flt Ar.cells e.arms = T at *
        generalize flt Ex.cells acc = F at *
        simp [hn2] at ih q1
        simp (disch := omega) [-getElem?_pos, g145B0, hx, hi, wrap_id, hn3, r1, r2, r3, s1, s2, hb2, hxb, q1, q2, q3, q4, q6]
        rw [g145L0_eq]
        simp [hn2, ih]
theorem ex_lst {l : List Ex} : ((frzL (flt Ex.cells l)).bind (arrEls 11 true l.length)).map PV.lst = some (.lst (l.map Ex.pv)) := flt_lst row_ex
theorem ex_map {l : List Ex} : ((l.map Ex.pv).flatMap cellsP).map AV.pv = flt Ex.cells l := flt_map row_ex

theorem c145 {e : Ex} (h : e.Ok) : (orcL AP).p 145 [e.pv] = some [.lst (e.ch.map Ex.pv)] := by
  have hk := h.k
  have ha := h.a
  obtain ⟨k, h2⟩ := L145 (A := .pv (.lst (e.arms.map Ar.pv))) ha _ 0 rfl (by omega) [] e.kids (by intro cs h; simp at h) (.inl rfl) (by omega)
  rw [List.drop_zero] at h2
  change cl AP g145L0 _ = some (.exit 0, ⟨[(1, .lptr 1 0), (3, hV ([] ++ nn k) e.ch), (4, .pv (vI e.arms.length)), (12, .pv (.bool false))], [(1, e.clA (.pv (.lst (e.arms.map Ar.pv))))], hS ([] ++ nn k) e.ch, hT e.ch⟩) at h2
  have hb2 : e.kids.length * 152 ≤ 140737488355328 := by omega
  have hm := ex_map (l := e.kids)
  have hl := ex_lst (l := e.ch)
  have hlen : (flt Ex.cells e.ch).length = e.ch.length * 11 := flt_len row_ex
  have hq0 : ∀ old ts, normS old ts ([some (flt Ex.cells e.kids)]) = ([some (flt Ex.cells e.kids)], old, ts) := (Quiet.one flt_pv).norm
  rw [callP_body (af := g145) rfl rfl (by decide)]
  by_cases hc : e.ch = []
  · have h0 : e.kids = [] ∧ e.arms = [] := by have := hc; simpa [Ex.ch] using this
    simp only [hc, hV, hS, hT, if_true, h0.1] at h2 ⊢
    rw [g145L0_eq] at h2
    simp [h0.1, h0.2] at h2
    simp [g145, h0.1, h0.2, g145L0_eq, h2]
  · have hg : ∀ Z : Option (List AV), ([] ++ nn k ++ [Z])[k]? = some Z := fun Z => by simp
    by_cases h0 : e.kids = []
    · simp only [hV, hS, hT, if_neg hc, h0, if_true] at h2 ⊢
      have hg1 := hg (some (flt Ex.cells e.ch))
      generalize [] ++ nn k ++ [some (flt Ex.cells e.ch)] = S2 at *
      generalize flt Ex.cells e.ch = F at *
      rw [g145L0_eq] at h2
      simp [h0] at h2
      simp at hl
      simp [-getElem?_pos, g145, h0, g145L0_eq, h2, hg1, hlen, hl]
    · simp only [hV, hS, hT, if_neg hc, if_neg h0] at h2 ⊢
      have hg1 := hg (some (flt Ex.cells e.ch))
      generalize [] ++ nn k ++ [some (flt Ex.cells e.ch)] = S2 at *
      generalize flt Ex.cells e.ch = F at *
      generalize flt Ex.cells e.kids = F0 at *
      rw [g145L0_eq] at h2
      simp [hq0] at h2 hl
      simp [-getElem?_pos, g145, h0, hb2, hm, hq0, g145L0_eq, h2, hg1, hlen, hl]

theorem L414 {e : Ex} (ha : e.arms.length ≤ 1000) : ∀ (n i : Nat), e.arms.length - i = n → i ≤ e.arms.length → ∀ acc : List Ex, acc.length + n ≤ 1000000 →
    cl AP g414L0 ⟨[(3, .own (acc.map Ex.pv) 0), (10, .pv (.lst (e.arms.map Ar.pv))), (11, .pv (vI e.arms.length)), (12, .pv (vI i))], [], [], [acc.length]⟩ =
      some (.exit 0, ⟨[(3, .own ((acc ++ (e.arms.drop i).map ArmOf.body).map Ex.pv) 0), (10, .pv (.lst (e.arms.map Ar.pv))), (11, .pv (vI e.arms.length)), (12, .pv (vI e.arms.length)), (13, .pv (.bool false))], [], [], [(acc ++ (e.arms.drop i).map ArmOf.body).length]⟩)
  | 0, i, hn, hi, acc, hl => by
    have : i = e.arms.length := by omega
    subst this
    rw [g414L0_eq]
    simp [g414B0]
  | n + 1, i, hn, hi, acc, hl => by
    have hi : i < e.arms.length := by omega
    obtain ⟨x, hx⟩ := getO hi
    have ih := L414 ha n (i + 1) (by omega) (by omega) (acc ++ [x.body]) (by simp; omega)
    rw [dropC hx]
    simp at ih
    rw [g414L0_eq]
    have hb : (acc.length + 1) * 152 ≤ 140737488355328 := by omega
    simp (disch := omega) [-getElem?_pos, g414B0, hx, hi, wrap_id, hb, ih]
theorem c414 {e : Ex} (h : e.Ok) : (orcL AP).p 414 [e.pv] = some [.lst (e.ch.map Ex.pv)] := by
  have hk := h.k
  have h2 := L414 h.a _ 0 rfl (by omega) e.kids (by have := h.a; omega)
  simp at h2
  rw [callP_body (af := g414) rfl rfl (by decide)]
  have hb : e.kids.length * 152 ≤ 140737488355328 := by omega
  by_cases h0 : e.kids = []
  · rw [g414L0_eq] at h2
    simp [h0] at h2
    simp [g414, Ex.ch, h0, g414L0_eq, h2]
  · simp [g414, Ex.ch, h0, hb, h2]

/-- The zero expression. -/
def exZ : Ex := ⟨0, 0, [], 0, [], [], tyZ⟩

/-- The part at a path. -/
def Ex.at : Ex → List Int → Option Ex
  | e, [] => some e
  | e, i :: r => if 0 ≤ i ∧ i < e.ch.length then match e.ch[i.toNat]? with | some x => x.at r | none => none else none

/-- The zero value at a loop. -/
def zO : List AV := [.pv (vI 0), .pv (vI 0), .pv (.str []), .pv (vI 0), .own [] 0, .own [] 1, .pv (vI 0), .pv (.str []), .pv (vI 0), .pv (vI 0), .own [] 2]
def zK : List AV := [.pv (vI 0), .pv (vI 0), .pv (.str []), .pv (vI 0), .clp [], .clp [], .pv (vI 0), .pv (.str []), .pv (vI 0), .pv (vI 0), .clp []]
def atR : Option Ex → List PV
  | some x => [x.pv, .bool true]
  | none => [exZ.pv, .bool false]

def R439 (p : List Int) : Option Ex → Option (AExit × St)
  | some x => some (.exit 0, ⟨[(1, .pv (.lst (p.map vI))), (2, .lptr 2 0), (4, .lptr 4 0), (6, .pv (vI p.length)), (11, .pv (.bool false))], [(2, x.cl), (4, zO)], [], [0, 0, 0]⟩)
  | none => some (.ret, ⟨[(4, .lptr 4 0), (5, .pv (.bool false))], [(4, zK)], [], [0, 0, 0]⟩)
theorem L439 {p : List Int} (hp : Sm p) : ∀ (n i : Nat), p.length - i = n → i ≤ p.length → ∀ e : Ex, e.Ok →
    cl AP g439L0 ⟨[(1, .pv (.lst (p.map vI))), (2, .lptr 2 0), (4, .lptr 4 0), (6, .pv (vI i))], [(2, e.cl), (4, zO)], [], [0, 0, 0]⟩ = R439 p (e.at (p.drop i))
  | 0, i, hn, hi, e, he => by
    have : i = p.length := by omega
    subst this
    rw [g439L0_eq]
    simp [g439B0, Ex.at, R439, zO]
  | n + 1, i, hn, hi, e, he => by
    have hi : i < p.length := by omega
    obtain ⟨k, hk⟩ := getO hi
    unfold Sm at hp
    have c := c145 he
    simp at c
    rw [dropC hk, g439L0_eq]
    simp only [Ex.at]
    by_cases h1 : 0 ≤ k ∧ k < e.ch.length
    · rw [if_pos h1]
      obtain ⟨m, rfl, hm⟩ := natI h1.1 h1.2
      obtain ⟨x, hx⟩ := getO hm
      have ih := L439 hp n (i + 1) (by omega) (by omega) x (he.c x (memO hx))
      have hm' : ¬ e.ch.length ≤ m := by omega
      simp [hx, zO] at ih ⊢
      generalize e.ch = C at *
      simp (disch := omega) [-getElem?_pos, g439B0, hk, hi, wrap_id, c, hx, hm, hm', ih]
    · rw [if_neg h1]
      by_cases h2 : 0 ≤ k
      · have h3 : ¬ k < e.ch.length := fun h => h1 ⟨h2, h⟩
        have h3' : ¬ k < 0 := by omega
        have h4 : (e.ch.length : Int) ≤ k := by omega
        generalize e.ch = C at *
        simp (disch := omega) [-getElem?_pos, g439B0, hk, hi, wrap_id, c, R439, zO, zK, h3, h3', h4]
      · have h3' : k < 0 := by omega
        generalize e.ch = C at *
        simp (disch := omega) [-getElem?_pos, g439B0, hk, hi, wrap_id, c, R439, zO, zK, h3']
theorem c439 {e : Ex} (h : e.Ok) {p : List Int} (hp : Sm p) : (orcL AP).p 439 [e.pv, .lst (p.map vI)] = some (atR (e.at p)) := by
  have h2 := L439 hp _ 0 rfl (by omega) e h
  simp at h2
  rw [callP_body (af := g439) rfl rfl (by decide)]
  rw [g439L0_eq] at h2
  cases hx : e.at p with
  | none => rw [hx] at h2; simp [R439, zO, zK] at h2; simp [g439, g439L0_eq, h2, atR, exZ, tyZ]
  | some x => rw [hx] at h2; simp [R439, zO, zK] at h2; simp [g439, g439L0_eq, h2, atR, exZ, tyZ]

def R410 (p : List Int) : Option Ex → Option (AExit × St)
  | some x => some (.exit 0, ⟨[(2, .lptr 2 0), (4, .lptr 4 0), (9, .pv (.lst (p.map vI))), (10, .pv (vI p.length)), (11, .pv (vI p.length)), (12, .pv (.bool false))], [(2, x.cl), (4, zO)], [], [0, 0, 0]⟩)
  | none => some (.ret, ⟨[(4, .lptr 4 0), (5, .pv (.bool false))], [(4, zK)], [], [0, 0, 0]⟩)
theorem L410 {p : List Int} (hp : Sm p) : ∀ (n i : Nat), p.length - i = n → i ≤ p.length → ∀ e : Ex, e.Ok →
    cl AP g410L0 ⟨[(2, .lptr 2 0), (4, .lptr 4 0), (9, .pv (.lst (p.map vI))), (10, .pv (vI p.length)), (11, .pv (vI i))], [(2, e.cl), (4, zO)], [], [0, 0, 0]⟩ = R410 p (e.at (p.drop i))
  | 0, i, hn, hi, e, he => by
    have : i = p.length := by omega
    subst this
    rw [g410L0_eq]
    simp [g410B0, Ex.at, R410, zO]
  | n + 1, i, hn, hi, e, he => by
    have hi : i < p.length := by omega
    obtain ⟨k, hk⟩ := getO hi
    unfold Sm at hp
    have c := c414 he
    simp at c
    rw [dropC hk, g410L0_eq]
    simp only [Ex.at]
    by_cases h1 : 0 ≤ k ∧ k < e.ch.length
    · rw [if_pos h1]
      obtain ⟨m, rfl, hm⟩ := natI h1.1 h1.2
      obtain ⟨x, hx⟩ := getO hm
      have ih := L410 hp n (i + 1) (by omega) (by omega) x (he.c x (memO hx))
      have hm' : ¬ e.ch.length ≤ m := by omega
      simp [hx, zO] at ih ⊢
      generalize e.ch = C at *
      simp (disch := omega) [-getElem?_pos, g410B0, hk, hi, wrap_id, c, hx, hm, hm', ih]
    · rw [if_neg h1]
      by_cases h2 : 0 ≤ k
      · have h3 : ¬ k < e.ch.length := fun h => h1 ⟨h2, h⟩
        have h3' : ¬ k < 0 := by omega
        have h4 : (e.ch.length : Int) ≤ k := by omega
        generalize e.ch = C at *
        simp (disch := omega) [-getElem?_pos, g410B0, hk, hi, wrap_id, c, R410, zO, zK, h3, h3', h4]
      · have h3' : k < 0 := by omega
        generalize e.ch = C at *
        simp (disch := omega) [-getElem?_pos, g410B0, hk, hi, wrap_id, c, R410, zO, zK, h3']
theorem c410 {e : Ex} (h : e.Ok) {p : List Int} (hp : Sm p) : (orcL AP).p 410 [e.pv, .lst (p.map vI)] = some (atR (e.at p)) := by
  have h2 := L410 hp _ 0 rfl (by omega) e h
  simp at h2
  rw [callP_body (af := g410) rfl rfl (by decide)]
  rw [g410L0_eq] at h2
  cases hx : e.at p with
  | none => rw [hx] at h2; simp [R410, zO, zK] at h2; simp [g410, g410L0_eq, h2, atR, exZ, tyZ]
  | some x => rw [hx] at h2; simp [R410, zO, zK] at h2; simp [g410, g410L0_eq, h2, atR, exZ, tyZ]

/-! ### Names that are bound -/
def bndE (e : Ex) (i : Nat) : List (List UInt8) :=
  if e.kind = 4 ∨ e.kind = 7 ∨ (e.kind = 6 ∧ i = 1) then [e.name]
  else if e.kind = 8 ∧ 0 < i then match e.arms[i - 1]? with | some a => a.vars | none => []
  else []

theorem c380 {e : Ex} {i : Nat} (hi : i < e.ch.length) (h8 : e.kind = 8 → e.kids.length = 1) (hO : e.Ok) : (orcL AP).p 380 [e.pv, vI i] = some [.lst ((bndE e i).map .str)] := by
  have ha := hO.a
  rw [Ex.ch_len] at hi
  rw [callP_body (af := g380) rfl rfl (by decide)]
  unfold bndE
  by_cases h1 : e.kind = 4
  · simp [g380, h1]
  · by_cases h2 : e.kind = 7
    · simp [g380, h1, h2]
    · by_cases h3 : e.kind = 6
      · by_cases h4 : i = 1
        · simp [g380, h1, h2, h3, h4]
        · have h4' : ¬ (i : Int) = 1 := by omega
          simp [g380, h1, h2, h3, h4, h4']
      · by_cases h5 : e.kind = 8
        · by_cases h6 : 0 < i
          · have h6' : (0 : Int) < i := by omega
            have hk := h8 h5
            obtain ⟨a, hx⟩ := getO (l := e.arms) (i := i - 1) (by omega)
            obtain ⟨m, rfl⟩ : ∃ m : Nat, i = m + 1 := ⟨i - 1, by omega⟩
            have hm : ((m + 1 : Nat) : Int) - 1 = m := by omega
            have hm' : ((m : Int) + 1) - 1 = m := by omega
            simp at hx hi
            have hlt : m < e.arms.length := by omega
            simp (disch := omega) [-getElem?_pos, g380, h1, h2, h3, h5, h6, h6', wrap_id, hm, hm', hx, hlt]
          · have : i = 0 := by omega
            subst this
            simp [g380, h1, h2, h3, h5]
        · simp [g380, h1, h2, h3, h5]

theorem c411 {e : Ex} {i : Nat} (hi : i < e.ch.length) (h8 : e.kind = 8 → e.kids.length = 1) (hO : e.Ok) : (orcL AP).p 411 [e.pv, vI i] = some [.lst ((bndE e i).map .str)] := by
  have ha := hO.a
  rw [Ex.ch_len] at hi
  rw [callP_body (af := g411) rfl rfl (by decide)]
  unfold bndE
  by_cases h1 : e.kind = 4
  · simp [g411, h1]
  · by_cases h2 : e.kind = 7
    · simp [g411, h1, h2]
    · by_cases h3 : e.kind = 6
      · by_cases h4 : i = 1
        · simp [g411, h1, h2, h3, h4]
        · have h4' : ¬ (i : Int) = 1 := by omega
          simp [g411, h1, h2, h3, h4, h4']
      · by_cases h5 : e.kind = 8
        · have hk := h8 h5
          by_cases h6 : 0 < i
          · have h6' : (1 : Int) ≤ i := by omega
            obtain ⟨a, hx⟩ := getO (l := e.arms) (i := i - 1) (by omega)
            obtain ⟨m, rfl⟩ : ∃ m : Nat, i = m + 1 := ⟨i - 1, by omega⟩
            have hm : ((m + 1 : Nat) : Int) - 1 = m := by omega
            have hm' : ((m : Int) + 1) - 1 = m := by omega
            simp at hx hi
            have hlt : m < e.arms.length := by omega
            have h6'' : (1 : Int) ≤ (m : Int) + 1 := by omega
            simp (disch := omega) [-getElem?_pos, g411, h1, h2, h3, h5, hk, h6, h6', h6'', wrap_id, hm, hm', hx, hlt]
          · have : i = 0 := by omega
            subst this
            simp [g411, h1, h2, h3, h5, hk]
        · simp [g411, h1, h2, h3, h5]
end Go.Ab.Lw
namespace Go.Ab.Lw
open Ev
set_option maxRecDepth 10000
set_option linter.unusedSimpArgs false
theorem take_set_succ {α : Type} {l : List α} {i : Nat} {x : α} (h : i < l.length) : (l.set i x).take (i + 1) = l.take i ++ [x] := by
  rw [List.set_eq_take_append_cons_drop, if_pos h, List.take_append, List.take_of_length_le (by simp; omega)]
  have : i + 1 - (l.take i).length = 1 := by simp; omega
  rw [this]; rfl
theorem drop_set_lt {α : Type} {l : List α} {i j : Nat} {x : α} (h : i < j) : (l.set i x).drop j = l.drop j := by
  rw [List.drop_set_of_lt h]

theorem L412 {X : Sh} (hX : Quiet X) {t : List UInt8} {N : Nat} (hN : N < 1099511627776) : ∀ (n j : Nat), N - j = n → j ≤ N → ∀ (a : List (List UInt8)) (i : Nat), a.length = N → i < j → ∃ (a' : List (List UInt8)) (i' : Nat),
    cl AP g412L0 ⟨[(0, .sarr X.length 1 N false), (1, .fn 413 [.sptr (X.length + 1) 0]), (5, .pv (vI i)), (6, .pv (vI j))], [], SA X a t, []⟩ =
      some (.exit 0, ⟨[(0, .sarr X.length 1 N false), (1, .fn 413 [.sptr (X.length + 1) 0]), (5, .pv (vI i')), (6, .pv (vI N)), (19, .pv (.bool false))], [], SA X a' t, []⟩) ∧
      a'.length = N ∧ i' ≤ N ∧ a'.take i' = a.take i ++ (a.drop j).filter (fun x => !decide (x = t))
  | 0, j, hk, hj, a, i, ha, hi => by
    have : j = N := by omega
    subst this
    have hn := (SA_quiet hX (l := a) (t := t)).norm
    refine ⟨a, i, ?_, ha, by omega, by rw [List.drop_of_length_le (by omega)]; simp⟩
    generalize SA X a t = SH at hn ⊢
    rw [g412L0_eq]
    simp [g412B0, hn]
  | n + 1, j, hk, hj, a, i, ha, hi => by
    have hj : j < N := by omega
    obtain ⟨x, hx⟩ := getO (l := a) (i := j) (by omega)
    have hn := (SA_quiet hX (l := a) (t := t)).norm
    have hs := (SA_quiet hX (l := a) (t := t)).shift
    have hg := tx_get hx
    have hB : mapB (tx a) = false := mapB_pvs tx_pv
    have hle : j + 1 ≤ (tx a).length := by rw [tx_len]; omega
    have hle2 : i + 1 ≤ (tx a).length := by rw [tx_len]; omega
    have hA := SA_arr (X := X) (l := a) (t := t)
    have q := ask413 hn hs SA_box (by rw [SA_len]; omega) (x := x) (t := t) (c := X.length + 1)
    by_cases e : x = t
    · obtain ⟨a', i', e1, e2, e3, e4⟩ := L412 hX (t := t) hN n (j + 1) (by omega) (by omega) a i ha (by omega)
      refine ⟨a', i', ?_, e2, e3, by rw [e4, dropC hx]; simp [e]⟩
      rw [decide_eq_true e] at q
      generalize SA X a' t = SR at e1 ⊢
      generalize SA X a t = SH at hn hs hA q e1 ⊢
      rw [g412L0_eq] at e1 ⊢
      simp [hn] at e1
      simp (disch := omega) [-getElem?_pos, -exec_callV, g412B0, hj, hn, hA, hg, hB, hle, q, wrap_id]
      rw [g412L0_eq]
      simp [hn, e1]
    · obtain ⟨a', i', e1, e2, e3, e4⟩ := L412 hX (t := t) hN n (j + 1) (by omega) (by omega) (a.set i x) (i + 1) (by simpa using ha) (by omega)
      refine ⟨a', i', ?_, e2, e3, by rw [e4, dropC hx, take_set_succ (by omega), drop_set_lt (by omega)]; simp [e]⟩
      rw [decide_eq_false e] at q
      have hiN : i < N := by omega
      have htx := tx_set (l := a) (i := i) (by omega) (s := x)
      have hset := SA_set (X := X) (l := a) (l' := a.set i x) (t := t)
      have hn1 := (SA_quiet hX (l := a.set i x) (t := t)).norm
      generalize SA X a' t = SR at e1 ⊢
      generalize SA X (a.set i x) t = S1 at hset hn1 e1
      generalize SA X a t = SH at hn hs hA q hset ⊢
      generalize tx (a.set i x) = T1 at htx hset
      rw [g412L0_eq] at e1 ⊢
      simp [hn1] at e1 htx
      simp (disch := omega) [-getElem?_pos, -exec_callV, g412B0, hj, hn, hA, hg, hB, hle, hle2, hiN, q, wrap_id, htx, hset]
      rw [g412L0_eq]
      simp [hn1, e1]

theorem c421 {SH : Sh} (hn : ∀ old ts, normS old ts SH = (SH, old, ts)) (hs : ∀ n, shiftS n SH = SH) {b c : Nat} {t : List UInt8} {l : List (List UInt8)} (hS : Sm l) (ha : SH[b]? = some (some (tx l))) (hb : SH[c]? = some (some [.pv (.str t)])) (hc : c < SH.length) :
    (orcL AP).i 421 [.sarr b 1 l.length false, .fn 413 [.sptr c 0]] SH [] = some ([.pv (vI (idxI (idxB (fun x => decide (x = t)) l)))], SH, []) := by
  have h := L421 hn hs hS ha hb hc _ 0 rfl (by omega)
  simp at h
  rw [callI_body (af := IdxF 1 false) rfl (by simp [IdxF])]
  cases hi : idxB (fun x => decide (x = t)) l with
  | none => rw [hi] at h; simp at h; simp [IdxF, h, hn, idxI]
  | some k => rw [hi] at h; simp at h; simp [IdxF, h, hn, idxI]

theorem df_none {α : Type} {p : α → Bool} : ∀ {l : List α}, idxB p l = none → l.filter (fun x => !p x) = l
  | [], _ => rfl
  | x :: r, h => by
    simp only [idxB] at h
    split at h
    · simp at h
    · rename_i e
      cases h' : idxB p r with
      | none => simp [e, df_none h']
      | some k => rw [h'] at h; simp at h
theorem df_some {α : Type} {p : α → Bool} : ∀ {l : List α} {k : Nat}, idxB p l = some k → k < l.length ∧ l.filter (fun x => !p x) = l.take k ++ (l.drop (k + 1)).filter (fun x => !p x)
  | [], _, h => by simp [idxB] at h
  | x :: r, k, h => by
    simp only [idxB] at h
    split at h
    · rename_i e
      simp at h; subst h
      simp [e]
    · rename_i e
      cases h' : idxB p r with
      | none => rw [h'] at h; simp at h
      | some k' =>
        rw [h'] at h
        simp at h; subst h
        obtain ⟨h1, h2⟩ := df_some h'
        exact ⟨by simpa using h1, by simp [e, h2]⟩
theorem tx_clear {a : List (List UInt8)} {i N : Nat} (hN : a.length = N) (h : i ≤ N) : setRange (tx a) i ((List.replicate (N - i) [AV.pv (.str [])]).flatten) = tx (a.take i ++ List.replicate (N - i) []) := by
  have e : ∀ k, (List.replicate k [AV.pv (.str [])]).flatten = List.replicate k (AV.pv (.str [])) := by
    intro k
    induction k with
    | zero => rfl
    | succ k ih => simp only [List.replicate_succ, List.flatten_cons, ih]; rfl
  rw [e, setRange_eq, List.drop_eq_nil_of_le (by rw [tx_len]; simp; omega)]
  simp [tx, List.map_take]

/-- **DeleteFunc of one text.** -/
theorem c412 {X : Sh} (hX : Quiet X) {t : List UInt8} {l : List (List UInt8)} (hS : Sm l) : ∃ a : List (List UInt8), a.length = l.length ∧ a.take (l.filter fun x => !decide (x = t)).length = l.filter (fun x => !decide (x = t)) ∧
    (orcL AP).i 412 [.sarr X.length 1 l.length false, .fn 413 [.sptr (X.length + 1) 0]] (SA X l t) [] = some ([.sarr X.length 1 (l.filter fun x => !decide (x = t)).length false], SA X a t, []) := by
  have hS' := hS
  unfold Sm at hS'
  have hn := (SA_quiet hX (l := l) (t := t)).norm
  have hs := (SA_quiet hX (l := l) (t := t)).shift
  have k := c421 hn hs (b := X.length) (c := X.length + 1) hS SA_arr SA_box (by rw [SA_len]; omega)
  have hlen := SA_len (X := X) (l := l) (t := t)
  cases hi : idxB (fun x => decide (x = t)) l with
  | none =>
    rw [hi] at k
    have hf := df_none hi
    refine ⟨l, rfl, by rw [hf]; simp, ?_⟩
    rw [hf, callI_body (af := g412) rfl (by simp [g412])]
    generalize SA X l t = SH at hn hs k hlen ⊢
    simp [idxI] at k
    have ht : SH.take SH.length = SH := List.take_length
    simp [-getElem?_pos, g412, hn, hs, k, idxI, hlen]
    rw [← hlen, ht]
    simp [hn]
  | some i0 =>
    rw [hi] at k
    obtain ⟨h0, hf⟩ := df_some hi
    obtain ⟨a', i', e1, e2, e3, e4⟩ := L412 hX (t := t) (N := l.length) (by omega) _ (i0 + 1) rfl (by omega) l i0 rfl (by omega)
    rw [← hf] at e4
    have hi' : (l.filter fun x => !decide (x = t)).length = i' := by rw [← e4]; simp; omega
    refine ⟨a'.take i' ++ List.replicate (l.length - i') [], by simp; omega, ?_, ?_⟩
    · rw [hi', ← e4, List.take_append_of_le_length (by simp; omega), List.take_take]; simp
    · rw [hi', callI_body (af := g412) rfl (by simp [g412])]
      have hn1 := (SA_quiet hX (l := a') (t := t)).norm
      have hn2 := (SA_quiet hX (l := a'.take i' ++ List.replicate (l.length - i') []) (t := t)).norm
      have hB : mapB (tx a') = false := mapB_pvs tx_pv
      have hA := SA_arr (X := X) (l := a') (t := t)
      have htl : (tx a').length = l.length := by rw [tx_len, e2]
      have hcl := tx_clear e2 e3
      have hset := SA_set (X := X) (l := a') (l' := a'.take i' ++ List.replicate (l.length - i') []) (t := t)
      have hl2 := SA_len (X := X) (l := a'.take i' ++ List.replicate (l.length - i') []) (t := t)
      generalize SA X (a'.take i' ++ List.replicate (l.length - i') []) t = S2 at hn2 hset hl2 ⊢
      generalize SA X a' t = S1 at hn1 hA hset e1
      generalize SA X l t = SH at hn hs k hlen e1 ⊢
      generalize tx (a'.take i' ++ List.replicate (l.length - i') []) = T2 at hcl hset
      have ht : S2.take S2.length = S2 := List.take_length
      rw [g412L0_eq] at e1
      simp [hn] at e1
      have hi0 : ¬ ((i0 : Int) = -1) := by omega
      have hle : i' + (l.length - i') ≤ l.length := by omega
      rcases Nat.eq_zero_or_pos i' with hz | hz
      · subst hz
        simp at hcl
        simp (disch := omega) [-getElem?_pos, g412, hn, hs, k, idxI, hi0, wrap_id, g412L0_eq, e1, evSliceH, evBounds, hA, hB, htl, hcl, hset, hlen]
        rw [← hl2, ht]
        simp [hn2]
      · have hz' : ¬ ((i' : Int) = 0) := by omega
        have hz2 : ¬ i' = 0 := by omega
        simp [e3] at hcl
        simp (disch := omega) [-getElem?_pos, g412, hn, hs, k, idxI, hi0, wrap_id, g412L0_eq, e1, evSliceH, evBounds, hz', hz2, e3, hA, hB, htl, hle, hcl, hset, hlen]
        rw [← hl2, ht]
        simp [hn2]
end Go.Ab.Lw
namespace Go.Ab.Lw
open Ev
set_option maxRecDepth 10000
set_option linter.unusedSimpArgs false
/-- A name goes to the end. -/
def upd (l : List (List UInt8)) (t : List UInt8) : List (List UInt8) := (l.filter fun x => !decide (x = t)) ++ [t]

theorem c412e {SH : Sh} (hn : ∀ old ts, normS old ts SH = (SH, old, ts)) (hs : ∀ n, shiftS n SH = SH) {c : Nat} :
    (orcL AP).i 412 [.own [] 0, .fn 413 [.sptr c 0]] SH [0] = some ([.own [] 0], SH, [0]) := by
  have k : (orcL AP).i 421 [.pv (.lst []), .fn 413 [.sptr c 0]] SH [] = some ([.pv (vI (-1))], SH, []) := by
    rw [callI_body (af := IdxF 1 false) rfl (by simp [IdxF])]
    simp [IdxF, hn, IdxL_eq, IdxB]
  rw [callI_body (af := g412) rfl (by simp [g412])]
  have ht : SH.take SH.length = SH := List.take_length
  simp [-getElem?_pos, g412, hn, hs, k, ht]

/-- Where out stands: nothing yet, or an array that may be written. -/
def vAV (X : Sh) (l : List (List UInt8)) : AV := if l = [] then .own [] 0 else .sarr X.length 1 l.length false
def vSh (X : Sh) (l : List (List UInt8)) : Sh := if l = [] then X else X ++ [some (tx l)]
def vTk (l : List (List UInt8)) : Toks := if l = [] then [0] else []

theorem L404b {e : List AV} (he : ∀ v ∈ e, ∃ p, v = AV.pv p) {i9 i22 : Int} {p20 : PV} {n21 : Int} {V : List (List UInt8)} (hV : V.length < 1000000) : ∀ (n j : Nat), V.length - j = n → j ≤ V.length → ∀ (X : Sh) (l : List (List UInt8)), Quiet X → l.length + n < 1000000000 → ∃ X', Quiet X' ∧
    cl AP g404L1 ⟨[(2, .lptr 2 0), (7, vAV X l), (9, .pv (vI i9)), (20, .pv p20), (21, .pv (vI n21)), (22, .pv (vI i22)), (28, .pv (.lst (V.map .str))), (29, .pv (vI V.length)), (30, .pv (vI j))], [(2, e)], vSh X l, vTk l⟩ =
      some (.exit 2, ⟨[(2, .lptr 2 0), (7, vAV X' ((V.drop j).foldl upd l)), (9, .pv (vI i9)), (20, .pv p20), (21, .pv (vI n21)), (22, .pv (vI i22)), (28, .pv (.lst (V.map .str))), (29, .pv (vI V.length)), (30, .pv (vI V.length)), (31, .pv (.bool false))], [(2, e)], vSh X' ((V.drop j).foldl upd l), vTk ((V.drop j).foldl upd l)⟩)
  | 0, j, hk, hj, X, l, hX, hl => by
    have : j = V.length := by omega
    subst this
    refine ⟨X, hX, ?_⟩
    rw [List.drop_length]
    simp only [List.foldl_nil]
    have hn := hX.norm
    have he' : ∀ old ts, normL old ts e = (e, old, ts) := fun old ts => normL_pv he
    by_cases h0 : l = []
    · rw [g404L1_eq]
      simp [g404B1, vAV, vSh, vTk, h0, hn, he']
    · have hn1 : ∀ old ts, normS old ts (X ++ [some (tx l)]) = (X ++ [some (tx l)], old, ts) := (hX.app (Quiet.one tx_pv)).norm
      rw [g404L1_eq]
      simp only [vAV, vSh, vTk, if_neg h0]
      generalize X ++ [some (tx l)] = S1 at hn1
      simp [g404B1, hn1, he']
  | n + 1, j, hk, hj, X, l, hX, hl => by
    have hj : j < V.length := by omega
    obtain ⟨t, ht⟩ := getO hj
    have he' : ∀ old ts, normL old ts e = (e, old, ts) := fun old ts => normL_pv he
    have hn := hX.norm
    have hs := hX.shift
    have huf : (l.filter fun x => !decide (x = t)).length ≤ l.length := List.length_filter_le _ _
    have hul : (upd l t).length ≤ l.length + 1 := by simp [upd, huf]
    rw [dropC ht, List.foldl_cons]
    by_cases h0 : l = []
    · subst h0
      have hXB : Quiet (X ++ [some [.pv (.str t)]]) := hX.app (Quiet.one (by intro v hv; simp at hv; exact ⟨_, hv⟩))
      have k := c412e hXB.norm hXB.shift (c := X.length)
      obtain ⟨X', hX', ih⟩ := L404b he (i9 := i9) (i22 := i22) (p20 := p20) (n21 := n21) hV n (j + 1) (by omega) (by omega) (X ++ [some [.pv (.str t)]]) [t] hXB (by simp at hl ⊢; omega)
      refine ⟨X', hX', ?_⟩
      have eu : upd [] t = [t] := by simp [upd]
      rw [eu]
      have hn2 : ∀ old ts, normS old ts (X ++ [some [.pv (.str t)], some [.pv (.str t)]]) = (X ++ [some [.pv (.str t)], some [.pv (.str t)]], old, ts) := by
        have := (hXB.app (Quiet.one (cs := [AV.pv (.str t)]) (by intro v hv; simp at hv; exact ⟨_, hv⟩))).norm
        simpa using this
      have hn1 := hXB.norm
      have hs1 := hXB.shift
      generalize (V.drop (j + 1)).foldl upd [t] = r at ih ⊢
      rw [g404L1_eq] at ih ⊢
      simp [vAV, vSh, vTk, he', tx, hn2] at ih ⊢
      simp (disch := omega) [-getElem?_pos, g404B1, ht, hj, hn, hn1, hs1, he', k, wrap_id]
      rw [g404L1_eq]
      simp [he', hn2, ih]
    · obtain ⟨a, a1, a2, k⟩ := c412 hX (t := t) (l := l) (by unfold Sm; omega)
      have hXN : Quiet (X ++ [none, some [.pv (.str t)]]) := hX.app (by intro cs hc v hv; simp at hc; subst hc; simp at hv; exact ⟨_, hv⟩)
      obtain ⟨X', hX', ih⟩ := L404b he (i9 := i9) (i22 := i22) (p20 := p20) (n21 := n21) hV n (j + 1) (by omega) (by omega) (X ++ [none, some [.pv (.str t)]]) (upd l t) hXN (by omega)
      refine ⟨X', hX', ?_⟩
      have hup : upd l t ≠ [] := by simp [upd]
      have hn0 : ∀ old ts, normS old ts (X ++ [some (tx l)]) = (X ++ [some (tx l)], old, ts) := (hX.app (Quiet.one tx_pv)).norm
      have hn1 := (SA_quiet hX (l := l) (t := t)).norm
      have hn2 := (SA_quiet hX (l := a) (t := t)).norm
      have hs2 := (SA_quiet hX (l := a) (t := t)).shift
      have hn3 : ∀ old ts, normS old ts (X ++ [none, some [.pv (.str t)], some (tx (upd l t))]) = (X ++ [none, some [.pv (.str t)], some (tx (upd l t))], old, ts) := by
        have := (hXN.app (Quiet.one (cs := tx (upd l t)) tx_pv)).norm
        simpa using this
      have hB : mapB (tx a) = false := mapB_pvs tx_pv
      have htl : (tx a).length = l.length := by rw [tx_len, a1]
      have hul2 : (upd l t).length = (l.filter fun x => !decide (x = t)).length + 1 := by simp [upd]
      have htx : tx (upd l t) = (tx a).take (l.filter fun x => !decide (x = t)).length ++ [.pv (.str t)] := by
        have : (tx a).take (l.filter fun x => !decide (x = t)).length = tx (l.filter fun x => !decide (x = t)) := by
          conv => rhs; rw [← a2]
          simp [tx, List.map_take]
        rw [this]; simp [tx, upd]
      have g0 : ∀ u v : Option (List AV), (X ++ [u, v])[X.length]? = some u := fun u v => by simp
      have g1 : ∀ u v : Option (List AV), (X ++ [u, v])[X.length + 1]? = some v := fun u v => by simp
      have s0 : ∀ u v w : Option (List AV), (X ++ [u, v]).set X.length w = X ++ [w, v] := fun u v w => by simp
      have s1 : ∀ u v w : Option (List AV), (X ++ [u, v]).set (X.length + 1) w = X ++ [u, w] := fun u v w => by simp
      unfold SA at k hn1 hn2 hs2
      simp only [vAV, vSh, vTk, if_neg h0, if_neg hup] at ih ⊢
      generalize (V.drop (j + 1)).foldl upd (upd l t) = r at ih ⊢
      rw [hul2] at ih
      generalize (l.filter fun x => !decide (x = t)).length = K at k htx ih huf
      have hb1 : (K + 1) * 16 ≤ 140737488355328 := by omega
      have hb2 : K ≤ l.length := huf
      generalize tx (upd l t) = TU at htx hn3 ih
      generalize tx a = TA at k hn2 hs2 hB htl htx
      generalize tx l = TL at k hn0 hn1 ⊢
      generalize (if r = [] then AV.own [] 0 else AV.sarr X'.length 1 r.length false) = VR at ih ⊢
      generalize (if r = [] then X' else X' ++ [some (tx r)]) = SR at ih ⊢
      generalize (if r = [] then ([0] : Toks) else []) = TR at ih ⊢
      rw [g404L1_eq] at ih ⊢
      simp [he', hn3] at ih
      simp (disch := omega) [-getElem?_pos, g404B1, ht, hj, hn0, hn1, hn2, hs2, he', k, wrap_id, hB, htl, hb1, hb2, g0, g1, s0, s1, ← htx]
      rw [g404L1_eq]
      simp [he', hn3, ih]
end Go.Ab.Lw
namespace Go.Ab.Lw
open Ev
set_option maxRecDepth 10000
set_option linter.unusedSimpArgs false

/-! ### The reference's parts -/
theorem L364 {s : List Txt} (hS : Sm s) {y : Txt} : ∀ (n i : Nat), s.length - i = n → i ≤ s.length →
    cl AP g364L0 ⟨[(0, .pv (.lst (s.map .str))), (1, .pv (.str y)), (5, .pv (vI i))], [], [], []⟩ =
      if y ∈ s.drop i then some (.ret, ⟨[(4, .pv (.bool true))], [], [], []⟩)
      else some (.exit 0, ⟨[(0, .pv (.lst (s.map .str))), (1, .pv (.str y)), (5, .pv (vI s.length)), (9, .pv (.bool false))], [], [], []⟩)
  | 0, i, hn, hi => by
    have : i = s.length := by omega
    subst this
    rw [g364L0_eq]
    simp [g364B0]
  | n + 1, i, hn, hi => by
    have hi : i < s.length := by omega
    obtain ⟨x, hx⟩ := getO hi
    unfold Sm at hS
    have ih := L364 hS (y := y) n (i + 1) (by omega) (by omega)
    simp at ih
    rw [g364L0_eq, dropC hx]
    by_cases e : x = y
    · subst e
      simp (disch := omega) [-getElem?_pos, g364B0, hx, hi]
    · have e' : ¬ y = x := fun h => e h.symm
      simp (disch := omega) [-getElem?_pos, g364B0, hx, hi, e, e', wrap_id, ih]
theorem c364 {s : List Txt} (hS : Sm s) {y : Txt} : (orcL AP).p 364 [.lst (s.map .str), .str y] = some [.bool (decide (y ∈ s))] := by
  have h := L364 hS (y := y) _ 0 rfl (by omega)
  simp at h
  rw [callP_body (af := g364) rfl rfl (by decide)]
  by_cases e : y ∈ s <;> simp [e] at h <;> simp [g364, h, e]

/-- The last occurrence of each. -/
noncomputable def lastL : List Txt → List Txt
  | [] => []
  | x :: r => if x ∈ r then lastL r else x :: lastL r

theorem L440 {s : List Txt} (hS : s.length < 1000000000) : ∀ (n i : Nat), s.length - i = n → i ≤ s.length → ∀ acc : List Txt, acc.length ≤ i →
    cl AP g440L0 ⟨[(0, .pv (.lst (s.map .str))), (3, .own (acc.map .str) 0), (4, .pv (vI i))], [], [], [acc.length]⟩ =
      some (.exit 0, ⟨[(0, .pv (.lst (s.map .str))), (3, .own ((acc ++ lastL (s.drop i)).map .str) 0), (4, .pv (vI s.length)), (8, .pv (.bool false))], [], [], [(acc ++ lastL (s.drop i)).length]⟩)
  | 0, i, hn, hi, acc, hl => by
    have : i = s.length := by omega
    subst this
    rw [g440L0_eq]
    simp [g440B0, lastL]
  | n + 1, i, hn, hi, acc, hl => by
    have hi : i < s.length := by omega
    obtain ⟨x, hx⟩ := getO hi
    have c := c364 (s := s.drop (i + 1)) (by unfold Sm; simp; omega) (y := x)
    rw [List.map_drop] at c
    have hb : (acc.length + 1) * 16 ≤ 140737488355328 := by omega
    have hle : (i : Int) + 1 ≤ s.length := by omega
    have hsl : evSlice false 1 true false false [.pv (.lst (s.map .str)), .pv (.int .i64 ((i : Int) + 1))] = some (.pv (.lst ((s.map PV.str).drop (i + 1)))) := by
      have h0 : (0 : Int) ≤ (i : Int) + 1 := by omega
      have h1 : ((i : Int) + 1).toNat = i + 1 := by omega
      have h2 : headSz 1 (s.map PV.str) = true := el_str.head s
      simp [evSlice, evBounds, elsOf, hle, h0, h1, h2]
      rw [List.take_of_length_le (by simp)]
    rw [dropC hx, g440L0_eq]
    by_cases e : x ∈ s.drop (i + 1)
    · have ih := L440 hS n (i + 1) (by omega) (by omega) acc (by omega)
      simp only [lastL, if_pos e]
      rw [decide_eq_true e] at c
      simp at ih
      simp (disch := omega) [-getElem?_pos, g440B0, hx, hi, wrap_id, hsl, c, ih]
    · have ih := L440 hS n (i + 1) (by omega) (by omega) (acc ++ [x]) (by simp; omega)
      simp only [lastL, if_neg e]
      rw [decide_eq_false e] at c
      simp at ih
      simp (disch := omega) [-getElem?_pos, g440B0, hx, hi, wrap_id, hsl, c, hb, ih]
theorem c440 {s : List Txt} (hS : s.length < 1000000000) : (orcL AP).p 440 [.lst (s.map .str)] = some [.lst ((lastL s).map .str)] := by
  have h := L440 hS _ 0 rfl (by omega) [] (by simp)
  simp at h
  rw [callP_body (af := g440) rfl rfl (by decide)]
  rw [g440L0_eq] at h
  simp at h
  simp [g440, g440L0_eq, h]

theorem L408 {a b : List Txt} (hS : Sm a) (hl : a.length = b.length) : ∀ (n i : Nat), a.length - i = n → i ≤ a.length →
    cl AP g408L0 ⟨[(0, .pv (.lst (a.map .str))), (1, .pv (.lst (b.map .str))), (5, .pv (vI i))], [], [], []⟩ =
      if a.drop i = b.drop i then some (.exit 0, ⟨[(0, .pv (.lst (a.map .str))), (1, .pv (.lst (b.map .str))), (5, .pv (vI a.length)), (14, .pv (.bool false))], [], [], []⟩)
      else some (.ret, ⟨[(4, .pv (.bool false))], [], [], []⟩)
  | 0, i, hn, hi => by
    have : i = a.length := by omega
    subst this
    rw [g408L0_eq]
    have : b.drop a.length = [] := by rw [hl]; simp
    simp [g408B0, this]
  | n + 1, i, hn, hi => by
    have hi : i < a.length := by omega
    have hj : i < b.length := by omega
    obtain ⟨x, hx⟩ := getO hi
    obtain ⟨y, hy⟩ := getO hj
    unfold Sm at hS
    have ih := L408 hS hl n (i + 1) (by omega) (by omega)
    simp at ih
    rw [g408L0_eq, dropC hx, dropC hy]
    by_cases e : x = y
    · subst e
      simp (disch := omega) [-getElem?_pos, g408B0, hx, hy, hi, hj, wrap_id, ih]
    · simp (disch := omega) [-getElem?_pos, g408B0, hx, hy, hi, hj, e]
theorem c408 {a b : List Txt} (hS : Sm a) : (orcL AP).p 408 [.lst (a.map .str), .lst (b.map .str)] = some [.bool (decide (a = b))] := by
  rw [callP_body (af := g408) rfl rfl (by decide)]
  by_cases hl : a.length = b.length
  · have h := L408 hS hl _ 0 rfl (by omega)
    simp at h
    by_cases e : a = b
    · subst e; simp at h; simp [g408, h]
    · simp [e] at h; simp [g408, hl, h, e]
  · have e : ¬ a = b := fun h => hl (by rw [h])
    have hl' : ¬ (a.length : Int) = b.length := by omega
    simp [g408, hl, hl', e]

/-! ### The names on the way -/
/-- Cases have one kid, all the way down. -/
inductive Ex.One : Ex → Prop
  | mk {e : Ex} : (e.kind = 8 → e.kids.length = 1) → (∀ x ∈ e.ch, x.One) → e.One
theorem Ex.One.h {e : Ex} (h : e.One) : e.kind = 8 → e.kids.length = 1 := by cases h; assumption
theorem Ex.One.c {e : Ex} (h : e.One) : ∀ x ∈ e.ch, x.One := by cases h; assumption

def Ex.vis : Ex → List Int → List Txt
  | _, [] => []
  | e, i :: r => bndE e i.toNat ++ match e.ch[i.toNat]? with | some x => x.vis r | none => []

theorem bndE_len {e : Ex} {i : Nat} (h : e.Ok) : (bndE e i).length ≤ 1000 := by
  unfold bndE
  split
  · simp
  · split
    · cases hx : e.arms[i - 1]? with
      | none => simp
      | some a => exact h.v a (memO hx)
    · simp
theorem at_cons {e : Ex} {k : Int} {r : List Int} {y : Ex} (h : e.at (k :: r) = some y) : ∃ (m : Nat) (x : Ex), k = m ∧ m < e.ch.length ∧ e.ch[m]? = some x ∧ x.at r = some y := by
  simp only [Ex.at] at h
  split at h
  · rename_i h1
    obtain ⟨m, rfl, hm⟩ := natI h1.1 h1.2
    obtain ⟨x, hx⟩ := getO hm
    simp [hx] at h
    exact ⟨m, x, rfl, hm, hx, h⟩
  · cases h

theorem L432 {p : List Int} (hp : p.length < 1000000) {y : Ex} : ∀ (n i : Nat), p.length - i = n → i ≤ p.length → ∀ (e : Ex) (acc : List Txt), e.Ok → e.One → e.at (p.drop i) = some y → acc.length ≤ i * 1000 → ∃ q : List AV,
    cl AP g432L0 ⟨[(1, .pv (.lst (p.map vI))), (2, .lptr 2 0), (7, .own (acc.map .str) 0), (8, .pv (vI i))], [(2, e.cl)], [], [acc.length]⟩ =
      some (.exit 0, ⟨[(1, .pv (.lst (p.map vI))), (2, .lptr 2 0), (7, .own ((acc ++ e.vis (p.drop i)).map .str) 0), (8, .pv (vI p.length)), (20, .pv (.bool false))], [(2, q)], [], [(acc ++ e.vis (p.drop i)).length]⟩)
  | 0, i, hn, hi, e, acc, he, h1, ha, hl => by
    have : i = p.length := by omega
    subst this
    refine ⟨e.cl, ?_⟩
    rw [g432L0_eq]
    simp [g432B0, Ex.vis]
  | n + 1, i, hn, hi, e, acc, he, h1, ha, hl => by
    have hi : i < p.length := by omega
    obtain ⟨k, hk⟩ := getO hi
    rw [dropC hk] at ha ⊢
    obtain ⟨m, x, rfl, hm, hx, hy⟩ := at_cons ha
    have hbl := bndE_len he (i := m)
    obtain ⟨q, ih⟩ := L432 hp n (i + 1) (by omega) (by omega) x (acc ++ bndE e m) (he.c x (memO hx)) (h1.c x (memO hx)) hy (by simp; omega)
    refine ⟨q, ?_⟩
    have c := c145 he
    have c2 := c380 hm h1.h he
    simp at c c2
    rw [g432L0_eq]
    simp only [Ex.vis, Int.toNat_natCast, hx]
    simp at ih
    have hb : (acc.length + (bndE e m).length) * 16 ≤ 140737488355328 := by omega
    have hb0 : acc.length * 16 ≤ 140737488355328 := by omega
    generalize e.ch = C at *
    generalize hB : bndE e m = B at *
    by_cases h0 : B = []
    · subst h0
      simp at ih
      simp (disch := omega) [-getElem?_pos, g432B0, hk, hi, wrap_id, c, c2, hx, hm, hb0, ih]
    · simp (disch := omega) [-getElem?_pos, g432B0, hk, hi, wrap_id, c, c2, hx, hm, hb, h0, ih]
theorem vis_len {y : Ex} : ∀ {p : List Int} {e : Ex}, e.Ok → e.at p = some y → (e.vis p).length ≤ p.length * 1000
  | [], _, _, _ => by simp [Ex.vis]
  | k :: r, e, h, ha => by
    obtain ⟨m, x, rfl, hm, hx, hy⟩ := at_cons ha
    have := vis_len (h.c x (memO hx)) hy
    have := bndE_len h (i := m)
    simp only [Ex.vis, Int.toNat_natCast, hx, List.length_append, List.length_cons]
    omega
/-- What the reference says. -/
noncomputable def visR (e : Ex) (p : List Int) : List Txt := match e.at p with | some _ => lastL (e.vis p) | none => []
theorem c432 {e : Ex} (he : e.Ok) (h1 : e.One) {p : List Int} (hp : p.length < 1000000) : (orcL AP).p 432 [e.pv, .lst (p.map vI)] = some [.lst ((visR e p).map .str)] := by
  have c := c439 he (p := p) (by unfold Sm; omega)
  rw [callP_body (af := g432) rfl rfl (by decide)]
  unfold visR
  cases hx : e.at p with
  | none =>
    rw [hx] at c
    simp [atR, exZ, tyZ] at c
    simp [g432, c]
  | some y =>
    rw [hx] at c
    simp [atR] at c
    obtain ⟨q, h⟩ := L432 hp _ 0 rfl (by omega) e [] he h1 hx (by simp)
    have hl := vis_len he hx
    have c2 := c440 (s := e.vis p) (by omega)
    simp at h c2
    rw [g432L0_eq] at h
    simp at h
    simp [g432, c, g432L0_eq, h, c2]

/-! ### The program's -/
theorem L404a {p : List Int} (hp : p.length < 100000) {y : Ex} : ∀ (n i : Nat), p.length - i = n → i ≤ p.length → ∀ (e : Ex) (X : Sh) (l : List Txt), e.Ok → e.One → Quiet X → e.at (p.drop i) = some y → l.length ≤ i * 1000 → ∃ (X' : Sh) (q : List AV), Quiet X' ∧
    cl AP g404L0 ⟨[(2, .lptr 2 0), (7, vAV X l), (20, .pv (.lst (p.map vI))), (21, .pv (vI p.length)), (22, .pv (vI i))], [(2, e.cl)], vSh X l, vTk l⟩ =
      some (.exit 0, ⟨[(2, .lptr 2 0), (7, vAV X' ((e.vis (p.drop i)).foldl upd l)), (20, .pv (.lst (p.map vI))), (21, .pv (vI p.length)), (22, .pv (vI p.length)), (23, .pv (.bool false))], [(2, q)], vSh X' ((e.vis (p.drop i)).foldl upd l), vTk ((e.vis (p.drop i)).foldl upd l)⟩)
  | 0, i, hn, hi, e, X, l, he, h1, hX, ha, hl => by
    have : i = p.length := by omega
    subst this
    refine ⟨X, e.cl, hX, ?_⟩
    have hnX := hX.norm
    have hn1 : ∀ old ts, normS old ts (X ++ [some (tx l)]) = (X ++ [some (tx l)], old, ts) := (hX.app (Quiet.one tx_pv)).norm
    rw [g404L0_eq]
    by_cases h0 : l = []
    · subst h0
      simp [g404B0, Ex.vis, vAV, vSh, vTk, hnX]
    · simp only [List.drop_length, Ex.vis, List.foldl_nil, vAV, vSh, vTk, if_neg h0]
      generalize X ++ [some (tx l)] = S1 at *
      simp [g404B0, hn1]
  | n + 1, i, hn, hi, e, X, l, he, h1, hX, ha, hl => by
    have hi : i < p.length := by omega
    obtain ⟨k, hk⟩ := getO hi
    rw [dropC hk] at ha ⊢
    obtain ⟨m, x, rfl, hm, hx, hy⟩ := at_cons ha
    have hbl := bndE_len he (i := m)
    have hep : ∀ v ∈ e.cl, ∃ p, v = AV.pv p := by intro v hv; simp at hv; rcases hv with rfl | rfl | rfl | rfl | rfl | rfl | rfl | rfl | rfl | rfl | rfl <;> exact ⟨_, rfl⟩
    obtain ⟨X1, hX1, e1⟩ := L404b hep (i9 := m) (i22 := i) (p20 := .lst (p.map vI)) (n21 := p.length) (V := bndE e m) (by omega) _ 0 rfl (by omega) X l hX (by omega)
    have hul : ∀ (V l : List Txt), (V.foldl upd l).length ≤ l.length + V.length := by
      intro V
      induction V with
      | nil => intro l; simp
      | cons t r ih =>
        intro l
        have := ih (upd l t)
        have hf : (l.filter fun x => !decide (x = t)).length ≤ l.length := List.length_filter_le _ _
        have : (upd l t).length ≤ l.length + 1 := by simp [upd, hf]
        simp only [List.foldl_cons, List.length_cons]
        omega
    have hl1 := hul (bndE e m) l
    obtain ⟨X', q, hX', ih⟩ := L404a hp n (i + 1) (by omega) (by omega) x X1 ((bndE e m).foldl upd l) (he.c x (memO hx)) (h1.c x (memO hx)) hX1 hy (by omega)
    refine ⟨X', q, hX', ?_⟩
    have c := c414 he
    have c2 := c411 hm h1.h he
    simp only [Ex.vis, Int.toNat_natCast, hx, List.foldl_append]
    rw [List.drop_zero] at e1
    generalize hL : (x.vis (p.drop (i + 1))).foldl upd ((bndE e m).foldl upd l) = r at ih ⊢
    generalize (bndE e m).foldl upd l = l1 at e1 ih hl1
    have hnv : ∀ {X : Sh} {l : List Txt}, Quiet X → ∀ old ts, normS old ts (vSh X l) = (vSh X l, old, ts) := by
      intro X l hX old ts
      unfold vSh
      by_cases h0 : l = []
      · rw [if_pos h0]; exact hX.norm old ts
      · rw [if_neg h0]; exact (hX.app (Quiet.one tx_pv)).norm old ts
    have hn1 := hnv hX (l := l)
    have hn2 := hnv hX1 (l := l1)
    have vcase : ∀ (X : Sh) (l : List Txt), (vAV X l = .own [] 0 ∧ vTk l = [0]) ∨ (∃ b z k g, vAV X l = .sarr b z k g ∧ vTk l = []) := by
      intro X l
      unfold vAV vTk
      by_cases h0 : l = []
      · left; simp [h0]
      · right; exact ⟨X.length, 1, l.length, false, by simp [h0], by simp [h0]⟩
    rw [g404L0_eq] at ih ⊢
    rw [g404L1_eq] at e1
    generalize e.ch = C at *
    generalize bndE e m = B at *
    simp at c c2
    rcases vcase X l with ⟨v1, t1⟩ | ⟨b1, z1, k1, f1, v1, t1⟩ <;> rcases vcase X1 l1 with ⟨v2, t2⟩ | ⟨b2, z2, k2, f2, v2, t2⟩ <;> simp only [v1, t1, v2, t2] at e1 ih ⊢ <;> generalize vSh X l = S0 at * <;> generalize vSh X1 l1 = S1 at * <;> generalize vSh X' r = S2 at * <;> generalize vAV X' r = V2 at * <;> generalize vTk r = T2 at * <;>
      simp [hn1, hn2] at e1 ih ⊢ <;>
      simp (disch := omega) [-getElem?_pos, g404B0, hk, hi, wrap_id, c, c2, hx, hm, hn1, hn2, g404L1_eq, e1] <;> rw [g404L0_eq] <;> simp [hn2, ih]

/-- The last occurrences come of moving names to the end. -/
theorem lastL_snoc (t : Txt) : ∀ l : List Txt, lastL (l ++ [t]) = (lastL l).filter (fun x => !decide (x = t)) ++ [t]
  | [] => by simp [lastL]
  | x :: r => by
    simp only [List.cons_append, lastL, List.mem_append, List.mem_singleton]
    by_cases e : x ∈ r
    · simp [e, lastL_snoc t r]
    · by_cases e2 : x = t
      · subst e2; simp [e, lastL_snoc x r]
      · simp [e, e2, lastL_snoc t r]
theorem foldl_upd (l : List Txt) : l.foldl upd [] = lastL l := by
  have : ∀ k, ∀ l : List Txt, l.length = k → l.foldl upd [] = lastL l := by
    intro k
    induction k with
    | zero => intro l h; have := List.length_eq_zero_iff.1 h; subst this; simp [lastL]
    | succ k ih =>
      intro l h
      have hne : l ≠ [] := by intro e; subst e; simp at h
      obtain ⟨r, t, rfl⟩ : ∃ r t, l = r ++ [t] := ⟨l.dropLast, l.getLast hne, (List.dropLast_concat_getLast hne).symm⟩
      rw [List.foldl_append, ih r (by simpa using h), lastL_snoc]
      rfl
  exact this _ l rfl

theorem tx_frz : ∀ r : List Txt, frzL (tx r) = some (r.map .str)
  | [] => rfl
  | t :: r => by
    have ih := tx_frz r
    unfold tx at ih ⊢
    simp only [List.map_cons, frzL, frz0, ih]

theorem c404 {e : Ex} (he : e.Ok) (h1 : e.One) {p : List Int} (hp : p.length < 100000) : (orcL AP).p 404 [e.pv, .lst (p.map vI)] = some [.lst ((visR e p).map .str)] := by
  have c := c410 he (p := p) (by unfold Sm; omega)
  rw [callP_body (af := g404) rfl rfl (by decide)]
  unfold visR
  cases hx : e.at p with
  | none =>
    rw [hx] at c
    simp [atR, exZ, tyZ] at c
    simp [g404, c]
  | some y =>
    rw [hx] at c
    simp [atR] at c
    obtain ⟨X', q, hX', h⟩ := L404a hp _ 0 rfl (by omega) e [] [] he h1 (by intro cs h; simp at h) hx (by simp)
    rw [List.drop_zero, foldl_upd] at h
    generalize lastL (e.vis p) = r at *
    have hn := hX'.norm
    have hn1 : ∀ old ts, normS old ts (X' ++ [some (tx r)]) = (X' ++ [some (tx r)], old, ts) := (hX'.app (Quiet.one tx_pv)).norm
    have hfr := tx_frz r
    have hlen := tx_len (l := r)
    rw [g404L0_eq] at h
    by_cases h0 : r = []
    · subst h0
      simp [vAV, vSh, vTk] at h
      simp [g404, c, g404L0_eq, h]
    · simp [vAV, vSh, vTk, h0] at h
      generalize tx r = T at *
      simp [g404, c, g404L0_eq, h, hfr, hlen, arrEls]
end Go.Ab.Lw
namespace Go.Ab.Lw
open Ev
set_option maxRecDepth 10000
set_option linter.unusedSimpArgs false
abbrev names8 : List (List UInt8) := varNames

/-- A raw expression of a depth, over data types. -/
inductive RawE (ds : List Dt) : Nat → Ex → Prop
  | var {n : Nat} {s : List UInt8} : s ∈ names8 → RawE ds n ⟨1, 0, s, 0, [], [], tyZ⟩
  | int {n : Nat} {m : Int} : 0 ≤ m → m < 4 → RawE ds n ⟨3, 0, [], m, [], [], tyZ⟩
  | con {n : Nat} {d : Dt} {c : Con} : d ∈ ds → c ∈ d.cons → RawE ds n ⟨2, 0, c.name, 0, [], [], tyZ⟩
  | gone {n : Nat} : RawE ds n ⟨2, 0, [71, 111, 110, 101], 0, [], [], tyZ⟩
  | hole {n : Nat} : RawE ds n ⟨10, 0, [], 0, [], [], tyZ⟩
  | lam {n : Nat} {s : List UInt8} {a : Ex} : s ∈ names8 → RawE ds n a → RawE ds (n + 1) ⟨4, 0, s, 0, [a], [], tyZ⟩
  | app {n : Nat} {a b : Ex} : RawE ds n a → RawE ds n b → RawE ds (n + 1) ⟨5, 0, [], 0, [a, b], [], tyZ⟩
  | let_ {n : Nat} {k : Int} {s : List UInt8} {a b : Ex} : k = 6 ∨ k = 7 → s ∈ names8 → RawE ds n a → RawE ds n b → RawE ds (n + 1) ⟨k, 0, s, 0, [a, b], [], tyZ⟩
  | ann {n : Nat} {a : Ex} {t : Ty} : RawE ds n a → MadeG (· ∈ ds) [] 2 t → RawE ds (n + 1) ⟨9, 0, [], 0, [a], [], t⟩
  | held {n : Nat} {a : Ex} : RawE ds n a → RawE ds (n + 1) ⟨11, 0, [], 0, [a], [], tyZ⟩
  | up {n : Nat} {a : Ex} : RawE ds n a → RawE ds (n + 1) a
  | case_ {n : Nat} {d : Dt} {a : Ex} {as : List Ar} : d ∈ ds → RawE ds n a → as.length = d.cons.length → (∀ x ∈ as, RawE ds n x.body) → (∀ x ∈ as, x.pos = 0 ∧ ∀ v ∈ x.vars, v ∈ names8) →
      (∀ (i : Nat) (c : Con) (x : Ar), d.cons[i]? = some c → as[i]? = some x → x.con = c.name ∧ x.vars.length = c.fields.length) → RawE ds (n + 1) ⟨8, 0, [], 0, [a], as, tyZ⟩

end Go.Ab.Lw
namespace Go.Ab.Lw
open Ev
set_option maxRecDepth 10000
set_option linter.unusedSimpArgs false
/-- Data types of moderate size. -/
def D8 (d : Dt) : Prop := d.params.length ≤ 8 ∧ 0 < d.cons.length ∧ d.cons.length ≤ 8 ∧ ∀ c ∈ d.cons, c.fields.length ≤ 8
theorem all_D8 : ∀ d ∈ allDatas, D8 d := by
  intro d hd
  simp [allDatas] at hd
  rcases hd with rfl | rfl | rfl | rfl | rfl | rfl | rfl <;> simp [D8]

/-- Cells that read as an expression. -/
structure IsC (e : Ex) (C : List AV) : Prop where
  len : C.length = 11
  leaf : C.all leafB = true
  frz : ∀ sh, frzLs sh C = some e.cells
  flat : flatB.flatL C = true
  flo : flatOL C = true

def lsF (f : Bool) (l : List PV) : AV := if f then .clp l else .pv (.lst l)
/-- The forms in which an expression goes out. -/
def exC (fk fa fg : Bool) (e : Ex) : List AV := [.pv (vI e.kind), .pv (vI e.pos), .pv (.str e.name), .pv (vI e.num), lsF fk (e.kids.map Ex.pv), lsF fa (e.arms.map Ar.pv), .pv (vI e.ty.kind), .pv (.str e.ty.name), .pv (vI e.ty.id), .pv (vI e.ty.home), lsF fg (e.ty.args.map Ty.pv)]
theorem exC_is (fk fa fg : Bool) (e : Ex) : IsC e (exC fk fa fg e) := by
  refine ⟨rfl, ?_, ?_, ?_, ?_⟩
  · cases fk <;> cases fa <;> cases fg <;> rfl
  · intro sh
    rw [Ex.cells_eq]
    cases fk <;> cases fa <;> cases fg <;> simp [exC, lsF]
  · cases fk <;> cases fa <;> cases fg <;> simp [exC, lsF]
  · cases fk <;> cases fa <;> cases fg <;> simp [exC, lsF]

/-- What the maker of raw expressions gives at a depth. -/
def GivesE (L : List Int) (ds : List Dt) (dep : Nat) : Prop := ∀ i : Nat, i ≤ L.length → ∃ (e : Ex) (fk fa fg : Bool) (j : Nat),
  (orcL AP).i 247 [.sptr 0 0, .pv (.lst (ds.map Dt.pv)), .pv (vI dep)] (tp L i) [] = some ([.agg (exC fk fa fg e)], tp L j, []) ∧ RawE ds dep e ∧ j ≤ L.length

/-- The leaves: choices 0 to 4. -/
theorem raw_leaf {L : List Int} (hL : Sm L) {ds : List Dt} (hds : ds.length ≤ 8) (hD : ∀ d ∈ ds, D8 d) {dep : Nat} {i j1 : Nat} {k : Int} (hj1 : j1 ≤ L.length)
    (e1 : (orcL AP).i 68 [.sptr 0 0, .pv (vI 14)] (tp L i) [] = some ([.pv (vI k)], tp L j1, [])) (k0 : 0 ≤ k) (hk : if dep = 0 then True else k < 5) :
    ∃ (e : Ex) (fk fa fg : Bool) (j : Nat), (orcL AP).i 247 [.sptr 0 0, .pv (.lst (ds.map Dt.pv)), .pv (vI dep)] (tp L i) [] = some ([.agg (exC fk fa fg e)], tp L j, []) ∧ RawE ds dep e ∧ j ≤ L.length := by
  simp at e1
  obtain ⟨r, hr, hr0, hr1⟩ : ∃ r : Int, (if dep = 0 then k.tmod 5 else k) = r ∧ 0 ≤ r ∧ r < 5 := by
    by_cases h : dep = 0
    · refine ⟨k.tmod 5, by simp [h], ?_, ?_⟩
      · exact Int.tmod_nonneg 5 k0
      · exact Int.tmod_lt_of_pos k (by omega)
    · simp [h] at hk
      exact ⟨k, by simp [h], k0, hk⟩
  have hcase : r = 0 ∨ r = 1 ∨ r = 2 ∨ r = 3 ∨ r = 4 := by omega
  have hd : dep = 0 ∧ k.tmod 5 = r ∨ ¬ ((dep : Int) < 1) ∧ k = r := by
    by_cases h : dep = 0
    · simp [h] at hr; exact .inl ⟨h, hr⟩
    · simp [h] at hr; exact .inr ⟨by omega, hr⟩
  clear hr
  have hvar : r = 0 ∨ r = 1 → ∃ (e : Ex) (fk fa fg : Bool) (j : Nat), (orcL AP).i 247 [.sptr 0 0, .pv (.lst (ds.map Dt.pv)), .pv (vI dep)] (tp L i) [] = some ([.agg (exC fk fa fg e)], tp L j, []) ∧ RawE ds dep e ∧ j ≤ L.length := by
    intro h
    obtain ⟨s, j, e2, hs, hj⟩ := c175 hL hj1
    simp at e2
    refine ⟨⟨1, 0, s, 0, [], [], tyZ⟩, true, true, true, j, ?_, .var hs, hj⟩
    rw [callI_body (af := g247) rfl (by simp [g247])]
    rcases h with rfl | rfl <;> rcases hd with ⟨rfl, h2⟩ | ⟨h1, rfl⟩
    · simp [g247, e1, h2, e2, exC, lsF, tyZ]
    · simp [g247, e1, h1, e2, exC, lsF, tyZ]
    · simp [g247, e1, h2, e2, exC, lsF, tyZ]
    · simp [g247, e1, h1, e2, exC, lsF, tyZ]
  rcases hcase with rfl | rfl | rfl | rfl | rfl
  · exact hvar (.inl rfl)
  · exact hvar (.inr rfl)
  · obtain ⟨m, j, e2, m0, m4, hj⟩ := c68 hL hj1 (n := 4) (by omega) (by omega)
    simp at e2
    refine ⟨⟨3, 0, [], m, [], [], tyZ⟩, true, true, true, j, ?_, .int m0 m4, hj⟩
    rw [callI_body (af := g247) rfl (by simp [g247])]
    rcases hd with ⟨rfl, h2⟩ | ⟨h1, rfl⟩
    · simp [g247, e1, h2, e2, exC, lsF, tyZ]
    · simp [g247, e1, h1, e2, exC, lsF, tyZ]
  · by_cases h0 : ds = []
    · subst h0
      refine ⟨⟨2, 0, [71, 111, 110, 101], 0, [], [], tyZ⟩, true, true, true, j1, ?_, .gone, hj1⟩
      rw [callI_body (af := g247) rfl (by simp [g247])]
      rcases hd with ⟨rfl, h2⟩ | ⟨h1, rfl⟩
      · simp [g247, e1, h2, exC, lsF, tyZ]
      · simp [g247, e1, h1, exC, lsF, tyZ]
    · have hp : 0 < ds.length := List.length_pos_iff.2 h0
      obtain ⟨n, j2, e2, n0, n1, hj2⟩ := c68 hL hj1 (n := ds.length) (by omega) (by omega)
      obtain ⟨m, rfl, hm⟩ := natI n0 n1
      obtain ⟨d, hx⟩ := getO hm
      obtain ⟨_, hc0, hc8, _⟩ := hD d (memO hx)
      obtain ⟨n', j3, e3, n0', n1', hj3⟩ := c68 hL hj2 (n := d.cons.length) (by omega) (by omega)
      obtain ⟨m', rfl, hm'⟩ := natI n0' n1'
      obtain ⟨c, hy⟩ := getO hm'
      simp at e2 e3
      refine ⟨⟨2, 0, c.name, 0, [], [], tyZ⟩, true, true, true, j3, ?_, .con (memO hx) (memO hy), hj3⟩
      rw [callI_body (af := g247) rfl (by simp [g247])]
      rcases hd with ⟨rfl, h2⟩ | ⟨h1, rfl⟩
      · simp [-getElem?_pos, g247, e1, h2, e2, e3, hp, hx, hy, exC, lsF, tyZ]
      · simp [-getElem?_pos, g247, e1, h1, e2, e3, hp, hx, hy, exC, lsF, tyZ]
  · refine ⟨⟨10, 0, [], 0, [], [], tyZ⟩, true, true, true, j1, ?_, .hole, hj1⟩
    rw [callI_body (af := g247) rfl (by simp [g247])]
    rcases hd with ⟨rfl, h2⟩ | ⟨h1, rfl⟩
    · simp [g247, e1, h2, exC, lsF, tyZ]
    · simp [g247, e1, h1, exC, lsF, tyZ]

/-- One kid or two: choices 5 to 12. -/
theorem raw_node {L : List Int} (hL : Sm L) {ds : List Dt} (hds : ds.length ≤ 8) (hD : ∀ d ∈ ds, D8 d) {dep : Nat} (hdep : dep < 1000) (hg : GivesE L ds dep) {i j1 : Nat} {k : Int} (hj1 : j1 ≤ L.length)
    (e1 : (orcL AP).i 68 [.sptr 0 0, .pv (vI 14)] (tp L i) [] = some ([.pv (vI k)], tp L j1, [])) (k5 : 5 ≤ k) (k12 : k ≤ 12) :
    ∃ (e : Ex) (fk fa fg : Bool) (j : Nat), (orcL AP).i 247 [.sptr 0 0, .pv (.lst (ds.map Dt.pv)), .pv (vI (dep + 1 : Nat))] (tp L i) [] = some ([.agg (exC fk fa fg e)], tp L j, []) ∧ RawE ds (dep + 1) e ∧ j ≤ L.length := by
  simp at e1
  have h1 : ¬ ((dep : Int) + 1 < 1) := by omega
  have h2 : (dep : Int) + 1 - 1 = dep := by omega
  have hc : k = 5 ∨ k = 6 ∨ k = 7 ∨ k = 8 ∨ k = 9 ∨ k = 10 ∨ k = 11 ∨ k = 12 := by omega
  have hlam : k = 5 ∨ k = 6 → ∃ (e : Ex) (fk fa fg : Bool) (j : Nat), (orcL AP).i 247 [.sptr 0 0, .pv (.lst (ds.map Dt.pv)), .pv (vI (dep + 1 : Nat))] (tp L i) [] = some ([.agg (exC fk fa fg e)], tp L j, []) ∧ RawE ds (dep + 1) e ∧ j ≤ L.length := by
    intro h
    obtain ⟨s, j2, e2, hs, hj2⟩ := c175 hL hj1
    obtain ⟨a, f1, f2, f3, j3, e3, ha, hj3⟩ := hg j2 hj2
    have hA := exC_is f1 f2 f3 a
    generalize exC f1 f2 f3 a = A at e3 hA
    simp at e2 e3
    refine ⟨⟨4, 0, s, 0, [a], [], tyZ⟩, true, true, true, j3, ?_, .lam hs ha, hj3⟩
    rw [callI_body (af := g247) rfl (by simp [g247])]
    have ac := Ex.cells_eq a
    rcases h with rfl | rfl <;> simp (disch := omega) [g247, e1, h1, h2, wrap_id, e2, e3, hA.frz, hA.flat, hA.flo, hA.len, hA.leaf, ac, exC, lsF, tyZ]
  have happ : k = 7 ∨ k = 8 ∨ k = 9 → ∃ (e : Ex) (fk fa fg : Bool) (j : Nat), (orcL AP).i 247 [.sptr 0 0, .pv (.lst (ds.map Dt.pv)), .pv (vI (dep + 1 : Nat))] (tp L i) [] = some ([.agg (exC fk fa fg e)], tp L j, []) ∧ RawE ds (dep + 1) e ∧ j ≤ L.length := by
    intro h
    obtain ⟨a, f1, f2, f3, j2, e2, ha, hj2⟩ := hg j1 hj1
    obtain ⟨b, f4, f5, f6, j3, e3, hb, hj3⟩ := hg j2 hj2
    have hA := exC_is f1 f2 f3 a
    generalize exC f1 f2 f3 a = A at e2 hA
    have hB := exC_is f4 f5 f6 b
    generalize exC f4 f5 f6 b = B at e3 hB
    simp at e2 e3
    refine ⟨⟨5, 0, [], 0, [a, b], [], tyZ⟩, true, true, true, j3, ?_, .app ha hb, hj3⟩
    rw [callI_body (af := g247) rfl (by simp [g247])]
    have ac := Ex.cells_eq a
    have bc := Ex.cells_eq b
    have tA : A.take 11 = A := List.take_of_length_le (by rw [hA.len]; omega)
    rcases h with rfl | rfl | rfl <;> simp (disch := omega) [g247, e1, h1, h2, wrap_id, e2, e3, hA.frz, hA.flat, hA.flo, hA.len, hA.leaf, hB.frz, hB.flat, hB.flo, hB.len, hB.leaf, tA, ac, bc, setRange_eq, exC, lsF, tyZ]
  rcases hc with h | h | h | h | h | rfl | rfl | rfl
  · exact hlam (.inl h)
  · exact hlam (.inr h)
  · exact happ (.inl h)
  · exact happ (.inr (.inl h))
  · exact happ (.inr (.inr h))
  · obtain ⟨r, j2, e2, r0, r1, hj2⟩ := c68 hL hj1 (n := 2) (by omega) (by omega)
    obtain ⟨s, j3, e3, hs, hj3⟩ := c175 hL hj2
    obtain ⟨a, f1, f2, f3, j4, e4, ha, hj4⟩ := hg j3 hj3
    obtain ⟨b, f4, f5, f6, j5, e5, hb, hj5⟩ := hg j4 hj4
    have hA := exC_is f1 f2 f3 a
    generalize exC f1 f2 f3 a = A at e4 hA
    have hB := exC_is f4 f5 f6 b
    generalize exC f4 f5 f6 b = B at e5 hB
    simp at e2 e3 e4 e5
    have ac := Ex.cells_eq a
    have bc := Ex.cells_eq b
    have tA : A.take 11 = A := List.take_of_length_le (by rw [hA.len]; omega)
    have hk : 6 + r = 6 ∨ 6 + r = 7 := by omega
    refine ⟨⟨6 + r, 0, s, 0, [a, b], [], tyZ⟩, true, true, true, j5, ?_, .let_ hk hs ha hb, hj5⟩
    rw [callI_body (af := g247) rfl (by simp [g247])]
    simp (disch := omega) [g247, e1, h1, h2, wrap_id, e2, e3, e4, e5, hA.frz, hA.flat, hA.flo, hA.len, hA.leaf, hB.frz, hB.flat, hB.flo, hB.len, hB.leaf, tA, ac, bc, setRange_eq, exC, lsF, tyZ]
  · obtain ⟨a, f1, f2, f3, j2, e2, ha, hj2⟩ := hg j1 hj1
    have hA := exC_is f1 f2 f3 a
    generalize exC f1 f2 f3 a = A at e2 hA
    obtain ⟨t, j3, e3, ht, hj3⟩ := mk27 hL (ds := ds) (by omega) (fun d hd => (hD d hd).1) (lv := []) (by simp [Sm]) 2 (by omega) j2 hj2
    simp [Ty.av] at e2 e3
    have ac := Ex.cells_eq a
    refine ⟨⟨9, 0, [], 0, [a], [], t⟩, true, true, false, j3, ?_, .ann ha ht, hj3⟩
    rw [callI_body (af := g247) rfl (by simp [g247])]
    simp (disch := omega) [g247, e1, h1, h2, wrap_id, e2, e3, hA.frz, hA.flat, hA.flo, hA.len, hA.leaf, ac, exC, lsF, tyZ]
  · obtain ⟨a, f1, f2, f3, j2, e2, ha, hj2⟩ := hg j1 hj1
    have hA := exC_is f1 f2 f3 a
    generalize exC f1 f2 f3 a = A at e2 hA
    simp at e2
    have ac := Ex.cells_eq a
    refine ⟨⟨11, 0, [], 0, [a], [], tyZ⟩, true, true, true, j2, ?_, .held ha, hj2⟩
    rw [callI_body (af := g247) rfl (by simp [g247])]
    simp (disch := omega) [g247, e1, h1, h2, wrap_id, e2, hA.frz, hA.flat, hA.flo, hA.len, hA.leaf, ac, exC, lsF, tyZ]
end Go.Ab.Lw
namespace Go.Ab.Lw
open Ev
set_option maxRecDepth 10000
set_option linter.unusedSimpArgs false
/-- The cells of the result, and of the case. -/
def m6 : List AV := [.pv (vI 0), .pv (vI 0), .pv (.str []), .pv (vI 0), .own [] 0, .own [] 1, .pv (vI 0), .pv (.str []), .pv (vI 0), .pv (vI 0), .own [] 2]
def m13 (d : Dt) : List AV := [.pv (vI d.pos), .pv (.str d.name), .pv (.lst (d.params.map .str)), .pv (.lst (d.cons.map Con.pv))]
def m14 (a : Ex) (as : List Ar) : List AV := [.pv (vI 8), .pv (vI 0), .pv (.str []), .pv (vI 0), .own [a.pv] 3, .own (as.map Ar.pv) 4, .pv (vI 0), .pv (.str []), .pv (vI 0), .pv (vI 0), .own [] 5]
def m16 (c : Con) (vs : List Txt) : List AV := [.pv (vI 0), .pv (.str c.name), .own (vs.map .str) 6, .pv (vI 0), .pv (vI 0), .pv (.str []), .pv (vI 0), .own [] 7, .own [] 8, .pv (vI 0), .pv (.str []), .pv (vI 0), .pv (vI 0), .own [] 9]

theorem L247b {L : List Int} (hL : Sm L) {ds : List Dt} {dep : Nat} {d : Dt} {a : Ex} {as : List Ar} {ci : Nat} {c : Con} (hc : d.cons[ci]? = some c) (h8 : c.fields.length ≤ 8) : ∀ (n k : Nat), c.fields.length - k = n → k ≤ c.fields.length → ∀ (vs : List Txt) (i : Nat), vs.length = k → (∀ v ∈ vs, v ∈ names8) → i ≤ L.length →
    ∃ (r : List Txt) (j : Nat), cl AP g247L1 ⟨[(0, .sptr 0 0), (1, .pv (.lst (ds.map Dt.pv))), (2, .pv (vI (dep + 1))), (6, .lptr 6 0), (13, .lptr 13 0), (14, .lptr 14 0), (15, .pv (vI ci)), (16, .lptr 16 0), (17, .pv (vI k))],
      [(6, m6), (13, m13 d), (14, m14 a as), (16, m16 c vs)], tp L i, [0, 0, 0, 1, as.length, 0, vs.length, 0, 0, 0]⟩ =
      some (.exit 3, ⟨[(0, .sptr 0 0), (1, .pv (.lst (ds.map Dt.pv))), (2, .pv (vI (dep + 1))), (6, .lptr 6 0), (13, .lptr 13 0), (14, .lptr 14 0), (15, .pv (vI ci)), (16, .lptr 16 0), (17, .pv (vI c.fields.length)), (179, .pv (.bool false))],
      [(6, m6), (13, m13 d), (14, m14 a as), (16, m16 c r)], tp L j, [0, 0, 0, 1, as.length, 0, r.length, 0, 0, 0]⟩) ∧
      r.length = c.fields.length ∧ (∀ v ∈ r, v ∈ names8) ∧ j ≤ L.length
  | 0, k, hn, hk, vs, i, hv, hm, hi => by
    have : k = c.fields.length := by omega
    subst this
    refine ⟨vs, i, ?_, hv, hm, hi⟩
    have hcl := (List.getElem?_eq_some_iff.1 hc).1
    rw [g247L1_eq]
    simp [-getElem?_pos, g247B1, m6, m13, m14, m16, hc, hcl]
  | n + 1, k, hn, hk, vs, i, hv, hm, hi => by
    have hk : k < c.fields.length := by omega
    have hcl := (List.getElem?_eq_some_iff.1 hc).1
    have hb : (vs.length + 1) * 16 ≤ 140737488355328 := by omega
    obtain ⟨s, j, e, hs, hj⟩ := c175 hL hi
    simp at e
    obtain ⟨r, j', e', hr, hm', hj'⟩ := L247b hL hc h8 (a := a) (as := as) (ds := ds) (dep := dep) n (k + 1) (by omega) (by omega) (vs ++ [s]) j (by simp; omega) (by
      intro x hx; simp at hx; rcases hx with hx | rfl
      · exact hm x hx
      · exact hs) hj
    refine ⟨r, j', ?_, hr, hm', hj'⟩
    simp [m6, m13, m14, m16] at e' ⊢
    rw [g247L1_eq]
    simp (disch := omega) [-getElem?_pos, g247B1, hc, hcl, hk, wrap_id, e, hb, setRange_eq]
    exact e'

/-- What holds of the arms made so far. -/
def ArmsOk (ds : List Dt) (dep : Nat) (d : Dt) (as : List Ar) : Prop :=
  (∀ x ∈ as, RawE ds dep x.body) ∧ (∀ x ∈ as, x.pos = 0 ∧ ∀ v ∈ x.vars, v ∈ names8) ∧ (∀ (i : Nat) (c : Con) (x : Ar), d.cons[i]? = some c → as[i]? = some x → x.con = c.name ∧ x.vars.length = c.fields.length)

theorem L247a {L : List Int} (hL : Sm L) {ds : List Dt} {dep : Nat} (hdep : dep < 1000) (hg : GivesE L ds dep) {d : Dt} (hD : D8 d) {a : Ex} : ∀ (n k : Nat), d.cons.length - k = n → k ≤ d.cons.length → ∀ (as : List Ar) (i : Nat), as.length = k → ArmsOk ds dep d as → i ≤ L.length →
    ∃ (r : List Ar) (j : Nat), cl AP g247L0 ⟨[(0, .sptr 0 0), (1, .pv (.lst (ds.map Dt.pv))), (2, .pv (vI (dep + 1))), (6, .lptr 6 0), (13, .lptr 13 0), (14, .lptr 14 0), (15, .pv (vI k))],
      [(6, m6), (13, m13 d), (14, m14 a as)], tp L i, [0, 0, 0, 1, as.length, 0]⟩ =
      some (.exit 1, ⟨[(0, .sptr 0 0), (1, .pv (.lst (ds.map Dt.pv))), (2, .pv (vI (dep + 1))), (6, .lptr 6 0), (13, .lptr 13 0), (14, .lptr 14 0), (15, .pv (vI d.cons.length)), (161, .pv (.bool false))],
      [(6, m6), (13, m13 d), (14, m14 a r)], tp L j, [0, 0, 0, 1, r.length, 0]⟩) ∧
      r.length = d.cons.length ∧ ArmsOk ds dep d r ∧ j ≤ L.length
  | 0, k, hn, hk, as, i, ha, hm, hi => by
    have : k = d.cons.length := by omega
    subst this
    refine ⟨as, i, ?_, ha, hm, hi⟩
    rw [g247L0_eq]
    simp [g247B0, m6, m13, m14]
  | n + 1, k, hn, hk, as, i, ha, hm, hi => by
    have hk : k < d.cons.length := by omega
    obtain ⟨c, hc⟩ := getO hk
    obtain ⟨_, _, h8, hf⟩ := hD
    obtain ⟨vs, j, e, hv, hvm, hj⟩ := L247b hL (ds := ds) (dep := dep) (a := a) (as := as) hc (hf c (memO hc)) _ 0 rfl (by omega) [] i rfl (by simp) hi
    obtain ⟨b, f1, f2, f3, j2, e2, hb, hj2⟩ := hg j hj
    have hB := exC_is f1 f2 f3 b
    generalize exC f1 f2 f3 b = B at e2 hB
    have bc := Ex.cells_eq b
    have tB : B.take 11 = B := List.take_of_length_le (by rw [hB.len]; omega)
    have hbb : (as.length + 1) * 200 ≤ 140737488355328 := by omega
    have hm2 : ArmsOk ds dep d (as ++ [⟨0, c.name, vs, b⟩]) := by
      refine ⟨?_, ?_, ?_⟩
      · intro x hx
        simp at hx
        rcases hx with hx | rfl
        · exact hm.1 x hx
        · exact hb
      · intro x hx
        simp at hx
        rcases hx with hx | rfl
        · exact hm.2.1 x hx
        · exact ⟨rfl, hvm⟩
      · intro i c' x h1 h2
        by_cases hlt : i < as.length
        · rw [List.getElem?_append_left hlt] at h2
          exact hm.2.2 i c' x h1 h2
        · rw [List.getElem?_append_right (by omega)] at h2
          have : i - as.length = 0 := by
            have := (List.getElem?_eq_some_iff.1 h2).1
            simpa using this
          have hik : i = k := by omega
          subst hik
          rw [hc] at h1
          cases h1
          rw [this] at h2
          simp at h2
          subst h2
          exact ⟨rfl, hv⟩
    obtain ⟨r, j', e', hr, hm', hj'⟩ := L247a hL hdep hg ⟨by assumption, by assumption, h8, hf⟩ (a := a) n (k + 1) (by omega) (by omega) (as ++ [⟨0, c.name, vs, b⟩]) j2 (by simp; omega) hm2 hj2
    refine ⟨r, j', ?_, hr, hm', hj'⟩
    have hd1 : (dep : Int) + 1 - 1 = dep := by omega
    rw [g247L1_eq] at e
    rw [g247L0_eq] at e'
    simp [m6, m13, m14, m16] at e e' e2 ⊢
    rw [g247L0_eq]
    simp (disch := omega) [-getElem?_pos, g247B0, hc, hk, wrap_id, hd1, g247L1_eq, e, e2, hbb, setRange_eq, hB.frz, hB.flat, hB.flo, hB.len, hB.leaf, tB, bc]
    rw [g247L0_eq]
    simp [e']

theorem raw_case {L : List Int} (hL : Sm L) {ds : List Dt} (hds : ds.length ≤ 8) (hD : ∀ d ∈ ds, D8 d) {dep : Nat} (hdep : dep < 1000) (hg : GivesE L ds dep) {i j1 : Nat} {k : Int} (hj1 : j1 ≤ L.length)
    (e1 : (orcL AP).i 68 [.sptr 0 0, .pv (vI 14)] (tp L i) [] = some ([.pv (vI k)], tp L j1, [])) (k13 : k = 13) :
    ∃ (e : Ex) (fk fa fg : Bool) (j : Nat), (orcL AP).i 247 [.sptr 0 0, .pv (.lst (ds.map Dt.pv)), .pv (vI (dep + 1 : Nat))] (tp L i) [] = some ([.agg (exC fk fa fg e)], tp L j, []) ∧ RawE ds (dep + 1) e ∧ j ≤ L.length := by
  subst k13
  simp at e1
  have h1 : ¬ ((dep : Int) + 1 < 1) := by omega
  have h2 : (dep : Int) + 1 - 1 = dep := by omega
  by_cases h0 : ds = []
  · subst h0
    obtain ⟨a, f1, f2, f3, j2, e2, ha, hj2⟩ := hg j1 hj1
    refine ⟨a, f1, f2, f3, j2, ?_, .up ha, hj2⟩
    rw [callI_body (af := g247) rfl (by simp [g247])]
    cases f1 <;> cases f2 <;> cases f3 <;> simp [exC, lsF] at e2 <;> simp (disch := omega) [g247, e1, h1, h2, wrap_id, e2, exC, lsF, setRange_eq]
  · have hp : 0 < ds.length := List.length_pos_iff.2 h0
    obtain ⟨r, j2, e2, r0, r1, hj2⟩ := c68 hL hj1 (n := ds.length) (by omega) (by omega)
    obtain ⟨m, rfl, hm⟩ := natI r0 r1
    obtain ⟨d, hx⟩ := getO hm
    have hDd := hD d (memO hx)
    obtain ⟨a, f1, f2, f3, j3, e3, ha, hj3⟩ := hg j2 hj2
    have hA := exC_is f1 f2 f3 a
    generalize exC f1 f2 f3 a = A at e3 hA
    have ac := Ex.cells_eq a
    obtain ⟨as, j4, e4, hal, hao, hj4⟩ := L247a hL hdep hg hDd (a := a) _ 0 rfl (by omega) [] j3 rfl ⟨by simp, by simp, by simp⟩ hj3
    simp at e2 e3
    refine ⟨⟨8, 0, [], 0, [a], as, tyZ⟩, false, false, false, j4, ?_, .case_ (memO hx) ha hal hao.1 hao.2.1 hao.2.2, hj4⟩
    rw [callI_body (af := g247) rfl (by simp [g247])]
    rw [g247L0_eq] at e4
    simp [m6, m13, m14] at e4
    simp (disch := omega) [-getElem?_pos, g247, e1, h1, h2, h0, wrap_id, e2, e3, hp, hx, hA.frz, hA.flat, hA.flo, hA.len, hA.leaf, ac, g247L0_eq, e4, setRange_eq, exC, lsF, tyZ]

theorem c247 {L : List Int} (hL : Sm L) {ds : List Dt} (hds : ds.length ≤ 8) (hD : ∀ d ∈ ds, D8 d) : ∀ dep : Nat, dep < 1000 → GivesE L ds dep
  | 0, _ => fun i hi => by
    obtain ⟨k, j1, e1, k0, k14, hj1⟩ := c68 hL hi (n := 14) (by omega) (by omega)
    exact raw_leaf hL hds hD hj1 e1 k0 (by simp)
  | dep + 1, h => fun i hi => by
    obtain ⟨k, j1, e1, k0, k14, hj1⟩ := c68 hL hi (n := 14) (by omega) (by omega)
    have hg := c247 hL hds hD dep (by omega)
    by_cases h5 : k < 5
    · exact raw_leaf hL hds hD hj1 e1 k0 (by simpa using h5)
    · by_cases h12 : k ≤ 12
      · exact raw_node hL hds hD (by omega) hg hj1 e1 (by omega) h12
      · exact raw_case hL hds hD (by omega) hg hj1 e1 (by omega)
end Go.Ab.Lw
namespace Go.Ab.Lw
open Ev
set_option maxRecDepth 100000
set_option linter.unusedSimpArgs false
theorem tyZ_ok : tyZ.Ok := bare_ok rfl
theorem RawE.ok {ds : List Dt} (hD : ∀ d ∈ ds, D8 d) {n : Nat} {e : Ex} (h : RawE ds n e) : e.Ok ∧ e.One := by
  have leaf : ∀ (k p m : Int) (s : Txt), k ≠ 8 → Ex.Ok ⟨k, p, s, m, [], [], tyZ⟩ ∧ Ex.One ⟨k, p, s, m, [], [], tyZ⟩ := by
    intro k p m s hk
    exact ⟨.mk (by simp) (by simp) (by simp) tyZ_ok (by simp [Ex.ch]), .mk (fun h => absurd h hk) (by simp [Ex.ch])⟩
  have node : ∀ (k : Int) (s : Txt) (l : List Ex) (t : Ty), k ≠ 8 → l.length ≤ 1000 → t.Ok → (∀ x ∈ l, x.Ok ∧ x.One) → Ex.Ok ⟨k, 0, s, 0, l, [], t⟩ ∧ Ex.One ⟨k, 0, s, 0, l, [], t⟩ := by
    intro k s l t hk hl ht hx
    exact ⟨.mk hl (by simp) (by simp) ht (by simpa [Ex.ch] using fun x h => (hx x h).1), .mk (fun h => absurd h hk) (by simpa [Ex.ch] using fun x h => (hx x h).2)⟩
  induction h with
  | var _ => exact leaf _ _ _ _ (by decide)
  | int _ _ => exact leaf _ _ _ _ (by decide)
  | con _ _ => exact leaf _ _ _ _ (by decide)
  | gone => exact leaf _ _ _ _ (by decide)
  | hole => exact leaf _ _ _ _ (by decide)
  | lam _ _ ih => exact node _ _ _ _ (by decide) (by simp) tyZ_ok (by simpa using ih)
  | app _ _ iha ihb => exact node _ _ _ _ (by decide) (by simp) tyZ_ok (by simpa using ⟨iha, ihb⟩)
  | let_ hk _ _ _ iha ihb => exact node _ _ _ _ (by rcases hk with rfl | rfl <;> decide) (by simp) tyZ_ok (by simpa using ⟨iha, ihb⟩)
  | ann _ ht ih => exact node _ _ _ _ (by decide) (by simp) (MadeG.ok (fun d hd => (hD d hd).1) (by simp) ht) (by simpa using ih)
  | held _ ih => exact node _ _ _ _ (by decide) (by simp) tyZ_ok (by simpa using ih)
  | up _ ih => exact ih
  | case_ hd _ hl hb hv hc iha ihb =>
    obtain ⟨_, _, h8a, h8b⟩ := hD _ hd
    refine ⟨.mk (by simp) (by simp; omega) ?_ tyZ_ok ?_, .mk (fun _ => rfl) ?_⟩
    · intro a ha
      obtain ⟨i, hi, rfl⟩ := List.getElem_of_mem ha
      obtain ⟨c, hcc⟩ := getO (show i < _ from hl ▸ hi)
      have := (hc i c _ hcc (List.getElem?_eq_getElem hi)).2
      have := h8b c (memO hcc)
      omega
    · intro x hx
      simp [Ex.ch] at hx
      rcases hx with rfl | ⟨a, ha, rfl⟩
      · exact iha.1
      · exact (ihb a ha).1
    · intro x hx
      simp [Ex.ch] at hx
      rcases hx with rfl | ⟨a, ha, rfl⟩
      · exact iha.2
      · exact (ihb a ha).2

/-- An expression's cells at a loop, the tokens numbered from b. -/
def lsN (f : Bool) (τ : Nat) (l : List PV) : AV := if f then .own l τ else .pv (.lst l)
def nF (f : Bool) : Nat := if f then 1 else 0
def tF (f : Bool) (n : Nat) : Toks := if f then [n] else []
def exN (b : Nat) (fk fa fg : Bool) (e : Ex) : List AV := [.pv (vI e.kind), .pv (vI e.pos), .pv (.str e.name), .pv (vI e.num), lsN fk b (e.kids.map Ex.pv), lsN fa (b + nF fk) (e.arms.map Ar.pv), .pv (vI e.ty.kind), .pv (.str e.ty.name), .pv (vI e.ty.id), .pv (vI e.ty.home), lsN fg (b + nF fk + nF fa) (e.ty.args.map Ty.pv)]
def exT (fk fa fg : Bool) (e : Ex) : Toks := tF fk e.kids.length ++ tF fa e.arms.length ++ tF fg e.ty.args.length

def R424 (L : List Int) (i0 : Int) (at_ raw path : List Int) (C10 C11 : List AV) (T : Toks) (j : Int) (l : Bool) : Option (AExit × St) :=
  some (.exit 0, ⟨[(2, .pv (.lst (at_.map vI))), (3, .pv (.lst (raw.map vI))), (10, .lptr 10 0), (11, .lptr 11 0), (12, .own (path.map vI) 0), (13, .pv (vI j))] ++ (if l then [(42, .pv (.bool false))] else [(14, .pv (.lst [])), (49, .pv (.bool true))]), [(10, C10), (11, C11)], tp L i0, T⟩)
set_option maxHeartbeats 4000000 in
theorem L424 {L : List Int} {i0 : Int} {at_ raw : List Int} (ha : at_.length ≤ 10) {e : Ex} {fk fa fg : Bool} : ∀ (n i : Nat), at_.length - i = n → i ≤ at_.length → ∀ (s : Bool) (x : Ex) (path : List Int), x.Ok → path.length ≤ i → ∃ (path' : List Int) (C : List AV) (T : Toks) (j : Int) (l : Bool), path'.length ≤ 10 ∧
    cl AP g424L0 ⟨[(2, .pv (.lst (at_.map vI))), (3, .pv (.lst (raw.map vI))), (10, .lptr 10 0), (11, .lptr 11 0), (12, .own (path.map vI) 0), (13, .pv (vI i))], [(10, exN 1 fk fa fg e), (11, exN (1 + nF fk + nF fa + nF fg) (s && fk) (s && fa) (s && fg) x)], tp L i0, path.length :: (exT fk fa fg e ++ exT (s && fk) (s && fa) (s && fg) x)⟩ =
      R424 L i0 at_ raw path' (exN 1 fk fa fg e) C T j l
  | 0, i, hn, hi, s, x, path, hx, hl => by
    have : i = at_.length := by omega
    subst this
    refine ⟨path, exN (1 + nF fk + nF fa + nF fg) (s && fk) (s && fa) (s && fg) x, path.length :: (exT fk fa fg e ++ exT (s && fk) (s && fa) (s && fg) x), at_.length, true, by omega, ?_⟩
    rw [g424L0_eq]
    cases s <;> cases fk <;> cases fa <;> cases fg <;> simp [g424B0, exN, exT, lsN, nF, tF, R424]
  | n + 1, i, hn, hi, s, x, path, hx, hl => by
    have hi : i < at_.length := by omega
    obtain ⟨k, hk⟩ := getO hi
    have c := c145 hx
    have hxl := Ex.ch_len (e := x)
    have hkk := hx.k
    have hka := hx.a
    by_cases h0 : x.ch = []
    · refine ⟨path, exN (1 + nF fk + nF fa + nF fg) (s && fk) (s && fa) (s && fg) x, path.length :: (exT fk fa fg e ++ exT (s && fk) (s && fa) (s && fg) x), i, false, by omega, ?_⟩
      rw [h0] at c
      simp at c
      rw [g424L0_eq]
      cases s <;> cases fk <;> cases fa <;> cases fg <;> simp [-getElem?_pos, g424B0, exN, exT, lsN, nF, tF, R424, hi, c]
    · have hp : 0 < x.ch.length := List.length_pos_iff.2 h0
      obtain ⟨r, c2, r0, r1⟩ := c26 (n := k) (m := x.ch.length) (by omega) (by omega)
      obtain ⟨m, rfl, hm⟩ := natI r0 r1
      obtain ⟨y, hy⟩ := getO hm
      obtain ⟨path', C, T, j, l, hp', ih⟩ := L424 ha (L := L) (i0 := i0) (raw := raw) (e := e) (fk := fk) (fa := fa) (fg := fg) n (i + 1) (by omega) (by omega) false y (path ++ [(m : Int)]) (hx.c y (memO hy)) (by simp; omega)
      refine ⟨path', C, T, j, l, hp', ?_⟩
      generalize R424 L i0 at_ raw path' (exN 1 fk fa fg e) C T j l = R at ih ⊢
      have hb : (path.length + 1) * 8 ≤ 140737488355328 := by omega
      simp at c c2
      generalize x.ch = D at *
      rw [g424L0_eq] at ih ⊢
      cases s <;> cases fk <;> cases fa <;> cases fg <;> simp [exN, exT, lsN, nF, tF] at ih ⊢ <;> simp (disch := omega) [-getElem?_pos, g424B0, hi, hk, c, c2, h0, hy, hm, hb, wrap_id] <;> rw [g424L0_eq] <;> simp [ih]
end Go.Ab.Lw
namespace Go.Ab.Lw
set_option maxRecDepth 100000
def ovA (g : Nat) (x : List PV) : Option (List PV) := match g, x with
  | 79, [] => some [.lst (allDatas.map Dt.pv)]
  | _, _ => none
theorem ovA_ok : ∀ g x r, ovA g x = some r → (orcL AP).p g x = some r := by
  intro g x r h
  unfold ovA at h
  split at h
  · cases h; exact c79
  · cases h
theorem c401 : (orcL AP).p 401 [] = some [.bool true] := Fc.p_ofX (k := 100) (n := 30) ovA_ok (by kernel_rfl)
end Go.Ab.Lw
namespace Go.Ab.Lw
open Ev
set_option maxRecDepth 100000
set_option linter.unusedSimpArgs false
theorem lastL_len : ∀ l : List Txt, (lastL l).length ≤ l.length
  | [] => by simp [lastL]
  | x :: r => by
    have := lastL_len r
    simp only [lastL]
    split <;> simp <;> omega
theorem visR_len {e : Ex} (he : e.Ok) {p : List Int} (hp : p.length < 1000000) : Sm (visR e p) := by
  unfold visR Sm
  cases hx : e.at p with
  | none => simp
  | some y =>
    have := vis_len he hx
    have := lastL_len (e.vis p)
    simp only
    omega

set_option maxHeartbeats 4000000 in
theorem law424 (bits : Int) (L at_ raw : List Int) : (orcL AP).p 424 [vI bits, .lst (L.map vI), .lst (at_.map vI), .lst (raw.map vI)] = some [.bool true] := by
  have c0 := c401
  have c1 := c15 (l := L)
  rw [callP_body (af := g424) rfl rfl (by decide)]
  by_cases hL : L.length ≤ 60
  · simp [hL] at c1
    by_cases ha : at_.length ≤ 10
    · by_cases hr : raw.length ≤ 5
      · have hLs : Sm L := by unfold Sm; omega
        obtain ⟨ds, e1, hda, hds⟩ := c32 bits
        have hD : ∀ d ∈ ds, D8 d := fun d hd => all_D8 d (hda d hd)
        obtain ⟨e, fk, fa, fg, j, e2, hR, hj⟩ := c247 hLs hds hD 5 (by omega) 0 (by omega)
        obtain ⟨hO, h1⟩ := hR.ok hD
        have ha' : ¬ (10 : Int) < at_.length := by omega
        have hr' : ¬ (5 : Int) < raw.length := by omega
        have ha2 : (at_.length : Int) ≤ 10 := by omega
        have hr2 : (raw.length : Int) ≤ 5 := by omega
        obtain ⟨p, C, T, jj, l, hp, hl⟩ := L424 ha (L := L) (i0 := j) (raw := raw) (e := e) (fk := fk) (fa := fa) (fg := fg) _ 0 rfl (by omega) true e [] hO (by simp)
        have k1 := c404 hO h1 (p := p) (by omega)
        have k2 := c432 hO h1 (p := p) (by omega)
        have k3 := c404 hO h1 (p := raw) (by omega)
        have k4 := c432 hO h1 (p := raw) (by omega)
        have k5 := c408 (b := visR e p) (visR_len hO (p := p) (by omega))
        have k6 := c408 (b := visR e raw) (visR_len hO (p := raw) (by omega))
        rw [g424L0_eq] at hl
        simp at e1 k1 k2 k3 k4 k5 k6
        cases l <;> cases fk <;> cases fa <;> cases fg <;> simp [exC, lsF, exN, exT, lsN, nF, tF, R424] at e2 hl <;> simp [-getElem?_pos, g424, c0, c1, ha2, hr2, e1, e2, g424L0_eq, hl, k1, k2, k3, k4, k5, k6]
      · have hr' : ¬ (raw.length : Int) ≤ 5 := by omega
        have ha' : (at_.length : Int) ≤ 10 := by omega
        simp [g424, c0, c1, ha', hr']
    · have ha' : ¬ (at_.length : Int) ≤ 10 := by omega
      simp [g424, c0, c1, ha']
  · simp [hL] at c1
    simp [g424, c0, c1]
end Go.Ab.Lw
