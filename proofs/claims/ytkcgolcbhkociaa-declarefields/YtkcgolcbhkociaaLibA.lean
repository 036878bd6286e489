import Derived.Test.YtkcgolcbhkociaaCodeA
import Derived.Test.YtkcgolcbhkociaaAbBridge
import Derived.Test.YtkcgolcbhkociaaAbForce
import Derived.KernelRfl
/-
  The program's data.
  The makers: what their functions give.
  The makers: what their functions give.
  The data declarations that programs are made of: what the reader makes of their text.
  The makers: data declarations, chosen by bits.
  The makers: types and substitutions off the tape.
  Types and substitutions: what replaces variables.
  Types: rebuilding with new leaves.
  Substitutions: composing; equality of types and of substitutions.
  Chapter 13: the plain laws, and the law that composition composes.
  Chapter 13: equality of substitutions; the laws SubstAssociates and SubstEqual.
  Functions of package slices over any elements.
  Ranges over a slice backward.
  Which types are valid.
  Contexts: their entries; looking names up.
  What the pure data of a parameter looks like.
  Chapter 3: what its laws make; the laws TypesValid and TypesEqual.
  The variables of types, by the program and by the reference.
  The reference's variables of types; they are the program's.
  Contexts: schemes, adding, hidden entries; what law 19 makes.
  Law 19 makes contexts; the law EnvironLooks.
  The maker of types over any list of data types.
  Correct types in declarations.
  Chapter 9: what its laws make.
  Chapter 9: declarations off the tape.
  Chapter 9: where a constructor is.
  Chapter 9: written type variables become quantified ones.
  Chapter 9: the scheme of a constructor.
  Chapter 9: the first error of a list of declarations, by the program.
  The chosen declarations, to the letter.
  Law 9's first example.
  The laws DeclareFormed and DeclareCheck.
  The law DeclareFinds.
  Chapter 3: opening.
  The law DeclareFields.
-/
set_option linter.unusedVariables false
set_option linter.unusedSimpArgs false
namespace Go.Ab.Lw
/-- A type. -/
structure Ty where
  kind : Int
  name : List UInt8
  id : Int
  home : Int
  args : List Ty
  deriving Inhabited

noncomputable instance : DecidableEq Ty := fun _ _ => Classical.propDecidable _

mutual
def Ty.pv : Ty → PV
  | ⟨k, n, i, h, as⟩ => .agg [.int .i64 k, .str n, .int .i64 i, .int .i64 h, .lst (Ty.pvs as)]
def Ty.pvs : List Ty → List PV
  | [] => []
  | a :: r => a.pv :: Ty.pvs r
end

theorem Ty.pvs_map : ∀ l : List Ty, Ty.pvs l = l.map Ty.pv
  | [] => by simp [Ty.pvs]
  | a :: r => by simp [Ty.pvs, Ty.pvs_map r]

@[simp] theorem Ty.pv_eq (t : Ty) : t.pv = .agg [.int .i64 t.kind, .str t.name, .int .i64 t.id, .int .i64 t.home, .lst (t.args.map Ty.pv)] := by
  cases t; simp only [Ty.pv, Ty.pvs_map]

/-- A property of all types that are parts. -/
theorem Ty.rec1 {p : Ty → Prop} (h : ∀ t : Ty, (∀ x ∈ t.args, p x) → p t) : ∀ t, p t
  | ⟨k, n, i, hm, as⟩ => h _ (fun x _hx => Ty.rec1 h x)
termination_by t => SizeOf.sizeOf t
decreasing_by have := _root_.List.sizeOf_lt_of_mem _hx; simp at *; omega

/-- A constructor, and a data declaration. -/
structure Con where
  pos : Int
  name : List UInt8
  fields : List Ty
  deriving Inhabited
structure Dt where
  pos : Int
  name : List UInt8
  params : List (List UInt8)
  cons : List Con
  deriving Inhabited
def Con.pv (c : Con) : PV := .agg [.int .i64 c.pos, .str c.name, .lst (c.fields.map Ty.pv)]
def Dt.pv (d : Dt) : PV := .agg [.int .i64 d.pos, .str d.name, .lst (d.params.map .str), .lst (d.cons.map Con.pv)]
@[simp] theorem Con.pv_eq (c : Con) : c.pv = .agg [.int .i64 c.pos, .str c.name, .lst (c.fields.map Ty.pv)] := rfl
@[simp] theorem Dt.pv_eq (d : Dt) : d.pv = .agg [.int .i64 d.pos, .str d.name, .lst (d.params.map .str), .lst (d.cons.map Con.pv)] := rfl

/-- An assignment. -/
structure As where
  id : Int
  ty : Ty
  deriving Inhabited
def As.pv (a : As) : PV := .agg [.int .i64 a.id, .int .i64 a.ty.kind, .str a.ty.name, .int .i64 a.ty.id, .int .i64 a.ty.home, .lst (a.ty.args.map Ty.pv)]
@[simp] theorem As.pv_eq (a : As) : a.pv = .agg [.int .i64 a.id, .int .i64 a.ty.kind, .str a.ty.name, .int .i64 a.ty.id, .int .i64 a.ty.home, .lst (a.ty.args.map Ty.pv)] := rfl

@[simp] theorem Ty.eta (t : Ty) : Ty.mk t.kind t.name t.id t.home t.args = t := by cases t; rfl
@[simp] theorem As.eta (t : As) : As.mk t.id t.ty = t := rfl

abbrev vI (n : Int) : PV := .int .i64 n
def tp (L : List Int) (i : Int) : Sh := [some [.pv (.lst (L.map vI)), .pv (vI i)]]
@[simp] theorem tp_eq (L : List Int) (i : Int) : tp L i = [some [.pv (.lst (L.map vI)), .pv (vI i)]] := rfl

/-- Lists that any memory holds. -/
def Sm {α : Type} (l : List α) : Prop := l.length < 1099511627776

/-- Texts that any memory holds. -/
def SmS {α : Type} (l : List α) : Prop := l.length ≤ 9223372036854775807

@[simp] theorem natNeg (n : Nat) : ((n : Int) < 0) ↔ False := by simp
@[simp] theorem natNeg1 (n : Nat) : ((n : Int) + 1 < 0) ↔ False := by simp; omega

theorem dropC {α : Type} {l : List α} {i : Nat} {x : α} (h : l[i]? = some x) : l.drop i = x :: l.drop (i + 1) := by
  obtain ⟨hi, rfl⟩ := List.getElem?_eq_some_iff.1 h
  exact List.drop_eq_getElem_cons hi
theorem getO {α : Type} {l : List α} {i : Nat} (h : i < l.length) : ∃ x, l[i]? = some x := ⟨_, List.getElem?_eq_getElem h⟩
theorem memO {α : Type} {l : List α} {i : Nat} {x : α} (h : l[i]? = some x) : x ∈ l := List.mem_of_getElem? h
end Go.Ab.Lw
namespace Go.Ab.Lw
open Ev
set_option maxRecDepth 10000
set_option linter.unusedSimpArgs false
theorem c26 {n m : Int} (h1 : 1 ≤ m) (h2 : m < 4611686018427387904) : ∃ r, (orcL AP).p 26 [vI n, vI m] = some [vI r] ∧ 0 ≤ r ∧ r < m := by
  rw [callP_body (af := g26) rfl rfl (by decide)]
  have a1 := Int.tmod_lt_of_pos n (show 0 < m by omega)
  have a2 := Int.lt_tmod_of_pos n (show 0 < m by omega)
  have e1 : ¬ m < 1 := by omega
  have e2 : ¬ m = 0 := by omega
  by_cases h : n.tmod m < 0
  · refine ⟨n.tmod m + m, ?_, by omega, by omega⟩
    simp (disch := omega) [g26, e1, e2, h, wrap_id]
  · refine ⟨n.tmod m, ?_, by omega, by omega⟩
    simp [g26, e1, e2, h]

/-- A choice off the tape. -/
theorem c68 {L : List Int} (hL : Sm L) {i : Nat} (hi : i ≤ L.length) {n : Int} (h1 : 1 ≤ n) (h2 : n < 4611686018427387904) :
    ∃ (r : Int) (j : Nat), (orcL AP).i 68 [.sptr 0 0, .pv (vI n)] (tp L i) [] = some ([.pv (vI r)], tp L j, []) ∧ 0 ≤ r ∧ r < n ∧ j ≤ L.length := by
  unfold Sm at hL
  rw [callI_body (af := g68) rfl (by simp [g68])]
  by_cases h : i < L.length
  · obtain ⟨x, hx⟩ := getO h
    obtain ⟨r, e, e1, e2⟩ := c26 (n := x) h1 h2
    refine ⟨r, i + 1, ?_, e1, e2, h⟩
    have h' : ¬ L.length ≤ i := by omega
    simp (disch := omega) [-getElem?_pos, g68, h', wrap_id, hx, e]
  · have h' : L.length ≤ i := by omega
    refine ⟨0, i, ?_, by omega, by omega, hi⟩
    simp [g68, h']

theorem c63 {n : Int} : (orcL AP).p 63 [vI n] = some [(Ty.mk 1 [] n 0 []).pv] := by
  rw [callP_body (af := g63) rfl rfl (by decide)]
  simp [g63]
theorem c71 {n m : Int} : (orcL AP).p 71 [vI n, vI m] = some [(Ty.mk 3 [] m n []).pv] := by
  rw [callP_body (af := g71) rfl rfl (by decide)]
  simp [g71]
theorem c72 {n : Int} : (orcL AP).p 72 [vI n] = some [(Ty.mk 2 [] n 0 []).pv] := by
  rw [callP_body (af := g72) rfl rfl (by decide)]
  simp [g72]
theorem c62 {s : List UInt8} {l : List Ty} (h : Sm l) : (orcL AP).p 62 [.str s, .lst (l.map Ty.pv)] = some [(Ty.mk 4 s 0 0 l).pv] := by
  unfold Sm at h
  rw [callP_body (af := g62) rfl rfl (by decide)]
  cases l with
  | nil => simp [g62]
  | cons a r =>
    have : (r.length + 1) * 64 ≤ 140737488355328 := by simp at h; omega
    simp [g62, this]
theorem c34 : (orcL AP).p 34 [] = some [(Ty.mk 4 [73, 110, 116] 0 0 []).pv] := by
  rw [callP_body (af := g34) rfl rfl (by decide)]
  have h := c62 (s := [73, 110, 116]) (l := []) (by simp [Sm])
  simp at h
  simp [g34, h]
theorem c69 {a b : Ty} : (orcL AP).p 69 [a.pv, b.pv] = some [(Ty.mk 4 [45, 62] 0 0 [a, b]).pv] := by
  rw [callP_body (af := g69) rfl rfl (by decide)]
  have h := c62 (s := [45, 62]) (l := [a, b]) (by simp [Sm])
  simp at h
  simp [g69, h]
theorem c15 {l : List Int} : (orcL AP).p 15 [.lst (l.map vI)] = some [.bool (decide (l.length ≤ 60))] := by
  rw [callP_body (af := g15) rfl rfl (by decide)]
  simp [g15]
  omega

end Go.Ab.Lw
namespace Go.Ab.Lw
open Ev
set_option maxRecDepth 10000
set_option linter.unusedSimpArgs false
/-- Shared memory without tokens. -/
def Calm (sh : Sh) : Prop := ∀ old ts, normS old ts sh = (sh, old, ts)
theorem calm_nil : Calm [] := fun _ _ => rfl
def tyVar (n : Int) : Ty := ⟨1, [], n, 0, []⟩
def tyRigid (h n : Int) : Ty := ⟨3, [], n, h, []⟩
def tyBound (n : Int) : Ty := ⟨2, [], n, 0, []⟩
def tyInt : Ty := ⟨4, [73, 110, 116], 0, 0, []⟩

theorem c70_4 {sh : Sh} (h : Calm sh) : (orcL AP).i 70 [.pv (vI 4)] sh [] = some ([.own ([tyVar 0, tyVar 1, tyVar 2, tyVar 3].map Ty.pv) 0], sh, [4]) := by
  have hh := h
  unfold Calm at h
  rw [callI_body (af := g70) rfl (by decide)]
  have c0 := c63 (n := 0); have c1 := c63 (n := 1); have c2 := c63 (n := 2); have c3 := c63 (n := 3)
  simp at c0 c1 c2 c3
  simp (disch := omega) [-getElem?_pos, g70, g70L0_eq, g70B0, wrap_id, c0, c1, c2, c3, h, tyVar]
def leavesL : List Ty := [tyVar 0, tyVar 1, tyVar 2, tyVar 3, tyRigid 0 0, tyRigid 1 0, tyRigid (-1) 2, tyBound 0]
theorem c28 : (orcL AP).p 28 [] = some [.lst (leavesL.map Ty.pv)] := by
  rw [callP_body (af := g28) rfl rfl (by decide)]
  have h := c70_4 calm_nil
  have c1 := c71 (n := 0) (m := 0); have c2 := c71 (n := 1) (m := 0); have c3 := c71 (n := -1) (m := 2); have c4 := c72 (n := 0)
  simp [tyVar] at h c1 c2 c3 c4
  simp [g28, h, c1, c2, c3, c4, leavesL, tyVar, tyRigid, tyBound]

end Go.Ab.Lw
namespace Go.Ab.Lw
set_option maxRecDepth 100000
set_option linter.unusedVariables false
def srcD : List UInt8 := [100, 97, 116, 97, 32, 66, 111, 111, 108, 32, 61, 32, 84, 114, 117, 101, 32, 124, 32, 70, 97, 108, 115, 101, 59, 32, 100, 97, 116, 97, 32, 79, 112, 116, 105, 111, 110, 32, 97, 32, 61, 32, 78, 111, 110, 101, 32, 124, 32, 83, 111, 109, 101, 32, 97, 59, 32, 100, 97, 116, 97, 32, 76, 105, 115, 116, 32, 97, 32, 61, 32, 78, 105, 108, 32, 124, 32, 67, 111, 110, 115, 32, 97, 32, 40, 76, 105, 115, 116, 32, 97, 41, 59, 100, 97, 116, 97, 32, 80, 97, 105, 114, 32, 97, 32, 98, 32, 61, 32, 80, 97, 105, 114, 32, 97, 32, 98, 59, 32, 100, 97, 116, 97, 32, 78, 97, 116, 32, 61, 32, 90, 101, 114, 111, 32, 124, 32, 83, 117, 99, 99, 32, 78, 97, 116, 59, 32, 100, 97, 116, 97, 32, 70, 117, 110, 32, 97, 32, 98, 32, 61, 32, 70, 117, 110, 32, 40, 97, 32, 45, 62, 32, 98, 41, 59, 32, 100, 97, 116, 97, 32, 84, 119, 111, 32, 97, 32, 61, 32, 66, 111, 116, 104, 32, 97, 32, 97, 32, 124, 32, 79, 110, 101, 32, 40, 79, 112, 116, 105, 111, 110, 32, 97, 41, 59]
def toksD : List PV := [.lst [.agg [.int .i64 4, .str [100, 97, 116, 97], .int .i64 0], .agg [.int .i64 2, .str [66, 111, 111, 108], .int .i64 5], .agg [.int .i64 5, .str [61], .int .i64 10], .agg [.int .i64 2, .str [84, 114, 117, 101], .int .i64 12], .agg [.int .i64 5, .str [124], .int .i64 17], .agg [.int .i64 2, .str [70, 97, 108, 115, 101], .int .i64 19], .agg [.int .i64 5, .str [59], .int .i64 24], .agg [.int .i64 4, .str [100, 97, 116, 97], .int .i64 26], .agg [.int .i64 2, .str [79, 112, 116, 105, 111, 110], .int .i64 31], .agg [.int .i64 1, .str [97], .int .i64 38], .agg [.int .i64 5, .str [61], .int .i64 40], .agg [.int .i64 2, .str [78, 111, 110, 101], .int .i64 42], .agg [.int .i64 5, .str [124], .int .i64 47], .agg [.int .i64 2, .str [83, 111, 109, 101], .int .i64 49], .agg [.int .i64 1, .str [97], .int .i64 54], .agg [.int .i64 5, .str [59], .int .i64 55], .agg [.int .i64 4, .str [100, 97, 116, 97], .int .i64 57], .agg [.int .i64 2, .str [76, 105, 115, 116], .int .i64 62], .agg [.int .i64 1, .str [97], .int .i64 67], .agg [.int .i64 5, .str [61], .int .i64 69], .agg [.int .i64 2, .str [78, 105, 108], .int .i64 71], .agg [.int .i64 5, .str [124], .int .i64 75], .agg [.int .i64 2, .str [67, 111, 110, 115], .int .i64 77], .agg [.int .i64 1, .str [97], .int .i64 82], .agg [.int .i64 5, .str [40], .int .i64 84], .agg [.int .i64 2, .str [76, 105, 115, 116], .int .i64 85], .agg [.int .i64 1, .str [97], .int .i64 90], .agg [.int .i64 5, .str [41], .int .i64 91], .agg [.int .i64 5, .str [59], .int .i64 92], .agg [.int .i64 4, .str [100, 97, 116, 97], .int .i64 93], .agg [.int .i64 2, .str [80, 97, 105, 114], .int .i64 98], .agg [.int .i64 1, .str [97], .int .i64 103], .agg [.int .i64 1, .str [98], .int .i64 105], .agg [.int .i64 5, .str [61], .int .i64 107], .agg [.int .i64 2, .str [80, 97, 105, 114], .int .i64 109], .agg [.int .i64 1, .str [97], .int .i64 114], .agg [.int .i64 1, .str [98], .int .i64 116], .agg [.int .i64 5, .str [59], .int .i64 117], .agg [.int .i64 4, .str [100, 97, 116, 97], .int .i64 119], .agg [.int .i64 2, .str [78, 97, 116], .int .i64 124], .agg [.int .i64 5, .str [61], .int .i64 128], .agg [.int .i64 2, .str [90, 101, 114, 111], .int .i64 130], .agg [.int .i64 5, .str [124], .int .i64 135], .agg [.int .i64 2, .str [83, 117, 99, 99], .int .i64 137], .agg [.int .i64 2, .str [78, 97, 116], .int .i64 142], .agg [.int .i64 5, .str [59], .int .i64 145], .agg [.int .i64 4, .str [100, 97, 116, 97], .int .i64 147], .agg [.int .i64 2, .str [70, 117, 110], .int .i64 152], .agg [.int .i64 1, .str [97], .int .i64 156], .agg [.int .i64 1, .str [98], .int .i64 158], .agg [.int .i64 5, .str [61], .int .i64 160], .agg [.int .i64 2, .str [70, 117, 110], .int .i64 162], .agg [.int .i64 5, .str [40], .int .i64 166], .agg [.int .i64 1, .str [97], .int .i64 167], .agg [.int .i64 5, .str [45, 62], .int .i64 169], .agg [.int .i64 1, .str [98], .int .i64 172], .agg [.int .i64 5, .str [41], .int .i64 173], .agg [.int .i64 5, .str [59], .int .i64 174], .agg [.int .i64 4, .str [100, 97, 116, 97], .int .i64 176], .agg [.int .i64 2, .str [84, 119, 111], .int .i64 181], .agg [.int .i64 1, .str [97], .int .i64 185], .agg [.int .i64 5, .str [61], .int .i64 187], .agg [.int .i64 2, .str [66, 111, 116, 104], .int .i64 189], .agg [.int .i64 1, .str [97], .int .i64 194], .agg [.int .i64 1, .str [97], .int .i64 196], .agg [.int .i64 5, .str [124], .int .i64 198], .agg [.int .i64 2, .str [79, 110, 101], .int .i64 200], .agg [.int .i64 5, .str [40], .int .i64 204], .agg [.int .i64 2, .str [79, 112, 116, 105, 111, 110], .int .i64 205], .agg [.int .i64 1, .str [97], .int .i64 212], .agg [.int .i64 5, .str [41], .int .i64 213], .agg [.int .i64 5, .str [59], .int .i64 214]], .agg [.int .i64 0, .int .i64 0]]

/-- All data declarations. -/
def allDatas : List Dt := [⟨0, [66, 111, 111, 108], [], [⟨12, [84, 114, 117, 101], []⟩, ⟨19, [70, 97, 108, 115, 101], []⟩]⟩,
  ⟨26, [79, 112, 116, 105, 111, 110], [[97]], [⟨42, [78, 111, 110, 101], []⟩, ⟨49, [83, 111, 109, 101], [⟨5, [97], 0, 0, []⟩]⟩]⟩,
  ⟨57, [76, 105, 115, 116], [[97]], [⟨71, [78, 105, 108], []⟩, ⟨77, [67, 111, 110, 115], [⟨5, [97], 0, 0, []⟩,⟨4, [76, 105, 115, 116], 0, 0, [⟨5, [97], 0, 0, []⟩]⟩]⟩]⟩,
  ⟨93, [80, 97, 105, 114], [[97], [98]], [⟨109, [80, 97, 105, 114], [⟨5, [97], 0, 0, []⟩,⟨5, [98], 0, 0, []⟩]⟩]⟩,
  ⟨119, [78, 97, 116], [], [⟨130, [90, 101, 114, 111], []⟩, ⟨137, [83, 117, 99, 99], [⟨4, [78, 97, 116], 0, 0, []⟩]⟩]⟩,
  ⟨147, [70, 117, 110], [[97], [98]], [⟨162, [70, 117, 110], [⟨4, [45, 62], 0, 0, [⟨5, [97], 0, 0, []⟩, ⟨5, [98], 0, 0, []⟩]⟩]⟩]⟩,
  ⟨176, [84, 119, 111], [[97]], [⟨189, [66, 111, 116, 104], [⟨5, [97], 0, 0, []⟩,⟨5, [97], 0, 0, []⟩]⟩, ⟨200, [79, 110, 101], [⟨4, [79, 112, 116, 105, 111, 110], 0, 0, [⟨5, [97], 0, 0, []⟩]⟩]⟩]⟩]

theorem scanD : (orcL AP).p 118 [.str srcD] = some toksD := Fc.p_of (k := 400) (n := 20) (by kernel_rfl)

def ovD (g : Nat) (x : List PV) : Option (List PV) := match g, x with
  | 118, [.str s] => if s = srcD then some toksD else none
  | _, _ => none
theorem ovD_ok : ∀ g x r, ovD g x = some r → (orcL AP).p g x = some r := by
  intro g x r h
  unfold ovD at h
  split at h
  · split at h
    · rename_i e; subst e; cases h; exact scanD
    · cases h
  · cases h

theorem c79 : (orcL AP).p 79 [] = some [.lst (allDatas.map Dt.pv)] := Fc.p_ofX (k := 400) (n := 40) ovD_ok (by kernel_rfl)
end Go.Ab.Lw
namespace Go.Ab.Lw
open Ev
set_option maxRecDepth 10000
set_option linter.unusedSimpArgs false
@[simp] theorem headSz_Dt {l : List Dt} : headSz 4 (l.map Dt.pv) = true := by cases l <;> simp
@[simp] theorem headSz_Ty {l : List Ty} : headSz 5 (l.map Ty.pv) = true := by cases l <;> simp
@[simp] theorem headSz_As {l : List As} : headSz 6 (l.map As.pv) = true := by cases l <;> simp

theorem wrapU_id {n : Int} (h1 : 0 ≤ n) (h2 : n < 18446744073709551616) : IntKind.u64.wrap n = n := by
  simp [IntKind.wrap, IntKind.bits, IntKind.signed]
  omega

def R32 (bits : Int) (ds : List Dt) : Option (AExit × St) :=
  some (.exit 0, ⟨[(0, .pv (vI bits)), (3, .pv (.lst (allDatas.map Dt.pv))), (4, .own (ds.map Dt.pv) 0), (5, .pv (vI 7)), (24, .pv (.bool false))], [], [], [ds.length]⟩)
end Go.Ab.Lw
namespace Go.Ab.Lw
open Ev
set_option maxRecDepth 10000
set_option linter.unusedSimpArgs false
/-- A made type over leaves. -/
inductive Made (lv : Ty → Prop) : Ty → Prop
  | leaf {t : Ty} : lv t → Made lv t
  | int : Made lv tyInt
  | con {d : Dt} {args : List Ty} : d ∈ allDatas → args.length = d.params.length → (∀ x ∈ args, Made lv x) → Made lv ⟨4, d.name, 0, 0, args⟩
  | arrow {a b : Ty} : Made lv a → Made lv b → Made lv ⟨4, [45, 62], 0, 0, [a, b]⟩

/-- A type in its cells. -/
def Ty.av (t : Ty) : AV := .agg [.pv (vI t.kind), .pv (.str t.name), .pv (vI t.id), .pv (vI t.home), .pv (.lst (t.args.map Ty.pv))]
@[simp] theorem Ty.av_eq (t : Ty) : t.av = .agg [.pv (vI t.kind), .pv (.str t.name), .pv (vI t.id), .pv (vI t.home), .pv (.lst (t.args.map Ty.pv))] := rfl

theorem natI {r : Int} {n : Nat} (h0 : 0 ≤ r) (h1 : r < n) : ∃ m : Nat, r = m ∧ m < n := ⟨r.toNat, by omega, by omega⟩

end Go.Ab.Lw
namespace Go.Ab.Lw
open Ev
set_option maxRecDepth 10000
set_option linter.unusedSimpArgs false
/-- No list within is long. -/
inductive Ty.Ok : Ty → Prop
  | mk {t : Ty} : Sm t.args → (∀ x ∈ t.args, Ty.Ok x) → Ty.Ok t
theorem Ty.Ok.sm {t : Ty} (h : t.Ok) : Sm t.args := by cases h; assumption
theorem Ty.Ok.kid {t : Ty} (h : t.Ok) : ∀ x ∈ t.args, x.Ok := by cases h; assumption
/-- Variables have no parts. -/
inductive Ty.Wf : Ty → Prop
  | mk {t : Ty} : (t.kind = 1 → t.args = []) → (∀ x ∈ t.args, Ty.Wf x) → Ty.Wf t
theorem Ty.Wf.var {t : Ty} (h : t.Wf) : t.kind = 1 → t.args = [] := by cases h; assumption
theorem Ty.Wf.kid {t : Ty} (h : t.Wf) : ∀ x ∈ t.args, x.Wf := by cases h; assumption

/-- The first assignment of a variable. -/
def fnd : List As → Int → Option Ty
  | [], _ => none
  | a :: r, id => if a.id = id then some a.ty else fnd r id

mutual
def Ty.sub (s : List As) : Ty → Ty
  | ⟨k, n, i, h, as⟩ => if k = 1 then (fnd s i).getD ⟨k, n, i, h, as⟩ else ⟨k, n, i, h, Ty.subs s as⟩
def Ty.subs (s : List As) : List Ty → List Ty
  | [] => []
  | a :: r => a.sub s :: Ty.subs s r
end
theorem Ty.subs_map (s : List As) : ∀ l : List Ty, Ty.subs s l = l.map (Ty.sub s)
  | [] => by simp [Ty.subs]
  | a :: r => by simp [Ty.subs, Ty.subs_map s r]
theorem Ty.sub_eq (s : List As) (t : Ty) : t.sub s = if t.kind = 1 then (fnd s t.id).getD t else ⟨t.kind, t.name, t.id, t.home, t.args.map (Ty.sub s)⟩ := by
  cases t; simp only [Ty.sub, Ty.subs_map]

end Go.Ab.Lw
namespace Go.Ab.Lw
open Ev
set_option maxRecDepth 10000
set_option linter.unusedSimpArgs false
/-- Shared memory that holds plain data alone. -/
def Quiet (sh : Sh) : Prop := ∀ cs, some cs ∈ sh → ∀ v ∈ cs, ∃ p, v = AV.pv p

theorem normL_pv {old ts : Toks} : ∀ {cs : List AV}, (∀ v ∈ cs, ∃ p, v = AV.pv p) → normL old ts cs = (cs, old, ts)
  | [], _ => rfl
  | v :: r, h => by
    obtain ⟨p, rfl⟩ := h v (by simp)
    simp only [normL_cons, normV_pv, normL_pv (cs := r) (fun v hv => h v (by simp [hv]))]
theorem Quiet.norm : ∀ {sh : Sh}, Quiet sh → ∀ old ts, normS old ts sh = (sh, old, ts)
  | [], _, _, _ => rfl
  | none :: sh, h, old, ts => by
    simp only [normS_none, Quiet.norm (sh := sh) (fun cs hc => h cs (by simp [hc]))]
  | some cs :: sh, h, old, ts => by
    simp only [normS_some, normL_pv (h cs (by simp)), Quiet.norm (sh := sh) (fun cs hc => h cs (by simp [hc]))]
theorem shiftL_pv {n : Nat} : ∀ {cs : List AV}, (∀ v ∈ cs, ∃ p, v = AV.pv p) → cs.map (shiftV n) = cs
  | [], _ => rfl
  | v :: r, h => by
    obtain ⟨p, rfl⟩ := h v (by simp)
    simp only [List.map_cons, shiftV_pv, shiftL_pv (cs := r) (fun v hv => h v (by simp [hv]))]
theorem Quiet.shift : ∀ {sh : Sh}, Quiet sh → ∀ n, shiftS n sh = sh
  | [], _, _ => rfl
  | none :: sh, h, n => by
    simp only [shiftS_none, Quiet.shift (sh := sh) (fun cs hc => h cs (by simp [hc]))]
  | some cs :: sh, h, n => by
    simp only [shiftS_some, shiftL_pv (h cs (by simp)), Quiet.shift (sh := sh) (fun cs hc => h cs (by simp [hc]))]
theorem Quiet.app {a b : Sh} (ha : Quiet a) (hb : Quiet b) : Quiet (a ++ b) := by
  intro cs hc
  simp only [List.mem_append] at hc
  rcases hc with hc | hc
  · exact ha cs hc
  · exact hb cs hc
theorem Quiet.one {cs : List AV} (h : ∀ v ∈ cs, ∃ p, v = AV.pv p) : Quiet [some cs] := by
  intro cs' hc
  simp at hc
  subst hc
  exact h

@[simp] theorem getEnd {α : Type} {l : List α} {x : α} : (l ++ [x])[l.length]? = some x := by simp
@[simp] theorem setEnd {α : Type} {l : List α} {x y : α} : (l ++ [x]).set l.length y = l ++ [y] := by simp [List.set_append]
@[simp] theorem takeEnd {α : Type} {l : List α} {x : α} : (l ++ [x]).take l.length = l := by simp

/-! ### An array of types under way -/

def Ty.cl (t : Ty) : List AV := [.pv (vI t.kind), .pv (.str t.name), .pv (vI t.id), .pv (vI t.home), .pv (.lst (t.args.map Ty.pv))]
def zcl : List AV := [.pv (vI 0), .pv (.str []), .pv (vI 0), .pv (vI 0), .pv (.lst [])]
def arrC (d : List Ty) (m : Nat) : List AV := d.flatMap Ty.cl ++ (List.replicate m zcl).flatten
theorem flat_len {d : List Ty} : (d.flatMap Ty.cl).length = d.length * 5 := by
  induction d with
  | nil => rfl
  | cons a r ih => simp [ih, Ty.cl, Nat.add_mul]
theorem rep_len {m : Nat} : ((List.replicate m zcl).flatten).length = m * 5 := by
  simp [zcl]
theorem arrC_len {d : List Ty} {m : Nat} : (arrC d m).length = (d.length + m) * 5 := by
  simp only [arrC, List.length_append, flat_len, rep_len, Nat.add_mul]
theorem arrC_set {d : List Ty} {m : Nat} {t : Ty} : setRange (arrC d (m + 1)) (d.length * 5) t.cl = arrC (d ++ [t]) m := by
  have e : arrC d (m + 1) = d.flatMap Ty.cl ++ (zcl ++ (List.replicate m zcl).flatten) := by simp [arrC, List.replicate_succ]
  have hl : (d.flatMap Ty.cl).length = d.length * 5 := flat_len
  rw [setRange_eq, e, ← hl, List.take_left, List.drop_append, List.drop_eq_nil_of_le (by omega)]
  have : (d.flatMap Ty.cl).length + t.cl.length - (d.flatMap Ty.cl).length = 5 := by simp [Ty.cl]
  rw [this]
  simp [arrC, zcl]
theorem arrC_pv {d : List Ty} {m : Nat} : ∀ v ∈ arrC d m, ∃ p, v = AV.pv p := by
  intro v hv
  simp only [arrC, List.mem_append, List.mem_flatMap, List.mem_flatten, List.mem_replicate] at hv
  rcases hv with ⟨t, _, hv⟩ | ⟨l, ⟨_, rfl⟩, hv⟩
  · simp [Ty.cl] at hv
    rcases hv with rfl | rfl | rfl | rfl | rfl <;> exact ⟨_, rfl⟩
  · simp [zcl] at hv
    rcases hv with rfl | rfl | rfl | rfl | rfl <;> exact ⟨_, rfl⟩
theorem mapB_pvs {l : List AV} (h : ∀ v ∈ l, ∃ p, v = .pv p) : mapB l = false := by
  cases l with
  | nil => rfl
  | cons c r => obtain ⟨p, rfl⟩ := h c (by simp); rfl
@[simp] theorem arrC_mapB {d : List Ty} {m : Nat} : mapB (arrC d m) = false := mapB_pvs arrC_pv

theorem frzL_app {a b : List AV} {x y : List PV} (ha : frzL a = some x) (hb : frzL b = some y) : frzL (a ++ b) = some (x ++ y) := by
  induction a generalizing x with
  | nil => simp at ha; subst ha; exact hb
  | cons v r ih =>
    simp only [frzL_cons] at ha
    simp only [List.cons_append, frzL_cons]
    cases h1 : frz0 v with
    | none => rw [h1] at ha; cases ha
    | some p =>
      cases h2 : frzL r with
      | none => rw [h1, h2] at ha; cases ha
      | some q =>
        rw [h1, h2] at ha
        simp at ha
        subst ha
        rw [ih h2]; rfl
theorem arrC_frz : ∀ {d : List Ty}, ((frzL (arrC d 0)).bind (arrEls 5 true d.length)).map PV.lst = some (.lst (d.map Ty.pv)) := by
  have key : ∀ d : List Ty, ∃ ps, frzL (d.flatMap Ty.cl) = some ps ∧ (chunk 5 d.length ps).map PV.agg = d.map Ty.pv := by
    intro d
    induction d with
    | nil => exact ⟨[], rfl, rfl⟩
    | cons t r ih =>
      obtain ⟨ps, h1, h2⟩ := ih
      refine ⟨[vI t.kind, .str t.name, vI t.id, vI t.home, .lst (t.args.map Ty.pv)] ++ ps, ?_, ?_⟩
      · rw [List.flatMap_cons]
        exact frzL_app (by simp [Ty.cl]) h1
      · simp only [List.length_cons, chunk]
        simp [h2]
  intro d
  obtain ⟨ps, h1, h2⟩ := key d
  have : arrC d 0 = d.flatMap Ty.cl := by simp [arrC]
  rw [this, h1]
  simp only [Option.bind_some, arrEls, if_true, Option.map_some, h2]

/-! ### Rebuilding -/

mutual
def Ty.rbl (f : Ty → Ty) : Ty → Ty
  | ⟨k, n, i, h, as⟩ => match as with
    | [] => f ⟨k, n, i, h, []⟩
    | a :: r => ⟨k, n, i, h, a.rbl f :: Ty.rbls f r⟩
def Ty.rbls (f : Ty → Ty) : List Ty → List Ty
  | [] => []
  | a :: r => a.rbl f :: Ty.rbls f r
end
theorem Ty.rbls_map (f : Ty → Ty) : ∀ l : List Ty, Ty.rbls f l = l.map (Ty.rbl f)
  | [] => by simp [Ty.rbls]
  | a :: r => by simp [Ty.rbls, Ty.rbls_map f r]
theorem Ty.rbl_nil {f : Ty → Ty} {t : Ty} (h : t.args = []) : t.rbl f = f t := by
  obtain ⟨k, n, i, hm, as⟩ := t
  simp at h
  subst h
  simp [Ty.rbl]
theorem Ty.rbl_cons {f : Ty → Ty} {t : Ty} (h : ¬ t.args = []) : t.rbl f = ⟨t.kind, t.name, t.id, t.home, t.args.map (Ty.rbl f)⟩ := by
  obtain ⟨k, n, i, hm, as⟩ := t
  cases as with
  | nil => simp at h
  | cons a r => simp [Ty.rbl, Ty.rbls_map]

/-- What a function value makes of leaves, whatever arrays are under way. -/
def LeafF (g : Nat) (cap : List AV) (c0 : List AV) (f : Ty → Ty) : Prop := ∀ (sh : Sh) (x : Ty), Quiet sh → sh[0]? = some (some c0) → x.args = [] → (orcL AP).i g (.pv x.pv :: cap) sh [] = some ([(f x).av], sh, [])

def R91 (F : AV) (t : Ty) (f : Ty → Ty) (sh0 : Sh) : Option (AExit × St) :=
  some (.exit 0, ⟨[(1, F), (2, .lptr 2 0), (4, .lptr 4 0), (5, .sarr sh0.length 5 t.args.length true), (20, .pv (.lst (t.args.map Ty.pv))), (21, .pv (vI t.args.length)), (22, .pv (vI t.args.length)), (23, .pv (.bool false))],
    [(2, t.cl), (4, [.pv (vI 0), .pv (.str []), .pv (vI 0), .pv (vI 0), .own [] 0])], sh0 ++ [some (arrC (t.args.map (Ty.rbl f)) 0)], [0]⟩)

theorem L91 {g : Nat} {cap : List AV} {c0 : List AV} {f : Ty → Ty} {t : Ty} {sh0 : Sh} (hq : Quiet sh0) (h0 : sh0[0]? = some (some c0)) (hcap : flatB.flatL cap = true) (hpass : passB.passL cap = true) (hS : Sm t.args)
    (h : ∀ x ∈ t.args, ∀ sh, Quiet sh → sh[0]? = some (some c0) → (orcL AP).i 91 [.pv x.pv, .fn g cap] sh [] = some ([(x.rbl f).av], sh, [])) : ∀ (n i : Nat), t.args.length - i = n → i ≤ t.args.length → ∀ d : List Ty, d = (t.args.take i).map (Ty.rbl f) →
    cl AP g91L0 ⟨[(1, .fn g cap), (2, .lptr 2 0), (4, .lptr 4 0), (5, .sarr sh0.length 5 t.args.length true), (20, .pv (.lst (t.args.map Ty.pv))), (21, .pv (vI t.args.length)), (22, .pv (vI i))],
      [(2, t.cl), (4, [.pv (vI 0), .pv (.str []), .pv (vI 0), .pv (vI 0), .own [] 0])], sh0 ++ [some (arrC d n)], [0]⟩ = R91 (.fn g cap) t f sh0
  | 0, i, hn, hi, d, hd => by
    have : i = t.args.length := by omega
    subst this
    have hd' : d = t.args.map (Ty.rbl f) := by simpa using hd
    subst hd'
    have hQ := hq.app (Quiet.one (arrC_pv (d := t.args.map (Ty.rbl f)) (m := 0)))
    rw [g91L0_eq]
    simp [g91B0, R91, hcap, hQ.norm, Ty.cl]
  | n + 1, i, hn, hi, d, hd => by
    have hi : i < t.args.length := by omega
    obtain ⟨x, hx⟩ := getO hi
    unfold Sm at hS
    have hdl : d.length = i := by rw [hd]; simp; omega
    have hQ := hq.app (Quiet.one (arrC_pv (d := d) (m := n + 1)))
    have h0' : (sh0 ++ [some (arrC d (n + 1))])[0]? = some (some c0) := by
      rw [List.getElem?_append_left]; exact h0; exact (List.getElem?_eq_some_iff.1 h0).1
    have hc := h x (memO hx) _ hQ h0'
    have ih := L91 hq h0 hcap hpass hS h n (i + 1) (by omega) (by omega) (d ++ [x.rbl f]) (by rw [List.take_add_one, hx, hd]; simp)
    have hset : setRange (arrC d (n + 1)) (i * 5) (x.rbl f).cl = arrC (d ++ [x.rbl f]) n := by rw [← hdl]; exact arrC_set
    have hlen : i * 5 + 5 ≤ (arrC d (n + 1)).length := by rw [arrC_len]; omega
    have hQ2 := hq.app (Quiet.one (arrC_pv (d := d ++ [x.rbl f]) (m := n)))
    rw [g91L0_eq] at ih ⊢
    simp [Ty.cl, hcap, hQ2.norm] at ih hset hc
    simp (disch := omega) [-getElem?_pos, g91B0, hx, hi, hcap, hpass, hQ.norm, hQ.shift, Ty.cl, hc, hset, hlen, wrap_id]
    rw [g91L0_eq]
    simp [ih, hcap, hQ2.norm]

theorem c91 {g : Nat} {cap : List AV} {c0 : List AV} {f : Ty → Ty} (hf : LeafF g cap c0 f) (hcap : flatB.flatL cap = true) (hpass : passB.passL cap = true) (harg : argsOf [] 1 cap = cap) (hnrm : ∀ old ts, normL old ts cap = (cap, old, ts)) (hpo : cap.all passO = true) {t : Ty} (hO : t.Ok) :
    ∀ sh, Quiet sh → sh[0]? = some (some c0) → (orcL AP).i 91 [.pv t.pv, .fn g cap] sh [] = some ([(t.rbl f).av], sh, []) := by
  revert hO
  refine Ty.rec1 (p := fun t => t.Ok → ∀ sh, Quiet sh → sh[0]? = some (some c0) → (orcL AP).i 91 [.pv t.pv, .fn g cap] sh [] = some ([(t.rbl f).av], sh, [])) ?_ t
  intro t ih hO sh hq h0
  rw [callI_body (af := g91) rfl (by simp [g91])]
  by_cases hn : t.args = []
  · have h := hf sh t hq h0 hn
    simp [hn] at h
    simp [g91, hn, hcap, hpass, harg, hnrm, hpo, hq.norm, hq.shift, h, Ty.rbl_nil hn]
  · have hl : ¬ t.args.length = 0 := by simpa using hn
    have hS := hO.sm
    have h := L91 hq h0 hcap hpass hO.sm (fun x hx => ih x hx (hO.kid x hx)) t.args.length 0 (by omega) (by omega) [] (by simp)
    have hz : arrC [] t.args.length = (List.replicate t.args.length [.pv (vI 0), .pv (.str []), .pv (vI 0), .pv (vI 0), .pv (.lst [])]).flatten := by simp [arrC, zcl]
    have hQ := hq.app (Quiet.one (arrC_pv (d := []) (m := t.args.length)))
    rw [g91L0_eq] at h
    unfold Sm at hS
    have b1 : (t.args.length : Int) ≤ 9223372036854775807 := by omega
    have b2 : (t.args.length : Int) * 64 ≤ 140737488355328 := by omega
    rw [hz] at h hQ
    simp [hcap, hQ.norm, Ty.cl, R91] at h
    have hQ2 := hq.app (Quiet.one (arrC_pv (d := t.args.map (Ty.rbl f)) (m := 0)))
    have hfr := arrC_frz (d := t.args.map (Ty.rbl f))
    have hle := arrC_len (d := t.args.map (Ty.rbl f)) (m := 0)
    simp at hfr hle
    simp (disch := omega) [g91, hn, hl, hcap, hpass, hq.norm, hq.shift, b1, b2, g91L0_eq, hQ.norm, h, Ty.rbl_cons hn, hfr, hle]
end Go.Ab.Lw
namespace Go.Ab.Lw
open Ev
set_option maxRecDepth 10000
set_option linter.unusedSimpArgs false
noncomputable instance : DecidableEq As := fun _ _ => Classical.propDecidable _

/-! ### Equal -/
theorem L57 {as bs : List Ty} (hS : Sm as) (hl : as.length = bs.length) (h : ∀ x ∈ as, ∀ y, (orcL AP).p 20 [x.pv, y.pv] = some [.bool (decide (x = y))]) : ∀ (n i : Nat), as.length - i = n → i ≤ as.length →
    cl AP g57L0 ⟨[(0, .pv (.lst (as.map Ty.pv))), (1, .pv (.lst (bs.map Ty.pv))), (5, .pv (.int .i64 i))], [], [], []⟩ =
      if as.drop i = bs.drop i then some (.exit 0, ⟨[(0, .pv (.lst (as.map Ty.pv))), (1, .pv (.lst (bs.map Ty.pv))), (5, .pv (.int .i64 as.length)), (14, .pv (.bool false))], [], [], []⟩)
      else some (.ret, ⟨[(4, .pv (.bool false))], [], [], []⟩)
  | 0, i, hn, hi => by
    have : i = as.length := by omega
    subst this
    rw [g57L0_eq]
    simp [g57B0, hl]
  | n + 1, i, hn, hi => by
    have hi : i < as.length := by omega
    obtain ⟨x, hx⟩ := getO hi
    obtain ⟨y, hy⟩ := getO (hl ▸ hi)
    have hc := h x (memO hx) y
    simp at hc
    rw [g57L0_eq, dropC hx, dropC hy]
    unfold Sm at hS
    have ih := L57 hS hl h n (i + 1) (by omega) (by omega)
    simp at ih
    simp (disch := omega) [-getElem?_pos, g57B0, hx, hy, hi, hc, wrap_id, ih]
    by_cases e : x = y <;> simp [e]

theorem c57 {as bs : List Ty} (hS : Sm as) (h : ∀ x ∈ as, ∀ y, (orcL AP).p 20 [x.pv, y.pv] = some [.bool (decide (x = y))]) :
    (orcL AP).p 57 [.lst (as.map Ty.pv), .lst (bs.map Ty.pv)] = some [.bool (decide (as = bs))] := by
  rw [callP_body (af := g57) rfl rfl (by decide)]
  by_cases hl : as.length = bs.length
  · have hL := L57 hS hl h _ 0 rfl (by omega)
    simp at hL
    simp [g57, hl, hL]
    by_cases e : as = bs <;> simp [e]
  · have : ¬ as = bs := fun e => hl (by rw [e])
    simp [g57, hl, this]
    omega

theorem c20 {a b : Ty} (hO : a.Ok) : (orcL AP).p 20 [a.pv, b.pv] = some [.bool (decide (a = b))] := by
  revert b hO
  refine Ty.rec1 (p := fun a => ∀ {b : Ty}, a.Ok → (orcL AP).p 20 [a.pv, b.pv] = some [.bool (decide (a = b))]) ?_ a
  intro a ih b hO
  have h := c57 (bs := b.args) hO.sm (fun x hx y => ih x hx (hO.kid x hx))
  rw [callP_body (af := g20) rfl rfl (by decide)]
  simp [g20, h]
  cases a; cases b
  simp
  (repeat' split) <;> simp_all

/-! ### Compose -/
end Go.Ab.Lw
namespace Go.Ab.Lw
open Ev
set_option maxRecDepth 10000
set_option linter.unusedSimpArgs false
theorem params_few : ∀ d ∈ allDatas, d.params.length ≤ 8 := by decide +kernel

theorem Made.ok {lv : Ty → Prop} (h : ∀ t, lv t → t.args = []) {t : Ty} (m : Made lv t) : t.Ok := by
  induction m with
  | leaf hl => exact ⟨by rw [h _ hl]; simp [Sm], by rw [h _ hl]; simp⟩
  | int => exact ⟨by simp [tyInt, Sm], by simp [tyInt]⟩
  | con hd hl _ ih => exact ⟨by have := params_few _ hd; simp only [Sm]; omega, ih⟩
  | arrow _ _ ha hb => exact ⟨by simp [Sm], by intro x hx; simp at hx; rcases hx with rfl | rfl <;> assumption⟩
theorem Made.wf {lv : Ty → Prop} (h : ∀ t, lv t → t.args = []) {t : Ty} (m : Made lv t) : t.Wf := by
  induction m with
  | leaf hl => exact ⟨fun _ => h _ hl, by rw [h _ hl]; simp⟩
  | int => exact ⟨by simp [tyInt], by simp [tyInt]⟩
  | con hd hl _ ih => exact ⟨by simp, ih⟩
  | arrow _ _ ha hb => exact ⟨by simp, by intro x hx; simp at hx; rcases hx with rfl | rfl <;> assumption⟩
theorem fnd_mem : ∀ {s : List As} {id : Int} {t : Ty}, fnd s id = some t → ∃ a ∈ s, a.ty = t
  | a :: r, id, t, h => by
    simp only [fnd] at h
    split at h
    · cases h; exact ⟨a, by simp, rfl⟩
    · obtain ⟨b, hb, e⟩ := fnd_mem h; exact ⟨b, by simp [hb], e⟩

theorem sub_ok {s : List As} (hs : ∀ a ∈ s, a.ty.Ok) {t : Ty} (h : t.Ok) : (t.sub s).Ok := by
  revert h
  refine Ty.rec1 (p := fun t => t.Ok → (t.sub s).Ok) ?_ t
  intro t ih h
  rw [Ty.sub_eq]
  split
  · cases hf : fnd s t.id with
    | none => simpa using h
    | some a => obtain ⟨b, hb, rfl⟩ := fnd_mem hf; simpa using hs b hb
  · refine ⟨by have := h.sm; unfold Sm at *; simpa using this, ?_⟩
    intro x hx
    simp at hx
    obtain ⟨y, hy, rfl⟩ := hx
    exact ih y hy (h.kid y hy)
end Go.Ab.Lw
namespace Go.Ab.Lw
open Ev
set_option maxRecDepth 10000
set_option linter.unusedSimpArgs false
/-- The first place where something holds. -/
def idxB {α : Type} (p : α → Bool) : List α → Option Nat
  | [] => none
  | a :: r => if p a = true then some 0 else (idxB p r).map (· + 1)
end Go.Ab.Lw
namespace Go.Ab.Lw
open Ev
set_option maxRecDepth 10000
set_option linter.unusedSimpArgs false
/-- Elements of that many cells. -/
structure El {α : Type} (f : α → PV) (sz : Nat) (ag : Bool) : Prop where
  len : ∀ x, (cellsP (f x)).length = sz
  of : ∀ x, ofCellsP ag sz (cellsP (f x)) = some (.pv (f x))

theorem El.head {α : Type} {f : α → PV} {sz : Nat} {ag : Bool} (h : El f sz ag) (l : List α) : headSz sz (l.map f) = true := by
  cases l with
  | nil => rfl
  | cons x r => simp [headSz, h.len x]

theorem el_str : El PV.str 1 false := ⟨fun _ => rfl, fun _ => rfl⟩
def idxI (o : Option Nat) : Int := match o with | some k => k | none => -1
end Go.Ab.Lw
namespace Go.Ab.Lw
open Ev
set_option maxRecDepth 10000
set_option linter.unusedSimpArgs false
/-- Behind a round. -/
def backGo (f : St → Option (AExit × St)) (live : List Nat) (pi px sz : Nat) (ag : Bool) (env : List (Nat × AV)) (r : List (PV × Nat)) : Option (AExit × St) → Option (AExit × St)
  | some (.normal, st') => backN f live pi px sz ag env r st'
  | some (e, st') => some (e, { st' with env := env })
  | none => none
@[simp] theorem backGo_normal {f : St → Option (AExit × St)} {live : List Nat} {pi px sz : Nat} {ag : Bool} {env : List (Nat × AV)} {r : List (PV × Nat)} {st : St} : backGo f live pi px sz ag env r (some (.normal, st)) = backN f live pi px sz ag env r st := rfl
@[simp] theorem backGo_ret {f : St → Option (AExit × St)} {live : List Nat} {pi px sz : Nat} {ag : Bool} {env e : List (Nat × AV)} {r : List (PV × Nat)} {mem : List (Nat × List AV)} {sh : Sh} {toks : Toks} : backGo f live pi px sz ag env r (some (.ret, ⟨e, mem, sh, toks⟩)) = some (.ret, ⟨env, mem, sh, toks⟩) := rfl
@[simp] theorem backGo_exit {f : St → Option (AExit × St)} {live : List Nat} {pi px sz : Nat} {ag : Bool} {env e : List (Nat × AV)} {r : List (PV × Nat)} {mem : List (Nat × List AV)} {sh : Sh} {toks : Toks} {id : Nat} : backGo f live pi px sz ag env r (some (.exit id, ⟨e, mem, sh, toks⟩)) = some (.exit id, ⟨env, mem, sh, toks⟩) := rfl
@[simp] theorem backGo_ite {f : St → Option (AExit × St)} {live : List Nat} {pi px sz : Nat} {ag : Bool} {env : List (Nat × AV)} {r : List (PV × Nat)} {c : Prop} [Decidable c] {x y : Option (AExit × St)} : backGo f live pi px sz ag env r (if c then x else y) = if c then backGo f live pi px sz ag env r x else backGo f live pi px sz ag env r y := by split <;> rfl

@[simp] theorem backN_nil {f : St → Option (AExit × St)} {live : List Nat} {pi px sz : Nat} {ag : Bool} {env e : List (Nat × AV)} {mem : List (Nat × List AV)} {sh : Sh} {toks : Toks} : backN f live pi px sz ag env [] ⟨e, mem, sh, toks⟩ = some (.normal, ⟨env, mem, sh, toks⟩) := rfl
/-- Two parts of a round. -/
def andK (g : St → Option (AExit × St)) : Option (AExit × St) → Option (AExit × St)
  | some (.normal, st') => g st'
  | _ => none
@[simp] theorem andK_normal {g : St → Option (AExit × St)} {st : St} : andK g (some (.normal, st)) = g st := rfl

@[simp] theorem cl_backR {c : AOpd} {gb pi px sz : Nat} {ag : Bool} {live : List Nat} {x y : ACode} {env : List (Nat × AV)} {mem : List (Nat × List AV)} {sh : Sh} {toks : Toks} :
    cl AP (.back c gb pi px sz ag live x y) ⟨env, mem, sh, toks⟩ = backWith (andThen (cl AP x) (cl AP y)) (evOpd env c) gb pi px sz ag live ⟨env, mem, sh, toks⟩ := cl_back

end Go.Ab.Lw
namespace Go.Ab.Lw
open Ev
set_option maxRecDepth 10000
set_option linter.unusedSimpArgs false
/-- Names within are short, too. -/
inductive Ty.Nm : Ty → Prop
  | mk {t : Ty} : SmS t.name → (∀ x ∈ t.args, Ty.Nm x) → Ty.Nm t
theorem Ty.Nm.sm {t : Ty} (h : t.Nm) : SmS t.name := by cases h; assumption
theorem Ty.Nm.kid {t : Ty} (h : t.Nm) : ∀ x ∈ t.args, x.Nm := by cases h; assumption

end Go.Ab.Lw
namespace Go.Ab.Lw
open Ev
set_option maxRecDepth 10000
set_option linter.unusedSimpArgs false
/-- A scheme: its number of quantified variables, and its type. -/
abbrev Sc := As
/-- An entry of a context. -/
structure En where
  name : List UInt8
  sc : Sc
  deriving Inhabited
def En.pv (a : En) : PV := .agg [.str a.name, .int .i64 a.sc.id, .int .i64 a.sc.ty.kind, .str a.sc.ty.name, .int .i64 a.sc.ty.id, .int .i64 a.sc.ty.home, .lst (a.sc.ty.args.map Ty.pv)]
@[simp] theorem En.pv_eq (a : En) : a.pv = .agg [.str a.name, .int .i64 a.sc.id, .int .i64 a.sc.ty.kind, .str a.sc.ty.name, .int .i64 a.sc.ty.id, .int .i64 a.sc.ty.home, .lst (a.sc.ty.args.map Ty.pv)] := rfl
@[simp] theorem En.eta (t : En) : En.mk t.name t.sc = t := rfl
theorem el_en : El En.pv 7 true := ⟨fun x => by simp, fun x => by simp⟩
noncomputable instance : DecidableEq En := fun _ _ => Classical.propDecidable _
@[simp] theorem headSz_En {l : List En} : headSz 7 (l.map En.pv) = true := el_en.head l

end Go.Ab.Lw
namespace Go.Ab.Lw

section
variable {P : Program} {n : Nat} {t e : TypeId} {p : PV}

theorem shp_int (hu : P.underlying t = some (.int .i64)) (h : Shp P n t p) : ∃ i, p = vI i := by
  cases n with
  | zero => simp [Shp] at h
  | succ n => simp only [Shp, hu] at h; obtain ⟨i, rfl, _⟩ := h; exact ⟨i, rfl⟩
theorem shp_bool (hu : P.underlying t = some .bool) (h : Shp P n t p) : ∃ b, p = .bool b := by
  cases n with
  | zero => simp [Shp] at h
  | succ n => simp only [Shp, hu] at h; exact h
theorem shp_str (hu : P.underlying t = some .string) (h : Shp P n t p) : ∃ s, p = .str s := by
  cases n with
  | zero => simp [Shp] at h
  | succ n => simp only [Shp, hu] at h; obtain ⟨s, rfl, _⟩ := h; exact ⟨s, rfl⟩
/-- A slice of what a function of pure data makes. -/
theorem shp_list {α : Type} {f : α → PV} (hu : P.underlying t = some (.slice e)) (he : ∀ (m : Nat) (q : PV), Shp P m e q → ∃ x, q = f x) (h : Shp P n t p) : ∃ l : List α, p = .lst (l.map f) := by
  cases n with
  | zero => simp [Shp] at h
  | succ n =>
    simp only [Shp, hu] at h
    obtain ⟨els, rfl, _, h⟩ := h
    have key : ∀ els : List PV, (∀ q ∈ els, Shp P n e q) → ∃ l : List α, els = l.map f := by
      intro els
      induction els with
      | nil => intro _; exact ⟨[], rfl⟩
      | cons q r ih =>
        intro h
        obtain ⟨x, rfl⟩ := he n q (h q (by simp))
        obtain ⟨l, rfl⟩ := ih (fun q hq => h q (by simp [hq]))
        exact ⟨x :: l, rfl⟩
    obtain ⟨l, rfl⟩ := key els h
    exact ⟨l, rfl⟩
theorem shp_ints (hu : P.underlying t = some (.slice e)) (he : P.underlying e = some (.int .i64)) (h : Shp P n t p) : ∃ L : List Int, p = .lst (L.map vI) :=
  shp_list hu (fun _ _ h => shp_int he h) h

/-- A type. -/
theorem shp_ty {ti ts tl tt : TypeId} {f0 f1 f2 f3 f4 : Field} (hi : P.underlying ti = some (.int .i64)) (hs : P.underlying ts = some .string) (hl : P.underlying tl = some (.slice tt))
    (ht : P.underlying tt = some (.struct #[f0, f1, f2, f3, f4])) (e0 : f0.type = ti) (e1 : f1.type = ts) (e2 : f2.type = ti) (e3 : f3.type = ti) (e4 : f4.type = tl) :
    ∀ (n : Nat) (p : PV), Shp P n tt p → ∃ x : Ty, p = x.pv
  | 0, p, h => by simp [Shp] at h
  | n + 1, p, h => by
    simp only [Shp, ht] at h
    obtain ⟨ps, rfl, h⟩ := h
    match ps, h with
    | [p0, p1, p2, p3, p4], ⟨h0, h1, h2, h3, h4, _⟩ =>
      rw [e0] at h0; rw [e1] at h1; rw [e2] at h2; rw [e3] at h3; rw [e4] at h4
      obtain ⟨k, rfl⟩ := shp_int hi h0
      obtain ⟨s, rfl⟩ := shp_str hs h1
      obtain ⟨i, rfl⟩ := shp_int hi h2
      obtain ⟨m, rfl⟩ := shp_int hi h3
      cases n with
      | zero => simp [Shp] at h4
      | succ n =>
        simp only [Shp, hl] at h4
        obtain ⟨els, rfl, _, h4⟩ := h4
        have key : ∀ els : List PV, (∀ q ∈ els, Shp P n tt q) → ∃ l : List Ty, els = l.map Ty.pv := by
          intro els
          induction els with
          | nil => intro _; exact ⟨[], rfl⟩
          | cons q r ih =>
            intro h
            obtain ⟨x, rfl⟩ := shp_ty hi hs hl ht e0 e1 e2 e3 e4 n q (h q (by simp))
            obtain ⟨l, rfl⟩ := ih (fun q hq => h q (by simp [hq]))
            exact ⟨x :: l, rfl⟩
        obtain ⟨l, rfl⟩ := key els h4
        exact ⟨⟨k, s, i, m, l⟩, by simp [cellsP]⟩
  termination_by n => n
end
end Go.Ab.Lw

namespace Go.Ab.Lw
open Ev
set_option maxRecDepth 10000
set_option linter.unusedSimpArgs false
def tyNamed (s : List UInt8) : Ty := ⟨5, s, 0, 0, []⟩
def namedL : List Ty := [tyNamed [97], tyNamed [98], tyNamed [99]]
def leavesT : List Ty := leavesL ++ namedL
theorem leavesT_bare : ∀ t, t ∈ leavesT → t.args = [] := by
  intro t ht
  simp [leavesT, leavesL, namedL] at ht
  rcases ht with rfl | rfl | rfl | rfl | rfl | rfl | rfl | rfl | rfl | rfl | rfl <;> rfl

theorem leavesL_T : ∀ t, t ∈ leavesL → t ∈ leavesT := fun t h => List.mem_append_left _ h

end Go.Ab.Lw
namespace Go.Ab.Lw
open Ev
set_option maxRecDepth 10000
set_option linter.unusedSimpArgs false

/-! ### Index and Contains of plain elements -/
def IxB : ACode :=
  (.seq
   (.reg [⟨some 9, none, [.t 8, .t 7], .v (.bin .lss)⟩] [0, 1, 7, 8, 9])
   (.seq
    (.cond (.t 9)
     .skip
     (.exit 0))
    (.seq
     (.block 1
      (.seq
       (.reg [⟨some 10, none, [.t 8], .v (.mv)⟩,
         ⟨some 5, none, [.t 10], .v (.mv)⟩] [0, 1, 5, 7, 8])
       (.seq
        (.reg [⟨some 11, none, [.t 1], .v (.mv)⟩,
          ⟨some 12, none, [.t 0], .v (.mv)⟩,
          ⟨some 13, none, [.t 5], .v (.mv)⟩,
          ⟨some 14, none, [.t 12, .t 13], .v (.iaddr 1)⟩,
          ⟨some 15, none, [.t 14], .v (.loadE 1 false)⟩,
          ⟨some 16, none, [.t 11, .t 15], .v (.bin .eql)⟩] [0, 1, 5, 7, 8, 16])
        (.cond (.t 16)
         (.seq
          (.reg [⟨some 17, none, [.t 5], .v (.mv)⟩,
            ⟨some 4, none, [.t 17], .v (.mv)⟩] [4])
          .ret)
         .skip))))
     (.reg [⟨some 18, none, [.t 8, .c (.pv (.int .i64 1))], .v (.bin .add)⟩,
       ⟨some 8, none, [.t 18], .v (.mv)⟩] [0, 1, 7, 8]))))
def IxL : ACode := .loop [0, 1, 7, 8] IxB
theorem IxL_eq {st : St} : cl AP IxL st = after (cl AP IxL) (cl AP IxB (norm (restrict [0, 1, 7, 8] st))) := cl_loop
def IxF : AFunc := ⟨2, 19, [.t 4],
  (.seq
   (.reg [⟨some 4, none, [.c (.pv (.int .i64 0))], .v (.mv)⟩] [0, 1])
   (.seq
    (.seq
     (.reg [⟨some 6, none, [.t 0], .v (.mv)⟩,
       ⟨some 7, none, [.t 6], .v (.len)⟩,
       ⟨some 8, none, [.c (.pv (.int .i64 0))], .v (.mv)⟩] [0, 1, 7, 8])
     (.block 0
      IxL))
    (.seq
     (.reg [⟨some 4, none, [.c (.pv (.int .i64 (-1)))], .v (.mv)⟩] [4])
     .ret))), none, false⟩
/-- Elements that are one cell and compared by '=='. -/
structure Eqs {α : Type} [DecidableEq α] (f : α → PV) : Prop where
  el : El f 1 false
  eq : ∀ x y, evV (.bin .eql) [.pv (f x), .pv (f y)] = some (.pv (.bool (decide (x = y))))
theorem eqs_str : Eqs PV.str := ⟨el_str, fun x y => by simp; rw [Bool.eq_iff_iff]; simp⟩

def RIx {α : Type} (f : α → PV) (s : List α) (y : α) (i : Nat) : Option Nat → Option (AExit × St)
  | some k => some (.ret, ⟨[(4, .pv (vI (i + k : Nat)))], [], [], []⟩)
  | none => some (.exit 0, ⟨[(0, .pv (.lst (s.map f))), (1, .pv (f y)), (7, .pv (vI s.length)), (8, .pv (vI s.length)), (9, .pv (.bool false))], [], [], []⟩)
theorem LIx {α : Type} [DecidableEq α] {f : α → PV} (he : Eqs f) {s : List α} (hS : Sm s) (y : α) : ∀ (n i : Nat), s.length - i = n → i ≤ s.length →
    cl AP IxL ⟨[(0, .pv (.lst (s.map f))), (1, .pv (f y)), (7, .pv (vI s.length)), (8, .pv (vI i))], [], [], []⟩ = RIx f s y i (idxB (fun x => decide (y = x)) (s.drop i))
  | 0, i, hn, hi => by
    have : i = s.length := by omega
    subst this
    rw [IxL_eq]
    simp [IxB, idxB, RIx]
  | n + 1, i, hn, hi => by
    have hi : i < s.length := by omega
    obtain ⟨x, hx⟩ := getO hi
    unfold Sm at hS
    have ih := LIx he hS y n (i + 1) (by omega) (by omega)
    simp at ih
    have h1 := he.el.len x
    have h2 := he.el.of x
    have h3 := he.eq y x
    rw [IxL_eq, dropC hx]
    by_cases e : y = x
    · rw [decide_eq_true e] at h3
      simp (disch := omega) [-getElem?_pos, IxB, hx, hi, e, idxB, RIx, h1, h2]
      rw [← e] at h3 ⊢
      simp [h3]
    · rw [decide_eq_false e] at h3
      simp (disch := omega) [-getElem?_pos, IxB, hx, hi, e, idxB, wrap_id, ih, h1, h2, h3]
      cases idxB (fun x => decide (y = x)) (s.drop (i + 1)) with
      | none => rfl
      | some k => simp [RIx]; omega

theorem cIx {α : Type} [DecidableEq α] {f : α → PV} (he : Eqs f) {k : Nat} (hk : AP k = some IxF) {s : List α} (hS : Sm s) {y : α} : (orcL AP).p k [.lst (s.map f), f y] = some [vI (idxI (idxB (fun x => decide (y = x)) s))] := by
  have h := LIx he hS y _ 0 rfl (by omega)
  simp at h
  rw [callP_body hk rfl (by simp [IxF])]
  cases hi : idxB (fun x => decide (y = x)) s with
  | none => rw [hi] at h; simp [RIx] at h; simp [IxF, h, idxI]
  | some k => rw [hi] at h; simp [RIx] at h; simp [IxF, h, idxI]

mutual
def Ty.nodes : Ty → List Ty
  | ⟨k, n, i, h, as⟩ => ⟨k, n, i, h, as⟩ :: Ty.nodess as
def Ty.nodess : List Ty → List Ty
  | [] => []
  | a :: r => a.nodes ++ Ty.nodess r
end
theorem nodup_len {α : Type} [DecidableEq α] : ∀ {l S : List α}, l.Nodup → (∀ x ∈ l, x ∈ S) → l.length ≤ S.length
  | [], _, _, _ => by simp
  | x :: r, S, hn, h => by
    have hx := h x (by simp)
    have hr := nodup_len (l := r) (S := S.erase x) (List.nodup_cons.1 hn).2 (fun y hy => by
      rw [List.mem_erase_of_ne]
      · exact h y (by simp [hy])
      · rintro rfl; exact (List.nodup_cons.1 hn).1 hy)
    have := List.length_erase_of_mem hx
    have : 0 < S.length := List.length_pos_of_mem hx
    simp; omega

/-- One more variable. -/
def addI (out : List Int) (x : Ty) : List Int := if x.kind = 1 ∧ x.id ∉ out then out ++ [x.id] else out

/-- What was collected: without doubles, among few. -/
structure Coll (S out : List Int) : Prop where
  nodup : out.Nodup
  sub : ∀ x ∈ out, x ∈ S
  few : S.length < 1099511627776
theorem Coll.len {S out : List Int} (h : Coll S out) : Sm out := by
  have := nodup_len h.nodup h.sub
  have := h.few
  unfold Sm; omega
theorem Coll.add {S out : List Int} (h : Coll S out) {x : Ty} (hx : x.kind = 1 → x.id ∈ S) : Coll S (addI out x) := by
  unfold addI
  split
  · rename_i e
    refine ⟨?_, ?_, h.few⟩
    · rw [List.nodup_append]
      refine ⟨h.nodup, by simp, ?_⟩
      intro a ha b hb
      simp at hb; subst hb
      rintro rfl; exact e.2 ha
    · intro y hy
      simp at hy
      rcases hy with hy | rfl
      · exact h.sub y hy
      · exact hx e.1
  · exact h
/-- The variables of types. -/
def vars (l : List Ty) : List Int := (l.flatMap Ty.nodes).foldl addI []

end Go.Ab.Lw
namespace Go.Ab.Lw
open Ev
set_option maxRecDepth 10000
set_option linter.unusedSimpArgs false
mutual
/-- The leaves of a kind. -/
def Ty.lvs (k : Int) : Ty → List Ty
  | ⟨kd, n, i, h, as⟩ => if kd = k ∧ as.length = 0 then [⟨kd, n, i, h, as⟩] else Ty.lvss k as
def Ty.lvss (k : Int) : List Ty → List Ty
  | [] => []
  | a :: r => a.lvs k ++ Ty.lvss k r
end
theorem Ty.lvss_eq (k : Int) : ∀ l : List Ty, Ty.lvss k l = l.flatMap (Ty.lvs k)
  | [] => by simp [Ty.lvss]
  | a :: r => by simp [Ty.lvss, Ty.lvss_eq k r]
theorem Ty.lvs_eq (k : Int) (t : Ty) : t.lvs k = if t.kind = k ∧ t.args.length = 0 then [t] else t.args.flatMap (Ty.lvs k) := by cases t; simp only [Ty.lvs, Ty.lvss_eq]

noncomputable def addT (out : List Ty) (x : Ty) : List Ty := if x ∈ out then out else out ++ [x]

structure CollT (S out : List Ty) : Prop where
  nodup : out.Nodup
  sub : ∀ x ∈ out, x ∈ S
  few : S.length < 1099511627776
  ok : ∀ x ∈ S, x.Ok
theorem CollT.len {S out : List Ty} (h : CollT S out) : Sm out := by
  have := nodup_len h.nodup h.sub
  have := h.few
  unfold Sm; omega
theorem CollT.add {S out : List Ty} (h : CollT S out) {x : Ty} (hx : x ∈ S) : CollT S (addT out x) := by
  unfold addT
  split
  · exact h
  · rename_i e
    refine ⟨?_, ?_, h.few, h.ok⟩
    · rw [List.nodup_append]
      refine ⟨h.nodup, by simp, ?_⟩
      intro a ha b hb
      simp at hb; subst hb
      rintro rfl; exact e ha
    · intro y hy
      simp at hy
      rcases hy with hy | rfl
      · exact h.sub y hy
      · exact hx
end Go.Ab.Lw
namespace Go.Ab.Lw
open Ev
set_option maxRecDepth 10000
set_option linter.unusedSimpArgs false
@[simp] theorem takeEnd1 {α : Type} {l : List α} {x : α} : (l ++ [x]).take (l.length + 1) = l ++ [x] := by rw [List.take_of_length_le]; simp

def varNames : List (List UInt8) := [[120], [121], [122], [102], [103], [118, 49], [118, 50], [105, 100]]
/-- Quantifying some variables. -/
def closeS (ids : List Int) : List Int → List As → List As
  | [], acc => acc
  | v :: r, acc => closeS ids r (if v ∈ ids then acc ++ [⟨v, tyBound acc.length⟩] else acc)
def closeSc (ids : List Int) (t : Ty) (vs : List Int) : Sc := ⟨(closeS ids vs []).length, t.sub (closeS ids vs [])⟩

/-- Types whose variables are few. -/
structure FewV (t : Ty) : Prop where
  ok : t.Ok
  wf : t.Wf
  few : ∃ S : List Ty, S.length < 1099511627776 ∧ (∀ x ∈ S, x.Ok) ∧ ∀ x ∈ t.lvs 1, x ∈ S

end Go.Ab.Lw
namespace Go.Ab.Lw
open Ev
set_option maxRecDepth 10000
set_option linter.unusedSimpArgs false
/-- The leaves of a made type are among the leaves. -/
theorem Made.lvs {lv : Ty → Prop} (h : ∀ t, lv t → t.args = []) {t : Ty} (m : Made lv t) {k : Int} (hk : k ≠ 4) : ∀ x ∈ t.lvs k, lv x := by
  induction m with
  | leaf hl =>
    intro x hx
    rw [Ty.lvs_eq, h _ hl] at hx
    split at hx
    · simp at hx; subst hx; exact hl
    · simp at hx
  | int =>
    intro x hx
    rw [Ty.lvs_eq] at hx
    simp [tyInt] at hx
    exact absurd hx.1.symm hk
  | con hd hl _ ih =>
    intro x hx
    rw [Ty.lvs_eq] at hx
    split at hx
    · rename_i e; exact absurd e.1.symm hk
    · simp only [List.mem_flatMap] at hx
      obtain ⟨y, hy, hx⟩ := hx
      exact ih y hy x hx
  | arrow _ _ ha hb =>
    intro x hx
    rw [Ty.lvs_eq] at hx
    simp at hx
    rcases hx with hx | hx
    · exact ha x hx
    · exact hb x hx
theorem bare_ok {t : Ty} (h : t.args = []) : t.Ok := ⟨by rw [h]; simp [Sm], by rw [h]; simp⟩
theorem Made.few {lv : List Ty} (hl : lv.length < 1099511627776) (h : ∀ t, t ∈ lv → t.args = []) {t : Ty} (m : Made (· ∈ lv) t) : FewV t :=
  ⟨m.ok h, m.wf h, lv, hl, fun x hx => bare_ok (h x hx), m.lvs h (by decide)⟩

theorem closeS_ok {ids : List Int} : ∀ (vs : List Int) (acc : List As), (∀ a ∈ acc, a.ty.Ok) → ∀ a ∈ closeS ids vs acc, a.ty.Ok
  | [], acc, h => by simpa [closeS] using h
  | v :: r, acc, h => by
    simp only [closeS]
    refine closeS_ok r _ ?_
    split
    · intro a ha
      simp at ha
      rcases ha with ha | rfl
      · exact h a ha
      · exact bare_ok rfl
    · exact h
theorem closeSc_ok {ids vs : List Int} {t : Ty} (h : t.Ok) : (closeSc ids t vs).ty.Ok := sub_ok (closeS_ok vs [] (by simp)) h

/-- A made entry. -/
def MadeE (lv : List Ty) (x : En) : Prop := x.name ∈ varNames ∧ ∃ t, Made (· ∈ lv) t ∧ (x.sc = ⟨0, t⟩ ∨ ∃ ids : List Int, ids.length = 2 ∧ x.sc = closeSc ids t (vars [t]))
theorem MadeE.ok {lv : List Ty} (h : ∀ t, t ∈ lv → t.args = []) {x : En} (m : MadeE lv x) : x.sc.ty.Ok := by
  obtain ⟨_, t, mt, e | ⟨ids, _, e⟩⟩ := m
  · rw [e]; exact mt.ok h
  · rw [e]; exact closeSc_ok (mt.ok h)

end Go.Ab.Lw
namespace Go.Ab.Lw
open Ev
set_option maxRecDepth 10000
set_option linter.unusedSimpArgs false
/-- A made type over leaves and data types. -/
inductive MadeG (D : Dt → Prop) (lv : List Ty) : Nat → Ty → Prop
  | leaf {n : Nat} {t : Ty} : t ∈ lv → MadeG D lv n t
  | int {n : Nat} : MadeG D lv n tyInt
  | con {n : Nat} {d : Dt} {args : List Ty} : D d → args.length = d.params.length → (∀ x ∈ args, MadeG D lv n x) → MadeG D lv (n + 1) ⟨4, d.name, 0, 0, args⟩
  | arrow {n : Nat} {a b : Ty} : MadeG D lv n a → MadeG D lv n b → MadeG D lv (n + 1) ⟨4, [45, 62], 0, 0, [a, b]⟩

/-- What the maker of types gives at a depth. -/
def GivesG (L : List Int) (ds : List Dt) (lv : List Ty) (dep : Nat) : Prop := ∀ i : Nat, i ≤ L.length → ∃ (t : Ty) (j : Nat),
  (orcL AP).i 27 [.sptr 0 0, .pv (.lst (ds.map Dt.pv)), .pv (.lst (lv.map Ty.pv)), .pv (vI dep)] (tp L i) [] = some ([t.av], tp L j, []) ∧ MadeG (· ∈ ds) lv dep t ∧ j ≤ L.length

theorem L27g {L : List Int} {ds : List Dt} {lv : List Ty} {dep : Nat} (hdep : dep < 1000) (hg : GivesG L ds lv dep) {d : Dt} (hS : Sm d.params) : ∀ (n k : Nat), d.params.length - k = n → k ≤ d.params.length → ∀ (acc : List Ty) (i : Nat), acc.length = k → (∀ x ∈ acc, MadeG (· ∈ ds) lv dep x) → i ≤ L.length →
    ∃ (r : List Ty) (j : Nat), cl AP g27L0 ⟨[(0, .sptr 0 0), (1, .pv (.lst (ds.map Dt.pv))), (2, .pv (.lst (lv.map Ty.pv))), (3, .pv (vI (dep + 1))), (8, .lptr 8 0), (10, .lptr 10 0), (11, .own (acc.map Ty.pv) 0), (12, .pv (vI k))],
      [(8, [.pv (vI 0), .pv (.str []), .pv (vI 0), .pv (vI 0), .own [] 1]), (10, [.pv (vI d.pos), .pv (.str d.name), .pv (.lst (d.params.map .str)), .pv (.lst (d.cons.map Con.pv))])], tp L i, [acc.length, 0]⟩ =
      some (.exit 1, ⟨[(0, .sptr 0 0), (1, .pv (.lst (ds.map Dt.pv))), (2, .pv (.lst (lv.map Ty.pv))), (3, .pv (vI (dep + 1))), (8, .lptr 8 0), (10, .lptr 10 0), (11, .own (r.map Ty.pv) 0), (12, .pv (vI d.params.length)), (65, .pv (.bool false))],
      [(8, [.pv (vI 0), .pv (.str []), .pv (vI 0), .pv (vI 0), .own [] 1]), (10, [.pv (vI d.pos), .pv (.str d.name), .pv (.lst (d.params.map .str)), .pv (.lst (d.cons.map Con.pv))])], tp L j, [r.length, 0]⟩) ∧
      r.length = d.params.length ∧ (∀ x ∈ r, MadeG (· ∈ ds) lv dep x) ∧ j ≤ L.length
  | 0, k, hn, hk, acc, i, ha, hm, hi => by
    have : k = d.params.length := by omega
    subst this
    refine ⟨acc, i, ?_, ha, hm, hi⟩
    rw [g27L0_eq]
    simp [g27B0]
  | n + 1, k, hn, hk, acc, i, ha, hm, hi => by
    unfold Sm at hS
    have hk : k < d.params.length := by omega
    have hb : (acc.length + 1) * 64 ≤ 140737488355328 := by omega
    obtain ⟨t, j, e, mt, hj⟩ := hg i hi
    simp at e
    obtain ⟨r, j', e', hr, hm', hj'⟩ := L27g hdep hg hS n (k + 1) (by omega) (by omega) (acc ++ [t]) j (by simp; omega) (by
      intro x hx; simp at hx; rcases hx with hx | rfl
      · exact hm x hx
      · exact mt) hj
    simp at e'
    refine ⟨r, j', ?_, hr, hm', hj'⟩
    rw [g27L0_eq]
    have h1 : (dep : Int) + 1 - 1 = dep := by omega
    simp (disch := omega) [-getElem?_pos, g27B0, hk, wrap_id, h1, e, hb]
    rw [e']

theorem g27_0 {L : List Int} (hL : Sm L) {ds : List Dt} {lv : List Ty} (hlv : Sm lv) : GivesG L ds lv 0 := by
  intro i hi
  obtain ⟨k, j1, e1, k0, k7, hj1⟩ := c68 hL hi (n := 7) (by omega) (by omega)
  simp at e1
  unfold Sm at hlv
  by_cases h1 : k < 3
  · by_cases h2 : lv = []
    · subst h2
      refine ⟨tyInt, j1, ?_, .int, hj1⟩
      have c := c34
      simp at c
      rw [callI_body (af := g27) rfl (by simp [g27])]
      simp [-getElem?_pos, g27, e1, h1, c, tyInt]
    · have hp : 0 < lv.length := List.length_pos_iff.2 h2
      obtain ⟨r, j2, e2, r0, r1, hj2⟩ := c68 hL hj1 (n := lv.length) (by omega) (by omega)
      obtain ⟨m, rfl, hm⟩ := natI r0 r1
      obtain ⟨x, hx⟩ := getO hm
      simp at e2
      refine ⟨x, j2, ?_, .leaf (memO hx), hj2⟩
      rw [callI_body (af := g27) rfl (by simp [g27])]
      simp [-getElem?_pos, g27, e1, h1, hp, e2, hx]
  · refine ⟨tyInt, j1, ?_, .int, hj1⟩
    have c := c34
    simp at c
    rw [callI_body (af := g27) rfl (by simp [g27])]
    simp [-getElem?_pos, g27, e1, h1, c, tyInt]

theorem g27_s {L : List Int} (hL : Sm L) {ds : List Dt} (hds : ds.length ≤ 20) (hda : ∀ d ∈ ds, d.params.length ≤ 8) {lv : List Ty} (hlv : Sm lv) {dep : Nat} (hdep : dep < 1000) (hg : GivesG L ds lv dep) : GivesG L ds lv (dep + 1) := by
  intro i hi
  obtain ⟨k, j1, e1, k0, k7, hj1⟩ := c68 hL hi (n := 7) (by omega) (by omega)
  simp at e1
  unfold Sm at hlv
  have hd1 : ¬ ((dep : Int) + 1 < 1) := by omega
  have hd2 : (dep : Int) + 1 - 1 = dep := by omega
  have leafCase : ∀ h1 : k < 3, ∀ h2 : ¬ lv = [], ∃ (t : Ty) (j : Nat), (orcL AP).i 27 [.sptr 0 0, .pv (.lst (ds.map Dt.pv)), .pv (.lst (lv.map Ty.pv)), .pv (vI ((dep + 1 : Nat) : Int))] (tp L i) [] = some ([t.av], tp L j, []) ∧ MadeG (· ∈ ds) lv (dep + 1) t ∧ j ≤ L.length := by
    intro h1 h2
    have hp : 0 < lv.length := List.length_pos_iff.2 h2
    obtain ⟨r, j2, e2, r0, r1, hj2⟩ := c68 hL hj1 (n := lv.length) (by omega) (by omega)
    obtain ⟨m, rfl, hm⟩ := natI r0 r1
    obtain ⟨x, hx⟩ := getO hm
    simp at e2
    refine ⟨x, j2, ?_, .leaf (memO hx), hj2⟩
    rw [callI_body (af := g27) rfl (by simp [g27])]
    simp [-getElem?_pos, g27, e1, h1, hp, e2, hx]
  by_cases h1 : k < 3 ∧ ¬ lv = []
  · exact leafCase h1.1 h1.2
  · have h1' : ¬ k < 3 ∨ lv = [] := by
      by_cases h : k < 3
      · right; by_cases h' : lv = []
        · exact h'
        · exact absurd ⟨h, h'⟩ h1
      · exact .inl h
    by_cases h2 : k < 4
    · refine ⟨tyInt, j1, ?_, .int, hj1⟩
      have c := c34
      simp at c
      rw [callI_body (af := g27) rfl (by simp [g27])]
      rcases h1' with h | h
      · simp [-getElem?_pos, g27, e1, h, h2, c, tyInt]
      · subst h
        simp [-getElem?_pos, g27, e1, h2, c, tyInt]
    · have h3 : ¬ k < 3 := by omega
      by_cases h4 : (k = 4 ∨ k = 5) ∧ ¬ ds = []
      · obtain ⟨h4, h5⟩ := h4
        have hp : 0 < ds.length := List.length_pos_iff.2 h5
        obtain ⟨r, j2, e2, r0, r1, hj2⟩ := c68 hL hj1 (n := ds.length) (by omega) (by omega)
        obtain ⟨m, rfl, hm⟩ := natI r0 r1
        obtain ⟨d, hx⟩ := getO hm
        simp at e2
        have hdm := memO hx
        have hps : Sm d.params := by
          unfold Sm
          have := hda d hdm
          omega
        obtain ⟨as, j3, e3, ha, hm3, hj3⟩ := L27g hdep hg hps d.params.length 0 rfl (by omega) [] j2 rfl (by simp) hj2
        rw [g27L0_eq] at e3
        simp at e3
        have hsa : Sm as := by unfold Sm at hps ⊢; omega
        have c := c62 (s := d.name) (l := as) hsa
        simp at c
        refine ⟨⟨4, d.name, 0, 0, as⟩, j3, ?_, .con hdm ha hm3, hj3⟩
        rw [callI_body (af := g27) rfl (by simp [g27])]
        rcases h4 with rfl | rfl
        · simp [-getElem?_pos, g27, e1, hp, hd1, e2, hx, g27L0_eq, e3, c]
        · simp [-getElem?_pos, g27, e1, hp, hd1, e2, hx, g27L0_eq, e3, c]
      · obtain ⟨a, j2, ea, ma, hj2⟩ := hg j1 hj1
        obtain ⟨b, j3, eb, mb, hj3⟩ := hg j2 hj2
        simp at ea eb
        have c := c69 (a := a) (b := b)
        simp at c
        refine ⟨⟨4, [45, 62], 0, 0, [a, b]⟩, j3, ?_, .arrow ma mb, hj3⟩
        rw [callI_body (af := g27) rfl (by simp [g27])]
        by_cases h5 : ds = []
        · subst h5
          simp at ea eb
          simp (disch := omega) [-getElem?_pos, g27, e1, h2, h3, hd1, hd2, wrap_id, ea, eb, c]
        · have h6 : ¬ k = 4 ∧ ¬ k = 5 := by
            constructor
            · intro h; exact h4 ⟨.inl h, h5⟩
            · intro h; exact h4 ⟨.inr h, h5⟩
          simp (disch := omega) [-getElem?_pos, g27, e1, h2, h3, h6.1, h6.2, hd1, hd2, wrap_id, ea, eb, c]
theorem mk27 {L : List Int} (hL : Sm L) {ds : List Dt} (hds : ds.length ≤ 20) (hda : ∀ d ∈ ds, d.params.length ≤ 8) {lv : List Ty} (hlv : Sm lv) : ∀ dep : Nat, dep < 1000 → GivesG L ds lv dep
  | 0, _ => g27_0 hL hlv
  | dep + 1, h => g27_s hL hds hda hlv (by omega) (mk27 hL hds hda hlv dep (by omega))

theorem MadeG.ok {D : Dt → Prop} (hD : ∀ d, D d → d.params.length ≤ 8) {lv : List Ty} (h : ∀ t ∈ lv, t.args = []) {n : Nat} {t : Ty} (m : MadeG D lv n t) : t.Ok := by
  induction m with
  | leaf hl => exact bare_ok (h _ hl)
  | int => exact bare_ok rfl
  | con hd hl _ ih => exact ⟨by have := hD _ hd; unfold Sm; simp; omega, ih⟩
  | arrow _ _ ha hb => exact ⟨by simp [Sm], by intro x hx; simp at hx; rcases hx with rfl | rfl <;> assumption⟩
end Go.Ab.Lw
namespace Go.Ab.Lw
open Ev
set_option maxRecDepth 10000
set_option linter.unusedSimpArgs false
abbrev Txt := List UInt8
theorem L216 {s : List Txt} (hS : Sm s) (y : Txt) : ∀ (n i : Nat), s.length - i = n → i ≤ s.length →
    cl AP g216L0 ⟨[(0, .pv (.lst (s.map .str))), (1, .pv (.str y)), (5, .pv (vI i))], [], [], []⟩ =
      match idxB (fun x => decide (x = y)) (s.drop i) with
      | some k => some (.ret, ⟨[(4, .pv (vI (i + k : Nat)))], [], [], []⟩)
      | none => some (.exit 0, ⟨[(0, .pv (.lst (s.map .str))), (1, .pv (.str y)), (5, .pv (vI s.length)), (9, .pv (.bool false))], [], [], []⟩)
  | 0, i, hn, hi => by
    have : i = s.length := by omega
    subst this
    rw [g216L0_eq]
    simp [g216B0, idxB]
  | n + 1, i, hn, hi => by
    have hi : i < s.length := by omega
    obtain ⟨x, hx⟩ := getO hi
    unfold Sm at hS
    have ih := L216 hS y n (i + 1) (by omega) (by omega)
    simp at ih
    rw [g216L0_eq, dropC hx]
    by_cases e : x = y
    · simp (disch := omega) [-getElem?_pos, g216B0, hx, hi, e, idxB]
    · simp (disch := omega) [-getElem?_pos, g216B0, hx, hi, e, idxB, wrap_id, ih]
      cases idxB (fun x => decide (x = y)) (s.drop (i + 1)) with
      | none => rfl
      | some k => simp; omega
/-- The place of a name, or -1. -/
def posS (s : List Txt) (y : Txt) : Int := idxI (idxB (fun x => decide (x = y)) s)
theorem c216 {s : List Txt} (hS : Sm s) {y : Txt} : (orcL AP).p 216 [.lst (s.map .str), .str y] = some [vI (posS s y)] := by
  unfold posS
  have h := L216 hS y _ 0 rfl (by omega)
  simp at h
  rw [callP_body (af := g216) rfl rfl (by decide)]
  cases hi : idxB (fun x => decide (x = y)) s with
  | none => rw [hi] at h; simp at h; simp [g216, h, idxI]
  | some k => rw [hi] at h; simp at h; simp [g216, h, idxI]
def tyC (t : Ty) : List AV := [.pv (vI t.kind), .pv (.str t.name), .pv (vI t.id), .pv (vI t.home), .pv (.lst (t.args.map Ty.pv))]
@[simp] theorem tyC_eq (t : Ty) : tyC t = [.pv (vI t.kind), .pv (.str t.name), .pv (vI t.id), .pv (vI t.home), .pv (.lst (t.args.map Ty.pv))] := rfl

/-- Only constructed types have parts. -/
inductive Ty.Cw : Ty → Prop
  | mk {t : Ty} : (t.kind ≠ 4 → t.args = []) → (∀ x ∈ t.args, Ty.Cw x) → Ty.Cw t
theorem Ty.Cw.bare {t : Ty} (h : t.Cw) : t.kind ≠ 4 → t.args = [] := by cases h; assumption
theorem Ty.Cw.kid {t : Ty} (h : t.Cw) : ∀ x ∈ t.args, x.Cw := by cases h; assumption
end Go.Ab.Lw
namespace Go.Ab.Lw
open Ev
set_option maxRecDepth 10000
set_option linter.unusedSimpArgs false
def listD : Dt := ⟨0, [76, 105, 115, 116], [[97]], [⟨14, [78, 105, 108], []⟩, ⟨20, [67, 111, 110, 115], [⟨5, [97], 0, 0, []⟩, ⟨4, [76, 105, 115, 116], 0, 0, [⟨5, [97], 0, 0, []⟩]⟩]⟩]⟩
def dT : Dt := ⟨0, [84], [[97]], []⟩
def dV : Dt := ⟨0, [86], [], []⟩
def ds9 : List Dt := [listD, dT, dV]
theorem namedL_bare : ∀ t, t ∈ namedL → t.args = [] := by
  intro t ht
  simp [namedL, tyNamed] at ht
  rcases ht with rfl | rfl | rfl <;> rfl

/-- A made type of chapter 9. -/
abbrev Md9 (t : Ty) : Prop := MadeG (· ∈ ds9) namedL 2 t
def dcC (pos : Int) (name : Txt) (ps : List Txt) (cs : List Con) : List AV := [.pv (vI pos), .pv (.str name), .own (ps.map .str) 1, .own (cs.map Con.pv) 2]
@[simp] theorem dcC_eq (pos : Int) (name : Txt) (ps : List Txt) (cs : List Con) : dcC pos name ps cs = [.pv (vI pos), .pv (.str name), .own (ps.map .str) 1, .own (cs.map Con.pv) 2] := rfl

end Go.Ab.Lw
namespace Go.Ab.Lw
open Ev
set_option maxRecDepth 10000
set_option linter.unusedSimpArgs false
@[simp] theorem headSz_Con {l : List Con} : headSz 3 (l.map Con.pv) = true := by cases l <;> simp

theorem ds9_small : ∀ d : Dt, d ∈ ds9 → d.params.length ≤ 8 := by decide +kernel
theorem Md9.ok {t : Ty} (m : Md9 t) : t.Ok := MadeG.ok (D := (· ∈ ds9)) ds9_small namedL_bare m
structure Small (ds : List Dt) : Prop where
  num : Sm ds
  par : ∀ d ∈ ds, Sm d.params
  con : ∀ d ∈ ds, Sm d.cons
  tot : Sm (ds.flatMap Dt.cons)
  fld : ∀ d ∈ ds, ∀ c ∈ d.cons, Sm c.fields ∧ (∀ x ∈ c.fields, x.Ok) ∧ ∀ x ∈ c.fields, x.Cw
theorem flat_le {l : List Dt} {b : Nat} (h : ∀ d ∈ l, d.cons.length ≤ b) : (l.flatMap Dt.cons).length ≤ l.length * b := by
  induction l with
  | nil => simp
  | cons a r ih =>
    have h1 := h a (by simp)
    have h2 := ih (fun x hx => h x (by simp [hx]))
    simp only [List.flatMap_cons, List.length_append, List.length_cons, Nat.add_mul]
    omega
theorem Small.of {ds : List Dt} (hl : ds.length ≤ 100) (h : ∀ d ∈ ds, d.params.length ≤ 100 ∧ d.cons.length ≤ 100 ∧ ∀ c ∈ d.cons, c.fields.length ≤ 100 ∧ (∀ x ∈ c.fields, x.Ok) ∧ ∀ x ∈ c.fields, x.Cw) : Small ds := by
  refine ⟨by unfold Sm; omega, fun d hd => by have := (h d hd).1; unfold Sm; omega, fun d hd => by have := (h d hd).2.1; unfold Sm; omega, ?_, ?_⟩
  · have := flat_le (l := ds) (b := 100) (fun d hd => (h d hd).2.1)
    unfold Sm; omega
  · intro d hd c hc
    obtain ⟨h1, h2, h3⟩ := (h d hd).2.2 c hc
    exact ⟨by unfold Sm; omega, h2, h3⟩
end Go.Ab.Lw
namespace Go.Ab.Lw
open Ev
set_option maxRecDepth 10000
set_option linter.unusedSimpArgs false
/-- A constructor's place in a declaration, and in a list of declarations. -/
def fndC (cs : List Con) (s : Txt) : Option Nat := idxB (fun c => decide (c.name = s)) cs
def fndD : List Dt → Txt → Nat → Option (Nat × Nat)
  | [], _, _ => none
  | d :: r, s, i => match fndC d.cons s with
    | some k => some (i, k)
    | none => fndD r s (i + 1)
def rF : Option (Nat × Nat) → List PV
  | some (i, k) => [vI i, vI k, .bool true]
  | none => [vI 0, vI 0, .bool false]

theorem L190b {ds : List Dt} {s : Txt} {i : Nat} {cs : List Con} (hS : Sm cs) : ∀ (n k : Nat), cs.length - k = n → k ≤ cs.length →
    cl AP g190L1 ⟨[(1, .pv (.str s)), (7, .pv (vI i)), (11, .pv (.lst (ds.map Dt.pv))), (12, .pv (vI ds.length)), (13, .pv (vI i)), (19, .pv (.lst (cs.map Con.pv))), (20, .pv (vI cs.length)), (21, .pv (vI k))], [], [], []⟩ =
      match idxB (fun c => decide (c.name = s)) (cs.drop k) with
      | some j => some (.ret, ⟨[(4, .pv (vI i)), (5, .pv (vI (k + j : Nat))), (6, .pv (.bool true))], [], [], []⟩)
      | none => some (.exit 2, ⟨[(1, .pv (.str s)), (7, .pv (vI i)), (11, .pv (.lst (ds.map Dt.pv))), (12, .pv (vI ds.length)), (13, .pv (vI i)), (19, .pv (.lst (cs.map Con.pv))), (20, .pv (vI cs.length)), (21, .pv (vI cs.length)), (22, .pv (.bool false))], [], [], []⟩)
  | 0, k, hn, hk => by
    have : k = cs.length := by omega
    subst this
    rw [g190L1_eq]
    simp [g190B1, idxB]
  | n + 1, k, hn, hk => by
    have hk : k < cs.length := by omega
    obtain ⟨x, hx⟩ := getO hk
    unfold Sm at hS
    have ih := L190b (ds := ds) (s := s) (i := i) hS n (k + 1) (by omega) (by omega)
    rw [g190L1_eq] at ih ⊢
    rw [dropC hx]
    simp at ih
    by_cases e : x.name = s
    · simp (disch := omega) [-getElem?_pos, g190B1, hx, hk, e, idxB]
    · simp (disch := omega) [-getElem?_pos, g190B1, hx, hk, e, idxB, wrap_id]
      rw [g190L1_eq]
      simp [ih]
      cases idxB (fun c => decide (c.name = s)) (cs.drop (k + 1)) with
      | none => rfl
      | some j => simp; omega

theorem L190 {ds : List Dt} (hS : Sm ds) (hc : ∀ d ∈ ds, Sm d.cons) (s : Txt) : ∀ (n i : Nat), ds.length - i = n → i ≤ ds.length →
    cl AP g190L0 ⟨[(1, .pv (.str s)), (11, .pv (.lst (ds.map Dt.pv))), (12, .pv (vI ds.length)), (13, .pv (vI i))], [], [], []⟩ =
      match fndD (ds.drop i) s i with
      | some q => some (.ret, ⟨[(4, .pv (vI q.1)), (5, .pv (vI q.2)), (6, .pv (.bool true))], [], [], []⟩)
      | none => some (.exit 0, ⟨[(1, .pv (.str s)), (11, .pv (.lst (ds.map Dt.pv))), (12, .pv (vI ds.length)), (13, .pv (vI ds.length)), (14, .pv (.bool false))], [], [], []⟩)
  | 0, i, hn, hi => by
    have : i = ds.length := by omega
    subst this
    rw [g190L0_eq]
    simp [g190B0, fndD]
  | n + 1, i, hn, hi => by
    have hi : i < ds.length := by omega
    obtain ⟨d, hd⟩ := getO hi
    unfold Sm at hS
    have ih := L190 hS hc s n (i + 1) (by omega) (by omega)
    have h := L190b (ds := ds) (s := s) (i := i) (hc d (memO hd)) _ 0 rfl (by omega)
    rw [g190L1_eq] at h
    rw [g190L0_eq] at ih ⊢
    rw [dropC hd]
    simp at ih h
    cases e : idxB (fun c => decide (c.name = s)) d.cons with
    | some k =>
      rw [e] at h
      simp at h
      simp (disch := omega) [-getElem?_pos, g190B0, hd, hi, fndD, fndC, e, g190L1_eq, h]
    | none =>
      rw [e] at h
      simp at h
      simp (disch := omega) [-getElem?_pos, g190B0, hd, hi, fndD, fndC, e, g190L1_eq, h, wrap_id]
      rw [g190L0_eq]
      simp [ih]

theorem c190 {ds : List Dt} (hS : Sm ds) (hc : ∀ d ∈ ds, Sm d.cons) {s : Txt} : (orcL AP).p 190 [.lst (ds.map Dt.pv), .str s] = some (rF (fndD ds s 0)) := by
  have h := L190 hS hc s _ 0 rfl (by omega)
  rw [callP_body (af := g190) rfl rfl (by decide)]
  rw [g190L0_eq] at h
  simp at h
  cases e : fndD ds s 0 with
  | none => rw [e] at h; simp at h; simp [g190, g190L0_eq, h, rF]
  | some q => rw [e] at h; simp at h; simp [g190, g190L0_eq, h, rF]

theorem L191b {ds : List Dt} {s : Txt} {i : Nat} {d : Dt} (hd : ds[i]? = some d) (hS : Sm d.cons) : ∀ (n k : Nat), d.cons.length - k = n → k ≤ d.cons.length →
    cl AP g191L1 ⟨[(0, .pv (.lst (ds.map Dt.pv))), (1, .pv (.str s)), (7, .pv (vI i)), (8, .pv (vI k))], [], [], []⟩ =
      match idxB (fun c => decide (c.name = s)) (d.cons.drop k) with
      | some j => some (.ret, ⟨[(4, .pv (vI i)), (5, .pv (vI (k + j : Nat))), (6, .pv (.bool true))], [], [], []⟩)
      | none => some (.exit 2, ⟨[(0, .pv (.lst (ds.map Dt.pv))), (1, .pv (.str s)), (7, .pv (vI i)), (8, .pv (vI d.cons.length)), (22, .pv (.bool false))], [], [], []⟩)
  | 0, k, hn, hk => by
    have : k = d.cons.length := by omega
    subst this
    rw [g191L1_eq]
    simp [-getElem?_pos, g191B1, idxB, hd]
  | n + 1, k, hn, hk => by
    have hk : k < d.cons.length := by omega
    obtain ⟨x, hx⟩ := getO hk
    unfold Sm at hS
    have ih := L191b (s := s) hd hS n (k + 1) (by omega) (by omega)
    rw [g191L1_eq] at ih ⊢
    rw [dropC hx]
    simp at ih
    by_cases e : x.name = s
    · simp (disch := omega) [-getElem?_pos, g191B1, hd, hx, hk, e, idxB]
    · simp (disch := omega) [-getElem?_pos, g191B1, hd, hx, hk, e, idxB, wrap_id]
      rw [g191L1_eq]
      simp [ih]
      cases idxB (fun c => decide (c.name = s)) (d.cons.drop (k + 1)) with
      | none => rfl
      | some j => simp; omega

theorem L191 {ds : List Dt} (hS : Sm ds) (hc : ∀ d ∈ ds, Sm d.cons) (s : Txt) : ∀ (n i : Nat), ds.length - i = n → i ≤ ds.length →
    cl AP g191L0 ⟨[(0, .pv (.lst (ds.map Dt.pv))), (1, .pv (.str s)), (7, .pv (vI i))], [], [], []⟩ =
      match fndD (ds.drop i) s i with
      | some q => some (.ret, ⟨[(4, .pv (vI q.1)), (5, .pv (vI q.2)), (6, .pv (.bool true))], [], [], []⟩)
      | none => some (.exit 0, ⟨[(0, .pv (.lst (ds.map Dt.pv))), (1, .pv (.str s)), (7, .pv (vI ds.length)), (12, .pv (.bool false))], [], [], []⟩)
  | 0, i, hn, hi => by
    have : i = ds.length := by omega
    subst this
    rw [g191L0_eq]
    simp [g191B0, fndD]
  | n + 1, i, hn, hi => by
    have hi : i < ds.length := by omega
    obtain ⟨d, hd⟩ := getO hi
    unfold Sm at hS
    have ih := L191 hS hc s n (i + 1) (by omega) (by omega)
    have h := L191b (s := s) hd (hc d (memO hd)) _ 0 rfl (by omega)
    rw [g191L1_eq] at h
    rw [g191L0_eq] at ih ⊢
    rw [dropC hd]
    simp at ih h
    cases e : idxB (fun c => decide (c.name = s)) d.cons with
    | some k =>
      rw [e] at h
      simp at h
      simp (disch := omega) [-getElem?_pos, g191B0, hd, hi, fndD, fndC, e, g191L1_eq, h]
    | none =>
      rw [e] at h
      simp at h
      simp (disch := omega) [-getElem?_pos, g191B0, hd, hi, fndD, fndC, e, g191L1_eq, h, wrap_id]
      rw [g191L0_eq]
      simp [ih]

theorem c191 {ds : List Dt} (hS : Sm ds) (hc : ∀ d ∈ ds, Sm d.cons) {s : Txt} : (orcL AP).p 191 [.lst (ds.map Dt.pv), .str s] = some (rF (fndD ds s 0)) := by
  have h := L191 hS hc s _ 0 rfl (by omega)
  rw [callP_body (af := g191) rfl rfl (by decide)]
  rw [g191L0_eq] at h
  simp at h
  cases e : fndD ds s 0 with
  | none => rw [e] at h; simp at h; simp [g191, g191L0_eq, h, rF]
  | some q => rw [e] at h; simp at h; simp [g191, g191L0_eq, h, rF]

theorem fndC_lt {cs : List Con} {s : Txt} {k : Nat} (h : fndC cs s = some k) : ∃ c, cs[k]? = some c ∧ c.name = s := by
  unfold fndC at h
  induction cs generalizing k with
  | nil => simp [idxB] at h
  | cons a r ih =>
    simp only [idxB] at h
    split at h
    · rename_i e
      cases h
      exact ⟨a, rfl, by simpa using e⟩
    · simp only [Option.map_eq_some_iff] at h
      obtain ⟨j, hj, rfl⟩ := h
      obtain ⟨c, h1, h2⟩ := ih hj
      exact ⟨c, by simpa using h1, h2⟩
theorem fndD_at {s : Txt} : ∀ {ds : List Dt} {n : Nat} {q : Nat × Nat}, fndD ds s n = some q → n ≤ q.1 ∧ ∃ d c, ds[q.1 - n]? = some d ∧ d.cons[q.2]? = some c ∧ c.name = s
  | [], n, q, h => by simp [fndD] at h
  | d :: r, n, q, h => by
    simp only [fndD] at h
    split at h
    · rename_i k e
      cases h
      obtain ⟨c, h1, h2⟩ := fndC_lt e
      exact ⟨Nat.le_refl _, d, c, by simp, h1, h2⟩
    · obtain ⟨h1, d', c, h2, h3, h4⟩ := fndD_at h
      refine ⟨by omega, d', c, ?_, h3, h4⟩
      rw [show q.1 - n = (q.1 - (n + 1)) + 1 from by omega]
      simpa using h2
end Go.Ab.Lw
namespace Go.Ab.Lw
open Ev
set_option maxRecDepth 10000
set_option linter.unusedSimpArgs false
theorem c223 {s : List Txt} (hS : Sm s) {y : Txt} : (orcL AP).p 223 [.lst (s.map .str), .str y] = some [vI (posS s y)] := by
  rw [cIx eqs_str (k := 223) rfl hS]
  unfold posS
  have : (fun x => decide (y = x)) = fun x : Txt => decide (x = y) := by funext x; exact decide_eq_decide.2 eq_comm
  rw [this]

mutual
def Ty.bnm (l : List Txt) : Ty → Ty
  | ⟨k, n, i, h, as⟩ => if k = 5 ∧ 0 ≤ posS l n then tyBound (posS l n) else ⟨k, n, i, h, Ty.bnms l as⟩
def Ty.bnms (l : List Txt) : List Ty → List Ty
  | [] => []
  | a :: r => a.bnm l :: Ty.bnms l r
end
theorem Ty.bnms_map (l : List Txt) : ∀ as : List Ty, Ty.bnms l as = as.map (Ty.bnm l)
  | [] => by simp [Ty.bnms]
  | a :: r => by simp [Ty.bnms, Ty.bnms_map l r]
theorem Ty.bnm_eq (l : List Txt) (t : Ty) : t.bnm l = if t.kind = 5 ∧ 0 ≤ posS l t.name then tyBound (posS l t.name) else ⟨t.kind, t.name, t.id, t.home, t.args.map (Ty.bnm l)⟩ := by
  cases t; simp only [Ty.bnm, Ty.bnms_map]

theorem L197 {l : List Txt} {t : Ty} (hS : Sm t.args) (h : ∀ x ∈ t.args, (orcL AP).p 197 [x.pv, .lst (l.map .str)] = some [(x.bnm l).pv]) : ∀ (n i : Nat), t.args.length - i = n → i ≤ t.args.length → ∀ d : List Ty, d = (t.args.take i).map (Ty.bnm l) →
    cl AP g197L0 ⟨[(1, .pv (.lst (l.map .str))), (2, .lptr 2 0), (4, .lptr 4 0), (6, .sarr 0 5 t.args.length true), (27, .pv (.lst (t.args.map Ty.pv))), (28, .pv (vI t.args.length)), (29, .pv (vI i))],
      [(2, t.cl), (4, [.pv (vI 0), .pv (.str []), .pv (vI 0), .pv (vI 0), .own [] 0])], [some (arrC d n)], [0]⟩ =
    some (.exit 0, ⟨[(1, .pv (.lst (l.map .str))), (2, .lptr 2 0), (4, .lptr 4 0), (6, .sarr 0 5 t.args.length true), (27, .pv (.lst (t.args.map Ty.pv))), (28, .pv (vI t.args.length)), (29, .pv (vI t.args.length)), (30, .pv (.bool false))],
      [(2, t.cl), (4, [.pv (vI 0), .pv (.str []), .pv (vI 0), .pv (vI 0), .own [] 0])], [some (arrC (t.args.map (Ty.bnm l)) 0)], [0]⟩)
  | 0, i, hn, hi, d, hd => by
    have : i = t.args.length := by omega
    subst this
    have hd' : d = t.args.map (Ty.bnm l) := by simpa using hd
    subst hd'
    have hQ := Quiet.one (arrC_pv (d := t.args.map (Ty.bnm l)) (m := 0))
    rw [g197L0_eq]
    simp [g197B0, hQ.norm, Ty.cl]
  | n + 1, i, hn, hi, d, hd => by
    have hi : i < t.args.length := by omega
    obtain ⟨x, hx⟩ := getO hi
    unfold Sm at hS
    have hdl : d.length = i := by rw [hd]; simp; omega
    have hQ := Quiet.one (arrC_pv (d := d) (m := n + 1))
    have hc := h x (memO hx)
    have ih := L197 hS h n (i + 1) (by omega) (by omega) (d ++ [x.bnm l]) (by rw [List.take_add_one, hx, hd]; simp)
    have hset : setRange (arrC d (n + 1)) (i * 5) (x.bnm l).cl = arrC (d ++ [x.bnm l]) n := by rw [← hdl]; exact arrC_set
    have hlen : i * 5 + 5 ≤ (arrC d (n + 1)).length := by rw [arrC_len]; omega
    have hQ2 := Quiet.one (arrC_pv (d := d ++ [x.bnm l]) (m := n))
    rw [g197L0_eq] at ih ⊢
    simp [Ty.cl, hQ2.norm] at ih hset hc
    simp (disch := omega) [-getElem?_pos, g197B0, hx, hi, hQ.norm, hQ.shift, Ty.cl, hc, hset, hlen, wrap_id]
    rw [g197L0_eq]
    simp [ih, hQ2.norm]

theorem c197 {l : List Txt} (hl : Sm l) {t : Ty} (hO : t.Ok) : (orcL AP).p 197 [t.pv, .lst (l.map .str)] = some [(t.bnm l).pv] := by
  revert hO
  refine Ty.rec1 (p := fun t => t.Ok → (orcL AP).p 197 [t.pv, .lst (l.map .str)] = some [(t.bnm l).pv]) ?_ t
  intro t ih hO
  have k1 := c223 hl (y := t.name)
  rw [callP_body (af := g197) rfl rfl (by decide), Ty.bnm_eq]
  by_cases e1 : t.kind = 5 ∧ 0 ≤ posS l t.name
  · simp [g197, k1, e1.1, e1.2, tyBound]
  · have hS := hO.sm
    have h := L197 hO.sm (fun x hx => ih x hx (hO.kid x hx)) t.args.length 0 (by omega) (by omega) [] (by simp)
    have hz : arrC [] t.args.length = (List.replicate t.args.length [.pv (vI 0), .pv (.str []), .pv (vI 0), .pv (vI 0), .pv (.lst [])]).flatten := by simp [arrC, zcl]
    have hQ := Quiet.one (arrC_pv (d := []) (m := t.args.length))
    rw [g197L0_eq] at h
    unfold Sm at hS
    have b1 : (t.args.length : Int) ≤ 9223372036854775807 := by omega
    have b2 : (t.args.length : Int) * 64 ≤ 140737488355328 := by omega
    rw [hz] at h hQ
    simp [hQ.norm, Ty.cl] at h
    have hQ2 := Quiet.one (arrC_pv (d := t.args.map (Ty.bnm l)) (m := 0))
    have hfr := arrC_frz (d := t.args.map (Ty.bnm l))
    have hle := arrC_len (d := t.args.map (Ty.bnm l)) (m := 0)
    simp at hfr hle
    by_cases e2 : t.kind = 5
    · have e3 : ¬ 0 ≤ posS l t.name := fun e => e1 ⟨e2, e⟩
      simp [e2] at h
      simp (disch := omega) [g197, k1, e2, e3, b1, b2, g197L0_eq, hQ.norm, h, hfr, hle]
    · simp (disch := omega) [g197, k1, e2, b1, b2, g197L0_eq, hQ.norm, h, hfr, hle]

theorem L198 {l : List Txt} {t : Ty} (hS : Sm t.args) (h : ∀ x ∈ t.args, (orcL AP).p 198 [x.pv, .lst (l.map .str)] = some [(x.bnm l).pv]) : ∀ (n i : Nat), t.args.length - i = n → i ≤ t.args.length → ∀ acc : List Ty, acc = (t.args.take i).map (Ty.bnm l) →
    cl AP g198L0 ⟨[(1, .pv (.lst (l.map .str))), (2, .lptr 2 0), (4, .lptr 4 0), (6, .lptr 6 0), (7, .pv (vI i))],
      [(2, tyC t), (4, [.pv (vI 0), .pv (.str []), .pv (vI 0), .pv (vI 0), .own [] 0]), (6, [.pv (vI t.kind), .pv (.str t.name), .pv (vI t.id), .pv (vI t.home), .own (acc.map Ty.pv) 1])], [], [0, acc.length]⟩ =
      some (.exit 0, ⟨[(1, .pv (.lst (l.map .str))), (2, .lptr 2 0), (4, .lptr 4 0), (6, .lptr 6 0), (7, .pv (vI t.args.length)), (26, .pv (.bool false))],
      [(2, tyC t), (4, [.pv (vI 0), .pv (.str []), .pv (vI 0), .pv (vI 0), .own [] 0]), (6, [.pv (vI t.kind), .pv (.str t.name), .pv (vI t.id), .pv (vI t.home), .own ((t.args.map (Ty.bnm l)).map Ty.pv) 1])], [], [0, t.args.length]⟩)
  | 0, i, hn, hi, acc, ha => by
    have : i = t.args.length := by omega
    subst this
    subst ha
    rw [g198L0_eq]
    simp [g198B0]
  | n + 1, i, hn, hi, acc, ha => by
    have hi : i < t.args.length := by omega
    obtain ⟨x, hx⟩ := getO hi
    unfold Sm at hS
    have hb : (acc.length + 1) * 64 ≤ 140737488355328 := by subst ha; simp; omega
    have hc := h x (memO hx)
    have ih := L198 hS h n (i + 1) (by omega) (by omega) (acc ++ [x.bnm l]) (by rw [List.take_add_one, hx, ha]; simp)
    rw [g198L0_eq] at ih ⊢
    simp at ih hc
    simp (disch := omega) [-getElem?_pos, g198B0, hx, hi, hc, hb, wrap_id]
    rw [g198L0_eq]
    simp [ih]

theorem c198 {l : List Txt} (hl : Sm l) {t : Ty} (hO : t.Ok) (hC : t.Cw) : (orcL AP).p 198 [t.pv, .lst (l.map .str)] = some [(t.bnm l).pv] := by
  revert hO hC
  refine Ty.rec1 (p := fun t => t.Ok → t.Cw → (orcL AP).p 198 [t.pv, .lst (l.map .str)] = some [(t.bnm l).pv]) ?_ t
  intro t ih hO hC
  have k1 := c216 hl (y := t.name)
  have k2 := c72 (n := posS l t.name)
  have h := L198 hO.sm (fun x hx => ih x hx (hO.kid x hx) (hC.kid x hx)) t.args.length 0 (by omega) (by omega) [] (by simp)
  rw [callP_body (af := g198) rfl rfl (by decide), Ty.bnm_eq]
  rw [g198L0_eq] at h
  simp at k2 h
  by_cases e1 : t.kind = 5
  · have ea := hC.bare (by rw [e1]; decide)
    by_cases e2 : 0 ≤ posS l t.name
    · simp [g198, k1, e1, e2, k2, tyBound]
    · simp [g198, k1, e1, e2, ea]
  · simp [g198, e1, g198L0_eq, h]
end Go.Ab.Lw
namespace Go.Ab.Lw
open Ev
set_option maxRecDepth 10000
set_option linter.unusedSimpArgs false
def dtC (d : Dt) : List AV := [.pv (vI d.pos), .pv (.str d.name), .pv (.lst (d.params.map .str)), .pv (.lst (d.cons.map Con.pv))]
@[simp] theorem dtC_eq (d : Dt) : dtC d = [.pv (vI d.pos), .pv (.str d.name), .pv (.lst (d.params.map .str)), .pv (.lst (d.cons.map Con.pv))] := rfl
end Go.Ab.Lw
namespace Go.Ab.Lw
open Ev
set_option maxRecDepth 10000
set_option linter.unusedSimpArgs false
def mps (a b : List (PV × PV)) : Sh := [some [.mapc a], some [.mapc b]]
@[simp] theorem mps_eq (a b : List (PV × PV)) : mps a b = [some [.mapc a], some [.mapc b]] := rfl
def conC (c : Con) : List AV := [.pv (vI c.pos), .pv (.str c.name), .pv (.lst (c.fields.map Ty.pv))]
@[simp] theorem conC_eq (c : Con) : conC c = [.pv (vI c.pos), .pv (.str c.name), .pv (.lst (c.fields.map Ty.pv))] := rfl

end Go.Ab.Lw
namespace Go.Ab.Lw
open Ev
set_option maxRecDepth 10000
set_option linter.unusedSimpArgs false
def bitD (bits : Int) (i : Nat) : Bool := decide (bits / 2 ^ i % 2 = 1)
theorem wrapN {n : Nat} (h : n < 2) : IntKind.i64.wrap (n : Int) = n := by
  apply wrap_id <;> omega
theorem bit_raw {bits : Int} {i : Nat} (hi : i < 7) : (IntKind.i64.wrap (((bits.fdiv (2 ^ min i IntKind.i64.bits) % 2 ^ IntKind.i64.bits).toNat &&& 1 % 2 ^ IntKind.i64.bits : Nat) : Int) = 1) = (bitD bits i = true) := by
  have hb : IntKind.i64.bits = 64 := rfl
  have hm : min i 64 = i := by omega
  have h1 : (1 : Nat) % 2 ^ 64 = 1 := by decide
  rw [hb, hm, h1, Nat.and_one_is_mod, wrapN (by omega)]
  rw [Int.fdiv_eq_ediv_of_nonneg _ (by exact Int.pow_nonneg (by omega))]
  unfold bitD
  simp only [decide_eq_true_eq, eq_iff_iff]
  generalize bits / 2 ^ i = q
  have h2 : (2 : Int) ^ 64 = 18446744073709551616 := by decide
  rw [h2]
  omega

def selN (f : Nat → Bool) : Nat → Nat → List Dt
  | 0, _ => []
  | n + 1, i => (if i ≠ 1 ∧ f i = true then (allDatas[i]?).toList else []) ++ selN f n (i + 1)

theorem L32x (bits : Int) : ∀ (n i : Nat), 7 - i = n → i ≤ 7 → ∀ acc : List Dt, acc.length ≤ 1 + i →
    cl AP g32L0 ⟨[(0, .pv (vI bits)), (3, .pv (.lst (allDatas.map Dt.pv))), (4, .own (acc.map Dt.pv) 0), (5, .pv (vI i))], [], [], [acc.length]⟩ = R32 bits (acc ++ selN (bitD bits) n i)
  | 0, i, hn, hi, acc, hl => by
    have : i = 7 := by omega
    subst this
    rw [g32L0_eq]
    have h7 : allDatas.length = 7 := rfl
    simp [g32B0, h7, R32, selN]
  | n + 1, i, hn, hi, acc, hl => by
    have h7 : allDatas.length = 7 := rfl
    have hi : i < 7 := by omega
    obtain ⟨x, hx⟩ := getO (l := allDatas) (i := i) (by omega)
    have hb : (acc.length + 1) * 72 ≤ 140737488355328 := by omega
    have e1 := L32x bits n (i + 1) (by omega) (by omega) (acc ++ [x]) (by simp; omega)
    have e2 := L32x bits n (i + 1) (by omega) (by omega) acc (by omega)
    simp at e1 e2
    have hi' : (i : Int) < 7 := by omega
    have hr := bit_raw (bits := bits) hi
    rw [g32L0_eq]
    simp only [selN, hx]
    by_cases h1 : i = 1
    · simp (disch := omega) [-getElem?_pos, g32B0, h7, hi', hx, wrap_id, wrapU_id, hb, e2, h1]
      subst h1
      simpa using e2
    · have h1' : ¬ (i : Int) = 1 := by omega
      by_cases h2 : bitD bits i = true
      · rw [if_pos ⟨h1, h2⟩]
        simp (disch := omega) only [h2, eq_iff_iff, iff_true] at hr
        simp (disch := omega) [-getElem?_pos, g32B0, h7, hi', hx, wrap_id, wrapU_id, hb, h1', hr, e1]
      · rw [if_neg (fun h => h2 h.2)]
        simp only [h2, eq_iff_iff, iff_false] at hr
        simp (disch := omega) [-getElem?_pos, g32B0, h7, hi', hx, wrap_id, wrapU_id, hb, h1', hr, e2]

def optD (c : Bool) : List Dt := if c then (allDatas[1]?).toList else []
def dtsOf (c : Bool) (f : Nat → Bool) : List Dt := optD c ++ selN f 7 0

theorem and64 {bits : Int} (h : bitD bits 6 = true) : ¬ IntKind.i64.wrap (((bits % 2 ^ IntKind.i64.bits).toNat &&& 64 % 2 ^ IntKind.i64.bits : Nat) : Int) = 0 := by
  have hb : IntKind.i64.bits = 64 := rfl
  have h1 : (64 : Nat) % 2 ^ 64 = 64 := by decide
  unfold bitD at h
  simp only [decide_eq_true_eq] at h
  rw [hb, h1]
  have h2 : (2 : Int) ^ 64 = 18446744073709551616 := by decide
  have h3 : (2 : Int) ^ 6 = 64 := by decide
  rw [h2]
  rw [h3] at h
  have ht : (bits % 18446744073709551616).toNat.testBit 6 = true := by
    rw [Nat.testBit_eq_decide_div_mod_eq]
    simp only [decide_eq_true_eq]
    omega
  generalize (bits % 18446744073709551616).toNat = n at ht ⊢
  have hle : n &&& 64 ≤ 64 := Nat.and_le_right
  have hne : ¬ n &&& 64 = 0 := by
    intro e
    have e2 := congrArg (Nat.testBit · 6) e
    simp only [Nat.testBit_and, ht, Nat.zero_testBit] at e2
    exact absurd e2 (by decide)
  rw [wrap_id (by omega) (by omega)]
  omega

theorem c32x (bits : Int) : ∃ c : Bool, (bitD bits 6 = true → c = true) ∧ (orcL AP).p 32 [vI bits] = some [.lst ((dtsOf c (bitD bits)).map Dt.pv)] ∧
    (orcL AP).i 32 [.pv (vI bits)] [] [] = some ([.own ((dtsOf c (bitD bits)).map Dt.pv) 0], [], [(dtsOf c (bitD bits)).length]) := by
  have hp := c79
  obtain ⟨x, hx⟩ := getO (l := allDatas) (i := 1) (by decide)
  have e1 := L32x bits 7 0 rfl (by omega) [x] (by simp)
  have e2 := L32x bits 7 0 rfl (by omega) [] (by simp)
  have ht : dtsOf true (bitD bits) = [x] ++ selN (bitD bits) 7 0 := by unfold dtsOf optD; rw [hx]; rfl
  have hf : dtsOf false (bitD bits) = selN (bitD bits) 7 0 := rfl
  have h6 := and64 (bits := bits)
  rw [g32L0_eq] at e1 e2
  rw [← ht] at e1
  rw [List.nil_append, ← hf] at e2
  by_cases q1 : IntKind.i64.wrap (((bits % 2 ^ IntKind.i64.bits).toNat &&& 2 % 2 ^ IntKind.i64.bits : Nat) : Int) = 0
  · by_cases q2 : IntKind.i64.wrap (((bits % 2 ^ IntKind.i64.bits).toNat &&& 64 % 2 ^ IntKind.i64.bits : Nat) : Int) = 0
    · refine ⟨false, fun h => absurd q2 (h6 h), ?_, ?_⟩
      · generalize dtsOf false (bitD bits) = D at e2 ⊢
        simp [R32] at e2
        rw [callP_body (af := g32) rfl rfl (by decide)]
        simp [-getElem?_pos, g32, hp, g32L0_eq, hx, e2, q1, q2]
      · generalize dtsOf false (bitD bits) = D at e2 ⊢
        simp [R32] at e2
        rw [callI_body (af := g32) rfl (by simp [g32])]
        simp [-getElem?_pos, g32, hp, g32L0_eq, hx, e2, q1, q2]
    · refine ⟨true, fun _ => rfl, ?_, ?_⟩
      · generalize dtsOf true (bitD bits) = D at e1 ⊢
        simp [R32] at e1
        rw [callP_body (af := g32) rfl rfl (by decide)]
        simp [-getElem?_pos, g32, hp, g32L0_eq, hx, e1, q1, q2]
      · generalize dtsOf true (bitD bits) = D at e1 ⊢
        simp [R32] at e1
        rw [callI_body (af := g32) rfl (by simp [g32])]
        simp [-getElem?_pos, g32, hp, g32L0_eq, hx, e1, q1, q2]
  · refine ⟨true, fun _ => rfl, ?_, ?_⟩
    · generalize dtsOf true (bitD bits) = D at e1 ⊢
      simp [R32] at e1
      rw [callP_body (af := g32) rfl rfl (by decide)]
      simp [-getElem?_pos, g32, hp, g32L0_eq, hx, e1, q1]
    · generalize dtsOf true (bitD bits) = D at e1 ⊢
      simp [R32] at e1
      rw [callI_body (af := g32) rfl (by simp [g32])]
      simp [-getElem?_pos, g32, hp, g32L0_eq, hx, e1, q1]

theorem selN_mem {f : Nat → Bool} : ∀ {n i : Nat}, ∀ d ∈ selN f n i, d ∈ allDatas
  | 0, _, d, h => by simp [selN] at h
  | n + 1, i, d, h => by
    simp only [selN, List.mem_append] at h
    rcases h with h | h
    · split at h
      · simp at h; exact memO h
      · simp at h
    · exact selN_mem d h
theorem dtsOf_mem {c : Bool} {f : Nat → Bool} : ∀ d ∈ dtsOf c f, d ∈ allDatas := by
  intro d h
  simp only [dtsOf, optD, List.mem_append] at h
  rcases h with h | h
  · split at h
    · simp at h; exact memO h
    · simp at h
  · exact selN_mem d h
theorem selN_len {f : Nat → Bool} : ∀ {n i : Nat}, (selN f n i).length ≤ n
  | 0, _ => by simp [selN]
  | n + 1, i => by
    have := selN_len (f := f) (n := n) (i := i + 1)
    simp only [selN, List.length_append]
    split
    · cases allDatas[i]? <;> simp <;> omega
    · simp; omega
theorem dtsOf_len {c : Bool} {f : Nat → Bool} : (dtsOf c f).length ≤ 8 := by
  have := selN_len (f := f) (n := 7) (i := 0)
  simp only [dtsOf, optD, List.length_append]
  split
  · cases allDatas[1]? <;> simp <;> omega
  · simp; omega

/-! ### Small declarations, by computing -/
mutual
def Ty.cwB : Ty → Bool
  | ⟨k, _, _, _, as⟩ => (decide (k = 4) || decide (as.length = 0)) && decide (as.length ≤ 100) && Ty.cwBs as
def Ty.cwBs : List Ty → Bool
  | [] => true
  | a :: r => a.cwB && Ty.cwBs r
end
theorem Ty.cwBs_all : ∀ l : List Ty, Ty.cwBs l = l.all Ty.cwB
  | [] => by simp [Ty.cwBs]
  | a :: r => by simp [Ty.cwBs, Ty.cwBs_all r]
theorem cwB_ok {t : Ty} : t.cwB = true → t.Ok ∧ t.Cw := by
  refine Ty.rec1 (p := fun t => t.cwB = true → t.Ok ∧ t.Cw) ?_ t
  intro t ih h
  have e : t.cwB = ((decide (t.kind = 4) || decide (t.args.length = 0)) && decide (t.args.length ≤ 100) && t.args.all Ty.cwB) := by
    cases t; simp only [Ty.cwB, Ty.cwBs_all]
  rw [e] at h
  simp only [Bool.and_eq_true, Bool.or_eq_true, decide_eq_true_eq, List.all_eq_true] at h
  obtain ⟨⟨h1, h2⟩, h3⟩ := h
  refine ⟨⟨by unfold Sm; omega, fun x hx => (ih x hx (h3 x hx)).1⟩, ⟨fun hk => ?_, fun x hx => (ih x hx (h3 x hx)).2⟩⟩
  rcases h1 with h1 | h1
  · exact absurd h1 hk
  · exact List.length_eq_zero_iff.1 h1
def smallB (d : Dt) : Bool := decide (d.params.length ≤ 8) && decide (d.cons.length ≤ 8) && d.cons.all fun c => decide (c.fields.length ≤ 8) && c.fields.all Ty.cwB
theorem all_smallB : allDatas.all smallB = true := by decide +kernel
theorem all_small {d : Dt} (h : d ∈ allDatas) : d.params.length ≤ 100 ∧ d.cons.length ≤ 100 ∧ ∀ c ∈ d.cons, c.fields.length ≤ 100 ∧ (∀ x ∈ c.fields, x.Ok) ∧ ∀ x ∈ c.fields, x.Cw := by
  have h1 := List.all_eq_true.1 all_smallB d h
  unfold smallB at h1
  simp only [Bool.and_eq_true, decide_eq_true_eq, List.all_eq_true] at h1
  obtain ⟨⟨h1, h2⟩, h3⟩ := h1
  refine ⟨by omega, by omega, fun c hc => ?_⟩
  obtain ⟨h4, h5⟩ := h3 c hc
  exact ⟨by omega, fun x hx => (cwB_ok (h5 x hx)).1, fun x hx => (cwB_ok (h5 x hx)).2⟩
theorem dtsOf_small {c : Bool} {f : Nat → Bool} : Small (dtsOf c f) := Small.of (by have := dtsOf_len (c := c) (f := f); omega) (fun d hd => all_small (dtsOf_mem d hd))

end Go.Ab.Lw
namespace Go.Ab.Lw
open Ev
set_option maxRecDepth 10000
theorem c184 : (orcL AP).p 184 [] = some [.bool true] := Fc.p_of (k := 400) (n := 40) (by kernel_rfl)
end Go.Ab.Lw
namespace Go.Ab.Lw
open Ev
set_option maxRecDepth 10000
set_option linter.unusedSimpArgs false
theorem Small.app {a b : List Dt} (ha : Small a) (hb : Small b) (h : a.length + b.length ≤ 100) (ht : (a.flatMap Dt.cons).length + (b.flatMap Dt.cons).length < 1099511627776) : Small (a ++ b) := by
  refine ⟨by unfold Sm; simp; omega, ?_, ?_, by unfold Sm; rw [List.flatMap_append, List.length_append]; exact ht, ?_⟩
  · intro d hd; rcases List.mem_append.1 hd with h | h
    · exact ha.par d h
    · exact hb.par d h
  · intro d hd; rcases List.mem_append.1 hd with h | h
    · exact ha.con d h
    · exact hb.con d h
  · intro d hd; rcases List.mem_append.1 hd with h | h
    · exact ha.fld d h
    · exact hb.fld d h
end Go.Ab.Lw
namespace Go.Ab.Lw
open Ev
set_option maxRecDepth 10000
set_option linter.unusedSimpArgs false
theorem bnm_ok {l : List Txt} {t : Ty} (h : t.Ok) : (t.bnm l).Ok := by
  revert h
  refine Ty.rec1 (p := fun t => t.Ok → (t.bnm l).Ok) ?_ t
  intro t ih h
  rw [Ty.bnm_eq]
  split
  · exact bare_ok rfl
  · refine ⟨by have := h.sm; unfold Sm at this ⊢; simpa using this, ?_⟩
    intro x hx
    simp only [List.mem_map] at hx
    obtain ⟨y, hy, rfl⟩ := hx
    exact ih y hy (h.kid y hy)
end Go.Ab.Lw
namespace Go.Ab.Lw
open Ev
set_option maxRecDepth 10000
set_option linter.unusedSimpArgs false
/-- Whether a type is a place that an argument fills, and with what. -/
def plc (l : List Ty) (t : Ty) : Option Ty := if t.kind = 2 ∧ 0 ≤ t.id ∧ t.id < l.length then l[t.id.toNat]? else none
theorem plc_some {l : List Ty} {t u : Ty} (h : plc l t = some u) : t.kind = 2 ∧ 0 ≤ t.id ∧ t.id < l.length ∧ l[t.id.toNat]? = some u := by
  unfold plc at h
  split at h
  · rename_i c; exact ⟨c.1, c.2.1, c.2.2, h⟩
  · cases h
theorem plc_none {l : List Ty} {t : Ty} (h : plc l t = none) : ¬ (t.kind = 2 ∧ 0 ≤ t.id ∧ t.id < l.length) := by
  intro c
  unfold plc at h
  rw [if_pos c] at h
  rw [List.getElem?_eq_none_iff] at h
  omega
mutual
def Ty.opn (l : List Ty) : Ty → Ty
  | ⟨k, n, i, h, as⟩ => (plc l ⟨k, n, i, h, as⟩).getD ⟨k, n, i, h, Ty.opns l as⟩
def Ty.opns (l : List Ty) : List Ty → List Ty
  | [] => []
  | a :: r => a.opn l :: Ty.opns l r
end
theorem Ty.opns_map (l : List Ty) : ∀ as : List Ty, Ty.opns l as = as.map (Ty.opn l)
  | [] => by simp [Ty.opns]
  | a :: r => by simp [Ty.opns, Ty.opns_map l r]
theorem Ty.opn_eq (l : List Ty) (t : Ty) : t.opn l = (plc l t).getD ⟨t.kind, t.name, t.id, t.home, t.args.map (Ty.opn l)⟩ := by
  cases t; simp only [Ty.opn, Ty.opns_map]

theorem L48 {s : List Ty} {t : Ty} (hS : Sm t.args) (h : ∀ x ∈ t.args, (orcL AP).p 48 [x.pv, .lst (s.map Ty.pv)] = some [(x.opn s).pv]) : ∀ (n i : Nat), t.args.length - i = n → i ≤ t.args.length → ∀ acc : List Ty, acc = (t.args.take i).map (Ty.opn s) →
    cl AP g48L0 ⟨[(1, .pv (.lst (s.map Ty.pv))), (2, .lptr 2 0), (4, .lptr 4 0), (5, .lptr 5 0), (6, .pv (vI i))],
      [(2, [.pv (vI t.kind), .pv (.str t.name), .pv (vI t.id), .pv (vI t.home), .pv (.lst (t.args.map Ty.pv))]), (4, [.pv (vI 0), .pv (.str []), .pv (vI 0), .pv (vI 0), .own [] 0]),
        (5, [.pv (vI t.kind), .pv (.str t.name), .pv (vI t.id), .pv (vI t.home), .own (acc.map Ty.pv) 1])], [], [0, acc.length]⟩ =
      some (.exit 0, ⟨[(1, .pv (.lst (s.map Ty.pv))), (2, .lptr 2 0), (4, .lptr 4 0), (5, .lptr 5 0), (6, .pv (vI t.args.length)), (33, .pv (.bool false))],
      [(2, [.pv (vI t.kind), .pv (.str t.name), .pv (vI t.id), .pv (vI t.home), .pv (.lst (t.args.map Ty.pv))]), (4, [.pv (vI 0), .pv (.str []), .pv (vI 0), .pv (vI 0), .own [] 0]),
        (5, [.pv (vI t.kind), .pv (.str t.name), .pv (vI t.id), .pv (vI t.home), .own ((t.args.map (Ty.opn s)).map Ty.pv) 1])], [], [0, t.args.length]⟩)
  | 0, i, hn, hi, acc, ha => by
    have : i = t.args.length := by omega
    subst this
    subst ha
    rw [g48L0_eq]
    simp [g48B0]
  | n + 1, i, hn, hi, acc, ha => by
    have hi : i < t.args.length := by omega
    obtain ⟨x, hx⟩ := getO hi
    unfold Sm at hS
    have hb : (acc.length + 1) * 64 ≤ 140737488355328 := by subst ha; simp; omega
    have hc := h x (memO hx)
    have ih := L48 hS h n (i + 1) (by omega) (by omega) (acc ++ [x.opn s]) (by rw [List.take_add_one, hx, ha]; simp)
    rw [g48L0_eq] at ih ⊢
    simp at ih hc
    simp (disch := omega) [-getElem?_pos, g48B0, hx, hi, hc, hb, wrap_id]
    rw [g48L0_eq]
    simp [ih]

theorem c48 {s : List Ty} (hs : Sm s) {t : Ty} (hO : t.Ok) : (orcL AP).p 48 [t.pv, .lst (s.map Ty.pv)] = some [(t.opn s).pv] := by
  revert hO
  refine Ty.rec1 (p := fun t => t.Ok → (orcL AP).p 48 [t.pv, .lst (s.map Ty.pv)] = some [(t.opn s).pv]) ?_ t
  intro t ih hO
  rw [callP_body (af := g48) rfl rfl (by decide)]
  unfold Sm at hs
  have h := L48 (s := s) hO.sm (fun x hx => ih x hx (hO.kid x hx)) _ 0 rfl (by omega) [] (by simp)
  rw [g48L0_eq] at h
  simp at h
  cases hp : plc s t with
  | some u =>
    obtain ⟨a, b, c, d⟩ := plc_some hp
    have b1 : ¬ t.id < 0 := by omega
    simp (disch := omega) [-getElem?_pos, g48, a, b, b1, c, d, Ty.opn_eq s t, hp]
  | none =>
    have q := plc_none hp
    by_cases a : t.kind = 2
    · by_cases b : 0 ≤ t.id
      · have c : ¬ t.id < s.length := fun c => q ⟨a, b, c⟩
        simp [a] at h
        simp (disch := omega) [-getElem?_pos, g48, a, b, c, g48L0_eq, h, Ty.opn_eq s t, hp]
      · simp [a] at h
        simp (disch := omega) [-getElem?_pos, g48, a, b, g48L0_eq, h, Ty.opn_eq s t, hp]
    · simp (disch := omega) [-getElem?_pos, g48, a, g48L0_eq, h, Ty.opn_eq s t, hp]

def opnLeaf (s : List Ty) (x : Ty) : Ty := (plc s x).getD x

/-- Types where places have no parts. -/
inductive Ty.Wb : Ty → Prop
  | mk {t : Ty} : (t.kind = 2 → t.args = []) → (∀ x ∈ t.args, Ty.Wb x) → Ty.Wb t
theorem Ty.Wb.var {t : Ty} (h : t.Wb) : t.kind = 2 → t.args = [] := by cases h; assumption
theorem Ty.Wb.kid {t : Ty} (h : t.Wb) : ∀ x ∈ t.args, x.Wb := by cases h; assumption
theorem rbl_opn {s : List Ty} {t : Ty} (h : t.Wb) : t.rbl (opnLeaf s) = t.opn s := by
  revert h
  refine Ty.rec1 (p := fun t => t.Wb → t.rbl (opnLeaf s) = t.opn s) ?_ t
  intro t ih h
  by_cases hn : t.args = []
  · rw [Ty.rbl_nil hn, Ty.opn_eq]
    unfold opnLeaf
    cases t; simp at hn; simp [hn]
  · have hk : ¬ t.kind = 2 := fun e => hn (h.var e)
    have hp : plc s t = none := by unfold plc; rw [if_neg]; exact fun c => hk c.1
    rw [Ty.rbl_cons hn, Ty.opn_eq, hp]
    simp only [Option.getD_none]
    congr 1
    exact List.map_congr_left fun x hx => ih x hx (h.kid x hx)

theorem c93 {s : List Ty} (hs : Sm s) : LeafF 93 [.sptr 0 0] [.pv (.lst (s.map Ty.pv))] (opnLeaf s) := by
  intro sh x hq h0 hx
  rw [callI_body (af := g93) rfl (by simp [g93])]
  unfold Sm at hs
  cases hp : plc s x with
  | some u =>
    obtain ⟨a, b, c, d⟩ := plc_some hp
    have b1 : ¬ x.id < 0 := by omega
    simp (disch := omega) [-getElem?_pos, g93, a, b, b1, c, d, h0, hq.norm, hq.shift, opnLeaf, hp]
  | none =>
    have q := plc_none hp
    by_cases a : x.kind = 2
    · by_cases b : 0 ≤ x.id
      · have c : ¬ x.id < s.length := fun c => q ⟨a, b, c⟩
        simp (disch := omega) [-getElem?_pos, g93, a, b, c, h0, hq.norm, hq.shift, opnLeaf, hp, hx]
      · simp (disch := omega) [-getElem?_pos, g93, a, b, h0, hq.norm, hq.shift, opnLeaf, hp, hx]
    · simp (disch := omega) [-getElem?_pos, g93, a, h0, hq.norm, hq.shift, opnLeaf, hp, hx]

theorem c47 {s : List Ty} (hS : Sm s) {t : Ty} (hO : t.Ok) (hW : t.Wb) : (orcL AP).p 47 [t.pv, .lst (s.map Ty.pv)] = some [(t.opn s).pv] := by
  have h := c91 (c93 hS) rfl rfl rfl (fun _ _ => rfl) rfl hO [some [.pv (.lst (s.map Ty.pv))]] (by intro cs hc v hv; simp at hc; subst hc; simp at hv; exact ⟨_, hv⟩) rfl
  rw [rbl_opn hW] at h
  simp at h
  rw [callP_body (af := g47) rfl rfl (by decide)]
  simp [g47, h]

theorem opn_ok {s : List Ty} (hs : ∀ a ∈ s, a.Ok) {t : Ty} (h : t.Ok) : (t.opn s).Ok := by
  revert h
  refine Ty.rec1 (p := fun t => t.Ok → (t.opn s).Ok) ?_ t
  intro t ih h
  rw [Ty.opn_eq]
  cases hp : plc s t with
  | some u => exact hs u (memO (plc_some hp).2.2.2)
  | none =>
    refine ⟨?_, ?_⟩
    · have := h.sm; unfold Sm at this ⊢; simpa using this
    · intro x hx; simp at hx
      obtain ⟨y, hy, rfl⟩ := hx
      exact ih y hy (h.kid y hy)

/-! ### What the law makes -/
end Go.Ab.Lw
namespace Go.Ab.Lw
open Ev
set_option maxRecDepth 10000
set_option linter.unusedSimpArgs false
theorem bnm_cw {l : List Txt} {t : Ty} (h : t.Cw) : (t.bnm l).Cw := by
  revert h
  refine Ty.rec1 (p := fun t => t.Cw → (t.bnm l).Cw) ?_ t
  intro t ih h
  rw [Ty.bnm_eq]
  split
  · exact ⟨fun _ => rfl, by simp [tyBound]⟩
  · refine ⟨fun hk => by simp [h.bare hk], ?_⟩
    intro x hx
    simp only [List.mem_map] at hx
    obtain ⟨y, hy, rfl⟩ := hx
    exact ih y hy (h.kid y hy)

def fieldsOf (ds : List Dt) (s : Txt) (as : List Ty) : Option (List Ty) := (fndD ds s 0).bind fun q => (ds[q.1]?).bind fun d => (d.cons[q.2]?).bind fun c => if as.length = d.params.length then some (c.fields.map fun f => (f.bnm d.params).opn as) else none
def rFl (o : Option (List Ty)) : List PV := [.lst ((o.getD []).map Ty.pv), .bool o.isSome]

theorem L206 {ds : List Dt} {i : Nat} {d : Dt} (hd : ds[i]? = some d) (hp : Sm d.params) {as : List Ty} (ha : Sm as) {fs : List Ty} (hS : Sm fs) (hO : ∀ x ∈ fs, x.Ok) (hC : ∀ x ∈ fs, x.Cw) (hW : ∀ x : Ty, x.Cw → x.Wb) : ∀ (n j : Nat), fs.length - j = n → j ≤ fs.length → ∀ acc : List Ty, acc = (fs.take j).map (fun f => (f.bnm d.params).opn as) →
    cl AP g206L0 ⟨[(0, .pv (.lst (ds.map Dt.pv))), (2, .pv (.lst (as.map Ty.pv))), (8, .pv (vI i)), (11, .own (acc.map Ty.pv) 0), (42, .pv (.lst (fs.map Ty.pv))), (43, .pv (vI fs.length)), (44, .pv (vI j))], [], [], [acc.length]⟩ =
      some (.exit 0, ⟨[(0, .pv (.lst (ds.map Dt.pv))), (2, .pv (.lst (as.map Ty.pv))), (8, .pv (vI i)), (11, .own ((fs.map (fun f => (f.bnm d.params).opn as)).map Ty.pv) 0), (42, .pv (.lst (fs.map Ty.pv))), (43, .pv (vI fs.length)), (44, .pv (vI fs.length)), (45, .pv (.bool false))], [], [], [fs.length]⟩)
  | 0, j, hn, hj, acc, hacc => by
    have : j = fs.length := by omega
    subst this
    subst hacc
    rw [g206L0_eq]
    simp [g206B0]
  | n + 1, j, hn, hj, acc, hacc => by
    have hj : j < fs.length := by omega
    obtain ⟨x, hx⟩ := getO hj
    have q1 := c197 hp (hO x (memO hx))
    have q2 := c47 ha (t := x.bnm d.params) (bnm_ok (hO x (memO hx))) (hW _ (bnm_cw (hC x (memO hx))))
    unfold Sm at hS
    have hb : (acc.length + 1) * 64 ≤ 140737488355328 := by subst hacc; simp; omega
    have ih := L206 hd hp ha (fs := fs) (by unfold Sm; exact hS) hO hC hW n (j + 1) (by omega) (by omega) (acc ++ [(x.bnm d.params).opn as]) (by rw [List.take_add_one, hx, hacc]; simp)
    generalize x.bnm d.params = u at q1 q2 ih
    generalize u.opn as = v at q2 ih
    rw [g206L0_eq] at ih ⊢
    simp at ih q1 q2
    simp (disch := omega) [-getElem?_pos, g206B0, hd, hx, hj, q1, q2, hb, wrap_id]
    rw [g206L0_eq]
    simp [ih]

theorem L207 {ds : List Dt} {i : Nat} {d : Dt} (hd : ds[i]? = some d) (hp : Sm d.params) {as : List Ty} (ha : Sm as) {fs : List Ty} (hS : Sm fs) (hO : ∀ x ∈ fs, x.Ok) (hC : ∀ x ∈ fs, x.Cw) : ∀ (n j : Nat), fs.length - j = n → j ≤ fs.length → ∀ acc : List Ty, acc = (fs.take j).map (fun f => (f.bnm d.params).opn as) →
    cl AP g207L0 ⟨[(0, .pv (.lst (ds.map Dt.pv))), (2, .pv (.lst (as.map Ty.pv))), (8, .pv (vI i)), (11, .own (acc.map Ty.pv) 0), (12, .pv (.lst (fs.map Ty.pv))), (13, .pv (vI j))], [], [], [acc.length]⟩ =
      some (.exit 0, ⟨[(0, .pv (.lst (ds.map Dt.pv))), (2, .pv (.lst (as.map Ty.pv))), (8, .pv (vI i)), (11, .own ((fs.map (fun f => (f.bnm d.params).opn as)).map Ty.pv) 0), (12, .pv (.lst (fs.map Ty.pv))), (13, .pv (vI fs.length)), (46, .pv (.bool false))], [], [], [fs.length]⟩)
  | 0, j, hn, hj, acc, hacc => by
    have : j = fs.length := by omega
    subst this
    subst hacc
    rw [g207L0_eq]
    simp [g207B0]
  | n + 1, j, hn, hj, acc, hacc => by
    have hj : j < fs.length := by omega
    obtain ⟨x, hx⟩ := getO hj
    have q1 := c198 hp (hO x (memO hx)) (hC x (memO hx))
    have q2 := c48 ha (t := x.bnm d.params) (bnm_ok (hO x (memO hx)))
    unfold Sm at hS
    have hb : (acc.length + 1) * 64 ≤ 140737488355328 := by subst hacc; simp; omega
    have ih := L207 hd hp ha (fs := fs) (by unfold Sm; exact hS) hO hC n (j + 1) (by omega) (by omega) (acc ++ [(x.bnm d.params).opn as]) (by rw [List.take_add_one, hx, hacc]; simp)
    generalize x.bnm d.params = u at q1 q2 ih
    generalize u.opn as = v at q2 ih
    rw [g207L0_eq] at ih ⊢
    simp at ih q1 q2
    simp (disch := omega) [-getElem?_pos, g207B0, hd, hx, hj, q1, q2, hb, wrap_id]
    rw [g207L0_eq]
    simp [ih]

theorem c206 {ds : List Dt} (h : Small ds) {as : List Ty} (ha : Sm as) (hW : ∀ x : Ty, x.Cw → x.Wb) {s : Txt} : (orcL AP).p 206 [.lst (ds.map Dt.pv), .str s, .lst (as.map Ty.pv)] = some (rFl (fieldsOf ds s as)) := by
  have k := c190 h.num h.con (s := s)
  rw [callP_body (af := g206) rfl rfl (by decide)]
  cases e : fndD ds s 0 with
  | none =>
    rw [e] at k
    simp [rF] at k
    simp [g206, k, fieldsOf, e, rFl]
  | some q =>
    rw [e] at k
    obtain ⟨_, d, c, hd, hc, _⟩ := fndD_at e
    simp only [Nat.sub_zero] at hd
    obtain ⟨f1, f2, f3⟩ := h.fld d (memO hd) c (memO hc)
    have hl := L206 hd (h.par d (memO hd)) ha f1 f2 f3 hW _ 0 rfl (by omega) [] rfl
    rw [g206L0_eq] at hl
    simp [rF] at k
    by_cases e2 : as.length = d.params.length
    · simp at hl
      simp (disch := omega) [-getElem?_pos, g206, k, hd, hc, fieldsOf, e, rFl, e2, g206L0_eq, hl]
    · have e3 : ¬ (as.length : Int) = d.params.length := by omega
      simp (disch := omega) [-getElem?_pos, g206, k, hd, hc, fieldsOf, e, rFl, e2, e3]

theorem c207 {ds : List Dt} (h : Small ds) {as : List Ty} (ha : Sm as) {s : Txt} : (orcL AP).p 207 [.lst (ds.map Dt.pv), .str s, .lst (as.map Ty.pv)] = some (rFl (fieldsOf ds s as)) := by
  have k := c191 h.num h.con (s := s)
  rw [callP_body (af := g207) rfl rfl (by decide)]
  cases e : fndD ds s 0 with
  | none =>
    rw [e] at k
    simp [rF] at k
    simp [g207, k, fieldsOf, e, rFl]
  | some q =>
    rw [e] at k
    obtain ⟨_, d, c, hd, hc, _⟩ := fndD_at e
    simp only [Nat.sub_zero] at hd
    obtain ⟨f1, f2, f3⟩ := h.fld d (memO hd) c (memO hc)
    have hl := L207 hd (h.par d (memO hd)) ha f1 f2 f3 _ 0 rfl (by omega) [] rfl
    rw [g207L0_eq] at hl
    simp [rF] at k
    by_cases e2 : as.length = d.params.length
    · simp at hl
      simp (disch := omega) [-getElem?_pos, g207, k, hd, hc, fieldsOf, e, rFl, e2, g207L0_eq, hl]
    · have e3 : ¬ (as.length : Int) = d.params.length := by omega
      simp (disch := omega) [-getElem?_pos, g207, k, hd, hc, fieldsOf, e, rFl, e2, e3]

theorem L172 {L : List Int} (hL : Sm L) {ds : List Dt} (hds : ds.length ≤ 20) (h8 : ∀ d ∈ ds, d.params.length ≤ 8) {n0 : Int} : ∀ (m : Nat), m ≤ 4 → ∀ (acc : List Ty) (i : Nat), acc.length + m ≤ 4 → (∀ t ∈ acc, t.Ok) → i ≤ L.length → ∃ (r : List Ty) (j : Nat),
    cl AP g172L0 ⟨[(2, .pv (vI n0)), (9, .sptr 0 0), (10, .pv (.lst (ds.map Dt.pv))), (11, .own (acc.map Ty.pv) 0), (12, .pv (vI m))], [], tp L i, [acc.length]⟩ =
      some (.exit 0, ⟨[(2, .pv (vI n0)), (9, .sptr 0 0), (10, .pv (.lst (ds.map Dt.pv))), (11, .own (r.map Ty.pv) 0), (12, .pv (vI 0)), (31, .pv (.bool false))], [], tp L j, [r.length]⟩) ∧ r.length ≤ 4 ∧ (∀ t ∈ r, t.Ok) ∧ j ≤ L.length
  | 0, _, acc, i, ha, ho, hi => by
    refine ⟨acc, i, ?_, by omega, ho, hi⟩
    rw [g172L0_eq]
    simp [g172B0]
  | m + 1, hm, acc, i, ha, ho, hi => by
    have c := c28
    obtain ⟨t, j1, e1, mt, hj1⟩ := mk27 hL hds h8 (lv := leavesL) (by simp [Sm, leavesL]) 2 (by omega) i hi
    have hlb : ∀ t ∈ leavesL, t.args = [] := fun t ht => leavesT_bare t (leavesL_T t ht)
    obtain ⟨r, j, e, hr, hro, hj⟩ := L172 hL hds h8 (n0 := n0) m (by omega) (acc ++ [t]) j1 (by simp; omega) (by
      intro x h; simp at h; rcases h with h | rfl
      · exact ho x h
      · exact MadeG.ok (D := (· ∈ ds)) h8 hlb mt) hj1
    refine ⟨r, j, ?_, hr, hro, hj⟩
    have hn1 : ((m : Int) + 1 - 1) = m := by omega
    have hn2 : (0 : Int) < (m : Int) + 1 := by omega
    have hb : (acc.length + 1) * 64 ≤ 140737488355328 := by omega
    rw [g172L0_eq] at e ⊢
    simp at c e1 e
    simp (disch := omega) [-getElem?_pos, g172B0, hn1, hn2, c, e1, hb, wrap_id]
    rw [g172L0_eq]
    simp [e]

theorem fieldsOf_ok {ds : List Dt} (h : Small ds) {s : Txt} {as : List Ty} (ha : ∀ x ∈ as, x.Ok) {l : List Ty} (e : fieldsOf ds s as = some l) : Sm l ∧ ∀ x ∈ l, x.Ok := by
  unfold fieldsOf at e
  simp only [Option.bind_eq_some_iff] at e
  obtain ⟨q, _, d, hd, c, hc, e⟩ := e
  split at e
  · cases e
    obtain ⟨f1, f2, f3⟩ := h.fld d (memO hd) c (memO hc)
    refine ⟨by unfold Sm at f1 ⊢; simpa using f1, ?_⟩
    intro x hx
    simp only [List.mem_map] at hx
    obtain ⟨y, hy, rfl⟩ := hx
    exact opn_ok ha (bnm_ok (f2 y hy))
  · cases e

def nmG : List Txt := [[78, 111, 110, 101], [83, 111, 109, 101], [78, 105, 108], [67, 111, 110, 115], [84, 114, 117, 101], [80, 97, 105, 114], [66, 111, 116, 104], [70, 117, 110], [79, 110, 101], [71, 111, 110, 101]]
/-- **The law DeclareFields.** -/
theorem law172 (bits : Int) (L : List Int) (n0 m0 : Int) : (orcL AP).p 172 [vI bits, .lst (L.map vI), vI n0, vI m0] = some [.bool true] := by
  have c0 := c184
  have c1 := c15 (l := L)
  rw [callP_body (af := g172) rfl rfl (by decide)]
  by_cases hL : L.length ≤ 60
  · simp [hL] at c1
    have hLs : Sm L := by unfold Sm; omega
    obtain ⟨c, hc6, d1, d2⟩ := c32x bits
    have hdl := dtsOf_len (c := c) (f := bitD bits)
    have hdm := dtsOf_mem (c := c) (f := bitD bits)
    have hsm := dtsOf_small (c := c) (f := bitD bits)
    generalize dtsOf c (bitD bits) = ds at d1 d2 hdl hdm hsm
    have h8 : ∀ d ∈ ds, d.params.length ≤ 8 := by
      intro d hd
      have : ∀ d ∈ allDatas, d.params.length ≤ 8 := by decide +kernel
      exact this d (hdm d hd)
    obtain ⟨k, e1, k0, k4⟩ := c26 (n := m0) (m := 4) (by omega) (by omega)
    obtain ⟨m, rfl, hm⟩ := natI (n := 4) k0 (by simpa using k4)
    obtain ⟨as, j, e2, hal, hao, hj⟩ := L172 hLs (ds := ds) (by omega) h8 (n0 := n0) m (by omega) [] 0 (by simp; omega) (by simp) (by omega)
    obtain ⟨k', e3, k0', k4'⟩ := c26 (n := n0) (m := 10) (by omega) (by omega)
    obtain ⟨q, rfl, hq⟩ := natI (n := nmG.length) k0' (by simpa [nmG] using k4')
    obtain ⟨s, hs⟩ := getO hq
    have hs' : ([PV.str [78, 111, 110, 101], .str [83, 111, 109, 101], .str [78, 105, 108], .str [67, 111, 110, 115], .str [84, 114, 117, 101], .str [80, 97, 105, 114], .str [66, 111, 116, 104], .str [70, 117, 110], .str [79, 110, 101], .str [71, 111, 110, 101]] : List PV)[q]? = some (.str s) := by
      have : ([PV.str [78, 111, 110, 101], .str [83, 111, 109, 101], .str [78, 105, 108], .str [67, 111, 110, 115], .str [84, 114, 117, 101], .str [80, 97, 105, 114], .str [66, 111, 116, 104], .str [70, 117, 110], .str [79, 110, 101], .str [71, 111, 110, 101]] : List PV) = nmG.map PV.str := rfl
      rw [this]; simp [hs]
    have has : Sm as := by unfold Sm; omega
    have hW : ∀ x : Ty, x.Cw → x.Wb := by
      intro x
      refine Ty.rec1 (p := fun x => x.Cw → x.Wb) ?_ x
      intro x ih hx
      exact ⟨fun hk => hx.bare (by rw [hk]; decide), fun y hy => ih y hy (hx.kid y hy)⟩
    have q1 := c206 hsm has hW (s := s)
    have q2 := c207 hsm has (s := s)
    have q3 : (orcL AP).p 57 [.lst (((fieldsOf ds s as).getD []).map Ty.pv), .lst (((fieldsOf ds s as).getD []).map Ty.pv)] = some [.bool true] := by
      cases e : fieldsOf ds s as with
      | none => have := c57 (as := []) (bs := []) (by simp [Sm]) (by simp); simpa using this
      | some l =>
        obtain ⟨o1, o2⟩ := fieldsOf_ok hsm hao e
        have := c57 (as := l) (bs := l) o1 (fun x hx y => c20 (o2 x hx))
        simpa using this
    simp only [rFl] at q1 q2
    generalize (fieldsOf ds s as).getD [] = F at q1 q2 q3
    generalize (fieldsOf ds s as).isSome = B at q1 q2
    rw [g172L0_eq] at e2
    simp at d1 e1 e2 e3 q1 q2 q3
    cases B <;> simp (disch := omega) [-getElem?_pos, g172, c0, c1, d1, e1, g172L0_eq, e2, e3, hs', q1, q2, q3]
  · simp [hL] at c1
    simp [g172, c0, c1]
end Go.Ab.Lw
