import Derived.Test.YtfhhognolpjikaaCodeB
import Derived.Test.YtfhhognolpjikaaAbBridge
import Derived.Test.YtfhhognolpjikaaAbForce
import Derived.KernelRfl
/-
  The program's data.
  The makers: what their functions give.
  The makers: what their functions give.
  The data declarations that programs are made of: what the reader makes of their text.
  The makers: data declarations, chosen by bits.
  The makers: types and substitutions off the tape.
  The makers: substitutions off the tape; what law 13 makes.
  Types and substitutions: what replaces variables.
  Types: rebuilding with new leaves.
  Types and substitutions: the program's replacing, finding, composing.
  Substitutions: composing; equality of types and of substitutions.
  Chapter 13: the plain laws, and the law that composition composes.
  Chapter 13: equality of substitutions; the laws SubstAssociates and SubstEqual.
  Functions of package slices over any elements.
  Ranges over a slice backward.
  Names, and which types are valid.
  Names of the program, and which types are valid.
  Which types are valid.
  Contexts: their entries; looking names up.
  Valid types by the reference; small types.
  What the pure data of a parameter looks like.
  Chapter 3: what its laws make; the laws TypesValid and TypesEqual.
  The variables of types, by the program and by the reference.
  The reference's variables of types; they are the program's.
  Contexts: schemes, adding, hidden entries; what law 19 makes.
  Law 19 makes contexts; the law EnvironLooks.
  Law 14's first example.
  Contexts: their free variables; the law EnvironSeen.
  The law EnvironSeen.
  What law 14 makes; the law SchemeFree.
  Which schemes are valid, by the program and by the reference.
  The program's walk through the quantified variables.
  Valid schemes: the program's and the reference's answers are one.
  Valid schemes, by the program; closing and mono.
  Closing and mono, by the program.
  The law SchemeValid.
  The law SchemeValid.
-/
set_option linter.unusedVariables false
set_option linter.unusedSimpArgs false
namespace Go.Ab.Lw
/-- A type. -/
structure Ty where
  kind : Int
  name : List UInt8
  id : Int
  home : Int
  args : List Ty
  deriving Inhabited

noncomputable instance : DecidableEq Ty := fun _ _ => Classical.propDecidable _

mutual
def Ty.pv : Ty → PV
  | ⟨k, n, i, h, as⟩ => .agg [.int .i64 k, .str n, .int .i64 i, .int .i64 h, .lst (Ty.pvs as)]
def Ty.pvs : List Ty → List PV
  | [] => []
  | a :: r => a.pv :: Ty.pvs r
end

theorem Ty.pvs_map : ∀ l : List Ty, Ty.pvs l = l.map Ty.pv
  | [] => by simp [Ty.pvs]
  | a :: r => by simp [Ty.pvs, Ty.pvs_map r]

@[simp] theorem Ty.pv_eq (t : Ty) : t.pv = .agg [.int .i64 t.kind, .str t.name, .int .i64 t.id, .int .i64 t.home, .lst (t.args.map Ty.pv)] := by
  cases t; simp only [Ty.pv, Ty.pvs_map]

/-- A property of all types that are parts. -/
theorem Ty.rec1 {p : Ty → Prop} (h : ∀ t : Ty, (∀ x ∈ t.args, p x) → p t) : ∀ t, p t
  | ⟨k, n, i, hm, as⟩ => h _ (fun x _hx => Ty.rec1 h x)
termination_by t => SizeOf.sizeOf t
decreasing_by have := _root_.List.sizeOf_lt_of_mem _hx; simp at *; omega

/-- A constructor, and a data declaration. -/
structure Con where
  pos : Int
  name : List UInt8
  fields : List Ty
  deriving Inhabited
structure Dt where
  pos : Int
  name : List UInt8
  params : List (List UInt8)
  cons : List Con
  deriving Inhabited
def Con.pv (c : Con) : PV := .agg [.int .i64 c.pos, .str c.name, .lst (c.fields.map Ty.pv)]
def Dt.pv (d : Dt) : PV := .agg [.int .i64 d.pos, .str d.name, .lst (d.params.map .str), .lst (d.cons.map Con.pv)]
@[simp] theorem Con.pv_eq (c : Con) : c.pv = .agg [.int .i64 c.pos, .str c.name, .lst (c.fields.map Ty.pv)] := rfl
@[simp] theorem Dt.pv_eq (d : Dt) : d.pv = .agg [.int .i64 d.pos, .str d.name, .lst (d.params.map .str), .lst (d.cons.map Con.pv)] := rfl

/-- An assignment. -/
structure As where
  id : Int
  ty : Ty
  deriving Inhabited
def As.pv (a : As) : PV := .agg [.int .i64 a.id, .int .i64 a.ty.kind, .str a.ty.name, .int .i64 a.ty.id, .int .i64 a.ty.home, .lst (a.ty.args.map Ty.pv)]
@[simp] theorem As.pv_eq (a : As) : a.pv = .agg [.int .i64 a.id, .int .i64 a.ty.kind, .str a.ty.name, .int .i64 a.ty.id, .int .i64 a.ty.home, .lst (a.ty.args.map Ty.pv)] := rfl

@[simp] theorem Ty.eta (t : Ty) : Ty.mk t.kind t.name t.id t.home t.args = t := by cases t; rfl
@[simp] theorem As.eta (t : As) : As.mk t.id t.ty = t := rfl

abbrev vI (n : Int) : PV := .int .i64 n
def tp (L : List Int) (i : Int) : Sh := [some [.pv (.lst (L.map vI)), .pv (vI i)]]
@[simp] theorem tp_eq (L : List Int) (i : Int) : tp L i = [some [.pv (.lst (L.map vI)), .pv (vI i)]] := rfl

/-- Lists that any memory holds. -/
def Sm {α : Type} (l : List α) : Prop := l.length < 1099511627776

/-- Texts that any memory holds. -/
def SmS {α : Type} (l : List α) : Prop := l.length ≤ 9223372036854775807

@[simp] theorem natNeg (n : Nat) : ((n : Int) < 0) ↔ False := by simp
@[simp] theorem natNeg1 (n : Nat) : ((n : Int) + 1 < 0) ↔ False := by simp; omega

theorem dropC {α : Type} {l : List α} {i : Nat} {x : α} (h : l[i]? = some x) : l.drop i = x :: l.drop (i + 1) := by
  obtain ⟨hi, rfl⟩ := List.getElem?_eq_some_iff.1 h
  exact List.drop_eq_getElem_cons hi
theorem getO {α : Type} {l : List α} {i : Nat} (h : i < l.length) : ∃ x, l[i]? = some x := ⟨_, List.getElem?_eq_getElem h⟩
theorem memO {α : Type} {l : List α} {i : Nat} {x : α} (h : l[i]? = some x) : x ∈ l := List.mem_of_getElem? h
end Go.Ab.Lw
namespace Go.Ab.Lw
open Ev
set_option maxRecDepth 10000
set_option linter.unusedSimpArgs false
theorem c26 {n m : Int} (h1 : 1 ≤ m) (h2 : m < 4611686018427387904) : ∃ r, (orcL AP).p 26 [vI n, vI m] = some [vI r] ∧ 0 ≤ r ∧ r < m := by
  rw [callP_body (af := g26) rfl rfl (by decide)]
  have a1 := Int.tmod_lt_of_pos n (show 0 < m by omega)
  have a2 := Int.lt_tmod_of_pos n (show 0 < m by omega)
  have e1 : ¬ m < 1 := by omega
  have e2 : ¬ m = 0 := by omega
  by_cases h : n.tmod m < 0
  · refine ⟨n.tmod m + m, ?_, by omega, by omega⟩
    simp (disch := omega) [g26, e1, e2, h, wrap_id]
  · refine ⟨n.tmod m, ?_, by omega, by omega⟩
    simp [g26, e1, e2, h]

/-- A choice off the tape. -/
theorem c68 {L : List Int} (hL : Sm L) {i : Nat} (hi : i ≤ L.length) {n : Int} (h1 : 1 ≤ n) (h2 : n < 4611686018427387904) :
    ∃ (r : Int) (j : Nat), (orcL AP).i 68 [.sptr 0 0, .pv (vI n)] (tp L i) [] = some ([.pv (vI r)], tp L j, []) ∧ 0 ≤ r ∧ r < n ∧ j ≤ L.length := by
  unfold Sm at hL
  rw [callI_body (af := g68) rfl (by simp [g68])]
  by_cases h : i < L.length
  · obtain ⟨x, hx⟩ := getO h
    obtain ⟨r, e, e1, e2⟩ := c26 (n := x) h1 h2
    refine ⟨r, i + 1, ?_, e1, e2, h⟩
    have h' : ¬ L.length ≤ i := by omega
    simp (disch := omega) [-getElem?_pos, g68, h', wrap_id, hx, e]
  · have h' : L.length ≤ i := by omega
    refine ⟨0, i, ?_, by omega, by omega, hi⟩
    simp [g68, h']

theorem c63 {n : Int} : (orcL AP).p 63 [vI n] = some [(Ty.mk 1 [] n 0 []).pv] := by
  rw [callP_body (af := g63) rfl rfl (by decide)]
  simp [g63]
theorem c71 {n m : Int} : (orcL AP).p 71 [vI n, vI m] = some [(Ty.mk 3 [] m n []).pv] := by
  rw [callP_body (af := g71) rfl rfl (by decide)]
  simp [g71]
theorem c72 {n : Int} : (orcL AP).p 72 [vI n] = some [(Ty.mk 2 [] n 0 []).pv] := by
  rw [callP_body (af := g72) rfl rfl (by decide)]
  simp [g72]
theorem c62 {s : List UInt8} {l : List Ty} (h : Sm l) : (orcL AP).p 62 [.str s, .lst (l.map Ty.pv)] = some [(Ty.mk 4 s 0 0 l).pv] := by
  unfold Sm at h
  rw [callP_body (af := g62) rfl rfl (by decide)]
  cases l with
  | nil => simp [g62]
  | cons a r =>
    have : (r.length + 1) * 64 ≤ 140737488355328 := by simp at h; omega
    simp [g62, this]
theorem c34 : (orcL AP).p 34 [] = some [(Ty.mk 4 [73, 110, 116] 0 0 []).pv] := by
  rw [callP_body (af := g34) rfl rfl (by decide)]
  have h := c62 (s := [73, 110, 116]) (l := []) (by simp [Sm])
  simp at h
  simp [g34, h]
theorem c69 {a b : Ty} : (orcL AP).p 69 [a.pv, b.pv] = some [(Ty.mk 4 [45, 62] 0 0 [a, b]).pv] := by
  rw [callP_body (af := g69) rfl rfl (by decide)]
  have h := c62 (s := [45, 62]) (l := [a, b]) (by simp [Sm])
  simp at h
  simp [g69, h]
theorem c15 {l : List Int} : (orcL AP).p 15 [.lst (l.map vI)] = some [.bool (decide (l.length ≤ 60))] := by
  rw [callP_body (af := g15) rfl rfl (by decide)]
  simp [g15]
  omega

end Go.Ab.Lw
namespace Go.Ab.Lw
open Ev
set_option maxRecDepth 10000
set_option linter.unusedSimpArgs false
/-- Shared memory without tokens. -/
def Calm (sh : Sh) : Prop := ∀ old ts, normS old ts sh = (sh, old, ts)
theorem calm_tp {L : List Int} {i : Int} : Calm (tp L i) := fun _ _ => rfl

def tyVar (n : Int) : Ty := ⟨1, [], n, 0, []⟩
def tyRigid (h n : Int) : Ty := ⟨3, [], n, h, []⟩
def tyBound (n : Int) : Ty := ⟨2, [], n, 0, []⟩
def tyInt : Ty := ⟨4, [73, 110, 116], 0, 0, []⟩

theorem c70_4 {sh : Sh} (h : Calm sh) : (orcL AP).i 70 [.pv (vI 4)] sh [] = some ([.own ([tyVar 0, tyVar 1, tyVar 2, tyVar 3].map Ty.pv) 0], sh, [4]) := by
  have hh := h
  unfold Calm at h
  rw [callI_body (af := g70) rfl (by decide)]
  have c0 := c63 (n := 0); have c1 := c63 (n := 1); have c2 := c63 (n := 2); have c3 := c63 (n := 3)
  simp at c0 c1 c2 c3
  simp (disch := omega) [-getElem?_pos, g70, g70L0_eq, g70B0, wrap_id, c0, c1, c2, c3, h, tyVar]
end Go.Ab.Lw
namespace Go.Ab.Lw
set_option maxRecDepth 100000
set_option linter.unusedVariables false
def srcD : List UInt8 := [100, 97, 116, 97, 32, 66, 111, 111, 108, 32, 61, 32, 84, 114, 117, 101, 32, 124, 32, 70, 97, 108, 115, 101, 59, 32, 100, 97, 116, 97, 32, 79, 112, 116, 105, 111, 110, 32, 97, 32, 61, 32, 78, 111, 110, 101, 32, 124, 32, 83, 111, 109, 101, 32, 97, 59, 32, 100, 97, 116, 97, 32, 76, 105, 115, 116, 32, 97, 32, 61, 32, 78, 105, 108, 32, 124, 32, 67, 111, 110, 115, 32, 97, 32, 40, 76, 105, 115, 116, 32, 97, 41, 59, 100, 97, 116, 97, 32, 80, 97, 105, 114, 32, 97, 32, 98, 32, 61, 32, 80, 97, 105, 114, 32, 97, 32, 98, 59, 32, 100, 97, 116, 97, 32, 78, 97, 116, 32, 61, 32, 90, 101, 114, 111, 32, 124, 32, 83, 117, 99, 99, 32, 78, 97, 116, 59, 32, 100, 97, 116, 97, 32, 70, 117, 110, 32, 97, 32, 98, 32, 61, 32, 70, 117, 110, 32, 40, 97, 32, 45, 62, 32, 98, 41, 59, 32, 100, 97, 116, 97, 32, 84, 119, 111, 32, 97, 32, 61, 32, 66, 111, 116, 104, 32, 97, 32, 97, 32, 124, 32, 79, 110, 101, 32, 40, 79, 112, 116, 105, 111, 110, 32, 97, 41, 59]
def toksD : List PV := [.lst [.agg [.int .i64 4, .str [100, 97, 116, 97], .int .i64 0], .agg [.int .i64 2, .str [66, 111, 111, 108], .int .i64 5], .agg [.int .i64 5, .str [61], .int .i64 10], .agg [.int .i64 2, .str [84, 114, 117, 101], .int .i64 12], .agg [.int .i64 5, .str [124], .int .i64 17], .agg [.int .i64 2, .str [70, 97, 108, 115, 101], .int .i64 19], .agg [.int .i64 5, .str [59], .int .i64 24], .agg [.int .i64 4, .str [100, 97, 116, 97], .int .i64 26], .agg [.int .i64 2, .str [79, 112, 116, 105, 111, 110], .int .i64 31], .agg [.int .i64 1, .str [97], .int .i64 38], .agg [.int .i64 5, .str [61], .int .i64 40], .agg [.int .i64 2, .str [78, 111, 110, 101], .int .i64 42], .agg [.int .i64 5, .str [124], .int .i64 47], .agg [.int .i64 2, .str [83, 111, 109, 101], .int .i64 49], .agg [.int .i64 1, .str [97], .int .i64 54], .agg [.int .i64 5, .str [59], .int .i64 55], .agg [.int .i64 4, .str [100, 97, 116, 97], .int .i64 57], .agg [.int .i64 2, .str [76, 105, 115, 116], .int .i64 62], .agg [.int .i64 1, .str [97], .int .i64 67], .agg [.int .i64 5, .str [61], .int .i64 69], .agg [.int .i64 2, .str [78, 105, 108], .int .i64 71], .agg [.int .i64 5, .str [124], .int .i64 75], .agg [.int .i64 2, .str [67, 111, 110, 115], .int .i64 77], .agg [.int .i64 1, .str [97], .int .i64 82], .agg [.int .i64 5, .str [40], .int .i64 84], .agg [.int .i64 2, .str [76, 105, 115, 116], .int .i64 85], .agg [.int .i64 1, .str [97], .int .i64 90], .agg [.int .i64 5, .str [41], .int .i64 91], .agg [.int .i64 5, .str [59], .int .i64 92], .agg [.int .i64 4, .str [100, 97, 116, 97], .int .i64 93], .agg [.int .i64 2, .str [80, 97, 105, 114], .int .i64 98], .agg [.int .i64 1, .str [97], .int .i64 103], .agg [.int .i64 1, .str [98], .int .i64 105], .agg [.int .i64 5, .str [61], .int .i64 107], .agg [.int .i64 2, .str [80, 97, 105, 114], .int .i64 109], .agg [.int .i64 1, .str [97], .int .i64 114], .agg [.int .i64 1, .str [98], .int .i64 116], .agg [.int .i64 5, .str [59], .int .i64 117], .agg [.int .i64 4, .str [100, 97, 116, 97], .int .i64 119], .agg [.int .i64 2, .str [78, 97, 116], .int .i64 124], .agg [.int .i64 5, .str [61], .int .i64 128], .agg [.int .i64 2, .str [90, 101, 114, 111], .int .i64 130], .agg [.int .i64 5, .str [124], .int .i64 135], .agg [.int .i64 2, .str [83, 117, 99, 99], .int .i64 137], .agg [.int .i64 2, .str [78, 97, 116], .int .i64 142], .agg [.int .i64 5, .str [59], .int .i64 145], .agg [.int .i64 4, .str [100, 97, 116, 97], .int .i64 147], .agg [.int .i64 2, .str [70, 117, 110], .int .i64 152], .agg [.int .i64 1, .str [97], .int .i64 156], .agg [.int .i64 1, .str [98], .int .i64 158], .agg [.int .i64 5, .str [61], .int .i64 160], .agg [.int .i64 2, .str [70, 117, 110], .int .i64 162], .agg [.int .i64 5, .str [40], .int .i64 166], .agg [.int .i64 1, .str [97], .int .i64 167], .agg [.int .i64 5, .str [45, 62], .int .i64 169], .agg [.int .i64 1, .str [98], .int .i64 172], .agg [.int .i64 5, .str [41], .int .i64 173], .agg [.int .i64 5, .str [59], .int .i64 174], .agg [.int .i64 4, .str [100, 97, 116, 97], .int .i64 176], .agg [.int .i64 2, .str [84, 119, 111], .int .i64 181], .agg [.int .i64 1, .str [97], .int .i64 185], .agg [.int .i64 5, .str [61], .int .i64 187], .agg [.int .i64 2, .str [66, 111, 116, 104], .int .i64 189], .agg [.int .i64 1, .str [97], .int .i64 194], .agg [.int .i64 1, .str [97], .int .i64 196], .agg [.int .i64 5, .str [124], .int .i64 198], .agg [.int .i64 2, .str [79, 110, 101], .int .i64 200], .agg [.int .i64 5, .str [40], .int .i64 204], .agg [.int .i64 2, .str [79, 112, 116, 105, 111, 110], .int .i64 205], .agg [.int .i64 1, .str [97], .int .i64 212], .agg [.int .i64 5, .str [41], .int .i64 213], .agg [.int .i64 5, .str [59], .int .i64 214]], .agg [.int .i64 0, .int .i64 0]]

/-- All data declarations. -/
def allDatas : List Dt := [⟨0, [66, 111, 111, 108], [], [⟨12, [84, 114, 117, 101], []⟩, ⟨19, [70, 97, 108, 115, 101], []⟩]⟩,
  ⟨26, [79, 112, 116, 105, 111, 110], [[97]], [⟨42, [78, 111, 110, 101], []⟩, ⟨49, [83, 111, 109, 101], [⟨5, [97], 0, 0, []⟩]⟩]⟩,
  ⟨57, [76, 105, 115, 116], [[97]], [⟨71, [78, 105, 108], []⟩, ⟨77, [67, 111, 110, 115], [⟨5, [97], 0, 0, []⟩,⟨4, [76, 105, 115, 116], 0, 0, [⟨5, [97], 0, 0, []⟩]⟩]⟩]⟩,
  ⟨93, [80, 97, 105, 114], [[97], [98]], [⟨109, [80, 97, 105, 114], [⟨5, [97], 0, 0, []⟩,⟨5, [98], 0, 0, []⟩]⟩]⟩,
  ⟨119, [78, 97, 116], [], [⟨130, [90, 101, 114, 111], []⟩, ⟨137, [83, 117, 99, 99], [⟨4, [78, 97, 116], 0, 0, []⟩]⟩]⟩,
  ⟨147, [70, 117, 110], [[97], [98]], [⟨162, [70, 117, 110], [⟨4, [45, 62], 0, 0, [⟨5, [97], 0, 0, []⟩, ⟨5, [98], 0, 0, []⟩]⟩]⟩]⟩,
  ⟨176, [84, 119, 111], [[97]], [⟨189, [66, 111, 116, 104], [⟨5, [97], 0, 0, []⟩,⟨5, [97], 0, 0, []⟩]⟩, ⟨200, [79, 110, 101], [⟨4, [79, 112, 116, 105, 111, 110], 0, 0, [⟨5, [97], 0, 0, []⟩]⟩]⟩]⟩]

theorem scanD : (orcL AP).p 118 [.str srcD] = some toksD := Fc.p_of (k := 400) (n := 20) (by kernel_rfl)

def ovD (g : Nat) (x : List PV) : Option (List PV) := match g, x with
  | 118, [.str s] => if s = srcD then some toksD else none
  | _, _ => none
theorem ovD_ok : ∀ g x r, ovD g x = some r → (orcL AP).p g x = some r := by
  intro g x r h
  unfold ovD at h
  split at h
  · split at h
    · rename_i e; subst e; cases h; exact scanD
    · cases h
  · cases h

theorem c79 : (orcL AP).p 79 [] = some [.lst (allDatas.map Dt.pv)] := Fc.p_ofX (k := 400) (n := 40) ovD_ok (by kernel_rfl)
end Go.Ab.Lw
namespace Go.Ab.Lw
open Ev
set_option maxRecDepth 10000
set_option linter.unusedSimpArgs false
@[simp] theorem headSz_Dt {l : List Dt} : headSz 4 (l.map Dt.pv) = true := by cases l <;> simp
@[simp] theorem headSz_Ty {l : List Ty} : headSz 5 (l.map Ty.pv) = true := by cases l <;> simp
@[simp] theorem headSz_As {l : List As} : headSz 6 (l.map As.pv) = true := by cases l <;> simp

theorem wrapU_id {n : Int} (h1 : 0 ≤ n) (h2 : n < 18446744073709551616) : IntKind.u64.wrap n = n := by
  simp [IntKind.wrap, IntKind.bits, IntKind.signed]
  omega

def R32 (bits : Int) (ds : List Dt) : Option (AExit × St) :=
  some (.exit 0, ⟨[(0, .pv (vI bits)), (3, .pv (.lst (allDatas.map Dt.pv))), (4, .own (ds.map Dt.pv) 0), (5, .pv (vI 7)), (24, .pv (.bool false))], [], [], [ds.length]⟩)
theorem L32 (bits : Int) : ∀ (n i : Nat), 7 - i = n → i ≤ 7 → ∀ acc : List Dt, (∀ d ∈ acc, d ∈ allDatas) → acc.length ≤ 1 + i →
    ∃ ds : List Dt, cl AP g32L0 ⟨[(0, .pv (vI bits)), (3, .pv (.lst (allDatas.map Dt.pv))), (4, .own (acc.map Dt.pv) 0), (5, .pv (vI i))], [], [], [acc.length]⟩ = R32 bits ds ∧
      (∀ d ∈ ds, d ∈ allDatas) ∧ ds.length ≤ 8
  | 0, i, hn, hi, acc, ha, hl => by
    have : i = 7 := by omega
    subst this
    refine ⟨acc, ?_, ha, by omega⟩
    rw [g32L0_eq]
    have h7 : allDatas.length = 7 := rfl
    simp [g32B0, h7, R32]
  | n + 1, i, hn, hi, acc, ha, hl => by
    have h7 : allDatas.length = 7 := rfl
    have hi : i < 7 := by omega
    obtain ⟨x, hx⟩ := getO (l := allDatas) (i := i) (by omega)
    have hb : (acc.length + 1) * 72 ≤ 140737488355328 := by omega
    obtain ⟨d1, e1, m1, l1⟩ := L32 bits n (i + 1) (by omega) (by omega) (acc ++ [x]) (by
      intro d hd; simp at hd; rcases hd with hd | rfl
      · exact ha d hd
      · exact memO hx) (by simp; omega)
    obtain ⟨d2, e2, m2, l2⟩ := L32 bits n (i + 1) (by omega) (by omega) acc ha (by omega)
    simp at e1 e2
    have hi' : (i : Int) < 7 := by omega
    have key : ∀ S, S = cl AP g32L0 ⟨[(0, .pv (vI bits)), (3, .pv (.lst (allDatas.map Dt.pv))), (4, .own (acc.map Dt.pv) 0), (5, .pv (vI i))], [], [], [acc.length]⟩ → S = R32 bits d1 ∨ S = R32 bits d2 := by
      intro S hS
      rw [g32L0_eq] at hS
      simp (disch := omega) [-getElem?_pos, g32B0, h7, hi', hx, wrap_id, wrapU_id, hb, e1, e2] at hS
      subst hS
      (repeat' split) <;> simp
    rcases key _ rfl with h | h
    · exact ⟨d1, h, m1, l1⟩
    · exact ⟨d2, h, m2, l2⟩

theorem c32 (bits : Int) : ∃ ds : List Dt, (orcL AP).p 32 [vI bits] = some [.lst (ds.map Dt.pv)] ∧ (∀ d ∈ ds, d ∈ allDatas) ∧ ds.length ≤ 8 := by
  have hp := c79
  have h7 : allDatas.length = 7 := rfl
  obtain ⟨x, hx⟩ := getO (l := allDatas) (i := 1) (by decide)
  obtain ⟨d1, e1, m1, l1⟩ := L32 bits 7 0 rfl (by omega) [x] (by intro d hd; simp at hd; subst hd; exact memO hx) (by simp)
  obtain ⟨d2, e2, m2, l2⟩ := L32 bits 7 0 rfl (by omega) [] (by simp) (by simp)
  rw [g32L0_eq] at e1 e2
  simp at e1 e2
  have key : ∀ S, S = (orcL AP).p 32 [vI bits] → S = some [.lst (d1.map Dt.pv)] ∨ S = some [.lst (d2.map Dt.pv)] := by
    intro S hS
    rw [callP_body (af := g32) rfl rfl (by decide)] at hS
    simp [-getElem?_pos, g32, hp, g32L0_eq, hx, e1, e2, R32] at hS
    subst hS
    (repeat' split) <;> simp
  rcases key _ rfl with h | h
  · exact ⟨d1, h, m1, l1⟩
  · exact ⟨d2, h, m2, l2⟩
end Go.Ab.Lw
namespace Go.Ab.Lw
open Ev
set_option maxRecDepth 10000
set_option linter.unusedSimpArgs false
/-- A made type over leaves. -/
inductive Made (lv : Ty → Prop) : Ty → Prop
  | leaf {t : Ty} : lv t → Made lv t
  | int : Made lv tyInt
  | con {d : Dt} {args : List Ty} : d ∈ allDatas → args.length = d.params.length → (∀ x ∈ args, Made lv x) → Made lv ⟨4, d.name, 0, 0, args⟩
  | arrow {a b : Ty} : Made lv a → Made lv b → Made lv ⟨4, [45, 62], 0, 0, [a, b]⟩

/-- A type in its cells. -/
def Ty.av (t : Ty) : AV := .agg [.pv (vI t.kind), .pv (.str t.name), .pv (vI t.id), .pv (vI t.home), .pv (.lst (t.args.map Ty.pv))]
@[simp] theorem Ty.av_eq (t : Ty) : t.av = .agg [.pv (vI t.kind), .pv (.str t.name), .pv (vI t.id), .pv (vI t.home), .pv (.lst (t.args.map Ty.pv))] := rfl

/-- What the maker of types gives at a depth. -/
def Gives (L : List Int) (ds : List Dt) (lv : List Ty) (dep : Nat) : Prop := ∀ i : Nat, i ≤ L.length → ∃ (t : Ty) (j : Nat),
  (orcL AP).i 27 [.sptr 0 0, .pv (.lst (ds.map Dt.pv)), .pv (.lst (lv.map Ty.pv)), .pv (vI dep)] (tp L i) [] = some ([t.av], tp L j, []) ∧ Made (· ∈ lv) t ∧ j ≤ L.length

theorem L27 {L : List Int} {ds : List Dt} {lv : List Ty} {dep : Nat} (hdep : dep < 1000) (hg : Gives L ds lv dep) {d : Dt} (hS : Sm d.params) : ∀ (n k : Nat), d.params.length - k = n → k ≤ d.params.length → ∀ (acc : List Ty) (i : Nat), acc.length = k → (∀ x ∈ acc, Made (· ∈ lv) x) → i ≤ L.length →
    ∃ (r : List Ty) (j : Nat), cl AP g27L0 ⟨[(0, .sptr 0 0), (1, .pv (.lst (ds.map Dt.pv))), (2, .pv (.lst (lv.map Ty.pv))), (3, .pv (vI (dep + 1))), (8, .lptr 8 0), (10, .lptr 10 0), (11, .own (acc.map Ty.pv) 0), (12, .pv (vI k))],
      [(8, [.pv (vI 0), .pv (.str []), .pv (vI 0), .pv (vI 0), .own [] 1]), (10, [.pv (vI d.pos), .pv (.str d.name), .pv (.lst (d.params.map .str)), .pv (.lst (d.cons.map Con.pv))])], tp L i, [acc.length, 0]⟩ =
      some (.exit 1, ⟨[(0, .sptr 0 0), (1, .pv (.lst (ds.map Dt.pv))), (2, .pv (.lst (lv.map Ty.pv))), (3, .pv (vI (dep + 1))), (8, .lptr 8 0), (10, .lptr 10 0), (11, .own (r.map Ty.pv) 0), (12, .pv (vI d.params.length)), (65, .pv (.bool false))],
      [(8, [.pv (vI 0), .pv (.str []), .pv (vI 0), .pv (vI 0), .own [] 1]), (10, [.pv (vI d.pos), .pv (.str d.name), .pv (.lst (d.params.map .str)), .pv (.lst (d.cons.map Con.pv))])], tp L j, [r.length, 0]⟩) ∧
      r.length = d.params.length ∧ (∀ x ∈ r, Made (· ∈ lv) x) ∧ j ≤ L.length
  | 0, k, hn, hk, acc, i, ha, hm, hi => by
    have : k = d.params.length := by omega
    subst this
    refine ⟨acc, i, ?_, ha, hm, hi⟩
    rw [g27L0_eq]
    simp [g27B0]
  | n + 1, k, hn, hk, acc, i, ha, hm, hi => by
    unfold Sm at hS
    have hk : k < d.params.length := by omega
    have hb : (acc.length + 1) * 64 ≤ 140737488355328 := by omega
    obtain ⟨t, j, e, mt, hj⟩ := hg i hi
    simp at e
    obtain ⟨r, j', e', hr, hm', hj'⟩ := L27 hdep hg hS n (k + 1) (by omega) (by omega) (acc ++ [t]) j (by simp; omega) (by
      intro x hx; simp at hx; rcases hx with hx | rfl
      · exact hm x hx
      · exact mt) hj
    simp at e'
    refine ⟨r, j', ?_, hr, hm', hj'⟩
    rw [g27L0_eq]
    have h1 : (dep : Int) + 1 - 1 = dep := by omega
    simp (disch := omega) [-getElem?_pos, g27B0, hk, wrap_id, h1, e, hb]
    rw [e']

theorem natI {r : Int} {n : Nat} (h0 : 0 ≤ r) (h1 : r < n) : ∃ m : Nat, r = m ∧ m < n := ⟨r.toNat, by omega, by omega⟩

theorem c27_0 {L : List Int} (hL : Sm L) {ds : List Dt} {lv : List Ty} (hlv : Sm lv) : Gives L ds lv 0 := by
  intro i hi
  obtain ⟨k, j1, e1, k0, k7, hj1⟩ := c68 hL hi (n := 7) (by omega) (by omega)
  simp at e1
  unfold Sm at hlv
  by_cases h1 : k < 3
  · by_cases h2 : lv = []
    · subst h2
      refine ⟨tyInt, j1, ?_, .int, hj1⟩
      have c := c34
      simp at c
      rw [callI_body (af := g27) rfl (by simp [g27])]
      simp [-getElem?_pos, g27, e1, h1, c, tyInt]
    · have hp : 0 < lv.length := List.length_pos_iff.2 h2
      obtain ⟨r, j2, e2, r0, r1, hj2⟩ := c68 hL hj1 (n := lv.length) (by omega) (by omega)
      obtain ⟨m, rfl, hm⟩ := natI r0 r1
      obtain ⟨x, hx⟩ := getO hm
      simp at e2
      refine ⟨x, j2, ?_, .leaf (memO hx), hj2⟩
      rw [callI_body (af := g27) rfl (by simp [g27])]
      simp [-getElem?_pos, g27, e1, h1, hp, e2, hx]
  · refine ⟨tyInt, j1, ?_, .int, hj1⟩
    have c := c34
    simp at c
    rw [callI_body (af := g27) rfl (by simp [g27])]
    simp [-getElem?_pos, g27, e1, h1, c, tyInt]

theorem c27_s {L : List Int} (hL : Sm L) {ds : List Dt} (hds : ds.length ≤ 8) (hda : ∀ d ∈ ds, d ∈ allDatas) {lv : List Ty} (hlv : Sm lv) {dep : Nat} (hdep : dep < 1000) (hg : Gives L ds lv dep) : Gives L ds lv (dep + 1) := by
  intro i hi
  obtain ⟨k, j1, e1, k0, k7, hj1⟩ := c68 hL hi (n := 7) (by omega) (by omega)
  simp at e1
  unfold Sm at hlv
  have hd1 : ¬ ((dep : Int) + 1 < 1) := by omega
  have hd2 : (dep : Int) + 1 - 1 = dep := by omega
  have leafCase : ∀ h1 : k < 3, ∀ h2 : ¬ lv = [], ∃ (t : Ty) (j : Nat), (orcL AP).i 27 [.sptr 0 0, .pv (.lst (ds.map Dt.pv)), .pv (.lst (lv.map Ty.pv)), .pv (vI ((dep + 1 : Nat) : Int))] (tp L i) [] = some ([t.av], tp L j, []) ∧ Made (· ∈ lv) t ∧ j ≤ L.length := by
    intro h1 h2
    have hp : 0 < lv.length := List.length_pos_iff.2 h2
    obtain ⟨r, j2, e2, r0, r1, hj2⟩ := c68 hL hj1 (n := lv.length) (by omega) (by omega)
    obtain ⟨m, rfl, hm⟩ := natI r0 r1
    obtain ⟨x, hx⟩ := getO hm
    simp at e2
    refine ⟨x, j2, ?_, .leaf (memO hx), hj2⟩
    rw [callI_body (af := g27) rfl (by simp [g27])]
    simp [-getElem?_pos, g27, e1, h1, hp, e2, hx]
  by_cases h1 : k < 3 ∧ ¬ lv = []
  · exact leafCase h1.1 h1.2
  · have h1' : ¬ k < 3 ∨ lv = [] := by
      by_cases h : k < 3
      · right; by_cases h' : lv = []
        · exact h'
        · exact absurd ⟨h, h'⟩ h1
      · exact .inl h
    by_cases h2 : k < 4
    · refine ⟨tyInt, j1, ?_, .int, hj1⟩
      have c := c34
      simp at c
      rw [callI_body (af := g27) rfl (by simp [g27])]
      rcases h1' with h | h
      · simp [-getElem?_pos, g27, e1, h, h2, c, tyInt]
      · subst h
        simp [-getElem?_pos, g27, e1, h2, c, tyInt]
    · have h3 : ¬ k < 3 := by omega
      by_cases h4 : (k = 4 ∨ k = 5) ∧ ¬ ds = []
      · obtain ⟨h4, h5⟩ := h4
        have hp : 0 < ds.length := List.length_pos_iff.2 h5
        obtain ⟨r, j2, e2, r0, r1, hj2⟩ := c68 hL hj1 (n := ds.length) (by omega) (by omega)
        obtain ⟨m, rfl, hm⟩ := natI r0 r1
        obtain ⟨d, hx⟩ := getO hm
        simp at e2
        have hdm := hda d (memO hx)
        have hps : Sm d.params := by
          unfold Sm
          have : ∀ d ∈ allDatas, d.params.length ≤ 8 := by decide +kernel
          have := this d hdm
          omega
        obtain ⟨as, j3, e3, ha, hm3, hj3⟩ := L27 hdep hg hps d.params.length 0 rfl (by omega) [] j2 rfl (by simp) hj2
        rw [g27L0_eq] at e3
        simp at e3
        have hsa : Sm as := by unfold Sm at hps ⊢; omega
        have c := c62 (s := d.name) (l := as) hsa
        simp at c
        refine ⟨⟨4, d.name, 0, 0, as⟩, j3, ?_, .con hdm ha hm3, hj3⟩
        rw [callI_body (af := g27) rfl (by simp [g27])]
        rcases h4 with rfl | rfl
        · simp [-getElem?_pos, g27, e1, hp, hd1, e2, hx, g27L0_eq, e3, c]
        · simp [-getElem?_pos, g27, e1, hp, hd1, e2, hx, g27L0_eq, e3, c]
      · obtain ⟨a, j2, ea, ma, hj2⟩ := hg j1 hj1
        obtain ⟨b, j3, eb, mb, hj3⟩ := hg j2 hj2
        simp at ea eb
        have c := c69 (a := a) (b := b)
        simp at c
        refine ⟨⟨4, [45, 62], 0, 0, [a, b]⟩, j3, ?_, .arrow ma mb, hj3⟩
        rw [callI_body (af := g27) rfl (by simp [g27])]
        by_cases h5 : ds = []
        · subst h5
          simp at ea eb
          simp (disch := omega) [-getElem?_pos, g27, e1, h2, h3, hd1, hd2, wrap_id, ea, eb, c]
        · have h6 : ¬ k = 4 ∧ ¬ k = 5 := by
            constructor
            · intro h; exact h4 ⟨.inl h, h5⟩
            · intro h; exact h4 ⟨.inr h, h5⟩
          simp (disch := omega) [-getElem?_pos, g27, e1, h2, h3, h6.1, h6.2, hd1, hd2, wrap_id, ea, eb, c]
end Go.Ab.Lw
namespace Go.Ab.Lw
open Ev
set_option maxRecDepth 10000
set_option linter.unusedSimpArgs false
theorem c27 {L : List Int} (hL : Sm L) {ds : List Dt} (hds : ds.length ≤ 8) (hda : ∀ d ∈ ds, d ∈ allDatas) {lv : List Ty} (hlv : Sm lv) : ∀ dep : Nat, dep < 1000 → Gives L ds lv dep
  | 0, _ => c27_0 hL hlv
  | dep + 1, h => c27_s hL hds hda hlv (by omega) (c27 hL hds hda hlv dep (by omega))

end Go.Ab.Lw
namespace Go.Ab.Lw
open Ev
set_option maxRecDepth 10000
set_option linter.unusedSimpArgs false
/-- No list within is long. -/
inductive Ty.Ok : Ty → Prop
  | mk {t : Ty} : Sm t.args → (∀ x ∈ t.args, Ty.Ok x) → Ty.Ok t
theorem Ty.Ok.sm {t : Ty} (h : t.Ok) : Sm t.args := by cases h; assumption
theorem Ty.Ok.kid {t : Ty} (h : t.Ok) : ∀ x ∈ t.args, x.Ok := by cases h; assumption
/-- Variables have no parts. -/
inductive Ty.Wf : Ty → Prop
  | mk {t : Ty} : (t.kind = 1 → t.args = []) → (∀ x ∈ t.args, Ty.Wf x) → Ty.Wf t
theorem Ty.Wf.var {t : Ty} (h : t.Wf) : t.kind = 1 → t.args = [] := by cases h; assumption
theorem Ty.Wf.kid {t : Ty} (h : t.Wf) : ∀ x ∈ t.args, x.Wf := by cases h; assumption

/-- The first assignment of a variable. -/
def fnd : List As → Int → Option Ty
  | [], _ => none
  | a :: r, id => if a.id = id then some a.ty else fnd r id

mutual
def Ty.sub (s : List As) : Ty → Ty
  | ⟨k, n, i, h, as⟩ => if k = 1 then (fnd s i).getD ⟨k, n, i, h, as⟩ else ⟨k, n, i, h, Ty.subs s as⟩
def Ty.subs (s : List As) : List Ty → List Ty
  | [] => []
  | a :: r => a.sub s :: Ty.subs s r
end
theorem Ty.subs_map (s : List As) : ∀ l : List Ty, Ty.subs s l = l.map (Ty.sub s)
  | [] => by simp [Ty.subs]
  | a :: r => by simp [Ty.subs, Ty.subs_map s r]
theorem Ty.sub_eq (s : List As) (t : Ty) : t.sub s = if t.kind = 1 then (fnd s t.id).getD t else ⟨t.kind, t.name, t.id, t.home, t.args.map (Ty.sub s)⟩ := by
  cases t; simp only [Ty.sub, Ty.subs_map]

end Go.Ab.Lw
namespace Go.Ab.Lw
open Ev
set_option maxRecDepth 10000
set_option linter.unusedSimpArgs false
/-- Shared memory that holds plain data alone. -/
def Quiet (sh : Sh) : Prop := ∀ cs, some cs ∈ sh → ∀ v ∈ cs, ∃ p, v = AV.pv p

theorem normL_pv {old ts : Toks} : ∀ {cs : List AV}, (∀ v ∈ cs, ∃ p, v = AV.pv p) → normL old ts cs = (cs, old, ts)
  | [], _ => rfl
  | v :: r, h => by
    obtain ⟨p, rfl⟩ := h v (by simp)
    simp only [normL_cons, normV_pv, normL_pv (cs := r) (fun v hv => h v (by simp [hv]))]
theorem Quiet.norm : ∀ {sh : Sh}, Quiet sh → ∀ old ts, normS old ts sh = (sh, old, ts)
  | [], _, _, _ => rfl
  | none :: sh, h, old, ts => by
    simp only [normS_none, Quiet.norm (sh := sh) (fun cs hc => h cs (by simp [hc]))]
  | some cs :: sh, h, old, ts => by
    simp only [normS_some, normL_pv (h cs (by simp)), Quiet.norm (sh := sh) (fun cs hc => h cs (by simp [hc]))]
theorem shiftL_pv {n : Nat} : ∀ {cs : List AV}, (∀ v ∈ cs, ∃ p, v = AV.pv p) → cs.map (shiftV n) = cs
  | [], _ => rfl
  | v :: r, h => by
    obtain ⟨p, rfl⟩ := h v (by simp)
    simp only [List.map_cons, shiftV_pv, shiftL_pv (cs := r) (fun v hv => h v (by simp [hv]))]
theorem Quiet.shift : ∀ {sh : Sh}, Quiet sh → ∀ n, shiftS n sh = sh
  | [], _, _ => rfl
  | none :: sh, h, n => by
    simp only [shiftS_none, Quiet.shift (sh := sh) (fun cs hc => h cs (by simp [hc]))]
  | some cs :: sh, h, n => by
    simp only [shiftS_some, shiftL_pv (h cs (by simp)), Quiet.shift (sh := sh) (fun cs hc => h cs (by simp [hc]))]
theorem Quiet.app {a b : Sh} (ha : Quiet a) (hb : Quiet b) : Quiet (a ++ b) := by
  intro cs hc
  simp only [List.mem_append] at hc
  rcases hc with hc | hc
  · exact ha cs hc
  · exact hb cs hc
theorem Quiet.one {cs : List AV} (h : ∀ v ∈ cs, ∃ p, v = AV.pv p) : Quiet [some cs] := by
  intro cs' hc
  simp at hc
  subst hc
  exact h

@[simp] theorem getEnd {α : Type} {l : List α} {x : α} : (l ++ [x])[l.length]? = some x := by simp
@[simp] theorem setEnd {α : Type} {l : List α} {x y : α} : (l ++ [x]).set l.length y = l ++ [y] := by simp [List.set_append]
@[simp] theorem takeEnd {α : Type} {l : List α} {x : α} : (l ++ [x]).take l.length = l := by simp

/-! ### An array of types under way -/

def Ty.cl (t : Ty) : List AV := [.pv (vI t.kind), .pv (.str t.name), .pv (vI t.id), .pv (vI t.home), .pv (.lst (t.args.map Ty.pv))]
def zcl : List AV := [.pv (vI 0), .pv (.str []), .pv (vI 0), .pv (vI 0), .pv (.lst [])]
def arrC (d : List Ty) (m : Nat) : List AV := d.flatMap Ty.cl ++ (List.replicate m zcl).flatten
theorem flat_len {d : List Ty} : (d.flatMap Ty.cl).length = d.length * 5 := by
  induction d with
  | nil => rfl
  | cons a r ih => simp [ih, Ty.cl, Nat.add_mul]
theorem rep_len {m : Nat} : ((List.replicate m zcl).flatten).length = m * 5 := by
  simp [zcl]
theorem arrC_len {d : List Ty} {m : Nat} : (arrC d m).length = (d.length + m) * 5 := by
  simp only [arrC, List.length_append, flat_len, rep_len, Nat.add_mul]
theorem arrC_set {d : List Ty} {m : Nat} {t : Ty} : setRange (arrC d (m + 1)) (d.length * 5) t.cl = arrC (d ++ [t]) m := by
  have e : arrC d (m + 1) = d.flatMap Ty.cl ++ (zcl ++ (List.replicate m zcl).flatten) := by simp [arrC, List.replicate_succ]
  have hl : (d.flatMap Ty.cl).length = d.length * 5 := flat_len
  rw [setRange_eq, e, ← hl, List.take_left, List.drop_append, List.drop_eq_nil_of_le (by omega)]
  have : (d.flatMap Ty.cl).length + t.cl.length - (d.flatMap Ty.cl).length = 5 := by simp [Ty.cl]
  rw [this]
  simp [arrC, zcl]
theorem arrC_pv {d : List Ty} {m : Nat} : ∀ v ∈ arrC d m, ∃ p, v = AV.pv p := by
  intro v hv
  simp only [arrC, List.mem_append, List.mem_flatMap, List.mem_flatten, List.mem_replicate] at hv
  rcases hv with ⟨t, _, hv⟩ | ⟨l, ⟨_, rfl⟩, hv⟩
  · simp [Ty.cl] at hv
    rcases hv with rfl | rfl | rfl | rfl | rfl <;> exact ⟨_, rfl⟩
  · simp [zcl] at hv
    rcases hv with rfl | rfl | rfl | rfl | rfl <;> exact ⟨_, rfl⟩
theorem mapB_pvs {l : List AV} (h : ∀ v ∈ l, ∃ p, v = .pv p) : mapB l = false := by
  cases l with
  | nil => rfl
  | cons c r => obtain ⟨p, rfl⟩ := h c (by simp); rfl
@[simp] theorem arrC_mapB {d : List Ty} {m : Nat} : mapB (arrC d m) = false := mapB_pvs arrC_pv

theorem frzL_app {a b : List AV} {x y : List PV} (ha : frzL a = some x) (hb : frzL b = some y) : frzL (a ++ b) = some (x ++ y) := by
  induction a generalizing x with
  | nil => simp at ha; subst ha; exact hb
  | cons v r ih =>
    simp only [frzL_cons] at ha
    simp only [List.cons_append, frzL_cons]
    cases h1 : frz0 v with
    | none => rw [h1] at ha; cases ha
    | some p =>
      cases h2 : frzL r with
      | none => rw [h1, h2] at ha; cases ha
      | some q =>
        rw [h1, h2] at ha
        simp at ha
        subst ha
        rw [ih h2]; rfl
theorem arrC_frz : ∀ {d : List Ty}, ((frzL (arrC d 0)).bind (arrEls 5 true d.length)).map PV.lst = some (.lst (d.map Ty.pv)) := by
  have key : ∀ d : List Ty, ∃ ps, frzL (d.flatMap Ty.cl) = some ps ∧ (chunk 5 d.length ps).map PV.agg = d.map Ty.pv := by
    intro d
    induction d with
    | nil => exact ⟨[], rfl, rfl⟩
    | cons t r ih =>
      obtain ⟨ps, h1, h2⟩ := ih
      refine ⟨[vI t.kind, .str t.name, vI t.id, vI t.home, .lst (t.args.map Ty.pv)] ++ ps, ?_, ?_⟩
      · rw [List.flatMap_cons]
        exact frzL_app (by simp [Ty.cl]) h1
      · simp only [List.length_cons, chunk]
        simp [h2]
  intro d
  obtain ⟨ps, h1, h2⟩ := key d
  have : arrC d 0 = d.flatMap Ty.cl := by simp [arrC]
  rw [this, h1]
  simp only [Option.bind_some, arrEls, if_true, Option.map_some, h2]

/-! ### Rebuilding -/

mutual
def Ty.rbl (f : Ty → Ty) : Ty → Ty
  | ⟨k, n, i, h, as⟩ => match as with
    | [] => f ⟨k, n, i, h, []⟩
    | a :: r => ⟨k, n, i, h, a.rbl f :: Ty.rbls f r⟩
def Ty.rbls (f : Ty → Ty) : List Ty → List Ty
  | [] => []
  | a :: r => a.rbl f :: Ty.rbls f r
end
theorem Ty.rbls_map (f : Ty → Ty) : ∀ l : List Ty, Ty.rbls f l = l.map (Ty.rbl f)
  | [] => by simp [Ty.rbls]
  | a :: r => by simp [Ty.rbls, Ty.rbls_map f r]
theorem Ty.rbl_nil {f : Ty → Ty} {t : Ty} (h : t.args = []) : t.rbl f = f t := by
  obtain ⟨k, n, i, hm, as⟩ := t
  simp at h
  subst h
  simp [Ty.rbl]
theorem Ty.rbl_cons {f : Ty → Ty} {t : Ty} (h : ¬ t.args = []) : t.rbl f = ⟨t.kind, t.name, t.id, t.home, t.args.map (Ty.rbl f)⟩ := by
  obtain ⟨k, n, i, hm, as⟩ := t
  cases as with
  | nil => simp at h
  | cons a r => simp [Ty.rbl, Ty.rbls_map]

/-- What a function value makes of leaves, whatever arrays are under way. -/
def LeafF (g : Nat) (cap : List AV) (c0 : List AV) (f : Ty → Ty) : Prop := ∀ (sh : Sh) (x : Ty), Quiet sh → sh[0]? = some (some c0) → x.args = [] → (orcL AP).i g (.pv x.pv :: cap) sh [] = some ([(f x).av], sh, [])

def R91 (F : AV) (t : Ty) (f : Ty → Ty) (sh0 : Sh) : Option (AExit × St) :=
  some (.exit 0, ⟨[(1, F), (2, .lptr 2 0), (4, .lptr 4 0), (5, .sarr sh0.length 5 t.args.length true), (20, .pv (.lst (t.args.map Ty.pv))), (21, .pv (vI t.args.length)), (22, .pv (vI t.args.length)), (23, .pv (.bool false))],
    [(2, t.cl), (4, [.pv (vI 0), .pv (.str []), .pv (vI 0), .pv (vI 0), .own [] 0])], sh0 ++ [some (arrC (t.args.map (Ty.rbl f)) 0)], [0]⟩)

theorem L91 {g : Nat} {cap : List AV} {c0 : List AV} {f : Ty → Ty} {t : Ty} {sh0 : Sh} (hq : Quiet sh0) (h0 : sh0[0]? = some (some c0)) (hcap : flatB.flatL cap = true) (hpass : passB.passL cap = true) (hS : Sm t.args)
    (h : ∀ x ∈ t.args, ∀ sh, Quiet sh → sh[0]? = some (some c0) → (orcL AP).i 91 [.pv x.pv, .fn g cap] sh [] = some ([(x.rbl f).av], sh, [])) : ∀ (n i : Nat), t.args.length - i = n → i ≤ t.args.length → ∀ d : List Ty, d = (t.args.take i).map (Ty.rbl f) →
    cl AP g91L0 ⟨[(1, .fn g cap), (2, .lptr 2 0), (4, .lptr 4 0), (5, .sarr sh0.length 5 t.args.length true), (20, .pv (.lst (t.args.map Ty.pv))), (21, .pv (vI t.args.length)), (22, .pv (vI i))],
      [(2, t.cl), (4, [.pv (vI 0), .pv (.str []), .pv (vI 0), .pv (vI 0), .own [] 0])], sh0 ++ [some (arrC d n)], [0]⟩ = R91 (.fn g cap) t f sh0
  | 0, i, hn, hi, d, hd => by
    have : i = t.args.length := by omega
    subst this
    have hd' : d = t.args.map (Ty.rbl f) := by simpa using hd
    subst hd'
    have hQ := hq.app (Quiet.one (arrC_pv (d := t.args.map (Ty.rbl f)) (m := 0)))
    rw [g91L0_eq]
    simp [g91B0, R91, hcap, hQ.norm, Ty.cl]
  | n + 1, i, hn, hi, d, hd => by
    have hi : i < t.args.length := by omega
    obtain ⟨x, hx⟩ := getO hi
    unfold Sm at hS
    have hdl : d.length = i := by rw [hd]; simp; omega
    have hQ := hq.app (Quiet.one (arrC_pv (d := d) (m := n + 1)))
    have h0' : (sh0 ++ [some (arrC d (n + 1))])[0]? = some (some c0) := by
      rw [List.getElem?_append_left]; exact h0; exact (List.getElem?_eq_some_iff.1 h0).1
    have hc := h x (memO hx) _ hQ h0'
    have ih := L91 hq h0 hcap hpass hS h n (i + 1) (by omega) (by omega) (d ++ [x.rbl f]) (by rw [List.take_add_one, hx, hd]; simp)
    have hset : setRange (arrC d (n + 1)) (i * 5) (x.rbl f).cl = arrC (d ++ [x.rbl f]) n := by rw [← hdl]; exact arrC_set
    have hlen : i * 5 + 5 ≤ (arrC d (n + 1)).length := by rw [arrC_len]; omega
    have hQ2 := hq.app (Quiet.one (arrC_pv (d := d ++ [x.rbl f]) (m := n)))
    rw [g91L0_eq] at ih ⊢
    simp [Ty.cl, hcap, hQ2.norm] at ih hset hc
    simp (disch := omega) [-getElem?_pos, g91B0, hx, hi, hcap, hpass, hQ.norm, hQ.shift, Ty.cl, hc, hset, hlen, wrap_id]
    rw [g91L0_eq]
    simp [ih, hcap, hQ2.norm]

theorem c91 {g : Nat} {cap : List AV} {c0 : List AV} {f : Ty → Ty} (hf : LeafF g cap c0 f) (hcap : flatB.flatL cap = true) (hpass : passB.passL cap = true) (harg : argsOf [] 1 cap = cap) (hnrm : ∀ old ts, normL old ts cap = (cap, old, ts)) (hpo : cap.all passO = true) {t : Ty} (hO : t.Ok) :
    ∀ sh, Quiet sh → sh[0]? = some (some c0) → (orcL AP).i 91 [.pv t.pv, .fn g cap] sh [] = some ([(t.rbl f).av], sh, []) := by
  revert hO
  refine Ty.rec1 (p := fun t => t.Ok → ∀ sh, Quiet sh → sh[0]? = some (some c0) → (orcL AP).i 91 [.pv t.pv, .fn g cap] sh [] = some ([(t.rbl f).av], sh, [])) ?_ t
  intro t ih hO sh hq h0
  rw [callI_body (af := g91) rfl (by simp [g91])]
  by_cases hn : t.args = []
  · have h := hf sh t hq h0 hn
    simp [hn] at h
    simp [g91, hn, hcap, hpass, harg, hnrm, hpo, hq.norm, hq.shift, h, Ty.rbl_nil hn]
  · have hl : ¬ t.args.length = 0 := by simpa using hn
    have hS := hO.sm
    have h := L91 hq h0 hcap hpass hO.sm (fun x hx => ih x hx (hO.kid x hx)) t.args.length 0 (by omega) (by omega) [] (by simp)
    have hz : arrC [] t.args.length = (List.replicate t.args.length [.pv (vI 0), .pv (.str []), .pv (vI 0), .pv (vI 0), .pv (.lst [])]).flatten := by simp [arrC, zcl]
    have hQ := hq.app (Quiet.one (arrC_pv (d := []) (m := t.args.length)))
    rw [g91L0_eq] at h
    unfold Sm at hS
    have b1 : (t.args.length : Int) ≤ 9223372036854775807 := by omega
    have b2 : (t.args.length : Int) * 64 ≤ 140737488355328 := by omega
    rw [hz] at h hQ
    simp [hcap, hQ.norm, Ty.cl, R91] at h
    have hQ2 := hq.app (Quiet.one (arrC_pv (d := t.args.map (Ty.rbl f)) (m := 0)))
    have hfr := arrC_frz (d := t.args.map (Ty.rbl f))
    have hle := arrC_len (d := t.args.map (Ty.rbl f)) (m := 0)
    simp at hfr hle
    simp (disch := omega) [g91, hn, hl, hcap, hpass, hq.norm, hq.shift, b1, b2, g91L0_eq, hQ.norm, h, Ty.rbl_cons hn, hfr, hle]
end Go.Ab.Lw
namespace Go.Ab.Lw
open Ev
set_option maxRecDepth 10000
set_option linter.unusedSimpArgs false
def subLeaf (s : List As) (x : Ty) : Ty := if x.kind = 1 then (fnd s x.id).getD x else x

theorem rbl_sub {s : List As} {t : Ty} (h : t.Wf) : t.rbl (subLeaf s) = t.sub s := by
  revert h
  refine Ty.rec1 (p := fun t => t.Wf → t.rbl (subLeaf s) = t.sub s) ?_ t
  intro t ih h
  by_cases hn : t.args = []
  · rw [Ty.rbl_nil hn, Ty.sub_eq]
    unfold subLeaf
    split
    · rfl
    · cases t; simp at hn; simp [hn]
  · have hk : ¬ t.kind = 1 := fun e => hn (h.var e)
    rw [Ty.rbl_cons hn, Ty.sub_eq, if_neg hk]
    congr 1
    exact List.map_congr_left fun x hx => ih x hx (h.kid x hx)

def R92 (s : List As) (t : Ty) (sh : Sh) : Option Ty → Option (AExit × St)
  | some a => some (.ret, ⟨[(3, .lptr 3 0)], [(3, a.cl)], sh, [0]⟩)
  | none => some (.exit 0, ⟨[(2, .lptr 2 0), (3, .lptr 3 0), (9, .pv (.lst (s.map As.pv))), (10, .pv (vI s.length)), (11, .pv (vI s.length)), (12, .pv (.bool false))],
      [(2, t.cl), (3, [.pv (vI 0), .pv (.str []), .pv (vI 0), .pv (vI 0), .own [] 0])], sh, [0]⟩)
theorem L92 {s : List As} (hS : Sm s) (t : Ty) {sh : Sh} (hq : Quiet sh) : ∀ (n i : Nat), s.length - i = n → i ≤ s.length →
    cl AP g92L0 ⟨[(2, .lptr 2 0), (3, .lptr 3 0), (9, .pv (.lst (s.map As.pv))), (10, .pv (vI s.length)), (11, .pv (vI i))],
      [(2, t.cl), (3, [.pv (vI 0), .pv (.str []), .pv (vI 0), .pv (vI 0), .own [] 0])], sh, [0]⟩ = R92 s t sh (fnd (s.drop i) t.id)
  | 0, i, hn, hi => by
    have : i = s.length := by omega
    subst this
    rw [g92L0_eq]
    simp [g92B0, fnd, R92, Ty.cl, hq.norm]
  | n + 1, i, hn, hi => by
    have hi : i < s.length := by omega
    obtain ⟨x, hx⟩ := getO hi
    unfold Sm at hS
    have ih := L92 hS t hq n (i + 1) (by omega) (by omega)
    rw [g92L0_eq] at ih
    simp [Ty.cl, hq.norm] at ih
    rw [g92L0_eq, dropC hx]
    by_cases e : x.id = t.id
    · simp (disch := omega) [-getElem?_pos, g92B0, hx, hi, e, fnd, R92, Ty.cl, hq.norm]
    · simp (disch := omega) [-getElem?_pos, g92B0, hx, hi, e, fnd, wrap_id, Ty.cl, hq.norm]
      rw [g92L0_eq]
      simp [ih, hq.norm]

theorem c92 {s : List As} (hS : Sm s) : LeafF 92 [.sptr 0 0] [.pv (.lst (s.map As.pv))] (subLeaf s) := by
  intro sh x hq h0 hx
  rw [callI_body (af := g92) rfl (by simp [g92])]
  by_cases hk : x.kind = 1
  · have h := L92 hS x hq _ 0 rfl (by omega)
    rw [g92L0_eq] at h
    simp [Ty.cl, hq.norm] at h
    cases hf : fnd s x.id with
    | none =>
      rw [hf] at h
      simp [R92, Ty.cl, hx, hk] at h
      simp [g92, hk, h0, g92L0_eq, hq.norm, h, subLeaf, hf, hx, hq.shift]
    | some a =>
      rw [hf] at h
      simp [R92, Ty.cl, hx, hk] at h
      simp [g92, hk, h0, g92L0_eq, hq.norm, h, subLeaf, hf, hx, hq.shift]
  · simp [g92, hk, h0, hq.norm, subLeaf, hx, hq.shift]

theorem c45 {s : List As} (hS : Sm s) {t : Ty} (hO : t.Ok) (hW : t.Wf) : (orcL AP).p 45 [t.pv, .lst (s.map As.pv)] = some [(t.sub s).pv] := by
  have h := c91 (c92 hS) rfl rfl rfl (fun _ _ => rfl) rfl hO [some [.pv (.lst (s.map As.pv))]] (by intro cs hc v hv; simp at hc; subst hc; simp at hv; exact ⟨_, hv⟩) rfl
  rw [rbl_sub hW] at h
  simp at h
  rw [callP_body (af := g45) rfl rfl (by decide)]
  simp [g45, h]

/-! ### Apply -/
end Go.Ab.Lw
namespace Go.Ab.Lw
open Ev
set_option maxRecDepth 10000
set_option linter.unusedSimpArgs false
noncomputable instance : DecidableEq As := fun _ _ => Classical.propDecidable _

/-! ### Equal -/
end Go.Ab.Lw
namespace Go.Ab.Lw
open Ev
set_option maxRecDepth 10000
set_option linter.unusedSimpArgs false
theorem params_few : ∀ d ∈ allDatas, d.params.length ≤ 8 := by decide +kernel

theorem Made.ok {lv : Ty → Prop} (h : ∀ t, lv t → t.args = []) {t : Ty} (m : Made lv t) : t.Ok := by
  induction m with
  | leaf hl => exact ⟨by rw [h _ hl]; simp [Sm], by rw [h _ hl]; simp⟩
  | int => exact ⟨by simp [tyInt, Sm], by simp [tyInt]⟩
  | con hd hl _ ih => exact ⟨by have := params_few _ hd; simp only [Sm]; omega, ih⟩
  | arrow _ _ ha hb => exact ⟨by simp [Sm], by intro x hx; simp at hx; rcases hx with rfl | rfl <;> assumption⟩
theorem Made.wf {lv : Ty → Prop} (h : ∀ t, lv t → t.args = []) {t : Ty} (m : Made lv t) : t.Wf := by
  induction m with
  | leaf hl => exact ⟨fun _ => h _ hl, by rw [h _ hl]; simp⟩
  | int => exact ⟨by simp [tyInt], by simp [tyInt]⟩
  | con hd hl _ ih => exact ⟨by simp, ih⟩
  | arrow _ _ ha hb => exact ⟨by simp, by intro x hx; simp at hx; rcases hx with rfl | rfl <;> assumption⟩
theorem fnd_mem : ∀ {s : List As} {id : Int} {t : Ty}, fnd s id = some t → ∃ a ∈ s, a.ty = t
  | a :: r, id, t, h => by
    simp only [fnd] at h
    split at h
    · cases h; exact ⟨a, by simp, rfl⟩
    · obtain ⟨b, hb, e⟩ := fnd_mem h; exact ⟨b, by simp [hb], e⟩

theorem sub_ok {s : List As} (hs : ∀ a ∈ s, a.ty.Ok) {t : Ty} (h : t.Ok) : (t.sub s).Ok := by
  revert h
  refine Ty.rec1 (p := fun t => t.Ok → (t.sub s).Ok) ?_ t
  intro t ih h
  rw [Ty.sub_eq]
  split
  · cases hf : fnd s t.id with
    | none => simpa using h
    | some a => obtain ⟨b, hb, rfl⟩ := fnd_mem hf; simpa using hs b hb
  · refine ⟨by have := h.sm; unfold Sm at *; simpa using this, ?_⟩
    intro x hx
    simp at hx
    obtain ⟨y, hy, rfl⟩ := hx
    exact ih y hy (h.kid y hy)
theorem sub_wf {s : List As} (hs : ∀ a ∈ s, a.ty.Wf) {t : Ty} (h : t.Wf) : (t.sub s).Wf := by
  revert h
  refine Ty.rec1 (p := fun t => t.Wf → (t.sub s).Wf) ?_ t
  intro t ih h
  rw [Ty.sub_eq]
  split
  · cases hf : fnd s t.id with
    | none => simpa using h
    | some a => obtain ⟨b, hb, rfl⟩ := fnd_mem hf; simpa using hs b hb
  · rename_i hk
    refine ⟨fun e => absurd e hk, ?_⟩
    intro x hx
    simp at hx
    obtain ⟨y, hy, rfl⟩ := hx
    exact ih y hy (h.kid y hy)

end Go.Ab.Lw
namespace Go.Ab.Lw
open Ev
set_option maxRecDepth 10000
set_option linter.unusedSimpArgs false
/-- The first place where something holds. -/
def idxB {α : Type} (p : α → Bool) : List α → Option Nat
  | [] => none
  | a :: r => if p a = true then some 0 else (idxB p r).map (· + 1)
theorem idxB_none {α : Type} {p : α → Bool} : ∀ {l : List α}, idxB p l = none ↔ ∀ x ∈ l, p x = false
  | [] => by simp [idxB]
  | a :: r => by
    simp only [idxB]
    by_cases h : p a = true
    · simp [h]
    · have h : p a = false := by simpa using h
      simp [h, idxB_none]
theorem any_not {α : Type} {p : α → Bool} {l : List α} : (!(l.any fun x => !p x)) = l.all p := by
  induction l with
  | nil => rfl
  | cons a r ih => simp [← ih]
end Go.Ab.Lw
namespace Go.Ab.Lw
open Ev
set_option maxRecDepth 10000
set_option linter.unusedSimpArgs false
/-- Elements of that many cells. -/
structure El {α : Type} (f : α → PV) (sz : Nat) (ag : Bool) : Prop where
  len : ∀ x, (cellsP (f x)).length = sz
  of : ∀ x, ofCellsP ag sz (cellsP (f x)) = some (.pv (f x))

theorem El.head {α : Type} {f : α → PV} {sz : Nat} {ag : Bool} (h : El f sz ag) (l : List α) : headSz sz (l.map f) = true := by
  cases l with
  | nil => rfl
  | cons x r => simp [headSz, h.len x]

theorem el_int : El vI 1 false := ⟨fun _ => rfl, fun _ => rfl⟩
def idxI (o : Option Nat) : Int := match o with | some k => k | none => -1
theorem idxB_any {α : Type} {p : α → Bool} {s : List α} : decide (0 ≤ idxI (idxB p s)) = s.any p := by
  cases hi : idxB p s with
  | none =>
    have : s.any p = false := by rw [List.any_eq_false]; intro x hx; rw [idxB_none.1 hi x hx]; simp
    rw [this]; rfl
  | some k =>
    have : s.any p = true := by
      cases e : s.any p with
      | true => rfl
      | false => rw [List.any_eq_false] at e; have := idxB_none.2 (fun x hx => by simpa using e x hx); rw [hi] at this; cases this
    rw [this]; simp [idxI]

end Go.Ab.Lw
namespace Go.Ab.Lw
open Ev
set_option maxRecDepth 10000
set_option linter.unusedSimpArgs false
/-- Behind a round. -/
def backGo (f : St → Option (AExit × St)) (live : List Nat) (pi px sz : Nat) (ag : Bool) (env : List (Nat × AV)) (r : List (PV × Nat)) : Option (AExit × St) → Option (AExit × St)
  | some (.normal, st') => backN f live pi px sz ag env r st'
  | some (e, st') => some (e, { st' with env := env })
  | none => none
@[simp] theorem backGo_normal {f : St → Option (AExit × St)} {live : List Nat} {pi px sz : Nat} {ag : Bool} {env : List (Nat × AV)} {r : List (PV × Nat)} {st : St} : backGo f live pi px sz ag env r (some (.normal, st)) = backN f live pi px sz ag env r st := rfl
@[simp] theorem backGo_ret {f : St → Option (AExit × St)} {live : List Nat} {pi px sz : Nat} {ag : Bool} {env e : List (Nat × AV)} {r : List (PV × Nat)} {mem : List (Nat × List AV)} {sh : Sh} {toks : Toks} : backGo f live pi px sz ag env r (some (.ret, ⟨e, mem, sh, toks⟩)) = some (.ret, ⟨env, mem, sh, toks⟩) := rfl
@[simp] theorem backGo_exit {f : St → Option (AExit × St)} {live : List Nat} {pi px sz : Nat} {ag : Bool} {env e : List (Nat × AV)} {r : List (PV × Nat)} {mem : List (Nat × List AV)} {sh : Sh} {toks : Toks} {id : Nat} : backGo f live pi px sz ag env r (some (.exit id, ⟨e, mem, sh, toks⟩)) = some (.exit id, ⟨env, mem, sh, toks⟩) := rfl
@[simp] theorem backGo_ite {f : St → Option (AExit × St)} {live : List Nat} {pi px sz : Nat} {ag : Bool} {env : List (Nat × AV)} {r : List (PV × Nat)} {c : Prop} [Decidable c] {x y : Option (AExit × St)} : backGo f live pi px sz ag env r (if c then x else y) = if c then backGo f live pi px sz ag env r x else backGo f live pi px sz ag env r y := by split <;> rfl

@[simp] theorem backN_nil {f : St → Option (AExit × St)} {live : List Nat} {pi px sz : Nat} {ag : Bool} {env e : List (Nat × AV)} {mem : List (Nat × List AV)} {sh : Sh} {toks : Toks} : backN f live pi px sz ag env [] ⟨e, mem, sh, toks⟩ = some (.normal, ⟨env, mem, sh, toks⟩) := rfl
/-- Two parts of a round. -/
def andK (g : St → Option (AExit × St)) : Option (AExit × St) → Option (AExit × St)
  | some (.normal, st') => g st'
  | _ => none
@[simp] theorem andK_normal {g : St → Option (AExit × St)} {st : St} : andK g (some (.normal, st)) = g st := rfl

@[simp] theorem cl_backR {c : AOpd} {gb pi px sz : Nat} {ag : Bool} {live : List Nat} {x y : ACode} {env : List (Nat × AV)} {mem : List (Nat × List AV)} {sh : Sh} {toks : Toks} :
    cl AP (.back c gb pi px sz ag live x y) ⟨env, mem, sh, toks⟩ = backWith (andThen (cl AP x) (cl AP y)) (evOpd env c) gb pi px sz ag live ⟨env, mem, sh, toks⟩ := cl_back

end Go.Ab.Lw
namespace Go.Ab.Lw
open Ev
set_option maxRecDepth 10000
set_option linter.unusedSimpArgs false
abbrev vC (c : Int) : PV := .int .u8 c
def isLow (c : Int) : Bool := decide (97 ≤ c) && decide (c ≤ 122)
def isUp (c : Int) : Bool := decide (65 ≤ c) && decide (c ≤ 90)
def isDig (c : Int) : Bool := decide (48 ≤ c) && decide (c ≤ 57)
def isInn (c : Int) : Bool := isLow c || isUp c || isDig c || (c == 95)
def innAll (s : List UInt8) : Bool := s.all fun b => isInn b.toNat
def kws : List (List UInt8) := [[100, 97, 116, 97], [108, 101, 116], [114, 101, 99], [105, 110], [99, 97, 115, 101], [111, 102], [101, 110, 100]]
def isKw (s : List UInt8) : Bool := kws.contains s
/-- A name whose first letter lies between two. -/
def nameB (s : List UInt8) (lo hi : Int) : Bool := match s with
  | [] => false
  | b :: r => decide (lo ≤ b.toNat) && decide ((b.toNat : Int) ≤ hi) && decide ((b :: r).length ≤ 12) && innAll (b :: r) && !isKw (b :: r)

theorem c109 {c : Int} : (orcL AP).p 109 [vC c] = some [.bool (isLow c)] := by
  rw [callP_body (af := g109) rfl rfl (by decide)]
  by_cases h : 97 ≤ c <;> simp [g109, isLow, h]
theorem c111 {c : Int} : (orcL AP).p 111 [vC c] = some [.bool (isUp c)] := by
  rw [callP_body (af := g111) rfl rfl (by decide)]
  by_cases h : 65 ≤ c <;> simp [g111, isUp, h]
theorem c124 {c : Int} : (orcL AP).p 124 [vC c] = some [.bool (isDig c)] := by
  rw [callP_body (af := g124) rfl rfl (by decide)]
  by_cases h : 48 ≤ c <;> simp [g124, isDig, h]
theorem c117 {c : Int} : (orcL AP).p 117 [vC c] = some [.bool (isInn c)] := by
  have h1 := c109 (c := c)
  have h2 := c111 (c := c)
  have h3 := c124 (c := c)
  rw [callP_body (af := g117) rfl rfl (by decide)]
  cases e1 : isLow c
  · cases e2 : isUp c
    · cases e3 : isDig c
      · simp [e1, e2, e3] at h1 h2 h3
        simp [g117, h1, h2, h3, isInn, e1, e2, e3]
      · simp [e1, e2, e3] at h1 h2 h3
        simp [g117, h1, h2, h3, isInn, e1, e2, e3]
    · simp [e1, e2] at h1 h2
      simp [g117, h1, h2, isInn, e1, e2]
  · simp [e1] at h1
    simp [g117, h1, isInn, e1]

theorem innAll_cons {b : UInt8} {r : List UInt8} : innAll (b :: r) = (isInn b.toNat && innAll r) := rfl
theorem innAll_nil : innAll [] = true := rfl

theorem L108 {s : List UInt8} (hS : SmS s) : ∀ (n i : Nat), s.length - i = n → i ≤ s.length →
    cl AP g108L0 ⟨[(0, .pv (.str s)), (3, .pv (vI i))], [], [], []⟩ =
      if innAll (s.drop i) = true then some (.exit 0, ⟨[(0, .pv (.str s)), (3, .pv (vI s.length)), (7, .pv (.bool false))], [], [], []⟩)
      else some (.ret, ⟨[(2, .pv (.bool false))], [], [], []⟩)
  | 0, i, hn, hi => by
    have : i = s.length := by omega
    subst this
    rw [g108L0_eq]
    simp [g108B0, innAll_nil]
  | n + 1, i, hn, hi => by
    have hi : i < s.length := by omega
    obtain ⟨x, hx⟩ := getO hi
    unfold SmS at hS
    have ih := L108 hS n (i + 1) (by omega) (by omega)
    simp at ih
    have hc := c117 (c := x.toNat)
    rw [g108L0_eq, dropC hx, innAll_cons]
    cases e : isInn x.toNat
    · rw [e] at hc
      simp (disch := omega) [-getElem?_pos, g108B0, hx, hi, hc, e]
    · rw [e] at hc
      simp (disch := omega) [-getElem?_pos, g108B0, hx, hi, hc, e, wrap_id, ih]
theorem c108 {s : List UInt8} (hS : SmS s) : (orcL AP).p 108 [.str s] = some [.bool (innAll s && !(s == []))] := by
  have h := L108 hS _ 0 rfl (by omega)
  simp at h
  rw [callP_body (af := g108) rfl rfl (by decide)]
  cases e : innAll s <;> simp [e] at h <;> simp [g108, h]
theorem c110 {s : List UInt8} : (orcL AP).p 110 [.str s] = some [.bool (isKw s)] := by
  rw [callP_body (af := g110) rfl rfl (by decide)]
  by_cases h1 : s = [100, 97, 116, 97]
  · subst h1; simp (disch := omega) [-getElem?_pos, g110, g110L0_eq, g110B0, wrap_id, isKw, kws]
  · by_cases h2 : s = [108, 101, 116]
    · subst h2; simp (disch := omega) [-getElem?_pos, g110, g110L0_eq, g110B0, wrap_id, isKw, kws]
    · by_cases h3 : s = [114, 101, 99]
      · subst h3; simp (disch := omega) [-getElem?_pos, g110, g110L0_eq, g110B0, wrap_id, isKw, kws]
      · by_cases h4 : s = [105, 110]
        · subst h4; simp (disch := omega) [-getElem?_pos, g110, g110L0_eq, g110B0, wrap_id, isKw, kws]
        · by_cases h5 : s = [99, 97, 115, 101]
          · subst h5; simp (disch := omega) [-getElem?_pos, g110, g110L0_eq, g110B0, wrap_id, isKw, kws]
          · by_cases h6 : s = [111, 102]
            · subst h6; simp (disch := omega) [-getElem?_pos, g110, g110L0_eq, g110B0, wrap_id, isKw, kws]
            · by_cases h7 : s = [101, 110, 100]
              · subst h7; simp (disch := omega) [-getElem?_pos, g110, g110L0_eq, g110B0, wrap_id, isKw, kws]
              · have f1 := Ne.symm h1
                have f2 := Ne.symm h2
                have f3 := Ne.symm h3
                have f4 := Ne.symm h4
                have f5 := Ne.symm h5
                have f6 := Ne.symm h6
                have f7 := Ne.symm h7
                simp (disch := omega) [-getElem?_pos, g110, g110L0_eq, g110B0, wrap_id, isKw, kws, h1, h2, h3, h4, h5, h6, h7, f1, f2, f3, f4, f5, f6, f7]

theorem c77 {s : List UInt8} (hS : SmS s) : (orcL AP).p 77 [.str s] = some [.bool (nameB s 97 122)] := by
  have h1 := c108 hS
  have h3 := c110 (s := s)
  rw [callP_body (af := g77) rfl rfl (by decide)]
  cases s with
  | nil => simp [innAll_nil] at h1; simp [g77, h1, nameB]
  | cons b r =>
    have h2 := c109 (c := b.toNat)
    cases e1 : innAll (b :: r)
    · simp [e1] at h1; simp [g77, h1, nameB, e1]
    · simp [e1] at h1
      cases e2 : isLow b.toNat
      · rw [e2] at h2
        have : (decide ((97 : Int) ≤ b.toNat) && decide ((b.toNat : Int) ≤ 122)) = false := e2
        simp [g77, h1, h2, nameB, this]
      · rw [e2] at h2
        have : (decide ((97 : Int) ≤ b.toNat) && decide ((b.toNat : Int) ≤ 122)) = true := e2
        by_cases e3 : (b :: r).length ≤ 12
        · have e3' : (r.length : Int) + 1 ≤ 12 := by simp at e3; omega
          have e3'' : r.length + 1 ≤ 12 := by simpa using e3
          cases e4 : isKw (b :: r) <;> simp [e4] at h3 <;> simp [g77, h1, h2, h3, e3', e3'', e4, nameB, this, e1]
        · have e3' : ¬ ((r.length : Int) + 1 ≤ 12) := by simp at e3; omega
          have e3'' : ¬ (r.length + 1 ≤ 12) := by simpa using e3
          simp [g77, h1, h2, e3', e3'', nameB, this, e1]
theorem kw_low {b : UInt8} {r : List UInt8} (h : isKw (b :: r) = true) : isUp b.toNat = false := by
  simp only [isKw, kws, List.contains_iff_mem, List.mem_cons, List.not_mem_nil, or_false, List.cons.injEq] at h
  rcases h with ⟨rfl, _⟩ | ⟨rfl, _⟩ | ⟨rfl, _⟩ | ⟨rfl, _⟩ | ⟨rfl, _⟩ | ⟨rfl, _⟩ | ⟨rfl, _⟩ <;> rfl
theorem c78 {s : List UInt8} (hS : SmS s) : (orcL AP).p 78 [.str s] = some [.bool (nameB s 65 90)] := by
  have h1 := c108 hS
  rw [callP_body (af := g78) rfl rfl (by decide)]
  cases s with
  | nil => simp [innAll_nil] at h1; simp [g78, h1, nameB]
  | cons b r =>
    have h2 := c111 (c := b.toNat)
    cases e1 : innAll (b :: r)
    · simp [e1] at h1; simp [g78, h1, nameB, e1]
    · simp [e1] at h1
      cases e2 : isUp b.toNat
      · rw [e2] at h2
        have : (decide ((65 : Int) ≤ b.toNat) && decide ((b.toNat : Int) ≤ 90)) = false := e2
        simp [g78, h1, h2, nameB, this]
      · rw [e2] at h2
        have : (decide ((65 : Int) ≤ b.toNat) && decide ((b.toNat : Int) ≤ 90)) = true := e2
        have e4 : isKw (b :: r) = false := by
          cases e : isKw (b :: r)
          · rfl
          · rw [kw_low e] at e2; cases e2
        by_cases e3 : (b :: r).length ≤ 12
        · have e3' : (r.length : Int) + 1 ≤ 12 := by simp at e3; omega
          have e3'' : r.length + 1 ≤ 12 := by simpa using e3
          simp [g78, h1, h2, e3', e3'', e4, nameB, this, e1]
        · have e3' : ¬ ((r.length : Int) + 1 ≤ 12) := by simp at e3; omega
          have e3'' : ¬ (r.length + 1 ≤ 12) := by simpa using e3
          simp [g78, h1, h2, e3', e3'', nameB, this, e1]

/-! ### The program's names -/
theorem L73 {s : List UInt8} (hS : SmS s) : ∀ (n i : Nat), s.length - i = n → i ≤ s.length →
    cl AP g73L0 ⟨[(0, .pv (.str s)), (31, .pv (vI s.length)), (32, .pv (vI i))], [], [], []⟩ =
      if innAll (s.drop i) = true then some (.exit 0, ⟨[(0, .pv (.str s)), (31, .pv (vI s.length)), (32, .pv (vI s.length)), (33, .pv (.bool false))], [], [], []⟩)
      else some (.ret, ⟨[(6, .pv (.bool false))], [], [], []⟩)
  | 0, i, hn, hi => by
    have : i = s.length := by omega
    subst this
    rw [g73L0_eq]
    simp [g73B0, innAll_nil]
  | n + 1, i, hn, hi => by
    have hi : i < s.length := by omega
    obtain ⟨x, hx⟩ := getO hi
    unfold SmS at hS
    have ih := L73 hS n (i + 1) (by omega) (by omega)
    simp at ih
    rw [g73L0_eq, dropC hx, innAll_cons]
    have key : isInn x.toNat = ((decide (97 ≤ (x.toNat : Int)) && decide ((x.toNat : Int) ≤ 122)) || (decide (65 ≤ (x.toNat : Int)) && decide ((x.toNat : Int) ≤ 90)) || (decide (48 ≤ (x.toNat : Int)) && decide ((x.toNat : Int) ≤ 57)) || ((x.toNat : Int) == 95)) := rfl
    rw [key]
    have hc : ∃ c : Int, c = x.toNat := ⟨_, rfl⟩
    obtain ⟨c, hc⟩ := hc
    have e97 : (97 ≤ (x.toNat : Int)) = (97 ≤ c) := by rw [hc]
    rw [← hc]
    have goOn : ∀ b1 b2 b3 b4 b5 b6 b7 : Bool, decide (97 ≤ c) = b1 → decide (c ≤ 122) = b2 → decide (65 ≤ c) = b3 → decide (c ≤ 90) = b4 → decide (48 ≤ c) = b5 → decide (c ≤ 57) = b6 → (c == 95) = b7 →
        after (cl AP g73L0) (cl AP g73B0 (norm (restrict [0, 31, 32] ⟨[(0, .pv (.str s)), (31, .pv (vI s.length)), (32, .pv (vI i))], [], [], []⟩))) =
        if (((b1 && b2) || (b3 && b4) || (b5 && b6) || b7) && innAll (s.drop (i + 1))) = true then some (.exit 0, ⟨[(0, .pv (.str s)), (31, .pv (vI s.length)), (32, .pv (vI s.length)), (33, .pv (.bool false))], [], [], []⟩)
        else some (.ret, ⟨[(6, .pv (.bool false))], [], [], []⟩) := by
      intro b1 b2 b3 b4 b5 b6 b7 h1 h2 h3 h4 h5 h6 h7
      have g8 : decide (c < 48) = !b5 := by rw [← h5, ← decide_not]; simp [Int.not_le]
      have g9 : decide (57 < c) = !b6 := by rw [← h6, ← decide_not]; simp [Int.not_le]
      cases b1 <;> cases b3 <;> cases b5 <;> cases b2 <;> cases b4 <;> cases b6 <;> cases b7 <;>
        (have k1 := h1; have k2 := h2; have k3 := h3; have k4 := h4; have k5 := h5; have k6 := h6; have k7 := h7
         simp only [decide_eq_true_eq, decide_eq_false_iff_not, beq_iff_eq, beq_eq_false_iff_ne, ne_eq] at k1 k2 k3 k4 k5 k6 k7
         first
         | (exfalso; omega)
         | (simp (disch := omega) [-getElem?_pos, g73B0, hx, hi, ← hc, k1, k2, k3, k4, k5, k6, k7, g8, g9, wrap_id, ih]; done))
    exact goOn _ _ _ _ _ _ _ rfl rfl rfl rfl rfl rfl rfl
end Go.Ab.Lw
namespace Go.Ab.Lw
open Ev
set_option maxRecDepth 10000
set_option linter.unusedSimpArgs false
theorem c73 {s : List UInt8} (hS : SmS s) {lo hi : Int} : (orcL AP).p 73 [.str s, vC lo, vC hi] = some [.bool (nameB s lo hi)] := by
  have h := L73 hS _ 0 rfl (by omega)
  simp at h
  rw [callP_body (af := g73) rfl rfl (by decide)]
  cases s with
  | nil => simp [g73, nameB]
  | cons b r =>
    by_cases e3 : r.length + 1 ≤ 12
    · have e3' : ¬ ((12 : Int) < r.length + 1) := by omega
      have e0 : ¬ ((r.length : Int) + 1 < 1) := by omega
      by_cases e1 : (b.toNat : Int) < lo
      · have e1' : ¬ (lo ≤ (b.toNat : Int)) := by omega
        simp [g73, nameB, e0, e3', e1, e1']
      · have e1' : lo ≤ (b.toNat : Int) := by omega
        by_cases e2 : hi < (b.toNat : Int)
        · have e2' : ¬ ((b.toNat : Int) ≤ hi) := by omega
          simp [g73, nameB, e0, e3', e1, e2, e2']
        · have e2' : (b.toNat : Int) ≤ hi := by omega
          cases e4 : innAll (b :: r)
          · simp [e4] at h
            simp [g73, nameB, e0, e3', e1, e2, e1', e2', h, e4]
          · simp [e4] at h
            cases e5 : isKw (b :: r)
            · have k : ∀ k ∈ kws, ¬ (b :: r) = k := by
                intro k hk e
                rw [e] at e5
                simp only [isKw] at e5
                rw [List.contains_eq_mem] at e5
                simp at e5
                exact e5 hk
              have k1 := k [100, 97, 116, 97] (by simp [kws])
              have k2 := k [108, 101, 116] (by simp [kws])
              have k3 := k [114, 101, 99] (by simp [kws])
              have k4 := k [105, 110] (by simp [kws])
              have k5 := k [99, 97, 115, 101] (by simp [kws])
              have k6 := k [111, 102] (by simp [kws])
              have k7 := k [101, 110, 100] (by simp [kws])
              have b1 : ((b :: r) == [100, 97, 116, 97]) = false := by simpa using k1
              have b2 : ((b :: r) == [108, 101, 116]) = false := by simpa using k2
              have b3 : ((b :: r) == [114, 101, 99]) = false := by simpa using k3
              have b4 : ((b :: r) == [105, 110]) = false := by simpa using k4
              have b5 : ((b :: r) == [99, 97, 115, 101]) = false := by simpa using k5
              have b6 : ((b :: r) == [111, 102]) = false := by simpa using k6
              have b7 : ((b :: r) == [101, 110, 100]) = false := by simpa using k7
              simp [g73, nameB, e0, e3', e1, e2, e1', e2', h, e4, e5, e3, -List.cons_beq_cons, b1, b2, b3, b4, b5, b6, b7]
            · simp only [isKw, kws, List.contains_iff_mem, List.mem_cons, List.not_mem_nil, or_false] at e5
              rcases e5 with e | e | e | e | e | e | e <;> (simp only [List.cons.injEq] at e; obtain ⟨rfl, rfl⟩ := e) <;>
                simp [nameB, isKw, kws] <;> (simp at e1 e2 h e1' e2'; simp [g73, h, e1, e2])
    · have e3' : (12 : Int) < r.length + 1 := by omega
      simp [g73, nameB, e3', e3]
end Go.Ab.Lw
namespace Go.Ab.Lw
open Ev
set_option maxRecDepth 10000
set_option linter.unusedSimpArgs false
def conB (s : List UInt8) (n : Nat) : Bool := if s = [45, 62] then decide (n = 2) else if s = [73, 110, 116] then decide (n = 0) else nameB s 65 90 && decide (n ≤ 4)

theorem c74 {s : List UInt8} (hS : SmS s) {n : Nat} : (orcL AP).p 74 [.str s, vI n] = some [.bool (conB s n)] := by
  have h := c73 hS (lo := 65) (hi := 90)
  rw [callP_body (af := g74) rfl rfl (by decide)]
  by_cases e1 : s = [45, 62]
  · have : ((n : Int) == 2) = decide (n = 2) := by rw [Bool.eq_iff_iff]; simp; omega
    subst e1
    simp [g74, conB, this]
  · have b1 : (s == [45, 62]) = false := by simpa using e1
    by_cases e2 : s = [73, 110, 116]
    · have : ((n : Int) == 0) = decide (n = 0) := by rw [Bool.eq_iff_iff]; simp
      subst e2
      simp [g74, conB, this]
    · have b2 : (s == [73, 110, 116]) = false := by simpa using e2
      have : decide ((n : Int) ≤ 4) = decide (n ≤ 4) := by rw [Bool.eq_iff_iff]; simp; omega
      cases e3 : nameB s 65 90 <;> simp [e3] at h <;> simp [g74, conB, e1, e2, b1, b2, h, e3, this]

mutual
def validT : Ty → Bool
  | ⟨k, n, i, h, as⟩ =>
    if k = 1 ∨ k = 2 then decide (n = []) && decide (as = []) && decide (0 ≤ i) && decide (i ≤ 1000000) && (h == 0)
    else if k = 3 then decide (n = []) && decide (as = []) && decide (0 ≤ i) && decide (i ≤ 1000000) && decide (-1 ≤ h) && decide (h ≤ 1000000)
    else if k = 5 then decide (as = []) && (i == 0) && (h == 0) && nameB n 97 122
    else if k = 4 then (i == 0) && (h == 0) && conB n as.length && validL as
    else false
def validL : List Ty → Bool
  | [] => true
  | a :: r => validT a && validL r
end
theorem validL_all : ∀ l : List Ty, validL l = l.all validT
  | [] => by simp [validL]
  | a :: r => by simp [validL, validL_all r]
theorem validT_eq (t : Ty) : validT t = 
    if t.kind = 1 ∨ t.kind = 2 then decide (t.name = []) && decide (t.args = []) && decide (0 ≤ t.id) && decide (t.id ≤ 1000000) && (t.home == 0)
    else if t.kind = 3 then decide (t.name = []) && decide (t.args = []) && decide (0 ≤ t.id) && decide (t.id ≤ 1000000) && decide (-1 ≤ t.home) && decide (t.home ≤ 1000000)
    else if t.kind = 5 then decide (t.args = []) && (t.id == 0) && (t.home == 0) && nameB t.name 97 122
    else if t.kind = 4 then (t.id == 0) && (t.home == 0) && conB t.name t.args.length && t.args.all validT
    else false := by
  cases t; simp only [validT, validL_all]

/-! ### The first type where a function says so -/
def R107 (F : AV) (s : List Ty) (sh : Sh) (i : Nat) : Option Nat → Option (AExit × St)
  | some k => some (.ret, ⟨[(4, .pv (vI (i + k : Nat)))], [], sh, []⟩)
  | none => some (.exit 0, ⟨[(0, .pv (.lst (s.map Ty.pv))), (1, F), (7, .pv (vI s.length)), (8, .pv (vI s.length)), (9, .pv (.bool false))], [], sh, []⟩)
theorem L107 {s : List Ty} (hS : Sm s) {sh : Sh} (hq : Quiet sh) {g : Nat} {cap : List AV} {p : Ty → Bool} (hcap : flatB.flatL cap = true) (hpass : passB.passL cap = true) (harg : argsOf [] 1 cap = cap) (hnrm : ∀ old ts, normL old ts cap = (cap, old, ts)) (hpo : cap.all passO = true)
    (hf : ∀ x ∈ s, (orcL AP).i g (.pv x.pv :: cap) sh [] = some ([.pv (.bool (p x))], sh, [])) : ∀ (n i : Nat), s.length - i = n → i ≤ s.length →
    cl AP g107L0 ⟨[(0, .pv (.lst (s.map Ty.pv))), (1, .fn g cap), (7, .pv (vI s.length)), (8, .pv (vI i))], [], sh, []⟩ = R107 (.fn g cap) s sh i (idxB p (s.drop i))
  | 0, i, hn, hi => by
    have : i = s.length := by omega
    subst this
    rw [g107L0_eq]
    simp [g107B0, idxB, R107, hq.norm, hcap]
  | n + 1, i, hn, hi => by
    have hi : i < s.length := by omega
    obtain ⟨x, hx⟩ := getO hi
    unfold Sm at hS
    have ih := L107 hS hq hcap hpass harg hnrm hpo hf n (i + 1) (by omega) (by omega)
    simp at ih
    have hc := hf x (memO hx)
    simp at hc
    rw [g107L0_eq, dropC hx]
    cases e : p x with
    | true =>
      rw [e] at hc
      simp (disch := omega) [-getElem?_pos, g107B0, hx, hi, e, idxB, R107, hq.norm, hq.shift, hc, hcap, hpass, harg, hnrm, hpo]
    | false =>
      rw [e] at hc
      simp (disch := omega) [-getElem?_pos, g107B0, hx, hi, e, idxB, wrap_id, hq.norm, hq.shift, hc, ih, hcap, hpass, harg, hnrm, hpo]
      cases idxB p (s.drop (i + 1)) with
      | none => rfl
      | some k => simp [R107]; omega
theorem c75 {s : List Ty} (hS : Sm s) {sh : Sh} (hq : Quiet sh) {g : Nat} {cap : List AV} {p : Ty → Bool} (hcap : flatB.flatL cap = true) (hpass : passB.passL cap = true) (harg : argsOf [] 1 cap = cap) (hnrm : ∀ old ts, normL old ts cap = (cap, old, ts)) (hpo : cap.all passO = true)
    (hf : ∀ x ∈ s, (orcL AP).i g (.pv x.pv :: cap) sh [] = some ([.pv (.bool (p x))], sh, [])) : (orcL AP).i 75 [.pv (.lst (s.map Ty.pv)), .fn g cap] sh [] = some ([.pv (.bool (s.any p))], sh, []) := by
  have h := L107 hS hq hcap hpass harg hnrm hpo hf _ 0 rfl (by omega)
  simp at h
  have c107 : (orcL AP).i 107 [.pv (.lst (s.map Ty.pv)), .fn g cap] sh [] = some ([.pv (vI (match idxB p s with | some k => k | none => -1))], sh, []) := by
    rw [callI_body (af := g107) rfl (by simp [g107])]
    cases hi : idxB p s with
    | none => rw [hi] at h; simp [R107] at h; simp [g107, h, hq.norm, hcap]
    | some k => rw [hi] at h; simp [R107] at h; simp [g107, h, hq.norm, hcap]
  rw [callI_body (af := g75) rfl (by simp [g75])]
  cases hi : idxB p s with
  | none =>
    rw [hi] at c107
    have : s.any p = false := by rw [List.any_eq_false]; intro x hx; rw [idxB_none.1 hi x hx]; simp
    simp [g75, c107, hq.norm, hq.shift, hcap, hpass, hnrm, this]
  | some k =>
    rw [hi] at c107
    have : s.any p = true := by
      cases e : s.any p with
      | true => rfl
      | false => rw [List.any_eq_false] at e; have := idxB_none.2 (fun x hx => by simpa using e x hx); rw [hi] at this; cases this
    simp [g75, c107, hq.norm, hq.shift, hcap, hpass, hnrm, this]

/-- Names within are short, too. -/
inductive Ty.Nm : Ty → Prop
  | mk {t : Ty} : SmS t.name → (∀ x ∈ t.args, Ty.Nm x) → Ty.Nm t
theorem Ty.Nm.sm {t : Ty} (h : t.Nm) : SmS t.name := by cases h; assumption
theorem Ty.Nm.kid {t : Ty} (h : t.Nm) : ∀ x ∈ t.args, x.Nm := by cases h; assumption

theorem c29 {t : Ty} (hO : t.Ok) (hN : t.Nm) : (orcL AP).p 29 [t.pv] = some [.bool (validT t)] := by
  revert hO hN
  refine Ty.rec1 (p := fun t => t.Ok → t.Nm → (orcL AP).p 29 [t.pv] = some [.bool (validT t)]) ?_ t
  intro t ih hO hN
  have ht := c74 hN.sm (n := t.args.length)
  have hl := c73 hN.sm (lo := 97) (hi := 122)
  have hc := c75 hO.sm (sh := []) (by intro cs h; simp at h) (g := 76) (cap := []) (p := fun x => !validT x) rfl rfl rfl (fun _ _ => rfl) rfl (by
    intro x hx
    have hx' := ih x hx (hO.kid x hx) (hN.kid x hx)
    simp at hx'
    rw [callI_body (af := g76) rfl (by simp [g76])]
    simp [g76, hx'])
  have hany := any_not (p := validT) (l := t.args)
  rw [callP_body (af := g29) rfl rfl (by decide), validT_eq]
  have h0 : ((t.args.length : Int) == 0) = decide (t.args = []) := by rw [Bool.eq_iff_iff]; simp
  by_cases k1 : t.kind = 1
  · simp [g29, k1, h0]
    (repeat' split) <;> simp_all <;> omega
  · by_cases k2 : t.kind = 2
    · simp [g29, k2, h0]
      (repeat' split) <;> simp_all <;> omega
    · by_cases k3 : t.kind = 3
      · simp [g29, k3, h0]
        (repeat' split) <;> simp_all <;> omega
      · by_cases k5 : t.kind = 5
        · simp [g29, k5, h0, hl]
          (repeat' split) <;> simp_all <;> omega
        · by_cases k4 : t.kind = 4
          · simp [g29, k4, h0, ht, hc]
            (repeat' split) <;> simp_all <;> omega
          · simp [g29, k1, k2, k3, k4, k5, h0]
end Go.Ab.Lw
namespace Go.Ab.Lw
open Ev
set_option maxRecDepth 10000
set_option linter.unusedSimpArgs false
/-- A scheme: its number of quantified variables, and its type. -/
abbrev Sc := As
/-- An entry of a context. -/
structure En where
  name : List UInt8
  sc : Sc
  deriving Inhabited
def En.pv (a : En) : PV := .agg [.str a.name, .int .i64 a.sc.id, .int .i64 a.sc.ty.kind, .str a.sc.ty.name, .int .i64 a.sc.ty.id, .int .i64 a.sc.ty.home, .lst (a.sc.ty.args.map Ty.pv)]
@[simp] theorem En.pv_eq (a : En) : a.pv = .agg [.str a.name, .int .i64 a.sc.id, .int .i64 a.sc.ty.kind, .str a.sc.ty.name, .int .i64 a.sc.ty.id, .int .i64 a.sc.ty.home, .lst (a.sc.ty.args.map Ty.pv)] := rfl
@[simp] theorem En.eta (t : En) : En.mk t.name t.sc = t := rfl
theorem el_en : El En.pv 7 true := ⟨fun x => by simp, fun x => by simp⟩
noncomputable instance : DecidableEq En := fun _ _ => Classical.propDecidable _
@[simp] theorem headSz_En {l : List En} : headSz 7 (l.map En.pv) = true := el_en.head l

end Go.Ab.Lw
namespace Go.Ab.Lw
open Ev
set_option maxRecDepth 10000
set_option linter.unusedSimpArgs false
theorem L30 {t : Ty} (hS : Sm t.args) (h : ∀ x ∈ t.args, (orcL AP).p 30 [x.pv] = some [.bool (validT x)]) : ∀ (n i : Nat), t.args.length - i = n → i ≤ t.args.length →
    cl AP g30L0 ⟨[(1, .lptr 1 0), (3, .pv (vI i))], [(1, t.cl)], [], []⟩ =
      if (t.args.drop i).all validT = true then some (.exit 1, ⟨[(1, .lptr 1 0), (3, .pv (vI t.args.length)), (99, .pv (.bool false))], [(1, t.cl)], [], []⟩)
      else some (.ret, ⟨[(2, .pv (.bool false))], [], [], []⟩)
  | 0, i, hn, hi => by
    have : i = t.args.length := by omega
    subst this
    rw [g30L0_eq]
    simp [g30B0, Ty.cl]
  | n + 1, i, hn, hi => by
    have hi : i < t.args.length := by omega
    obtain ⟨x, hx⟩ := getO hi
    unfold Sm at hS
    have ih := L30 hS h n (i + 1) (by omega) (by omega)
    have hc := h x (memO hx)
    simp [Ty.cl] at ih hc
    rw [g30L0_eq, dropC hx]
    cases e : validT x
    · rw [e] at hc
      simp (disch := omega) [-getElem?_pos, g30B0, Ty.cl, hx, hi, hc, e]
    · rw [e] at hc
      simp (disch := omega) [-getElem?_pos, g30B0, Ty.cl, hx, hi, hc, e, wrap_id, ih]

theorem c30 {t : Ty} (hO : t.Ok) (hN : t.Nm) : (orcL AP).p 30 [t.pv] = some [.bool (validT t)] := by
  revert hO hN
  refine Ty.rec1 (p := fun t => t.Ok → t.Nm → (orcL AP).p 30 [t.pv] = some [.bool (validT t)]) ?_ t
  intro t ih hO hN
  have hl := c77 hN.sm
  have hu := c78 hN.sm
  rw [callP_body (af := g30) rfl rfl (by decide), validT_eq]
  have h0 : ((t.args.length : Int) == 0) = decide (t.args = []) := by rw [Bool.eq_iff_iff]; simp
  have h2 : ((t.args.length : Int) == 2) = decide (t.args.length = 2) := by rw [Bool.eq_iff_iff]; simp; omega
  have h4 : decide ((t.args.length : Int) ≤ 4) = decide (t.args.length ≤ 4) := by rw [Bool.eq_iff_iff]; simp; omega
  by_cases k1 : t.kind = 1
  · simp [g30, k1, h0]
    (repeat' split) <;> simp_all <;> omega
  · by_cases k2 : t.kind = 2
    · simp [g30, k2, h0]
      (repeat' split) <;> simp_all <;> omega
    · by_cases k3 : t.kind = 3
      · simp [g30, k3, h0]
        (repeat' split) <;> simp_all <;> omega
      · by_cases k5 : t.kind = 5
        · simp [g30, k5, h0, hl]
          (repeat' split) <;> simp_all <;> omega
        · by_cases k4 : t.kind = 4
          · by_cases ei : t.id = 0
            · by_cases eh : t.home = 0
              · have hL := L30 hO.sm (fun x hx => ih x hx (hO.kid x hx) (hN.kid x hx)) _ 0 rfl (by omega)
                rw [g30L0_eq] at hL
                simp [Ty.cl] at hL
                cases ea : t.args.all validT
                · have : ¬ ∀ x ∈ t.args, validT x = true := by rw [← List.all_eq_true, ea]; simp
                  simp [this, k4, ei, eh] at hL
                  simp [g30, k4, ei, eh, g30L0_eq, hL]
                · have : ∀ x ∈ t.args, validT x = true := by rw [← List.all_eq_true, ea]
                  have hL := hL
                  rw [if_pos this] at hL
                  simp [k4, ei, eh] at hL
                  by_cases n1 : t.name = [45, 62]
                  · simp [n1] at hL
                    simp [g30, k4, ei, eh, g30L0_eq, hL, n1, conB, h2]
                  · have b1 : (t.name == [45, 62]) = false := by simpa using n1
                    by_cases n2 : t.name = [73, 110, 116]
                    · simp [n2] at hL
                      simp [g30, k4, ei, eh, g30L0_eq, hL, n2, conB, h0]
                    · have b2 : (t.name == [73, 110, 116]) = false := by simpa using n2
                      cases eu : nameB t.name 65 90
                      · rw [eu] at hu
                        simp [g30, k4, ei, eh, g30L0_eq, hL, n1, n2, b1, b2, conB, hu, eu]
                      · rw [eu] at hu
                        simp [g30, k4, ei, eh, g30L0_eq, hL, n1, n2, b1, b2, conB, hu, eu, h4]
              · simp [g30, k4, ei, eh]
            · simp [g30, k4, ei]
          · simp [g30, k1, k2, k3, k4, k5]

mutual
def smT : Ty → Int → Int
  | ⟨_, _, _, _, as⟩, l => max (smL as (l - 1)) 0
def smL : List Ty → Int → Int
  | [], l => l
  | a :: r, l => if 0 < l then smL r (smT a l) else l
end
theorem smT_eq (t : Ty) (l : Int) : smT t l = max (smL t.args (l - 1)) 0 := by cases t; simp only [smT]
theorem smT_le (t : Ty) : ∀ l : Int, 0 < l → 0 ≤ smT t l ∧ smT t l ≤ l - 1 := by
  refine Ty.rec1 (p := fun t => ∀ l : Int, 0 < l → 0 ≤ smT t l ∧ smT t l ≤ l - 1) ?_ t
  intro t ih l hl
  have key : ∀ (as : List Ty), (∀ x ∈ as, ∀ l : Int, 0 < l → 0 ≤ smT x l ∧ smT x l ≤ l - 1) → ∀ l : Int, 0 ≤ l → 0 ≤ smL as l ∧ smL as l ≤ l := by
    intro as
    induction as with
    | nil => intro _ l h; simp [smL, h]
    | cons a r ih =>
      intro h l h0
      simp only [smL]
      split
      · rename_i hp
        have := h a (by simp) l hp
        have := ih (fun x hx => h x (by simp [hx])) (smT a l) this.1
        omega
      · omega
  rw [smT_eq]
  have := key t.args ih (l - 1) (by omega)
  omega
theorem smL_le : ∀ (as : List Ty) (l : Int), 0 ≤ l → 0 ≤ smL as l ∧ smL as l ≤ l
  | [], l, h => by simp [smL, h]
  | a :: r, l, h => by
    simp only [smL]
    split
    · rename_i hp
      have h1 := smT_le a l hp
      have := smL_le r (smT a l) h1.1
      omega
    · omega
theorem smL_few : ∀ (as : List Ty) (l : Int), 0 ≤ l → 0 < smL as l → (as.length : Int) < l ∧ ∀ x ∈ as, ∃ l' : Int, 0 < l' ∧ l' ≤ l ∧ 0 < smT x l'
  | [], l, h, hp => by simp [smL] at hp ⊢; exact hp
  | a :: r, l, h, hp => by
    simp only [smL] at hp
    split at hp
    · rename_i h0
      have h1 := smT_le a l h0
      have h2 := smL_few r (smT a l) h1.1 hp
      have h3 : 0 < smT a l := by
        have := smL_le r (smT a l) h1.1
        omega
      refine ⟨by simp; omega, ?_⟩
      intro x hx
      simp at hx
      rcases hx with rfl | hx
      · exact ⟨l, h0, by omega, h3⟩
      · obtain ⟨l', a1, a2, a3⟩ := h2.2 x hx
        exact ⟨l', a1, by omega, a3⟩
    · omega
theorem smT_ok (t : Ty) : ∀ l : Int, 0 < l → l ≤ 100000 → 0 < smT t l → t.Ok := by
  refine Ty.rec1 (p := fun t => ∀ l : Int, 0 < l → l ≤ 100000 → 0 < smT t l → t.Ok) ?_ t
  intro t ih l h0 h1 hp
  rw [smT_eq] at hp
  have hp' : 0 < smL t.args (l - 1) := by omega
  obtain ⟨k1, k2⟩ := smL_few t.args (l - 1) (by omega) hp'
  refine ⟨by unfold Sm; omega, fun x hx => ?_⟩
  obtain ⟨l', a1, a2, a3⟩ := k2 x hx
  exact ih x hx l' a1 (by omega) a3

theorem L88 {t : Ty} (h : ∀ x ∈ t.args, ∀ l : Int, 0 < l → l ≤ 4611686018427387904 → (orcL AP).p 88 [x.pv, vI l] = some [vI (smT x l)]) : ∀ (n i : Nat), t.args.length - i = n → i ≤ t.args.length → ∀ l : Int, 0 ≤ l → i + l ≤ 4611686018427387904 →
    ∃ (k : Nat) (b : Bool), cl AP g88L0 ⟨[(1, .pv (vI l)), (2, .lptr 2 0), (5, .pv (vI i))], [(2, t.cl)], [], []⟩ =
      some (.exit 0, ⟨[(1, .pv (vI (smL (t.args.drop i) l))), (2, .lptr 2 0), (5, .pv (vI k)), (16, .pv (.bool b))], [(2, t.cl)], [], []⟩)
  | 0, i, hn, hi, l, hl, hb => by
    have : i = t.args.length := by omega
    subst this
    refine ⟨t.args.length, false, ?_⟩
    rw [g88L0_eq]
    simp [g88B0, Ty.cl, smL]
  | n + 1, i, hn, hi, l, hl, hb => by
    have hi : i < t.args.length := by omega
    obtain ⟨x, hx⟩ := getO hi
    rw [g88L0_eq, dropC hx]
    by_cases hp : 0 < l
    · have hc := h x (memO hx) l hp (by omega)
      have hle := smT_le x l hp
      obtain ⟨k, b, ih⟩ := L88 h n (i + 1) (by omega) (by omega) (smT x l) hle.1 (by omega)
      refine ⟨k, b, ?_⟩
      simp [Ty.cl] at ih hc
      simp (disch := omega) [-getElem?_pos, g88B0, Ty.cl, hx, hi, hc, hp, smL, wrap_id, ih]
    · refine ⟨i, false, ?_⟩
      simp (disch := omega) [-getElem?_pos, g88B0, Ty.cl, hx, hi, hp, smL]
theorem c88 (t : Ty) : ∀ l : Int, 0 < l → l ≤ 4611686018427387904 → (orcL AP).p 88 [t.pv, vI l] = some [vI (smT t l)] := by
  refine Ty.rec1 (p := fun t => ∀ l : Int, 0 < l → l ≤ 4611686018427387904 → (orcL AP).p 88 [t.pv, vI l] = some [vI (smT t l)]) ?_ t
  intro t ih l h0 h1
  obtain ⟨k, b, h⟩ := L88 ih _ 0 rfl (by omega) (l - 1) (by omega) (by omega)
  rw [g88L0_eq] at h
  simp [Ty.cl] at h
  rw [callP_body (af := g88) rfl rfl (by decide), smT_eq]
  simp (disch := omega) [g88, wrap_id, g88L0_eq, h]
  omega
theorem c40 {t : Ty} {n : Int} (h0 : 0 ≤ n) (h1 : n < 1000000) : (orcL AP).p 40 [t.pv, vI n] = some [.bool (decide (0 < smT t (n + 1)))] := by
  have h := c88 t (n + 1) (by omega) (by omega)
  simp at h
  rw [callP_body (af := g40) rfl rfl (by decide)]
  simp (disch := omega) [g40, wrap_id, h]
end Go.Ab.Lw
namespace Go.Ab.Lw

section
variable {P : Program} {n : Nat} {t e : TypeId} {p : PV}

theorem shp_int (hu : P.underlying t = some (.int .i64)) (h : Shp P n t p) : ∃ i, p = vI i := by
  cases n with
  | zero => simp [Shp] at h
  | succ n => simp only [Shp, hu] at h; obtain ⟨i, rfl, _⟩ := h; exact ⟨i, rfl⟩
theorem shp_bool (hu : P.underlying t = some .bool) (h : Shp P n t p) : ∃ b, p = .bool b := by
  cases n with
  | zero => simp [Shp] at h
  | succ n => simp only [Shp, hu] at h; exact h
theorem shp_str (hu : P.underlying t = some .string) (h : Shp P n t p) : ∃ s, p = .str s := by
  cases n with
  | zero => simp [Shp] at h
  | succ n => simp only [Shp, hu] at h; obtain ⟨s, rfl, _⟩ := h; exact ⟨s, rfl⟩
/-- A slice of what a function of pure data makes. -/
theorem shp_list {α : Type} {f : α → PV} (hu : P.underlying t = some (.slice e)) (he : ∀ (m : Nat) (q : PV), Shp P m e q → ∃ x, q = f x) (h : Shp P n t p) : ∃ l : List α, p = .lst (l.map f) := by
  cases n with
  | zero => simp [Shp] at h
  | succ n =>
    simp only [Shp, hu] at h
    obtain ⟨els, rfl, _, h⟩ := h
    have key : ∀ els : List PV, (∀ q ∈ els, Shp P n e q) → ∃ l : List α, els = l.map f := by
      intro els
      induction els with
      | nil => intro _; exact ⟨[], rfl⟩
      | cons q r ih =>
        intro h
        obtain ⟨x, rfl⟩ := he n q (h q (by simp))
        obtain ⟨l, rfl⟩ := ih (fun q hq => h q (by simp [hq]))
        exact ⟨x :: l, rfl⟩
    obtain ⟨l, rfl⟩ := key els h
    exact ⟨l, rfl⟩
theorem shp_ints (hu : P.underlying t = some (.slice e)) (he : P.underlying e = some (.int .i64)) (h : Shp P n t p) : ∃ L : List Int, p = .lst (L.map vI) :=
  shp_list hu (fun _ _ h => shp_int he h) h

/-- A type. -/
theorem shp_ty {ti ts tl tt : TypeId} {f0 f1 f2 f3 f4 : Field} (hi : P.underlying ti = some (.int .i64)) (hs : P.underlying ts = some .string) (hl : P.underlying tl = some (.slice tt))
    (ht : P.underlying tt = some (.struct #[f0, f1, f2, f3, f4])) (e0 : f0.type = ti) (e1 : f1.type = ts) (e2 : f2.type = ti) (e3 : f3.type = ti) (e4 : f4.type = tl) :
    ∀ (n : Nat) (p : PV), Shp P n tt p → ∃ x : Ty, p = x.pv
  | 0, p, h => by simp [Shp] at h
  | n + 1, p, h => by
    simp only [Shp, ht] at h
    obtain ⟨ps, rfl, h⟩ := h
    match ps, h with
    | [p0, p1, p2, p3, p4], ⟨h0, h1, h2, h3, h4, _⟩ =>
      rw [e0] at h0; rw [e1] at h1; rw [e2] at h2; rw [e3] at h3; rw [e4] at h4
      obtain ⟨k, rfl⟩ := shp_int hi h0
      obtain ⟨s, rfl⟩ := shp_str hs h1
      obtain ⟨i, rfl⟩ := shp_int hi h2
      obtain ⟨m, rfl⟩ := shp_int hi h3
      cases n with
      | zero => simp [Shp] at h4
      | succ n =>
        simp only [Shp, hl] at h4
        obtain ⟨els, rfl, _, h4⟩ := h4
        have key : ∀ els : List PV, (∀ q ∈ els, Shp P n tt q) → ∃ l : List Ty, els = l.map Ty.pv := by
          intro els
          induction els with
          | nil => intro _; exact ⟨[], rfl⟩
          | cons q r ih =>
            intro h
            obtain ⟨x, rfl⟩ := shp_ty hi hs hl ht e0 e1 e2 e3 e4 n q (h q (by simp))
            obtain ⟨l, rfl⟩ := ih (fun q hq => h q (by simp [hq]))
            exact ⟨x :: l, rfl⟩
        obtain ⟨l, rfl⟩ := key els h4
        exact ⟨⟨k, s, i, m, l⟩, by simp [cellsP]⟩
  termination_by n => n
end
end Go.Ab.Lw

namespace Go.Ab.Lw
open Ev
set_option maxRecDepth 10000
set_option linter.unusedSimpArgs false
def tyNamed (s : List UInt8) : Ty := ⟨5, s, 0, 0, []⟩
theorem c106 {s : List UInt8} : (orcL AP).p 106 [.str s] = some [(tyNamed s).pv] := by
  rw [callP_body (af := g106) rfl rfl (by decide)]
  simp [g106, tyNamed]
theorem data_valid : ∀ d ∈ allDatas, conB d.name d.params.length = true := by decide +kernel
theorem Made.valid {lv : Ty → Prop} (h : ∀ t, lv t → validT t = true) {t : Ty} (m : Made lv t) : validT t = true := by
  induction m with
  | leaf hl => exact h _ hl
  | int => rw [validT_eq]; decide +kernel
  | con hd hl _ ih =>
    rw [validT_eq]
    have := data_valid _ hd
    simp [hl, this]
    exact ih
  | arrow _ _ ha hb => rw [validT_eq]; simp [conB, ha, hb]
theorem names_few : ∀ d ∈ allDatas, d.name.length ≤ 20 := by decide +kernel
theorem Made.nm {lv : Ty → Prop} (h : ∀ t, lv t → SmS t.name ∧ t.args = []) {t : Ty} (m : Made lv t) : t.Nm := by
  induction m with
  | leaf hl => exact ⟨(h _ hl).1, by rw [(h _ hl).2]; simp⟩
  | int => exact ⟨by simp [tyInt, SmS], by simp [tyInt]⟩
  | con hd hl _ ih => exact ⟨by have := names_few _ hd; simp only [SmS]; omega, ih⟩
  | arrow _ _ ha hb => exact ⟨by simp [SmS], by intro x hx; simp at hx; rcases hx with rfl | rfl <;> assumption⟩
/-- A raw type. -/
theorem shp_tyN {P : Program} {ti ts tl tt : TypeId} {f0 f1 f2 f3 f4 : Field} (hi : P.underlying ti = some (.int .i64)) (hs : P.underlying ts = some .string) (hl : P.underlying tl = some (.slice tt))
    (ht : P.underlying tt = some (.struct #[f0, f1, f2, f3, f4])) (e0 : f0.type = ti) (e1 : f1.type = ts) (e2 : f2.type = ti) (e3 : f3.type = ti) (e4 : f4.type = tl) :
    ∀ (n : Nat) (p : PV), Shp P n tt p → ∃ x : Ty, p = x.pv ∧ x.Nm
  | 0, p, h => by simp [Shp] at h
  | n + 1, p, h => by
    simp only [Shp, ht] at h
    obtain ⟨ps, rfl, h⟩ := h
    match ps, h with
    | [p0, p1, p2, p3, p4], ⟨h0, h1, h2, h3, h4, _⟩ =>
      rw [e0] at h0; rw [e1] at h1; rw [e2] at h2; rw [e3] at h3; rw [e4] at h4
      obtain ⟨k, rfl⟩ := shp_int hi h0
      obtain ⟨i, rfl⟩ := shp_int hi h2
      obtain ⟨m, rfl⟩ := shp_int hi h3
      cases n with
      | zero => simp [Shp] at h4
      | succ n =>
        simp only [Shp, hs] at h1
        obtain ⟨s, rfl, hsl⟩ := h1
        simp only [Shp, hl] at h4
        obtain ⟨els, rfl, _, h4⟩ := h4
        have key : ∀ els : List PV, (∀ q ∈ els, Shp P n tt q) → ∃ l : List Ty, els = l.map Ty.pv ∧ ∀ x ∈ l, x.Nm := by
          intro els
          induction els with
          | nil => intro _; exact ⟨[], rfl, by simp⟩
          | cons q r ih =>
            intro h
            obtain ⟨x, rfl, hx⟩ := shp_tyN hi hs hl ht e0 e1 e2 e3 e4 n q (h q (by simp))
            obtain ⟨l, rfl, hl⟩ := ih (fun q hq => h q (by simp [hq]))
            refine ⟨x :: l, rfl, ?_⟩
            intro y hy; simp at hy
            rcases hy with rfl | hy
            · exact hx
            · exact hl y hy
        obtain ⟨l, rfl, hl⟩ := key els h4
        refine ⟨⟨k, s, i, m, l⟩, by simp [cellsP], ⟨?_, hl⟩⟩
        unfold maxLen at hsl
        simp only [SmS]; omega
  termination_by n => n
end Go.Ab.Lw
namespace Go.Ab.Lw
open Ev
set_option maxRecDepth 10000
set_option linter.unusedSimpArgs false

/-! ### Index and Contains of plain elements -/
def IxB : ACode :=
  (.seq
   (.reg [⟨some 9, none, [.t 8, .t 7], .v (.bin .lss)⟩] [0, 1, 7, 8, 9])
   (.seq
    (.cond (.t 9)
     .skip
     (.exit 0))
    (.seq
     (.block 1
      (.seq
       (.reg [⟨some 10, none, [.t 8], .v (.mv)⟩,
         ⟨some 5, none, [.t 10], .v (.mv)⟩] [0, 1, 5, 7, 8])
       (.seq
        (.reg [⟨some 11, none, [.t 1], .v (.mv)⟩,
          ⟨some 12, none, [.t 0], .v (.mv)⟩,
          ⟨some 13, none, [.t 5], .v (.mv)⟩,
          ⟨some 14, none, [.t 12, .t 13], .v (.iaddr 1)⟩,
          ⟨some 15, none, [.t 14], .v (.loadE 1 false)⟩,
          ⟨some 16, none, [.t 11, .t 15], .v (.bin .eql)⟩] [0, 1, 5, 7, 8, 16])
        (.cond (.t 16)
         (.seq
          (.reg [⟨some 17, none, [.t 5], .v (.mv)⟩,
            ⟨some 4, none, [.t 17], .v (.mv)⟩] [4])
          .ret)
         .skip))))
     (.reg [⟨some 18, none, [.t 8, .c (.pv (.int .i64 1))], .v (.bin .add)⟩,
       ⟨some 8, none, [.t 18], .v (.mv)⟩] [0, 1, 7, 8]))))
def IxL : ACode := .loop [0, 1, 7, 8] IxB
theorem IxL_eq {st : St} : cl AP IxL st = after (cl AP IxL) (cl AP IxB (norm (restrict [0, 1, 7, 8] st))) := cl_loop
def IxF : AFunc := ⟨2, 19, [.t 4],
  (.seq
   (.reg [⟨some 4, none, [.c (.pv (.int .i64 0))], .v (.mv)⟩] [0, 1])
   (.seq
    (.seq
     (.reg [⟨some 6, none, [.t 0], .v (.mv)⟩,
       ⟨some 7, none, [.t 6], .v (.len)⟩,
       ⟨some 8, none, [.c (.pv (.int .i64 0))], .v (.mv)⟩] [0, 1, 7, 8])
     (.block 0
      IxL))
    (.seq
     (.reg [⟨some 4, none, [.c (.pv (.int .i64 (-1)))], .v (.mv)⟩] [4])
     .ret))), none⟩
def CoF (g : Nat) : AFunc := ⟨2, 9, [.t 4],
  (.seq
   (.reg [⟨some 4, none, [.c (.pv (.bool false))], .v (.mv)⟩] [0, 1])
   (.seq
    (.reg [⟨some 5, none, [.t 0], .v (.mv)⟩,
      ⟨some 6, none, [.t 1], .v (.mv)⟩,
      ⟨some 7, none, [.t 5, .t 6], .callP g⟩,
      ⟨some 8, none, [.t 7, .c (.pv (.int .i64 0))], .v (.bin .geq)⟩,
      ⟨some 4, none, [.t 8], .v (.mv)⟩] [4])
    .ret)), none⟩

/-- Elements that are one cell and compared by '=='. -/
structure Eqs {α : Type} [DecidableEq α] (f : α → PV) : Prop where
  el : El f 1 false
  eq : ∀ x y, evV (.bin .eql) [.pv (f x), .pv (f y)] = some (.pv (.bool (decide (x = y))))
theorem eqs_int : Eqs vI := ⟨el_int, fun x y => by simp; rw [Bool.eq_iff_iff]; simp⟩
def RIx {α : Type} (f : α → PV) (s : List α) (y : α) (i : Nat) : Option Nat → Option (AExit × St)
  | some k => some (.ret, ⟨[(4, .pv (vI (i + k : Nat)))], [], [], []⟩)
  | none => some (.exit 0, ⟨[(0, .pv (.lst (s.map f))), (1, .pv (f y)), (7, .pv (vI s.length)), (8, .pv (vI s.length)), (9, .pv (.bool false))], [], [], []⟩)
theorem LIx {α : Type} [DecidableEq α] {f : α → PV} (he : Eqs f) {s : List α} (hS : Sm s) (y : α) : ∀ (n i : Nat), s.length - i = n → i ≤ s.length →
    cl AP IxL ⟨[(0, .pv (.lst (s.map f))), (1, .pv (f y)), (7, .pv (vI s.length)), (8, .pv (vI i))], [], [], []⟩ = RIx f s y i (idxB (fun x => decide (y = x)) (s.drop i))
  | 0, i, hn, hi => by
    have : i = s.length := by omega
    subst this
    rw [IxL_eq]
    simp [IxB, idxB, RIx]
  | n + 1, i, hn, hi => by
    have hi : i < s.length := by omega
    obtain ⟨x, hx⟩ := getO hi
    unfold Sm at hS
    have ih := LIx he hS y n (i + 1) (by omega) (by omega)
    simp at ih
    have h1 := he.el.len x
    have h2 := he.el.of x
    have h3 := he.eq y x
    rw [IxL_eq, dropC hx]
    by_cases e : y = x
    · rw [decide_eq_true e] at h3
      simp (disch := omega) [-getElem?_pos, IxB, hx, hi, e, idxB, RIx, h1, h2]
      rw [← e] at h3 ⊢
      simp [h3]
    · rw [decide_eq_false e] at h3
      simp (disch := omega) [-getElem?_pos, IxB, hx, hi, e, idxB, wrap_id, ih, h1, h2, h3]
      cases idxB (fun x => decide (y = x)) (s.drop (i + 1)) with
      | none => rfl
      | some k => simp [RIx]; omega

theorem cIx {α : Type} [DecidableEq α] {f : α → PV} (he : Eqs f) {k : Nat} (hk : AP k = some IxF) {s : List α} (hS : Sm s) {y : α} : (orcL AP).p k [.lst (s.map f), f y] = some [vI (idxI (idxB (fun x => decide (y = x)) s))] := by
  have h := LIx he hS y _ 0 rfl (by omega)
  simp at h
  rw [callP_body hk rfl (by simp [IxF])]
  cases hi : idxB (fun x => decide (y = x)) s with
  | none => rw [hi] at h; simp [RIx] at h; simp [IxF, h, idxI]
  | some k => rw [hi] at h; simp [RIx] at h; simp [IxF, h, idxI]

theorem any_mem {α : Type} [DecidableEq α] {s : List α} {y : α} : (s.any fun x => decide (y = x)) = decide (y ∈ s) := by
  rw [Bool.eq_iff_iff]; simp
theorem cCo {α : Type} [DecidableEq α] {f : α → PV} (he : Eqs f) {m k : Nat} (hm : AP m = some (CoF k)) (hk : AP k = some IxF) {s : List α} (hS : Sm s) {y : α} : (orcL AP).p m [.lst (s.map f), f y] = some [.bool (decide (y ∈ s))] := by
  have h := cIx he hk hS (y := y)
  rw [callP_body hm rfl (by simp [CoF]), ← any_mem, ← idxB_any]
  simp [CoF, h]

theorem c98 {s : List Int} (hS : Sm s) {y : Int} : (orcL AP).p 98 [.lst (s.map vI), vI y] = some [.bool (decide (y ∈ s))] := cCo eqs_int (k := 116) rfl rfl hS

/-! ### The reference's Has -/
theorem L95 {s : List Int} (hS : Sm s) (y : Int) : ∀ (n i : Nat), s.length - i = n → i ≤ s.length →
    cl AP g95L0 ⟨[(0, .pv (.lst (s.map vI))), (1, .pv (vI y)), (5, .pv (vI i))], [], [], []⟩ =
      if y ∈ s.drop i then some (.ret, ⟨[(4, .pv (.bool true))], [], [], []⟩) else some (.exit 0, ⟨[(0, .pv (.lst (s.map vI))), (1, .pv (vI y)), (5, .pv (vI s.length)), (9, .pv (.bool false))], [], [], []⟩)
  | 0, i, hn, hi => by
    have : i = s.length := by omega
    subst this
    rw [g95L0_eq]
    simp [g95B0]
  | n + 1, i, hn, hi => by
    have hi : i < s.length := by omega
    obtain ⟨x, hx⟩ := getO hi
    unfold Sm at hS
    have ih := L95 hS y n (i + 1) (by omega) (by omega)
    simp at ih
    rw [g95L0_eq, dropC hx]
    by_cases e : x = y
    · simp (disch := omega) [-getElem?_pos, g95B0, hx, hi, e]
    · have e' : ¬ y = x := fun h => e h.symm
      simp (disch := omega) [-getElem?_pos, g95B0, hx, hi, e, e', wrap_id, ih]
theorem c95 {s : List Int} (hS : Sm s) {y : Int} : (orcL AP).p 95 [.lst (s.map vI), vI y] = some [.bool (decide (y ∈ s))] := by
  have h := L95 hS y _ 0 rfl (by omega)
  simp at h
  rw [callP_body (af := g95) rfl rfl (by decide)]
  by_cases e : y ∈ s <;> simp [g95, h, e]

/-! ### All nodes -/
mutual
def Ty.nodes : Ty → List Ty
  | ⟨k, n, i, h, as⟩ => ⟨k, n, i, h, as⟩ :: Ty.nodess as
def Ty.nodess : List Ty → List Ty
  | [] => []
  | a :: r => a.nodes ++ Ty.nodess r
end
theorem Ty.nodess_eq : ∀ l : List Ty, Ty.nodess l = l.flatMap Ty.nodes
  | [] => by simp [Ty.nodess]
  | a :: r => by simp [Ty.nodess, Ty.nodess_eq r]
theorem Ty.nodes_eq (t : Ty) : t.nodes = t :: t.args.flatMap Ty.nodes := by cases t; simp only [Ty.nodes, Ty.nodess_eq]

theorem nodup_len {α : Type} [DecidableEq α] : ∀ {l S : List α}, l.Nodup → (∀ x ∈ l, x ∈ S) → l.length ≤ S.length
  | [], _, _, _ => by simp
  | x :: r, S, hn, h => by
    have hx := h x (by simp)
    have hr := nodup_len (l := r) (S := S.erase x) (List.nodup_cons.1 hn).2 (fun y hy => by
      rw [List.mem_erase_of_ne]
      · exact h y (by simp [hy])
      · rintro rfl; exact (List.nodup_cons.1 hn).1 hy)
    have := List.length_erase_of_mem hx
    have : 0 < S.length := List.length_pos_of_mem hx
    simp; omega

/-- One more variable. -/
def addI (out : List Int) (x : Ty) : List Int := if x.kind = 1 ∧ x.id ∉ out then out ++ [x.id] else out

/-- What was collected: without doubles, among few. -/
structure Coll (S out : List Int) : Prop where
  nodup : out.Nodup
  sub : ∀ x ∈ out, x ∈ S
  few : S.length < 1099511627776
theorem Coll.len {S out : List Int} (h : Coll S out) : Sm out := by
  have := nodup_len h.nodup h.sub
  have := h.few
  unfold Sm; omega
theorem Coll.add {S out : List Int} (h : Coll S out) {x : Ty} (hx : x.kind = 1 → x.id ∈ S) : Coll S (addI out x) := by
  unfold addI
  split
  · rename_i e
    refine ⟨?_, ?_, h.few⟩
    · rw [List.nodup_append]
      refine ⟨h.nodup, by simp, ?_⟩
      intro a ha b hb
      simp at hb; subst hb
      rintro rfl; exact e.2 ha
    · intro y hy
      simp at hy
      rcases hy with hy | rfl
      · exact h.sub y hy
      · exact hx e.1
  · exact h
theorem Coll.fold {S : List Int} : ∀ {l : List Ty} {out : List Int}, Coll S out → (∀ x ∈ l, x.kind = 1 → x.id ∈ S) → Coll S (l.foldl addI out)
  | [], _, h, _ => h
  | x :: r, out, h, hx => by
    simp only [List.foldl_cons]
    exact Coll.fold (h.add (hx x (by simp))) (fun y hy => hx y (by simp [hy]))

def shO (out : List Int) : Sh := [some [.own (out.map vI) 0]]
theorem c97 {S out : List Int} (h : Coll S out) (x : Ty) : (orcL AP).i 97 [.pv x.pv, .sptr 0 0] (shO out) [out.length] = some ([], shO (addI out x), [(addI out x).length]) := by
  have hl := h.len
  have k := c98 hl (y := x.id)
  unfold Sm at hl
  have hb : (out.length + 1) * 8 ≤ 140737488355328 := by omega
  have hh : headSz 1 (out.map vI) = true := el_int.head out
  rw [callI_body (af := g97) rfl (by simp [g97])]
  by_cases e1 : x.kind = 1
  · by_cases e2 : x.id ∈ out
    · rw [decide_eq_true e2] at k
      simp [g97, shO, addI, e1, e2, k, hh]
    · rw [decide_eq_false e2] at k
      simp [g97, shO, addI, e1, e2, k, hb, hh]
  · simp [g97, shO, addI, e1]

theorem L96 {S : List Int} {t : Ty} (hS : Sm t.args) (h : ∀ x ∈ t.args, ∀ out, Coll S out → (orcL AP).i 96 [.pv x.pv, .fn 97 [.sptr 0 0]] (shO out) [out.length] = some ([], shO (x.nodes.foldl addI out), [(x.nodes.foldl addI out).length]))
    (hk : ∀ x ∈ t.args.flatMap Ty.nodes, x.kind = 1 → x.id ∈ S) : ∀ (n i : Nat), t.args.length - i = n → i ≤ t.args.length → ∀ out, Coll S out →
    cl AP g96L0 ⟨[(1, .fn 97 [.sptr 0 0]), (10, .pv (.lst (t.args.map Ty.pv))), (11, .pv (vI t.args.length)), (12, .pv (vI i))], [], shO out, [out.length]⟩ =
      some (.exit 0, ⟨[(1, .fn 97 [.sptr 0 0]), (10, .pv (.lst (t.args.map Ty.pv))), (11, .pv (vI t.args.length)), (12, .pv (vI t.args.length)), (13, .pv (.bool false))], [], shO (((t.args.drop i).flatMap Ty.nodes).foldl addI out), [(((t.args.drop i).flatMap Ty.nodes).foldl addI out).length]⟩)
  | 0, i, hn, hi, out, hc => by
    have : i = t.args.length := by omega
    subst this
    rw [g96L0_eq]
    simp [g96B0, shO]
  | n + 1, i, hn, hi, out, hc => by
    have hi : i < t.args.length := by omega
    obtain ⟨x, hx⟩ := getO hi
    unfold Sm at hS
    have hkx : ∀ y ∈ x.nodes, y.kind = 1 → y.id ∈ S := fun y hy => hk y (by simp only [List.mem_flatMap]; exact ⟨x, memO hx, hy⟩)
    have k := h x (memO hx) out hc
    have ih := L96 hS h hk n (i + 1) (by omega) (by omega) _ (hc.fold hkx)
    rw [g96L0_eq] at ih ⊢
    rw [dropC hx]
    simp [shO] at k ih
    simp (disch := omega) [-getElem?_pos, g96B0, shO, hx, hi, k, wrap_id]
    rw [g96L0_eq]
    simp [ih]

theorem c96 {S : List Int} {t : Ty} (hO : t.Ok) (hk : ∀ x ∈ t.nodes, x.kind = 1 → x.id ∈ S) : ∀ out, Coll S out →
    (orcL AP).i 96 [.pv t.pv, .fn 97 [.sptr 0 0]] (shO out) [out.length] = some ([], shO (t.nodes.foldl addI out), [(t.nodes.foldl addI out).length]) := by
  revert hO hk
  refine Ty.rec1 (p := fun t => t.Ok → (∀ x ∈ t.nodes, x.kind = 1 → x.id ∈ S) → ∀ out, Coll S out →
    (orcL AP).i 96 [.pv t.pv, .fn 97 [.sptr 0 0]] (shO out) [out.length] = some ([], shO (t.nodes.foldl addI out), [(t.nodes.foldl addI out).length])) ?_ t
  intro t ih hO hk out hc
  rw [Ty.nodes_eq] at hk ⊢
  have k := c97 hc t
  have h := L96 (S := S) hO.sm (fun x hx out hc => ih x hx (hO.kid x hx) (fun y hy => hk y (by simp only [List.mem_cons, List.mem_flatMap]; exact .inr ⟨x, hx, hy⟩)) out hc) (fun x hx => hk x (by simp only [List.mem_cons]; exact .inr hx)) _ 0 rfl (by omega) _ (hc.add (hk t (by simp)))
  rw [callI_body (af := g96) rfl (by simp [g96])]
  rw [g96L0_eq] at h
  simp [shO] at k h
  simp [g96, g96L0_eq, shO, k, h]

/-- The variables of types. -/
def vars (l : List Ty) : List Int := (l.flatMap Ty.nodes).foldl addI []

theorem L55 {S : List Int} {l : List Ty} (hS : Sm l) (hO : ∀ t ∈ l, t.Ok) (hk : ∀ x ∈ l.flatMap Ty.nodes, x.kind = 1 → x.id ∈ S) : ∀ (n i : Nat), l.length - i = n → i ≤ l.length → ∀ out, Coll S out →
    cl AP g55L0 ⟨[(3, .sptr 0 0), (6, .pv (.lst (l.map Ty.pv))), (7, .pv (vI l.length)), (8, .pv (vI i))], [], shO out, [out.length]⟩ =
      some (.exit 0, ⟨[(3, .sptr 0 0), (6, .pv (.lst (l.map Ty.pv))), (7, .pv (vI l.length)), (8, .pv (vI l.length)), (9, .pv (.bool false))], [], shO (((l.drop i).flatMap Ty.nodes).foldl addI out), [(((l.drop i).flatMap Ty.nodes).foldl addI out).length]⟩)
  | 0, i, hn, hi, out, hc => by
    have : i = l.length := by omega
    subst this
    rw [g55L0_eq]
    simp [g55B0, shO]
  | n + 1, i, hn, hi, out, hc => by
    have hi : i < l.length := by omega
    obtain ⟨x, hx⟩ := getO hi
    unfold Sm at hS
    have hkx : ∀ y ∈ x.nodes, y.kind = 1 → y.id ∈ S := fun y hy => hk y (by simp only [List.mem_flatMap]; exact ⟨x, memO hx, hy⟩)
    have k := c96 (hO x (memO hx)) hkx out hc
    have ih := L55 hS hO hk n (i + 1) (by omega) (by omega) _ (hc.fold hkx)
    rw [g55L0_eq] at ih ⊢
    rw [dropC hx]
    simp [shO] at k ih
    simp (disch := omega) [-getElem?_pos, g55B0, shO, hx, hi, k, wrap_id]
    rw [g55L0_eq]
    simp [ih]

theorem coll_nil {S : List Int} (h : S.length < 1099511627776) : Coll S [] := ⟨by simp, by simp, h⟩
theorem c55 {S : List Int} (hf : S.length < 1099511627776) {l : List Ty} (hS : Sm l) (hO : ∀ t ∈ l, t.Ok) (hk : ∀ x ∈ l.flatMap Ty.nodes, x.kind = 1 → x.id ∈ S) : (orcL AP).p 55 [.lst (l.map Ty.pv)] = some [.lst ((vars l).map vI)] := by
  have h := L55 hS hO hk _ 0 rfl (by omega) [] (coll_nil hf)
  rw [callP_body (af := g55) rfl rfl (by decide)]
  rw [g55L0_eq] at h
  simp [shO] at h
  simp [g55, g55L0_eq, h, vars]
end Go.Ab.Lw
namespace Go.Ab.Lw
open Ev
set_option maxRecDepth 10000
set_option linter.unusedSimpArgs false
mutual
/-- The leaves of a kind. -/
def Ty.lvs (k : Int) : Ty → List Ty
  | ⟨kd, n, i, h, as⟩ => if kd = k ∧ as.length = 0 then [⟨kd, n, i, h, as⟩] else Ty.lvss k as
def Ty.lvss (k : Int) : List Ty → List Ty
  | [] => []
  | a :: r => a.lvs k ++ Ty.lvss k r
end
theorem Ty.lvss_eq (k : Int) : ∀ l : List Ty, Ty.lvss k l = l.flatMap (Ty.lvs k)
  | [] => by simp [Ty.lvss]
  | a :: r => by simp [Ty.lvss, Ty.lvss_eq k r]
theorem Ty.lvs_eq (k : Int) (t : Ty) : t.lvs k = if t.kind = k ∧ t.args.length = 0 then [t] else t.args.flatMap (Ty.lvs k) := by cases t; simp only [Ty.lvs, Ty.lvss_eq]

noncomputable def addT (out : List Ty) (x : Ty) : List Ty := if x ∈ out then out else out ++ [x]

structure CollT (S out : List Ty) : Prop where
  nodup : out.Nodup
  sub : ∀ x ∈ out, x ∈ S
  few : S.length < 1099511627776
  ok : ∀ x ∈ S, x.Ok
theorem CollT.len {S out : List Ty} (h : CollT S out) : Sm out := by
  have := nodup_len h.nodup h.sub
  have := h.few
  unfold Sm; omega
theorem CollT.add {S out : List Ty} (h : CollT S out) {x : Ty} (hx : x ∈ S) : CollT S (addT out x) := by
  unfold addT
  split
  · exact h
  · rename_i e
    refine ⟨?_, ?_, h.few, h.ok⟩
    · rw [List.nodup_append]
      refine ⟨h.nodup, by simp, ?_⟩
      intro a ha b hb
      simp at hb; subst hb
      rintro rfl; exact e ha
    · intro y hy
      simp at hy
      rcases hy with hy | rfl
      · exact h.sub y hy
      · exact hx
theorem CollT.fold {S : List Ty} : ∀ {l : List Ty} {out : List Ty}, CollT S out → (∀ x ∈ l, x ∈ S) → CollT S (l.foldl addT out)
  | [], _, h, _ => h
  | x :: r, out, h, hx => by
    simp only [List.foldl_cons]
    exact CollT.fold (h.add (hx x (by simp))) (fun y hy => hx y (by simp [hy]))

end Go.Ab.Lw
namespace Go.Ab.Lw
open Ev
set_option maxRecDepth 10000
set_option linter.unusedSimpArgs false
@[simp] theorem takeEnd1 {α : Type} {l : List α} {x : α} : (l ++ [x]).take (l.length + 1) = l ++ [x] := by rw [List.take_of_length_le]; simp

def varNames : List (List UInt8) := [[120], [121], [122], [102], [103], [118, 49], [118, 50], [105, 100]]
/-- Quantifying some variables. -/
def closeS (ids : List Int) : List Int → List As → List As
  | [], acc => acc
  | v :: r, acc => closeS ids r (if v ∈ ids then acc ++ [⟨v, tyBound acc.length⟩] else acc)
def closeSc (ids : List Int) (t : Ty) (vs : List Int) : Sc := ⟨(closeS ids vs []).length, t.sub (closeS ids vs [])⟩

theorem closeS_len {ids : List Int} : ∀ (vs : List Int) (acc : List As), (closeS ids vs acc).length ≤ acc.length + vs.length
  | [], acc => by simp [closeS]
  | v :: r, acc => by
    simp only [closeS]
    have := closeS_len (ids := ids) r (if v ∈ ids then acc ++ [⟨v, tyBound acc.length⟩] else acc)
    split at this <;> simp at this ⊢ <;> (split <;> simp_all <;> omega)

/-- Types whose variables are few. -/
structure FewV (t : Ty) : Prop where
  ok : t.Ok
  wf : t.Wf
  few : ∃ S : List Ty, S.length < 1099511627776 ∧ (∀ x ∈ S, x.Ok) ∧ ∀ x ∈ t.lvs 1, x ∈ S

end Go.Ab.Lw
namespace Go.Ab.Lw
open Ev
set_option maxRecDepth 10000
set_option linter.unusedSimpArgs false
/-- The leaves of a made type are among the leaves. -/
theorem Made.lvs {lv : Ty → Prop} (h : ∀ t, lv t → t.args = []) {t : Ty} (m : Made lv t) {k : Int} (hk : k ≠ 4) : ∀ x ∈ t.lvs k, lv x := by
  induction m with
  | leaf hl =>
    intro x hx
    rw [Ty.lvs_eq, h _ hl] at hx
    split at hx
    · simp at hx; subst hx; exact hl
    · simp at hx
  | int =>
    intro x hx
    rw [Ty.lvs_eq] at hx
    simp [tyInt] at hx
    exact absurd hx.1.symm hk
  | con hd hl _ ih =>
    intro x hx
    rw [Ty.lvs_eq] at hx
    split at hx
    · rename_i e; exact absurd e.1.symm hk
    · simp only [List.mem_flatMap] at hx
      obtain ⟨y, hy, hx⟩ := hx
      exact ih y hy x hx
  | arrow _ _ ha hb =>
    intro x hx
    rw [Ty.lvs_eq] at hx
    simp at hx
    rcases hx with hx | hx
    · exact ha x hx
    · exact hb x hx
theorem bare_ok {t : Ty} (h : t.args = []) : t.Ok := ⟨by rw [h]; simp [Sm], by rw [h]; simp⟩
theorem Made.few {lv : List Ty} (hl : lv.length < 1099511627776) (h : ∀ t, t ∈ lv → t.args = []) {t : Ty} (m : Made (· ∈ lv) t) : FewV t :=
  ⟨m.ok h, m.wf h, lv, hl, fun x hx => bare_ok (h x hx), m.lvs h (by decide)⟩

theorem closeS_ok {ids : List Int} : ∀ (vs : List Int) (acc : List As), (∀ a ∈ acc, a.ty.Ok) → ∀ a ∈ closeS ids vs acc, a.ty.Ok
  | [], acc, h => by simpa [closeS] using h
  | v :: r, acc, h => by
    simp only [closeS]
    refine closeS_ok r _ ?_
    split
    · intro a ha
      simp at ha
      rcases ha with ha | rfl
      · exact h a ha
      · exact bare_ok rfl
    · exact h
theorem closeSc_ok {ids vs : List Int} {t : Ty} (h : t.Ok) : (closeSc ids t vs).ty.Ok := sub_ok (closeS_ok vs [] (by simp)) h

/-- A made entry. -/
def MadeE (lv : List Ty) (x : En) : Prop := x.name ∈ varNames ∧ ∃ t, Made (· ∈ lv) t ∧ (x.sc = ⟨0, t⟩ ∨ ∃ ids : List Int, ids.length = 2 ∧ x.sc = closeSc ids t (vars [t]))
theorem MadeE.ok {lv : List Ty} (h : ∀ t, t ∈ lv → t.args = []) {x : En} (m : MadeE lv x) : x.sc.ty.Ok := by
  obtain ⟨_, t, mt, e | ⟨ids, _, e⟩⟩ := m
  · rw [e]; exact mt.ok h
  · rw [e]; exact closeSc_ok (mt.ok h)

end Go.Ab.Lw
namespace Go.Ab.Lw
open Ev
set_option maxRecDepth 10000
theorem c433 : (orcL AP).p 433 [] = some [.bool true] := Fc.p_of (k := 400) (n := 40) (by kernel_rfl)
end Go.Ab.Lw
namespace Go.Ab.Lw
open Ev
set_option maxRecDepth 10000
set_option linter.unusedSimpArgs false
/-- A type whose variables are among few. -/
structure Good (S : List Ty) (t : Ty) : Prop where
  ok : t.Ok
  wf : t.Wf
  sub : ∀ x ∈ t.lvs 1, x ∈ S

theorem nodes_var {t : Ty} (hW : t.Wf) : ∀ x ∈ t.nodes, x.kind = 1 → x ∈ t.lvs 1 := by
  revert hW
  refine Ty.rec1 (p := fun t => t.Wf → ∀ x ∈ t.nodes, x.kind = 1 → x ∈ t.lvs 1) ?_ t
  intro t ih hW x hx hk
  rw [Ty.nodes_eq] at hx
  rw [Ty.lvs_eq]
  simp only [List.mem_cons, List.mem_flatMap] at hx
  rcases hx with rfl | ⟨y, hy, hx⟩
  · have ea := hW.var hk
    simp [hk, ea]
  · have : ¬ (t.kind = 1 ∧ t.args.length = 0) := by
      rintro ⟨_, h⟩
      have : t.args = [] := by simpa using h
      rw [this] at hy; simp at hy
    rw [if_neg this]
    simp only [List.mem_flatMap]
    exact ⟨y, hy, ih y hy (hW.kid y hy) x hx hk⟩

theorem sub_lvs {s : List As} (hs : ∀ a ∈ s, a.ty.lvs 1 = []) {t : Ty} (hW : t.Wf) : ∀ x ∈ (t.sub s).lvs 1, x ∈ t.lvs 1 := by
  revert hW
  refine Ty.rec1 (p := fun t => t.Wf → ∀ x ∈ (t.sub s).lvs 1, x ∈ t.lvs 1) ?_ t
  intro t ih hW x hx
  rw [Ty.sub_eq] at hx
  split at hx
  · rename_i hk
    cases hf : fnd s t.id with
    | none => rw [hf] at hx; exact hx
    | some a =>
      rw [hf] at hx
      obtain ⟨b, hb, rfl⟩ := fnd_mem hf
      rw [Option.getD_some, hs b hb] at hx
      simp at hx
  · rename_i hk
    rw [Ty.lvs_eq] at hx
    rw [if_neg (fun h => hk h.1)] at hx
    rw [Ty.lvs_eq, if_neg (fun h => hk h.1)]
    simp only [List.mem_flatMap, List.mem_map] at hx ⊢
    obtain ⟨_, ⟨y, hy, rfl⟩, hx⟩ := hx
    exact ⟨y, hy, ih y hy (hW.kid y hy) x hx⟩
theorem closeS_all {P : Ty → Prop} (hP : ∀ n : Int, P (tyBound n)) {ids : List Int} : ∀ (vs : List Int) (acc : List As), (∀ a ∈ acc, P a.ty) → ∀ a ∈ closeS ids vs acc, P a.ty
  | [], acc, h => by simpa [closeS] using h
  | v :: r, acc, h => by
    simp only [closeS]
    refine closeS_all hP r _ ?_
    split
    · intro a ha
      simp at ha
      rcases ha with ha | rfl
      · exact h a ha
      · exact hP _
    · exact h
theorem tyBound_wf {n : Int} : (tyBound n).Wf := ⟨by simp [tyBound], by simp [tyBound]⟩
theorem tyBound_lvs {n : Int} : (tyBound n).lvs 1 = [] := by rw [Ty.lvs_eq]; simp [tyBound]
theorem Good.close {S : List Ty} {t : Ty} (h : Good S t) (ids vs : List Int) : Good S (closeSc ids t vs).ty where
  ok := closeSc_ok h.ok
  wf := sub_wf (closeS_all (P := Ty.Wf) (fun _ => tyBound_wf) vs [] (by simp)) h.wf
  sub := fun x hx => h.sub x (sub_lvs (closeS_all (P := fun t => t.lvs 1 = []) (fun _ => tyBound_lvs) vs [] (by simp)) h.wf x hx)
theorem Made.good {lv : List Ty} (h : ∀ t, t ∈ lv → t.args = []) {t : Ty} (m : Made (· ∈ lv) t) : Good lv t := ⟨m.ok h, m.wf h, m.lvs h (by decide)⟩
theorem MadeE.good {lv : List Ty} (h : ∀ t, t ∈ lv → t.args = []) {x : En} (m : MadeE lv x) : Good lv x.sc.ty := by
  obtain ⟨_, t, mt, e | ⟨ids, _, e⟩⟩ := m
  · rw [e]; exact mt.good h
  · rw [e]; exact (mt.good h).close _ _

theorem g55 {S : List Ty} (hf : S.length < 1099511627776) {l : List Ty} (hS : Sm l) (hG : ∀ t ∈ l, Good S t) : (orcL AP).p 55 [.lst (l.map Ty.pv)] = some [.lst ((vars l).map vI)] := by
  refine c55 (S := S.map Ty.id) (by simpa using hf) hS (fun t ht => (hG t ht).ok) ?_
  intro x hx hk
  simp only [List.mem_flatMap] at hx
  obtain ⟨t, ht, hx⟩ := hx
  exact List.mem_map_of_mem ((hG t ht).sub x (nodes_var (hG t ht).wf x hx hk))
end Go.Ab.Lw
namespace Go.Ab.Lw
open Ev
set_option maxRecDepth 10000
set_option linter.unusedSimpArgs false
theorem vars_len {S : List Ty} (hf : S.length < 1099511627776) {l : List Ty} (hG : ∀ t ∈ l, Good S t) : Sm (vars l) := by
  have c0 : Coll (S.map Ty.id) [] := coll_nil (by simpa using hf)
  refine (c0.fold (l := l.flatMap Ty.nodes) ?_).len
  intro x hx hk
  simp only [List.mem_flatMap] at hx
  obtain ⟨t, ht, hx⟩ := hx
  exact List.mem_map_of_mem ((hG t ht).sub x (nodes_var (hG t ht).wf x hx hk))

end Go.Ab.Lw
namespace Go.Ab.Lw
open Ev
set_option maxRecDepth 10000
set_option linter.unusedSimpArgs false
def leavesK : List Ty := [tyVar 0, tyVar 1, tyVar 2, tyVar 3, tyRigid 0 0]
theorem leavesK_bare : ∀ t, t ∈ leavesK → t.args = [] := by
  intro t ht
  simp [leavesK] at ht
  rcases ht with rfl | rfl | rfl | rfl | rfl <;> rfl

theorem L434 {L : List Int} (hL : Sm L) {t : Ty} : ∀ (n : Nat), n ≤ 4 → ∀ (ids : List Int) (i : Nat), ids.length + n ≤ 4 → (∀ x ∈ ids, 0 ≤ x ∧ x < 5) → i ≤ L.length → ∃ (r : List Int) (j : Nat),
    cl AP g434L0 ⟨[(0, .sptr 0 0), (4, .lptr 4 0), (6, .lptr 6 0), (7, .own (ids.map vI) 0), (8, .pv (vI n))],
        [(4, [.pv (vI 0), .pv (.str []), .pv (vI 0), .pv (vI 0), .own [] 1]), (6, [.pv (vI t.kind), .pv (.str t.name), .pv (vI t.id), .pv (vI t.home), .pv (.lst (t.args.map Ty.pv))])], tp L i, [ids.length, 0]⟩ =
      some (.exit 0, ⟨[(0, .sptr 0 0), (4, .lptr 4 0), (6, .lptr 6 0), (7, .own (r.map vI) 0), (8, .pv (vI 0)), (20, .pv (.bool false))],
        [(4, [.pv (vI 0), .pv (.str []), .pv (vI 0), .pv (vI 0), .own [] 1]), (6, [.pv (vI t.kind), .pv (.str t.name), .pv (vI t.id), .pv (vI t.home), .pv (.lst (t.args.map Ty.pv))])], tp L j, [r.length, 0]⟩) ∧ r.length ≤ 4 ∧ (∀ x ∈ r, 0 ≤ x ∧ x < 5) ∧ j ≤ L.length
  | 0, _, ids, i, ha, hm, hi => by
    refine ⟨ids, i, ?_, by omega, hm, hi⟩
    rw [g434L0_eq]
    simp [g434B0]
  | n + 1, hn, ids, i, ha, hm, hi => by
    obtain ⟨q, j1, e1, q0, q5, hj1⟩ := c68 hL hi (n := 5) (by omega) (by omega)
    obtain ⟨r, j, e, hr, hmr, hj⟩ := L434 hL (t := t) n (by omega) (ids ++ [q]) j1 (by simp; omega) (by
      intro x hx
      simp at hx
      rcases hx with hx | rfl
      · exact hm x hx
      · exact ⟨q0, q5⟩) hj1
    have hb : (ids.length + 1) * 8 ≤ 140737488355328 := by omega
    have hh : headSz 1 (ids.map vI) = true := el_int.head ids
    have hn1 : ((n : Int) + 1 - 1) = n := by omega
    have hn2 : (0 : Int) < (n : Int) + 1 := by omega
    refine ⟨r, j, ?_, hr, hmr, hj⟩
    rw [g434L0_eq] at e ⊢
    simp at e1 e
    simp (disch := omega) [-getElem?_pos, g434B0, hn1, hn2, e1, hb, hh, wrap_id]
    rw [g434L0_eq]
    simp [e]

/-- What law 14 makes: a type and some numbers. -/
theorem c434 {L : List Int} (hL : Sm L) (bits : Int) {i : Nat} (hi : i ≤ L.length) : ∃ (t : Ty) (ids : List Int) (j : Nat),
    (orcL AP).i 434 [.sptr 0 0, .pv (vI bits)] (tp L i) [] = some ([t.av, .own (ids.map vI) 0], tp L j, [ids.length]) ∧ Made (· ∈ leavesK) t ∧ ids.length ≤ 4 ∧ (∀ x ∈ ids, 0 ≤ x ∧ x < 5) ∧ j ≤ L.length := by
  obtain ⟨ds, ed, hda, hds⟩ := c32 bits
  have v4 := c70_4 (sh := tp L i) calm_tp
  have r0 := c71 (n := 0) (m := 0)
  obtain ⟨t, j1, e1, mt, hj1⟩ := c27 hL hds hda (lv := leavesK) (by simp [Sm, leavesK]) 3 (by omega) i hi
  obtain ⟨k, j2, e2, k0, k4, hj2⟩ := c68 hL hj1 (n := 4) (by omega) (by omega)
  obtain ⟨m, rfl, hm⟩ := natI (n := 4) k0 (by simpa using k4)
  obtain ⟨r, j, e, hr, hmr, hj⟩ := L434 hL (t := t) m (by omega) [] j2 (by simp; omega) (by simp) hj2
  refine ⟨t, r, j, ?_, mt, hr, hmr, hj⟩
  rw [g434L0_eq] at e
  simp [leavesK, tyVar, tyRigid] at ed v4 r0 e1 e2 e
  rw [callI_body (af := g434) rfl (by simp [g434])]
  simp (disch := omega) [-getElem?_pos, g434, ed, v4, r0, tyVar, e1, e2, g434L0_eq, e]
end Go.Ab.Lw
namespace Go.Ab.Lw
open Ev
set_option maxRecDepth 10000
set_option linter.unusedSimpArgs false
/-- One more number. -/
def addU (out : List Int) (x : Int) : List Int := if x ∈ out then out else out ++ [x]
theorem Coll.putU {S out : List Int} (h : Coll S out) {x : Int} (hx : x ∈ S) : Coll S (addU out x) := by
  unfold addU
  split
  · exact h
  · rename_i e
    refine ⟨?_, ?_, h.few⟩
    · rw [List.nodup_append]
      refine ⟨h.nodup, by simp, ?_⟩
      intro a ha b hb
      simp at hb
      subst hb
      intro e'; subst e'; exact e ha
    · intro y hy
      simp at hy
      rcases hy with hy | rfl
      · exact h.sub y hy
      · exact hx
theorem Coll.foldU {S : List Int} : ∀ {l : List Int} {out : List Int}, Coll S out → (∀ x ∈ l, x ∈ S) → Coll S (l.foldl addU out)
  | [], _, h, _ => h
  | x :: r, out, h, hx => by
    simp only [List.foldl_cons]
    exact Coll.foldU (h.putU (hx x (by simp))) (fun y hy => hx y (by simp [hy]))

/-- The numbers of the nodes of kind 2. -/
def bnd (x : Ty) : List Int := if x.kind = 2 then [x.id] else []
def seqB (t : Ty) : List Int := t.nodes.flatMap bnd
theorem seqB_eq (t : Ty) : seqB t = bnd t ++ t.args.flatMap seqB := by
  unfold seqB
  rw [Ty.nodes_eq, List.flatMap_cons, List.flatMap_assoc]

/-! ### The reference's -/
theorem L442 {S : List Int} {t : Ty} (hS : Sm t.args) (h : ∀ x ∈ t.args, ∀ out, Coll S out → (orcL AP).i 442 [.own (out.map vI) 0, .pv x.pv] [] [out.length] = some ([.own (((seqB x).foldl addU out).map vI) 0], [], [((seqB x).foldl addU out).length]))
    (hk : ∀ y ∈ t.args.flatMap seqB, y ∈ S) : ∀ (n i : Nat), t.args.length - i = n → i ≤ t.args.length → ∀ out, Coll S out →
    cl AP g442L0 ⟨[(0, .own (out.map vI) 0), (3, .lptr 3 0), (5, .pv (vI i))], [(3, [.pv (vI t.kind), .pv (.str t.name), .pv (vI t.id), .pv (vI t.home), .pv (.lst (t.args.map Ty.pv))])], [], [out.length]⟩ =
      some (.exit 0, ⟨[(0, .own ((((t.args.drop i).flatMap seqB).foldl addU out).map vI) 0), (3, .lptr 3 0), (5, .pv (vI t.args.length)), (25, .pv (.bool false))], [(3, [.pv (vI t.kind), .pv (.str t.name), .pv (vI t.id), .pv (vI t.home), .pv (.lst (t.args.map Ty.pv))])], [], [(((t.args.drop i).flatMap seqB).foldl addU out).length]⟩)
  | 0, i, hn, hi, out, hc => by
    have : i = t.args.length := by omega
    subst this
    rw [g442L0_eq]
    simp [g442B0]
  | n + 1, i, hn, hi, out, hc => by
    have hi : i < t.args.length := by omega
    obtain ⟨x, hx⟩ := getO hi
    unfold Sm at hS
    have hkx : ∀ y ∈ seqB x, y ∈ S := fun y hy => hk y (by simp only [List.mem_flatMap]; exact ⟨x, memO hx, hy⟩)
    have k := h x (memO hx) out hc
    have ih := L442 hS h hk n (i + 1) (by omega) (by omega) _ (hc.foldU hkx)
    rw [g442L0_eq] at ih ⊢
    rw [dropC hx]
    simp at k ih
    simp (disch := omega) [-getElem?_pos, g442B0, hx, hi, k, wrap_id]
    rw [g442L0_eq]
    simp [ih]

theorem c442 {S : List Int} {t : Ty} (hO : t.Ok) (hk : ∀ y ∈ seqB t, y ∈ S) : ∀ out, Coll S out →
    (orcL AP).i 442 [.own (out.map vI) 0, .pv t.pv] [] [out.length] = some ([.own (((seqB t).foldl addU out).map vI) 0], [], [((seqB t).foldl addU out).length]) := by
  revert hO hk
  refine Ty.rec1 (p := fun t => t.Ok → (∀ y ∈ seqB t, y ∈ S) → ∀ out, Coll S out →
    (orcL AP).i 442 [.own (out.map vI) 0, .pv t.pv] [] [out.length] = some ([.own (((seqB t).foldl addU out).map vI) 0], [], [((seqB t).foldl addU out).length])) ?_ t
  intro t ih hO hk out hc
  rw [seqB_eq] at hk ⊢
  have hkb : ∀ y ∈ bnd t, y ∈ S := fun y hy => hk y (List.mem_append_left _ hy)
  have hka : ∀ y ∈ t.args.flatMap seqB, y ∈ S := fun y hy => hk y (List.mem_append_right _ hy)
  have h := L442 (S := S) hO.sm (fun x hx out hc => ih x hx (hO.kid x hx) (fun y hy => hka y (by simp only [List.mem_flatMap]; exact ⟨x, hx, hy⟩)) out hc) hka _ 0 rfl (by omega) _ (hc.foldU hkb)
  have hl := hc.len
  have k := c95 hl (y := t.id)
  unfold Sm at hl
  have hb : (out.length + 1) * 8 ≤ 140737488355328 := by omega
  have hh : headSz 1 (out.map vI) = true := el_int.head out
  rw [callI_body (af := g442) rfl (by simp [g442]), List.foldl_append]
  rw [g442L0_eq] at h
  by_cases e1 : t.kind = 2
  · by_cases e2 : t.id ∈ out
    · rw [decide_eq_true e2] at k
      simp [bnd, e1, addU, e2] at h
      simp [g442, e1, k, g442L0_eq, h, bnd, addU, e2]
    · rw [decide_eq_false e2] at k
      simp [bnd, e1, addU, e2] at h
      simp [g442, e1, k, g442L0_eq, h, bnd, addU, e2, hb, hh]
  · simp [bnd, e1] at h
    simp [g442, e1, g442L0_eq, h, bnd]
end Go.Ab.Lw
namespace Go.Ab.Lw
open Ev
set_option maxRecDepth 10000
set_option linter.unusedSimpArgs false
mutual
def Ty.pbT : Ty → Option (List Int)
  | ⟨k, _, i, _, as⟩ => if k = 2 then some [i] else if k = 5 then none else Ty.pbL [] as
def Ty.pbL (out : List Int) : List Ty → Option (List Int)
  | [] => some out
  | a :: r => match a.pbT with | none => none | some l => Ty.pbL (l.foldl addU out) r
end
theorem Ty.pbT_eq (t : Ty) : t.pbT = if t.kind = 2 then some [t.id] else if t.kind = 5 then none else Ty.pbL [] t.args := by
  cases t; simp only [Ty.pbT]
def rB : Option (List Int) → List PV
  | some l => [.lst (l.map vI), .bool true]
  | none => [.lst [], .bool false]

theorem pbL_coll {S : List Int} : ∀ {l : List Ty}, (∀ x ∈ l, ∀ r, x.pbT = some r → Coll S r) → ∀ {out r : List Int}, Coll S out → Ty.pbL out l = some r → Coll S r
  | [], _, out, r, hc, h => by simp only [Ty.pbL] at h; cases h; exact hc
  | a :: l, ha, out, r, hc, h => by
    simp only [Ty.pbL] at h
    cases e : a.pbT with
    | none => rw [e] at h; cases h
    | some q =>
      rw [e] at h
      exact pbL_coll (fun x hx => ha x (by simp [hx])) (hc.foldU (ha a (by simp) q e).sub) h
theorem pbT_coll {S : List Int} (hf : S.length < 1099511627776) {t : Ty} (hk : ∀ y ∈ seqB t, y ∈ S) : ∀ r, t.pbT = some r → Coll S r := by
  revert hk
  refine Ty.rec1 (p := fun t => (∀ y ∈ seqB t, y ∈ S) → ∀ r, t.pbT = some r → Coll S r) ?_ t
  intro t ih hk r h
  rw [seqB_eq] at hk
  rw [Ty.pbT_eq] at h
  by_cases e : t.kind = 2
  · rw [if_pos e] at h
    cases h
    exact ⟨by simp, by intro y hy; exact hk y (List.mem_append_left _ (by simpa [bnd, e] using hy)), hf⟩
  · rw [if_neg e] at h
    by_cases e' : t.kind = 5
    · rw [if_pos e'] at h; cases h
    · rw [if_neg e'] at h
      exact pbL_coll (fun x hx => ih x hx (fun y hy => hk y (List.mem_append_right _ (by simp only [List.mem_flatMap]; exact ⟨x, hx, hy⟩)))) ⟨by simp, by simp, hf⟩ h

theorem L441b {t : Ty} {l : List Int} (hl : Sm l) {S : List Int} (hs : ∀ x ∈ l, x ∈ S) {i : Nat} : ∀ (n k : Nat), l.length - k = n → k ≤ l.length → ∀ out, Coll S out →
    cl AP g441L1 ⟨[(4, .own (out.map vI) 0), (21, .pv (.lst (t.args.map Ty.pv))), (22, .pv (vI t.args.length)), (23, .pv (vI i)), (34, .pv (.lst (l.map vI))), (35, .pv (vI l.length)), (36, .pv (vI k))], [], [], [out.length]⟩ =
      some (.exit 3, ⟨[(4, .own (((l.drop k).foldl addU out).map vI) 0), (21, .pv (.lst (t.args.map Ty.pv))), (22, .pv (vI t.args.length)), (23, .pv (vI i)), (34, .pv (.lst (l.map vI))), (35, .pv (vI l.length)), (36, .pv (vI l.length)), (37, .pv (.bool false))], [], [], [((l.drop k).foldl addU out).length]⟩)
  | 0, k, hn, hk, out, hc => by
    have : k = l.length := by omega
    subst this
    rw [g441L1_eq]
    simp [g441B1]
  | n + 1, k, hn, hk, out, hc => by
    have hk : k < l.length := by omega
    obtain ⟨x, hx⟩ := getO hk
    have hcl := hc.len
    have c := c98 hcl (y := x)
    unfold Sm at hl hcl
    have hb : (out.length + 1) * 8 ≤ 140737488355328 := by omega
    have hh : headSz 1 (out.map vI) = true := el_int.head out
    have ih := L441b (t := t) hl hs (i := i) n (k + 1) (by omega) (by omega) _ (hc.putU (hs x (memO hx)))
    rw [g441L1_eq] at ih ⊢
    rw [dropC hx]
    by_cases e : x ∈ out
    · rw [decide_eq_true e] at c
      simp [addU, e] at ih
      simp (disch := omega) [-getElem?_pos, g441B1, hx, hk, c, addU, e, wrap_id]
      rw [g441L1_eq]
      simp [ih]
    · rw [decide_eq_false e] at c
      simp [addU, e] at ih
      simp (disch := omega) [-getElem?_pos, g441B1, hx, hk, c, addU, e, wrap_id, hb, hh]
      rw [g441L1_eq]
      simp [ih]

theorem L441 {S : List Int} (hf : S.length < 1099511627776) {t : Ty} (hS : Sm t.args) (h : ∀ x ∈ t.args, (orcL AP).p 441 [x.pv] = some (rB x.pbT))
    (hk : ∀ y ∈ t.args.flatMap seqB, y ∈ S) : ∀ (n i : Nat), t.args.length - i = n → i ≤ t.args.length → ∀ out, Coll S out → ∃ q : Nat,
    cl AP g441L0 ⟨[(4, .own (out.map vI) 0), (21, .pv (.lst (t.args.map Ty.pv))), (22, .pv (vI t.args.length)), (23, .pv (vI i))], [], [], [out.length]⟩ =
      match Ty.pbL out (t.args.drop i) with
      | some r => some (.exit 1, ⟨[(4, .own (r.map vI) 0), (21, .pv (.lst (t.args.map Ty.pv))), (22, .pv (vI t.args.length)), (23, .pv (vI t.args.length)), (24, .pv (.bool false))], [], [], [r.length]⟩)
      | none => some (.ret, ⟨[(2, .clp []), (3, .pv (.bool false))], [], [], [q]⟩)
  | 0, i, hn, hi, out, hc => by
    have : i = t.args.length := by omega
    subst this
    refine ⟨0, ?_⟩
    rw [g441L0_eq]
    simp [g441B0, Ty.pbL]
  | n + 1, i, hn, hi, out, hc => by
    have hi : i < t.args.length := by omega
    obtain ⟨x, hx⟩ := getO hi
    unfold Sm at hS
    have hkx : ∀ y ∈ seqB x, y ∈ S := fun y hy => hk y (by simp only [List.mem_flatMap]; exact ⟨x, memO hx, hy⟩)
    have k := h x (memO hx)
    rw [dropC hx]
    simp only [Ty.pbL]
    cases e : x.pbT with
    | none =>
      refine ⟨out.length, ?_⟩
      rw [g441L0_eq]
      rw [e] at k
      simp [rB] at k
      simp (disch := omega) [-getElem?_pos, g441B0, hx, hi, k, wrap_id]
    | some l =>
      have hcl := pbT_coll hf hkx l e
      rw [e] at k
      have k2 := L441b (t := t) hcl.len hcl.sub (i := i) _ 0 rfl (by omega) out hc
      obtain ⟨q, ih⟩ := L441 hf hS h hk n (i + 1) (by omega) (by omega) _ (hc.foldU hcl.sub)
      refine ⟨q, ?_⟩
      rw [g441L0_eq] at ih ⊢
      rw [g441L1_eq] at k2
      simp [rB] at k k2 ih
      simp (disch := omega) [-getElem?_pos, g441B0, hx, hi, k, wrap_id]
      rw [g441L1_eq]
      simp (disch := omega) [k2, wrap_id]
      rw [g441L0_eq]
      simp [ih]

theorem c441 {S : List Int} (hf : S.length < 1099511627776) {t : Ty} (hO : t.Ok) (hk : ∀ y ∈ seqB t, y ∈ S) : (orcL AP).p 441 [t.pv] = some (rB t.pbT) := by
  revert hO hk
  refine Ty.rec1 (p := fun t => t.Ok → (∀ y ∈ seqB t, y ∈ S) → (orcL AP).p 441 [t.pv] = some (rB t.pbT)) ?_ t
  intro t ih hO hk
  rw [seqB_eq] at hk
  have hka : ∀ y ∈ t.args.flatMap seqB, y ∈ S := fun y hy => hk y (List.mem_append_right _ hy)
  obtain ⟨q, h⟩ := L441 hf hO.sm (fun x hx => ih x hx (hO.kid x hx) (fun y hy => hka y (by simp only [List.mem_flatMap]; exact ⟨x, hx, hy⟩))) hka _ 0 rfl (by omega) [] ⟨by simp, by simp, hf⟩
  rw [callP_body (af := g441) rfl rfl (by decide), Ty.pbT_eq]
  rw [g441L0_eq] at h
  simp at h
  by_cases e1 : t.kind = 2
  · simp [g441, e1, rB]
  · by_cases e2 : t.kind = 5
    · simp [g441, e2, rB]
    · cases e : Ty.pbL [] t.args with
      | none => simp [e] at h; simp [g441, e1, e2, g441L0_eq, h, e, rB]
      | some r => simp [e] at h; simp [g441, e1, e2, g441L0_eq, h, e, rB]
end Go.Ab.Lw
namespace Go.Ab.Lw
open Ev
set_option maxRecDepth 10000
set_option linter.unusedSimpArgs false
mutual
def Ty.hasK (k : Int) : Ty → Bool
  | ⟨q, _, _, _, as⟩ => decide (q = k) || Ty.hasKs k as
def Ty.hasKs (k : Int) : List Ty → Bool
  | [] => false
  | a :: r => a.hasK k || Ty.hasKs k r
end
theorem Ty.hasKs_any (k : Int) : ∀ l : List Ty, Ty.hasKs k l = l.any (Ty.hasK k)
  | [] => by simp [Ty.hasKs]
  | a :: r => by simp [Ty.hasKs, Ty.hasKs_any k r]
theorem Ty.hasK_eq (k : Int) (t : Ty) : t.hasK k = (decide (t.kind = k) || t.args.any (Ty.hasK k)) := by
  cases t; simp only [Ty.hasK, Ty.hasKs_any]

theorem L351 {t : Ty} {k : Int} (hS : Sm t.args) (h : ∀ x ∈ t.args, (orcL AP).p 351 [x.pv, vI k] = some [.bool (x.hasK k)]) : ∀ (n i : Nat), t.args.length - i = n → i ≤ t.args.length →
    cl AP g351L0 ⟨[(1, .pv (vI k)), (2, .lptr 2 0), (5, .pv (vI i))], [(2, [.pv (vI t.kind), .pv (.str t.name), .pv (vI t.id), .pv (vI t.home), .pv (.lst (t.args.map Ty.pv))])], [], []⟩ =
      if (t.args.drop i).any (Ty.hasK k) = true then some (.ret, ⟨[(4, .pv (.bool true))], [], [], []⟩)
      else some (.exit 0, ⟨[(1, .pv (vI k)), (2, .lptr 2 0), (5, .pv (vI t.args.length)), (14, .pv (.bool false))], [(2, [.pv (vI t.kind), .pv (.str t.name), .pv (vI t.id), .pv (vI t.home), .pv (.lst (t.args.map Ty.pv))])], [], []⟩)
  | 0, i, hn, hi => by
    have : i = t.args.length := by omega
    subst this
    rw [g351L0_eq]
    simp [g351B0]
  | n + 1, i, hn, hi => by
    have hi : i < t.args.length := by omega
    obtain ⟨x, hx⟩ := getO hi
    unfold Sm at hS
    have c := h x (memO hx)
    have ih := L351 hS h n (i + 1) (by omega) (by omega)
    rw [g351L0_eq] at ih ⊢
    rw [dropC hx, List.any_cons]
    cases e : x.hasK k with
    | true =>
      rw [e] at c
      simp at c
      simp (disch := omega) [-getElem?_pos, g351B0, hx, hi, c]
    | false =>
      rw [e] at c
      simp at c
      rw [Bool.false_or, ← ih]
      simp (disch := omega) [-getElem?_pos, g351B0, hx, hi, c, wrap_id]
      rw [g351L0_eq]
      simp [g351B0]
theorem c351 {t : Ty} {k : Int} (hO : t.Ok) : (orcL AP).p 351 [t.pv, vI k] = some [.bool (t.hasK k)] := by
  revert hO
  refine Ty.rec1 (p := fun t => t.Ok → (orcL AP).p 351 [t.pv, vI k] = some [.bool (t.hasK k)]) ?_ t
  intro t ih hO
  have h := L351 (k := k) hO.sm (fun x hx => ih x hx (hO.kid x hx)) _ 0 rfl (by omega)
  rw [callP_body (af := g351) rfl rfl (by decide), Ty.hasK_eq]
  rw [g351L0_eq] at h
  by_cases e : t.kind = k
  · simp [g351, e]
  · cases e' : t.args.any (Ty.hasK k) with
    | true => simp only [List.drop_zero, e'] at h; simp at h; simp [g351, e, g351L0_eq, h]
    | false => simp only [List.drop_zero, e'] at h; simp at h; simp [g351, e, g351L0_eq, h]

/-! ### In order -/
def rngB : Int → List Int → Bool
  | _, [] => true
  | i, x :: r => decide (x = i) && rngB (i + 1) r

theorem L435 {l : List Int} (hS : Sm l) : ∀ (n i : Nat), l.length - i = n → i ≤ l.length →
    cl AP g435L0 ⟨[(28, .pv (.lst (l.map vI))), (29, .pv (vI l.length)), (30, .pv (vI i))], [], [], []⟩ =
      if rngB i (l.drop i) = true then some (.exit 0, ⟨[(28, .pv (.lst (l.map vI))), (29, .pv (vI l.length)), (30, .pv (vI l.length)), (31, .pv (.bool false))], [], [], []⟩)
      else some (.ret, ⟨[(2, .pv (.bool false))], [], [], []⟩)
  | 0, i, hn, hi => by
    have : i = l.length := by omega
    subst this
    rw [g435L0_eq]
    simp [g435B0, rngB]
  | n + 1, i, hn, hi => by
    have hi : i < l.length := by omega
    obtain ⟨x, hx⟩ := getO hi
    unfold Sm at hS
    have ih := L435 hS n (i + 1) (by omega) (by omega)
    simp at ih
    rw [g435L0_eq, dropC hx]
    by_cases e : x = i
    · have e' : (i : Int) = x := e.symm
      simp (disch := omega) [-getElem?_pos, g435B0, hx, hi, e, rngB, wrap_id, ih]
    · have e' : ¬ (i : Int) = x := fun h => e h.symm
      simp (disch := omega) [-getElem?_pos, g435B0, hx, hi, e, e', rngB]

theorem L436 {c : Sc} {l : List Int} (hS : Sm l) : ∀ (n i : Nat), l.length - i = n → i ≤ l.length →
    cl AP g436L0 ⟨[(1, .lptr 1 0), (3, .own (l.map vI) 0), (4, .pv (vI i))], [(1, [.pv (vI c.id), .pv (vI c.ty.kind), .pv (.str c.ty.name), .pv (vI c.ty.id), .pv (vI c.ty.home), .pv (.lst (c.ty.args.map Ty.pv))])], [], [l.length]⟩ =
      if rngB i (l.drop i) = true then some (.exit 0, ⟨[(1, .lptr 1 0), (3, .own (l.map vI) 0), (4, .pv (vI l.length)), (20, .pv (.bool false))], [(1, [.pv (vI c.id), .pv (vI c.ty.kind), .pv (.str c.ty.name), .pv (vI c.ty.id), .pv (vI c.ty.home), .pv (.lst (c.ty.args.map Ty.pv))])], [], [l.length]⟩)
      else some (.ret, ⟨[(2, .pv (.bool false))], [], [], [l.length]⟩)
  | 0, i, hn, hi => by
    have : i = l.length := by omega
    subst this
    rw [g436L0_eq]
    simp [g436B0, rngB]
  | n + 1, i, hn, hi => by
    have hi : i < l.length := by omega
    obtain ⟨x, hx⟩ := getO hi
    unfold Sm at hS
    have ih := L436 (c := c) hS n (i + 1) (by omega) (by omega)
    simp at ih
    rw [g436L0_eq, dropC hx]
    by_cases e : x = i
    · simp (disch := omega) [-getElem?_pos, g436B0, hx, hi, e, rngB, wrap_id, ih]
    · simp (disch := omega) [-getElem?_pos, g436B0, hx, hi, e, rngB]

/-- The quantified variables of a type in order. -/
def bndU (t : Ty) : List Int := (seqB t).foldl addU []
def validSc (c : Sc) : Bool := validT c.ty && !c.ty.hasK 5 && rngB 0 (bndU c.ty) && decide ((bndU c.ty).length = c.id)

theorem c436 {S : List Int} (hf : S.length < 1099511627776) {c : Sc} (hO : c.ty.Ok) (hN : c.ty.Nm) (hk : ∀ y ∈ seqB c.ty, y ∈ S) : (orcL AP).p 436 [c.pv] = some [.bool (validSc c)] := by
  have k1 := c30 hO hN
  have k2 := c351 (k := 5) hO
  have c0 : Coll S [] := ⟨by simp, by simp, hf⟩
  have k3 := c442 hO hk [] c0
  have hl := (c0.foldU hk).len
  have h := L436 (c := c) hl _ 0 rfl (by omega)
  rw [callP_body (af := g436) rfl rfl (by decide)]
  unfold validSc bndU
  rw [g436L0_eq] at h
  simp at k1 k2 k3
  cases e1 : validT c.ty with
  | false => rw [e1] at k1; simp [g436, k1]
  | true =>
    rw [e1] at k1
    cases e2 : c.ty.hasK 5 with
    | true => rw [e2] at k2; simp [g436, k1, k2]
    | false =>
      rw [e2] at k2
      cases e3 : rngB 0 ((seqB c.ty).foldl addU []) with
      | true => simp [e3] at h; simp [g436, k1, k2, k3, g436L0_eq, h]; rw [Bool.eq_iff_iff]; simp
      | false => simp [e3] at h; simp [g436, k1, k2, k3, g436L0_eq, h]
end Go.Ab.Lw
namespace Go.Ab.Lw
open Ev
set_option maxRecDepth 10000
set_option linter.unusedSimpArgs false
theorem mem_foldU : ∀ {l : List Int} {out : List Int} {x : Int}, x ∈ l.foldl addU out ↔ x ∈ out ∨ x ∈ l
  | [], _, _ => by simp
  | y :: l, out, x => by
    simp only [List.foldl_cons, mem_foldU, addU]
    split
    · rename_i h
      constructor
      · rintro (h1 | h1)
        · exact .inl h1
        · exact .inr (by simp [h1])
      · rintro (h1 | h1)
        · exact .inl h1
        · simp at h1
          rcases h1 with rfl | h1
          · exact .inl h
          · exact .inr h1
    · simp; constructor
      · rintro ((h1 | h1) | h1) <;> simp [h1]
      · rintro (h1 | h1 | h1) <;> simp [h1]
theorem fold_add {acc out : List Int} {x : Int} : (addU acc x).foldl addU out = addU (acc.foldl addU out) x := by
  unfold addU
  by_cases h : x ∈ acc
  · have : x ∈ acc.foldl addU out := mem_foldU.2 (.inr h)
    unfold addU at this
    simp [h, this]
  · rw [if_neg h, List.foldl_append]
    rfl
theorem fold_fold : ∀ {s acc out : List Int}, (s.foldl addU acc).foldl addU out = s.foldl addU (acc.foldl addU out)
  | [], _, _ => rfl
  | x :: s, acc, out => by
    simp only [List.foldl_cons]
    rw [fold_fold, fold_add]

theorem pbL_valid : ∀ {l : List Ty}, (∀ x ∈ l, x.pbT = if x.hasK 5 then none else some ((seqB x).foldl addU [])) → ∀ {out : List Int},
    Ty.pbL out l = if l.any (Ty.hasK 5) then none else some ((l.flatMap seqB).foldl addU out)
  | [], _, out => by simp [Ty.pbL]
  | a :: l, h, out => by
    have ha := h a (by simp)
    have ih := pbL_valid (l := l) (fun x hx => h x (by simp [hx])) (out := (seqB a).foldl addU out)
    simp only [Ty.pbL, ha]
    cases e : a.hasK 5 with
    | true => simp [e]
    | false =>
      have : ((seqB a).foldl addU []).foldl addU out = (seqB a).foldl addU out := fold_fold
      simp [e, this, ih]
theorem pb_valid {t : Ty} (hv : validT t = true) : t.pbT = if t.hasK 5 then none else some (bndU t) := by
  revert hv
  refine Ty.rec1 (p := fun t => validT t = true → t.pbT = if t.hasK 5 then none else some (bndU t)) ?_ t
  intro t ih hv
  rw [validT_eq] at hv
  rw [Ty.pbT_eq, Ty.hasK_eq]
  unfold bndU
  rw [seqB_eq]
  by_cases e1 : t.kind = 2
  · simp [e1] at hv
    obtain ⟨⟨⟨⟨_, ha⟩, _⟩, _⟩, _⟩ := hv
    simp [e1, ha, bnd, addU]
  · by_cases e2 : t.kind = 5
    · simp [e2]
    · have hb : bnd t = [] := by simp [bnd, e1]
      rw [if_neg e1, if_neg e2, hb, List.nil_append, decide_eq_false e2, Bool.false_or]
      refine pbL_valid (fun x hx => ih x hx ?_)
      by_cases e3 : t.kind = 1
      · simp [e3] at hv
        obtain ⟨⟨⟨⟨_, ha⟩, _⟩, _⟩, _⟩ := hv
        rw [ha] at hx; simp at hx
      · by_cases e4 : t.kind = 3
        · simp [e4] at hv
          obtain ⟨⟨⟨⟨⟨_, ha⟩, _⟩, _⟩, _⟩, _⟩ := hv
          rw [ha] at hx; simp at hx
        · by_cases e5 : t.kind = 4
          · simp [e5] at hv
            exact hv.2 x hx
          · simp [e1, e2, e3, e4, e5] at hv

theorem c435 {S : List Int} (hf : S.length < 1099511627776) {c : Sc} (hO : c.ty.Ok) (hN : c.ty.Nm) (hk : ∀ y ∈ seqB c.ty, y ∈ S) : (orcL AP).p 435 [c.pv] = some [.bool (validSc c)] := by
  have k1 := c441 hf hO hk
  have k2 := c29 hO hN
  rw [callP_body (af := g435) rfl rfl (by decide)]
  simp at k1 k2
  cases e1 : validT c.ty with
  | false =>
    have ev : validSc c = false := by simp [validSc, e1]
    rw [e1] at k2
    rw [ev]
    cases e2 : c.ty.pbT with
    | none => rw [e2] at k1; simp [rB] at k1; simp [g435, k1]
    | some r => rw [e2] at k1; simp [rB] at k1; simp [g435, k1, k2]
  | true =>
    rw [e1] at k2
    have hp := pb_valid e1
    cases e2 : c.ty.hasK 5 with
    | true =>
      have ev : validSc c = false := by simp [validSc, e2]
      rw [e2] at hp
      rw [hp] at k1
      rw [ev]
      simp [rB] at k1; simp [g435, k1]
    | false =>
      rw [e2] at hp
      rw [hp] at k1
      have hl := (pbT_coll hf hk _ hp).len
      have ev : validSc c = (rngB 0 (bndU c.ty) && decide ((bndU c.ty).length = c.id)) := by simp [validSc, e1, e2]
      rw [ev]
      generalize bndU c.ty = l at k1 hl hp
      have h := L435 hl _ 0 rfl (by omega)
      rw [g435L0_eq] at h
      simp [rB] at k1
      simp at h
      by_cases e3 : (l.length : Int) = c.id
      · cases e4 : rngB 0 l with
        | true => simp [e4] at h; rw [e3] at h; simp [g435, k1, k2, g435L0_eq, e3, h]
        | false => simp [e4] at h; rw [e3] at h; simp [g435, k1, k2, g435L0_eq, e3, h]
      · simp [g435, k1, k2, e3]
end Go.Ab.Lw
namespace Go.Ab.Lw
open Ev
set_option maxRecDepth 10000
set_option linter.unusedSimpArgs false
theorem L437 {t : Ty} {ids vs : List Int} (hS : Sm vs) (hi : Sm ids) : ∀ (n i : Nat), vs.length - i = n → i ≤ vs.length → ∀ acc : List As, acc.length ≤ i →
    cl AP g437L0 ⟨[(1, .pv (.lst (ids.map vI))), (2, .lptr 2 0), (4, .lptr 4 0), (5, .own (acc.map As.pv) 0), (10, .pv (.lst (vs.map vI))), (11, .pv (vI vs.length)), (12, .pv (vI i))], [(2, [.pv (vI t.kind), .pv (.str t.name), .pv (vI t.id), .pv (vI t.home), .pv (.lst (t.args.map Ty.pv))]), (4, [.pv (vI 0), .pv (vI 0), .pv (.str []), .pv (vI 0), .pv (vI 0), .own [] 1])], [], [acc.length, 0]⟩ =
      some (.exit 0, ⟨[(1, .pv (.lst (ids.map vI))), (2, .lptr 2 0), (4, .lptr 4 0), (5, .own ((closeS ids (vs.drop i) acc).map As.pv) 0), (10, .pv (.lst (vs.map vI))), (11, .pv (vI vs.length)), (12, .pv (vI vs.length)), (13, .pv (.bool false))], [(2, [.pv (vI t.kind), .pv (.str t.name), .pv (vI t.id), .pv (vI t.home), .pv (.lst (t.args.map Ty.pv))]), (4, [.pv (vI 0), .pv (vI 0), .pv (.str []), .pv (vI 0), .pv (vI 0), .own [] 1])], [], [(closeS ids (vs.drop i) acc).length, 0]⟩)
  | 0, i, hn, hi', acc, ha => by
    have : i = vs.length := by omega
    subst this
    rw [g437L0_eq]
    simp [g437B0, closeS]
  | n + 1, i, hn, hi', acc, ha => by
    have hi' : i < vs.length := by omega
    obtain ⟨x, hx⟩ := getO hi'
    unfold Sm at hS
    have k := c98 hi (y := x)
    have hb : (acc.length + 1) * 72 ≤ 140737488355328 := by omega
    rw [dropC hx]
    by_cases e : x ∈ ids
    · have ih := L437 (t := t) hS hi n (i + 1) (by omega) (by omega) (acc ++ [⟨x, tyBound acc.length⟩]) (by simp; omega)
      have ea : closeS ids (x :: vs.drop (i + 1)) acc = closeS ids (vs.drop (i + 1)) (acc ++ [⟨x, tyBound acc.length⟩]) := by simp [closeS, e]
      rw [ea]
      rw [g437L0_eq] at ih ⊢
      rw [decide_eq_true e] at k
      simp [tyBound] at ih
      simp (disch := omega) [-getElem?_pos, g437B0, hx, hi', k, wrap_id, hb, tyBound]
      rw [g437L0_eq]
      simp [ih, tyBound]
    · have ih := L437 (t := t) hS hi n (i + 1) (by omega) (by omega) acc (by omega)
      have ea : closeS ids (x :: vs.drop (i + 1)) acc = closeS ids (vs.drop (i + 1)) acc := by simp [closeS, e]
      rw [ea]
      rw [g437L0_eq] at ih ⊢
      rw [decide_eq_false e] at k
      simp at ih
      simp (disch := omega) [-getElem?_pos, g437B0, hx, hi', k, wrap_id]
      rw [g437L0_eq]
      simp [ih]

theorem c437 {S : List Ty} (hf : S.length < 1099511627776) {t : Ty} (hG : Good S t) {ids : List Int} (hi : Sm ids) : (orcL AP).p 437 [t.pv, .lst (ids.map vI)] = some [(closeSc ids t (vars [t])).pv] := by
  have hG1 : ∀ x ∈ [t], Good S x := by simpa using hG
  have k1 := g55 hf (l := [t]) (by simp [Sm]) hG1
  have hv := vars_len hf hG1
  have k2 := L437 (t := t) hv hi _ 0 rfl (by omega) [] (by simp)
  have hl := closeS_len (ids := ids) (vars [t]) []
  have k3 := c45 (s := closeS ids (vars [t]) []) (by unfold Sm at hv ⊢; simp at hl; omega) hG.ok hG.wf
  rw [callP_body (af := g437) rfl rfl (by decide)]
  rw [g437L0_eq] at k2
  simp at k1 k2 k3
  simp [g437, k1, g437L0_eq, k2, k3, closeSc]

theorem c438 {t : Ty} : (orcL AP).p 438 [t.pv] = some [(As.mk 0 t).pv] := by
  rw [callP_body (af := g438) rfl rfl (by decide)]
  simp [g438]

/-! ### What closing makes is in order -/
def gS (s : List As) (v : Int) : List Int := match fnd s v with | some u => seqB u | none => []
/-- The numbers of the variables in order. -/
def vr (x : Ty) : List Int := if x.kind = 1 then [x.id] else []
def seqV (t : Ty) : List Int := t.nodes.flatMap vr
theorem seqV_eq (t : Ty) : seqV t = vr t ++ t.args.flatMap seqV := by
  unfold seqV
  rw [Ty.nodes_eq, List.flatMap_cons, List.flatMap_assoc]
theorem flat_congr {α β : Type} {f g : α → List β} : ∀ {l : List α}, (∀ x ∈ l, f x = g x) → l.flatMap f = l.flatMap g
  | [], _ => rfl
  | x :: l, h => by simp only [List.flatMap_cons]; rw [h x (by simp), flat_congr (l := l) (fun y hy => h y (by simp [hy]))]
theorem seqB_sub {s : List As} {t : Ty} (hW : t.Wf) (hB : seqB t = []) : seqB (t.sub s) = (seqV t).flatMap (gS s) := by
  revert hW hB
  refine Ty.rec1 (p := fun t => t.Wf → seqB t = [] → seqB (t.sub s) = (seqV t).flatMap (gS s)) ?_ t
  intro t ih hW hB
  rw [seqB_eq] at hB
  have hb : bnd t = [] := (List.append_eq_nil_iff.1 hB).1
  have ha : ∀ x ∈ t.args, seqB x = [] := by
    have := (List.append_eq_nil_iff.1 hB).2
    simpa [List.flatMap_eq_nil_iff] using this
  rw [Ty.sub_eq, seqV_eq]
  by_cases e : t.kind = 1
  · have ea := hW.var e
    rw [if_pos e]
    simp [vr, e, ea, gS]
    cases hf : fnd s t.id with
    | none => simp [seqB_eq, hb, ea]
    | some u => simp
  · rw [if_neg e]
    have hb' : bnd ⟨t.kind, t.name, t.id, t.home, t.args.map (Ty.sub s)⟩ = [] := by simpa [bnd] using hb
    rw [seqB_eq, hb']
    simp [vr, e]
    rw [List.flatMap_assoc, List.flatMap_map]
    exact flat_congr (fun x hx => ih x hx (hW.kid x hx) (ha x hx))

theorem vars1 {t : Ty} : vars [t] = (seqV t).foldl addU [] := by
  unfold vars seqV
  simp only [List.flatMap_cons, List.flatMap_nil, List.append_nil]
  generalize ([] : List Int) = out
  generalize t.nodes = l
  induction l generalizing out with
  | nil => rfl
  | cons x l ih =>
    simp only [List.foldl_cons, List.flatMap_cons, List.foldl_append]
    rw [ih]
    congr 1
    by_cases e : x.kind = 1
    · by_cases e2 : x.id ∈ out <;> simp [addI, vr, e, addU, e2]
    · simp [addI, vr, e]

def enumK : Nat → List Int → List As
  | _, [] => []
  | n, v :: r => ⟨v, tyBound n⟩ :: enumK (n + 1) r
theorem enumK_len : ∀ {l : List Int} {n : Nat}, (enumK n l).length = l.length
  | [], _ => rfl
  | v :: r, n => by simp [enumK, enumK_len]
theorem closeS_enum {ids : List Int} : ∀ (vs : List Int) (acc : List As), closeS ids vs acc = acc ++ enumK acc.length (vs.filter (fun v => decide (v ∈ ids)))
  | [], acc => by simp [closeS, enumK]
  | v :: r, acc => by
    simp only [closeS]
    by_cases e : v ∈ ids
    · rw [if_pos e, closeS_enum r]
      simp [e, enumK]
    · rw [if_neg e, closeS_enum r]
      simp [e]
theorem fnd_new {v : Int} : ∀ {A B : List Int} {n : Nat}, v ∉ A → fnd (enumK n (A ++ v :: B)) v = some (tyBound (n + A.length : Nat))
  | [], B, n, _ => by simp [enumK, fnd]
  | a :: A, B, n, h => by
    simp at h
    have h1 : ¬ a = v := fun e => h.1 e.symm
    have ih := fnd_new (v := v) (A := A) (B := B) (n := n + 1) h.2
    rw [show n + (a :: A).length = n + 1 + A.length from by simp only [List.length_cons]; omega]
    simp [enumK, fnd, h1, ih]
theorem fnd_old {v : Int} : ∀ {A B : List Int} {n : Nat}, v ∈ A → ∃ i : Nat, i < A.length ∧ fnd (enumK n (A ++ B)) v = some (tyBound (n + i : Nat))
  | a :: A, B, n, h => by
    by_cases e : a = v
    · exact ⟨0, by simp, by simp [enumK, fnd, e]⟩
    · have e' : ¬ v = a := fun h => e h.symm
      simp [e'] at h
      obtain ⟨i, hi, ih⟩ := fnd_old (v := v) (A := A) (B := B) (n := n + 1) h
      refine ⟨i + 1, by simp; omega, ?_⟩
      rw [show n + (i + 1) = n + 1 + i from by omega]
      simp [enumK, fnd, e, ih]
theorem fnd_no {v : Int} : ∀ {A : List Int} {n : Nat}, v ∉ A → fnd (enumK n A) v = none
  | [], _, _ => rfl
  | a :: A, n, h => by
    simp at h
    have h1 : ¬ a = v := fun e => h.1 e.symm
    simp [enumK, fnd, h1, fnd_no h.2]
theorem seqB_bound {n : Int} : seqB (tyBound n) = [n] := by rw [seqB_eq]; simp [tyBound, bnd]

/-- 0, 1, .. -/
def iR : Nat → List Int
  | 0 => []
  | n + 1 => iR n ++ [(n : Int)]
theorem iR_len : ∀ n, (iR n).length = n
  | 0 => rfl
  | n + 1 => by simp [iR, iR_len n]
theorem mem_iR {x : Int} : ∀ {n : Nat}, x ∈ iR n ↔ 0 ≤ x ∧ x < n
  | 0 => by simp [iR]
  | n + 1 => by simp [iR, mem_iR (n := n)]; omega
theorem rngB_snoc {x : Int} : ∀ {l : List Int} {i : Int}, rngB i (l ++ [x]) = (rngB i l && decide (x = i + l.length))
  | [], i => by simp [rngB]
  | y :: l, i => by
    have e : i + 1 + (l.length : Int) = i + ((y :: l).length : Nat) := by simp; omega
    simp only [List.cons_append, rngB, rngB_snoc, e, Bool.and_assoc]
theorem rngB_iR : ∀ n, rngB 0 (iR n) = true
  | 0 => rfl
  | n + 1 => by simp [iR, rngB_snoc, rngB_iR n, iR_len]
theorem pre_foldU : ∀ {q D : List Int}, ∃ e, q.foldl addU D = D ++ e
  | [], D => ⟨[], by simp⟩
  | v :: r, D => by
    obtain ⟨e, h⟩ := pre_foldU (q := r) (D := addU D v)
    simp only [List.foldl_cons, h]
    unfold addU
    split
    · exact ⟨e, rfl⟩
    · exact ⟨v :: e, by simp⟩

theorem order {ids vs : List Int} : ∀ {q D : List Int}, vs = q.foldl addU D →
    (q.flatMap (gS (enumK 0 (vs.filter fun v => decide (v ∈ ids))))).foldl addU (iR (D.filter fun v => decide (v ∈ ids)).length) = iR (vs.filter fun v => decide (v ∈ ids)).length
  | [], D, h => by simp at h; subst h; simp
  | v :: r, D, h => by
    simp only [List.foldl_cons] at h
    have ih := order (ids := ids) (q := r) (D := addU D v) h
    rw [← ih, List.flatMap_cons, List.foldl_append]
    congr 1
    obtain ⟨e, he⟩ := pre_foldU (q := r) (D := addU D v)
    rw [he] at h
    by_cases hd : v ∈ D
    · have ed : addU D v = D := by simp [addU, hd]
      rw [ed] at h ⊢
      by_cases hi : v ∈ ids
      · obtain ⟨i, hil, hf⟩ := fnd_old (v := v) (A := D.filter fun v => decide (v ∈ ids)) (B := e.filter fun v => decide (v ∈ ids)) (n := 0) (by simp [hd, hi])
        rw [← List.filter_append, ← h] at hf
        have hg : gS (enumK 0 (vs.filter fun v => decide (v ∈ ids))) v = [(i : Int)] := by simp [gS, hf, seqB_bound]
        rw [hg]
        have : (i : Int) ∈ iR (D.filter fun v => decide (v ∈ ids)).length := mem_iR.2 ⟨by omega, by omega⟩
        simp [addU, this]
      · have hg : gS (enumK 0 (vs.filter fun v => decide (v ∈ ids))) v = [] := by
          have : v ∉ vs.filter fun v => decide (v ∈ ids) := by simp [hi]
          simp [gS, fnd_no this]
        rw [hg]
        rfl
    · have ed : addU D v = D ++ [v] := by simp [addU, hd]
      rw [ed] at h ⊢
      by_cases hi : v ∈ ids
      · have hf := fnd_new (v := v) (A := D.filter fun v => decide (v ∈ ids)) (B := e.filter fun v => decide (v ∈ ids)) (n := 0) (by simp [hd])
        have ef : (D.filter fun v => decide (v ∈ ids)) ++ v :: (e.filter fun v => decide (v ∈ ids)) = vs.filter fun v => decide (v ∈ ids) := by rw [h]; simp [hi]
        rw [ef] at hf
        have hg : gS (enumK 0 (vs.filter fun v => decide (v ∈ ids))) v = [((D.filter fun v => decide (v ∈ ids)).length : Int)] := by simp [gS, hf, seqB_bound]
        rw [hg]
        have : ((D.filter fun v => decide (v ∈ ids)).length : Int) ∉ iR (D.filter fun v => decide (v ∈ ids)).length := by rw [mem_iR]; omega
        simp [addU, this, hi, iR]
      · have hg : gS (enumK 0 (vs.filter fun v => decide (v ∈ ids))) v = [] := by
          have : v ∉ vs.filter fun v => decide (v ∈ ids) := by simp [hi]
          simp [gS, fnd_no this]
        rw [hg]
        simp [hi]

theorem bndU_close {t : Ty} {ids : List Int} (hW : t.Wf) (hB : seqB t = []) : bndU (closeSc ids t (vars [t])).ty = iR (closeSc ids t (vars [t])).id.toNat ∧ 0 ≤ (closeSc ids t (vars [t])).id := by
  unfold closeSc bndU
  simp only [closeS_enum, List.nil_append, List.length_nil, enumK_len]
  refine ⟨?_, by omega⟩
  rw [seqB_sub hW hB, vars1]
  have := order (ids := ids) (q := seqV t) (D := []) rfl
  simpa [iR] using this
end Go.Ab.Lw
namespace Go.Ab.Lw
open Ev
set_option maxRecDepth 10000
set_option linter.unusedSimpArgs false
theorem sub_nm {s : List As} (hs : ∀ a ∈ s, a.ty.Nm) {t : Ty} (h : t.Nm) : (t.sub s).Nm := by
  revert h
  refine Ty.rec1 (p := fun t => t.Nm → (t.sub s).Nm) ?_ t
  intro t ih h
  rw [Ty.sub_eq]
  split
  · cases hf : fnd s t.id with
    | none => simpa using h
    | some u => obtain ⟨a, ha, rfl⟩ := fnd_mem hf; simpa using hs a ha
  · exact ⟨h.sm, by
      intro x hx
      simp only [List.mem_map] at hx
      obtain ⟨y, hy, rfl⟩ := hx
      exact ih y hy (h.kid y hy)⟩
theorem sub_hasK {k : Int} {s : List As} (hs : ∀ a ∈ s, a.ty.hasK k = false) {t : Ty} (h : t.hasK k = false) : (t.sub s).hasK k = false := by
  revert h
  refine Ty.rec1 (p := fun t => t.hasK k = false → (t.sub s).hasK k = false) ?_ t
  intro t ih h
  rw [Ty.sub_eq]
  split
  · cases hf : fnd s t.id with
    | none => simpa using h
    | some u => obtain ⟨a, ha, rfl⟩ := fnd_mem hf; simpa using hs a ha
  · rw [Ty.hasK_eq] at h ⊢
    simp only [Bool.or_eq_false_iff, List.any_eq_false] at h ⊢
    refine ⟨h.1, ?_⟩
    intro x hx
    simp only [List.mem_map] at hx
    obtain ⟨y, hy, rfl⟩ := hx
    have := ih y hy (by simpa using h.2 y hy)
    simp [this]
theorem sub_valid {s : List As} (hs : ∀ a ∈ s, validT a.ty = true) {t : Ty} (h : validT t = true) : validT (t.sub s) = true := by
  revert h
  refine Ty.rec1 (p := fun t => validT t = true → validT (t.sub s) = true) ?_ t
  intro t ih h
  rw [Ty.sub_eq]
  split
  · cases hf : fnd s t.id with
    | none => simpa using h
    | some u => obtain ⟨a, ha, rfl⟩ := fnd_mem hf; simpa using hs a ha
  · rename_i e1
    rw [validT_eq] at h ⊢
    by_cases e2 : t.kind = 2
    · simp [e2] at h ⊢
      simp [h]
    · by_cases e3 : t.kind = 3
      · simp [e3] at h ⊢
        simp [h]
      · by_cases e5 : t.kind = 5
        · simp [e5] at h ⊢
          simp [h]
        · by_cases e4 : t.kind = 4
          · simp [e4] at h ⊢
            refine ⟨h.1, ?_⟩
            intro x hx
            exact ih x hx (h.2 x hx)
          · simp [e1, e2, e3, e4, e5] at h

theorem enumK_all {P : Ty → Prop} : ∀ {l : List Int} {n : Nat}, (∀ i : Nat, i < n + l.length → P (tyBound i)) → ∀ a ∈ enumK n l, P a.ty
  | [], _, _ => by simp [enumK]
  | v :: r, n, h => by
    intro a ha
    simp [enumK] at ha
    rcases ha with rfl | ha
    · exact h n (by simp)
    · exact enumK_all (l := r) (n := n + 1) (fun i hi => h i (by simp; omega)) a ha
theorem tyBound_valid {n : Nat} (h : n ≤ 1000000) : validT (tyBound n) = true := by
  have h' : (n : Int) ≤ 1000000 := by omega
  rw [validT_eq]; simp [tyBound, h']

theorem Made.none {lv : Ty → Prop} {k : Int} (hk : k ≠ 4) (h : ∀ t, lv t → t.hasK k = false) {t : Ty} (m : Made lv t) : t.hasK k = false := by
  have hk' : ¬ (4 : Int) = k := fun e => hk e.symm
  induction m with
  | leaf hl => exact h _ hl
  | int => rw [Ty.hasK_eq]; simp [tyInt, hk']
  | con hd hl _ ih =>
    rw [Ty.hasK_eq]
    simp only [Bool.or_eq_false_iff, List.any_eq_false]
    exact ⟨by simp [hk'], fun x hx => by simp [ih x hx]⟩
  | arrow _ _ ha hb => rw [Ty.hasK_eq]; simp [ha, hb, hk']
theorem Made.seqB {lv : Ty → Prop} {S : List Int} (h : ∀ t, lv t → ∀ z ∈ Go.Ab.Lw.seqB t, z ∈ S) {t : Ty} (m : Made lv t) : ∀ z ∈ Go.Ab.Lw.seqB t, z ∈ S := by
  induction m with
  | leaf hl => exact h _ hl
  | int => rw [seqB_eq]; simp [tyInt, bnd]
  | con hd hl _ ih =>
    rw [seqB_eq]
    intro z hz
    simp [bnd] at hz
    obtain ⟨x, hx, hz⟩ := hz
    exact ih x hx z hz
  | arrow _ _ ha hb =>
    rw [seqB_eq]
    intro z hz
    simp [bnd] at hz
    rcases hz with hz | hz
    · exact ha z hz
    · exact hb z hz

theorem seqB_small (t : Ty) : ∀ l : Int, 0 < l → 0 < smT t l → ((seqB t).length : Int) + smT t l ≤ l := by
  refine Ty.rec1 (p := fun t => ∀ l : Int, 0 < l → 0 < smT t l → ((seqB t).length : Int) + smT t l ≤ l) ?_ t
  intro t ih l h0 hp
  have key : ∀ (as : List Ty), (∀ x ∈ as, ∀ l : Int, 0 < l → 0 < smT x l → ((seqB x).length : Int) + smT x l ≤ l) → ∀ l : Int, 0 ≤ l → 0 < smL as l → ((as.flatMap seqB).length : Int) + smL as l ≤ l := by
    intro as
    induction as with
    | nil => intro _ l h _; simp [smL]
    | cons a r ihr =>
      intro ha l hl hp
      simp only [smL] at hp ⊢
      by_cases h : 0 < l
      · rw [if_pos h] at hp ⊢
        have h1 := smT_le a l h
        have h2 : 0 < smT a l := by
          have := smL_le r (smT a l) h1.1
          omega
        have h3 := ha a (by simp) l h h2
        have h4 := ihr (fun x hx => ha x (by simp [hx])) (smT a l) h1.1 hp
        simp only [List.flatMap_cons, List.length_append]
        omega
      · rw [if_neg h] at hp; omega
  rw [smT_eq] at hp ⊢
  have hp' : 0 < smL t.args (l - 1) := by omega
  have := key t.args ih (l - 1) (by omega) hp'
  rw [seqB_eq]
  have hb : (bnd t).length ≤ 1 := by unfold bnd; split <;> simp
  simp only [List.length_append]
  omega

def leavesV : List Ty := [tyBound 0, tyBound 1, tyBound 2, tyNamed [97]]
theorem leavesV_nm : ∀ t, t ∈ leavesV → SmS t.name ∧ t.args = [] := by
  intro t ht
  simp [leavesV] at ht
  rcases ht with rfl | rfl | rfl | rfl <;> simp [tyBound, tyNamed, SmS]
theorem leavesV_B : ∀ t, t ∈ leavesV → ∀ z ∈ seqB t, z ∈ ([0, 1, 2] : List Int) := by
  intro t ht
  simp [leavesV] at ht
  rcases ht with rfl | rfl | rfl | rfl <;> (rw [seqB_eq]; simp [tyBound, tyNamed, bnd])
theorem leavesK_nm : ∀ t, t ∈ leavesK → SmS t.name ∧ t.args = [] := by
  intro t ht
  simp [leavesK] at ht
  rcases ht with rfl | rfl | rfl | rfl | rfl <;> simp [tyVar, tyRigid, SmS]
theorem leavesK_B : ∀ t, t ∈ leavesK → ∀ z ∈ seqB t, z ∈ ([] : List Int) := by
  intro t ht
  simp [leavesK] at ht
  rcases ht with rfl | rfl | rfl | rfl | rfl <;> (rw [seqB_eq]; simp [tyVar, tyRigid, bnd])
theorem leavesK_valid : ∀ t, t ∈ leavesK → validT t = true := by
  intro t ht
  simp [leavesK] at ht
  rcases ht with rfl | rfl | rfl | rfl | rfl <;> (rw [validT_eq]; decide +kernel)
theorem leavesK_5 : ∀ t, t ∈ leavesK → t.hasK 5 = false := by
  intro t ht
  simp [leavesK] at ht
  rcases ht with rfl | rfl | rfl | rfl | rfl <;> (rw [Ty.hasK_eq]; simp [tyVar, tyRigid])

theorem madeK_B {t : Ty} (m : Made (· ∈ leavesK) t) : seqB t = [] := List.eq_nil_iff_forall_not_mem.2 (fun z hz => by simpa using m.seqB leavesK_B z hz)
theorem madeK_vars {t : Ty} (m : Made (· ∈ leavesK) t) : (vars [t]).length ≤ 5 := by
  have hG := m.good leavesK_bare
  have c0 : Coll (leavesK.map Ty.id) [] := coll_nil (by simp [leavesK])
  have c1 := c0.fold (l := [t].flatMap Ty.nodes) (by
    intro x hx hk
    simp at hx
    exact List.mem_map_of_mem (hG.sub x (nodes_var hG.wf x hx hk)))
  have := nodup_len c1.nodup c1.sub
  unfold vars
  simpa [leavesK] using this
theorem filter_len {l : List Int} {p : Int → Bool} : (l.filter p).length ≤ l.length := List.length_filter_le p l

theorem closeK {t : Ty} (m : Made (· ∈ leavesK) t) (ids : List Int) : validSc (closeSc ids t (vars [t])) = true ∧ (closeSc ids t (vars [t])).ty.Nm ∧ (∀ z ∈ seqB (closeSc ids t (vars [t])).ty, z ∈ iR 5) := by
  have hW := m.wf leavesK_bare
  have hv := madeK_vars m
  have hfl := filter_len (l := vars [t]) (p := fun v => decide (v ∈ ids))
  obtain ⟨b1, b2⟩ := bndU_close (ids := ids) hW (madeK_B m)
  have es : closeS ids (vars [t]) [] = enumK 0 ((vars [t]).filter fun v => decide (v ∈ ids)) := by simp [closeS_enum]
  have hid : (closeSc ids t (vars [t])).id = ((vars [t]).filter fun v => decide (v ∈ ids)).length := by simp [closeSc, es, enumK_len]
  refine ⟨?_, ?_, ?_⟩
  · have v1 : validT (closeSc ids t (vars [t])).ty = true := by
      unfold closeSc
      rw [es]
      exact sub_valid (enumK_all (P := fun t => validT t = true) (fun i hi => tyBound_valid (by omega))) (m.valid leavesK_valid)
    have v2 : (closeSc ids t (vars [t])).ty.hasK 5 = false := by
      unfold closeSc
      rw [es]
      exact sub_hasK (enumK_all (P := fun t => t.hasK 5 = false) (fun i hi => by rw [Ty.hasK_eq]; simp [tyBound])) (m.none (by decide) leavesK_5)
    unfold validSc
    rw [v1, v2, b1, rngB_iR, iR_len]
    simp
    omega
  · unfold closeSc
    rw [es]
    exact sub_nm (enumK_all (P := Ty.Nm) (fun i hi => ⟨by simp [tyBound, SmS], by simp [tyBound]⟩)) (m.nm leavesK_nm)
  · intro z hz
    have : z ∈ bndU (closeSc ids t (vars [t])).ty := mem_foldU.2 (.inr hz)
    rw [b1, mem_iR] at this
    rw [mem_iR]
    omega
theorem monoK {t : Ty} (m : Made (· ∈ leavesK) t) : validSc ⟨0, t⟩ = true := by
  unfold validSc bndU
  simp [m.valid leavesK_valid, m.none (by decide) leavesK_5, madeK_B m, rngB]
end Go.Ab.Lw
namespace Go.Ab.Lw
open Ev
set_option maxRecDepth 10000
set_option linter.unusedSimpArgs false
/-- A raw scheme. -/
theorem shp_scN {P : Program} {ti ts tl tt ta : TypeId} {f0 f1 f2 f3 f4 k0 k1 : Field} (hi : P.underlying ti = some (.int .i64)) (hs : P.underlying ts = some .string) (hl : P.underlying tl = some (.slice tt))
    (ht : P.underlying tt = some (.struct #[f0, f1, f2, f3, f4])) (ha : P.underlying ta = some (.struct #[k0, k1]))
    (e0 : f0.type = ti) (e1 : f1.type = ts) (e2 : f2.type = ti) (e3 : f3.type = ti) (e4 : f4.type = tl) (u0 : k0.type = ti) (u1 : k1.type = tt)
    (n : Nat) (q : PV) (hq : Shp P n ta q) : ∃ c : Sc, q = c.pv ∧ c.ty.Nm := by
  cases n with
  | zero => simp [Shp] at hq
  | succ n =>
    simp only [Shp, ha] at hq
    obtain ⟨ps, rfl, hq⟩ := hq
    match ps, hq with
    | [p0, p1], ⟨h0, h1, _⟩ =>
      rw [u0] at h0; rw [u1] at h1
      obtain ⟨i, rfl⟩ := shp_int hi h0
      obtain ⟨x, rfl, hx⟩ := shp_tyN hi hs hl ht e0 e1 e2 e3 e4 n p1 h1
      exact ⟨⟨i, x⟩, by simp [cellsP], hx⟩

/-- **The law SchemeValid.** -/
theorem law426 (bits : Int) (L : List Int) (raw : Sc) (rn : raw.ty.Nm) (n : Int) : (orcL AP).p 426 [vI bits, .lst (L.map vI), raw.pv, vI n] = some [.bool true] := by
  have c0 := c433
  have c1 := c15 (l := L)
  have c2 := c40 (t := raw.ty) (n := 40) (by omega) (by omega)
  rw [callP_body (af := g426) rfl rfl (by decide)]
  by_cases hL : L.length ≤ 60
  · simp [hL] at c1
    by_cases hs : 0 < smT raw.ty (40 + 1)
    · have hLs : Sm L := by unfold Sm; omega
      have ro := smT_ok raw.ty (40 + 1) (by omega) (by omega) hs
      have hsm := seqB_small raw.ty (40 + 1) (by omega) hs
      have r1 := c435 (S := seqB raw.ty) (by omega) ro rn (fun _ h => h)
      have r2 := c436 (S := seqB raw.ty) (by omega) ro rn (fun _ h => h)
      obtain ⟨x, ids, j1, e1, mx, hi1, _, hj1⟩ := c434 hLs bits (i := 0) (by omega)
      obtain ⟨ds, ed, hda, hds⟩ := c32 bits
      have b0 := c72 (n := 0); have b1 := c72 (n := 1); have b2 := c72 (n := 2)
      have b3 := c106 (s := [97])
      obtain ⟨y, j2, e2, my, hj2⟩ := c27 hLs hds hda (lv := leavesV) (by simp [Sm, leavesV]) 3 (by omega) j1 hj1
      obtain ⟨m, em, m0, m4⟩ := c26 (n := n) (m := 4) (by omega) (by omega)
      have hyb := fun t (ht : t ∈ leavesV) => (leavesV_nm t ht).2
      have r3 := c435 (c := ⟨m, y⟩) (S := [0, 1, 2]) (by simp) (my.ok hyb) (my.nm leavesV_nm) (my.seqB leavesV_B)
      have r4 := c436 (c := ⟨m, y⟩) (S := [0, 1, 2]) (by simp) (my.ok hyb) (my.nm leavesV_nm) (my.seqB leavesV_B)
      have hf : leavesK.length < 1099511627776 := by simp [leavesK]
      have r5 := c437 hf (mx.good leavesK_bare) (ids := ids) (by unfold Sm; omega)
      obtain ⟨w1, w2, w3⟩ := closeK mx ids
      have r6 := c435 (S := iR 5) (by simp [iR_len]) (closeSc_ok (ids := ids) (vs := vars [x]) (mx.ok leavesK_bare)) w2 w3
      rw [w1] at r6
      have r7 := c438 (t := x)
      have r8 := c435 (c := ⟨0, x⟩) (S := []) (by simp) (mx.ok leavesK_bare) (mx.nm leavesK_nm) (by simp [madeK_B mx])
      rw [monoK mx] at r8
      rw [decide_eq_true hs] at c2
      generalize closeSc ids x (vars [x]) = cl0 at r5 r6
      generalize validSc raw = vr0 at r1 r2
      generalize validSc ⟨m, y⟩ = vy0 at r3 r4
      simp [leavesV, tyBound, tyNamed] at c2 e1 ed b0 b1 b2 b3 e2 em r1 r2 r3 r4 r5 r6 r7 r8
      simp (disch := omega) [g426, c0, c1, c2, e1, ed, b0, b1, b2, b3, tyBound, tyNamed, e2, em, r1, r2, r3, r4, r5, r6, r7, r8]
    · rw [decide_eq_false hs] at c2
      simp at c2
      simp [g426, c0, c1, c2]
  · simp [hL] at c1
    simp [g426, c0, c1]
end Go.Ab.Lw
