import Derived.Test.YtfhhognolpjikaaCodeA
import Derived.Test.YtfhhognolpjikaaAbBridge
import Derived.Test.YtfhhognolpjikaaAbForce
import Derived.KernelRfl
/-
  The program's data.
  The makers: what their functions give.
  The makers: what their functions give.
  The data declarations that programs are made of: what the reader makes of their text.
  The makers: data declarations, chosen by bits.
  The makers: types and substitutions off the tape.
  Types and substitutions: what replaces variables.
  Types: rebuilding with new leaves.
  Types and substitutions: the program's replacing, finding, composing.
  Substitutions: composing; equality of types and of substitutions.
  Chapter 13: the plain laws, and the law that composition composes.
  Chapter 13: equality of substitutions; the laws SubstAssociates and SubstEqual.
  Functions of package slices over any elements.
  Ranges over a slice backward.
  Which types are valid.
  Contexts: their entries; looking names up.
  What the pure data of a parameter looks like.
  The variables of types, by the program and by the reference.
  The reference's variables of types; they are the program's.
  Contexts: schemes, adding, hidden entries; what law 19 makes.
  Law 19 makes contexts; the law EnvironLooks.
  Law 14's first example.
  Contexts: their free variables; the law EnvironSeen.
  The law EnvironSeen.
  The maker of types over any list of data types.
  What law 14 makes; the law SchemeFree.
  Which schemes are valid, by the program and by the reference.
  Valid schemes: the program's and the reference's answers are one.
  Valid schemes, by the program; closing and mono.
  Closing and mono, by the program.
  Matching, by the program.
  The law SchemeValid.
  When a closed type is general.
  The law SchemeClosesGeneral.
  Matching, by the reference.
  When matching succeeds.
  Chapter 3: opening.
  Both Generals are one; general both ways is equal.
  Closing does not depend on the numbers of the variables.
  The law SchemeCloses.
  The law SchemeCloses, put together.
-/
set_option linter.unusedVariables false
set_option linter.unusedSimpArgs false
namespace Go.Ab.Lw
/-- A type. -/
structure Ty where
  kind : Int
  name : List UInt8
  id : Int
  home : Int
  args : List Ty
  deriving Inhabited

noncomputable instance : DecidableEq Ty := fun _ _ => Classical.propDecidable _

mutual
def Ty.pv : Ty → PV
  | ⟨k, n, i, h, as⟩ => .agg [.int .i64 k, .str n, .int .i64 i, .int .i64 h, .lst (Ty.pvs as)]
def Ty.pvs : List Ty → List PV
  | [] => []
  | a :: r => a.pv :: Ty.pvs r
end

theorem Ty.pvs_map : ∀ l : List Ty, Ty.pvs l = l.map Ty.pv
  | [] => by simp [Ty.pvs]
  | a :: r => by simp [Ty.pvs, Ty.pvs_map r]

@[simp] theorem Ty.pv_eq (t : Ty) : t.pv = .agg [.int .i64 t.kind, .str t.name, .int .i64 t.id, .int .i64 t.home, .lst (t.args.map Ty.pv)] := by
  cases t; simp only [Ty.pv, Ty.pvs_map]

/-- A property of all types that are parts. -/
theorem Ty.rec1 {p : Ty → Prop} (h : ∀ t : Ty, (∀ x ∈ t.args, p x) → p t) : ∀ t, p t
  | ⟨k, n, i, hm, as⟩ => h _ (fun x _hx => Ty.rec1 h x)
termination_by t => SizeOf.sizeOf t
decreasing_by have := _root_.List.sizeOf_lt_of_mem _hx; simp at *; omega

/-- A constructor, and a data declaration. -/
structure Con where
  pos : Int
  name : List UInt8
  fields : List Ty
  deriving Inhabited
structure Dt where
  pos : Int
  name : List UInt8
  params : List (List UInt8)
  cons : List Con
  deriving Inhabited
def Con.pv (c : Con) : PV := .agg [.int .i64 c.pos, .str c.name, .lst (c.fields.map Ty.pv)]
def Dt.pv (d : Dt) : PV := .agg [.int .i64 d.pos, .str d.name, .lst (d.params.map .str), .lst (d.cons.map Con.pv)]
@[simp] theorem Con.pv_eq (c : Con) : c.pv = .agg [.int .i64 c.pos, .str c.name, .lst (c.fields.map Ty.pv)] := rfl
@[simp] theorem Dt.pv_eq (d : Dt) : d.pv = .agg [.int .i64 d.pos, .str d.name, .lst (d.params.map .str), .lst (d.cons.map Con.pv)] := rfl

/-- An assignment. -/
structure As where
  id : Int
  ty : Ty
  deriving Inhabited
def As.pv (a : As) : PV := .agg [.int .i64 a.id, .int .i64 a.ty.kind, .str a.ty.name, .int .i64 a.ty.id, .int .i64 a.ty.home, .lst (a.ty.args.map Ty.pv)]
@[simp] theorem As.pv_eq (a : As) : a.pv = .agg [.int .i64 a.id, .int .i64 a.ty.kind, .str a.ty.name, .int .i64 a.ty.id, .int .i64 a.ty.home, .lst (a.ty.args.map Ty.pv)] := rfl

@[simp] theorem Ty.eta (t : Ty) : Ty.mk t.kind t.name t.id t.home t.args = t := by cases t; rfl
@[simp] theorem As.eta (t : As) : As.mk t.id t.ty = t := rfl

abbrev vI (n : Int) : PV := .int .i64 n
def tp (L : List Int) (i : Int) : Sh := [some [.pv (.lst (L.map vI)), .pv (vI i)]]
@[simp] theorem tp_eq (L : List Int) (i : Int) : tp L i = [some [.pv (.lst (L.map vI)), .pv (vI i)]] := rfl

/-- Lists that any memory holds. -/
def Sm {α : Type} (l : List α) : Prop := l.length < 1099511627776

/-- Texts that any memory holds. -/
def SmS {α : Type} (l : List α) : Prop := l.length ≤ 9223372036854775807

@[simp] theorem natNeg (n : Nat) : ((n : Int) < 0) ↔ False := by simp
@[simp] theorem natNeg1 (n : Nat) : ((n : Int) + 1 < 0) ↔ False := by simp; omega

theorem dropC {α : Type} {l : List α} {i : Nat} {x : α} (h : l[i]? = some x) : l.drop i = x :: l.drop (i + 1) := by
  obtain ⟨hi, rfl⟩ := List.getElem?_eq_some_iff.1 h
  exact List.drop_eq_getElem_cons hi
theorem getO {α : Type} {l : List α} {i : Nat} (h : i < l.length) : ∃ x, l[i]? = some x := ⟨_, List.getElem?_eq_getElem h⟩
theorem memO {α : Type} {l : List α} {i : Nat} {x : α} (h : l[i]? = some x) : x ∈ l := List.mem_of_getElem? h
end Go.Ab.Lw
namespace Go.Ab.Lw
open Ev
set_option maxRecDepth 10000
set_option linter.unusedSimpArgs false
theorem c26 {n m : Int} (h1 : 1 ≤ m) (h2 : m < 4611686018427387904) : ∃ r, (orcL AP).p 26 [vI n, vI m] = some [vI r] ∧ 0 ≤ r ∧ r < m := by
  rw [callP_body (af := g26) rfl rfl (by decide)]
  have a1 := Int.tmod_lt_of_pos n (show 0 < m by omega)
  have a2 := Int.lt_tmod_of_pos n (show 0 < m by omega)
  have e1 : ¬ m < 1 := by omega
  have e2 : ¬ m = 0 := by omega
  by_cases h : n.tmod m < 0
  · refine ⟨n.tmod m + m, ?_, by omega, by omega⟩
    simp (disch := omega) [g26, e1, e2, h, wrap_id]
  · refine ⟨n.tmod m, ?_, by omega, by omega⟩
    simp [g26, e1, e2, h]

/-- A choice off the tape. -/
theorem c68 {L : List Int} (hL : Sm L) {i : Nat} (hi : i ≤ L.length) {n : Int} (h1 : 1 ≤ n) (h2 : n < 4611686018427387904) :
    ∃ (r : Int) (j : Nat), (orcL AP).i 68 [.sptr 0 0, .pv (vI n)] (tp L i) [] = some ([.pv (vI r)], tp L j, []) ∧ 0 ≤ r ∧ r < n ∧ j ≤ L.length := by
  unfold Sm at hL
  rw [callI_body (af := g68) rfl (by simp [g68])]
  by_cases h : i < L.length
  · obtain ⟨x, hx⟩ := getO h
    obtain ⟨r, e, e1, e2⟩ := c26 (n := x) h1 h2
    refine ⟨r, i + 1, ?_, e1, e2, h⟩
    have h' : ¬ L.length ≤ i := by omega
    simp (disch := omega) [-getElem?_pos, g68, h', wrap_id, hx, e]
  · have h' : L.length ≤ i := by omega
    refine ⟨0, i, ?_, by omega, by omega, hi⟩
    simp [g68, h']

theorem c63 {n : Int} : (orcL AP).p 63 [vI n] = some [(Ty.mk 1 [] n 0 []).pv] := by
  rw [callP_body (af := g63) rfl rfl (by decide)]
  simp [g63]
theorem c71 {n m : Int} : (orcL AP).p 71 [vI n, vI m] = some [(Ty.mk 3 [] m n []).pv] := by
  rw [callP_body (af := g71) rfl rfl (by decide)]
  simp [g71]
theorem c72 {n : Int} : (orcL AP).p 72 [vI n] = some [(Ty.mk 2 [] n 0 []).pv] := by
  rw [callP_body (af := g72) rfl rfl (by decide)]
  simp [g72]
theorem c62 {s : List UInt8} {l : List Ty} (h : Sm l) : (orcL AP).p 62 [.str s, .lst (l.map Ty.pv)] = some [(Ty.mk 4 s 0 0 l).pv] := by
  unfold Sm at h
  rw [callP_body (af := g62) rfl rfl (by decide)]
  cases l with
  | nil => simp [g62]
  | cons a r =>
    have : (r.length + 1) * 64 ≤ 140737488355328 := by simp at h; omega
    simp [g62, this]
theorem c34 : (orcL AP).p 34 [] = some [(Ty.mk 4 [73, 110, 116] 0 0 []).pv] := by
  rw [callP_body (af := g34) rfl rfl (by decide)]
  have h := c62 (s := [73, 110, 116]) (l := []) (by simp [Sm])
  simp at h
  simp [g34, h]
theorem c69 {a b : Ty} : (orcL AP).p 69 [a.pv, b.pv] = some [(Ty.mk 4 [45, 62] 0 0 [a, b]).pv] := by
  rw [callP_body (af := g69) rfl rfl (by decide)]
  have h := c62 (s := [45, 62]) (l := [a, b]) (by simp [Sm])
  simp at h
  simp [g69, h]
theorem c15 {l : List Int} : (orcL AP).p 15 [.lst (l.map vI)] = some [.bool (decide (l.length ≤ 60))] := by
  rw [callP_body (af := g15) rfl rfl (by decide)]
  simp [g15]
  omega

end Go.Ab.Lw
namespace Go.Ab.Lw
open Ev
set_option maxRecDepth 10000
set_option linter.unusedSimpArgs false
/-- Shared memory without tokens. -/
def Calm (sh : Sh) : Prop := ∀ old ts, normS old ts sh = (sh, old, ts)
theorem calm_tp {L : List Int} {i : Int} : Calm (tp L i) := fun _ _ => rfl

def tyVar (n : Int) : Ty := ⟨1, [], n, 0, []⟩
def tyRigid (h n : Int) : Ty := ⟨3, [], n, h, []⟩
def tyBound (n : Int) : Ty := ⟨2, [], n, 0, []⟩
def tyInt : Ty := ⟨4, [73, 110, 116], 0, 0, []⟩

theorem c70_4 {sh : Sh} (h : Calm sh) : (orcL AP).i 70 [.pv (vI 4)] sh [] = some ([.own ([tyVar 0, tyVar 1, tyVar 2, tyVar 3].map Ty.pv) 0], sh, [4]) := by
  have hh := h
  unfold Calm at h
  rw [callI_body (af := g70) rfl (by decide)]
  have c0 := c63 (n := 0); have c1 := c63 (n := 1); have c2 := c63 (n := 2); have c3 := c63 (n := 3)
  simp at c0 c1 c2 c3
  simp (disch := omega) [-getElem?_pos, g70, g70L0_eq, g70B0, wrap_id, c0, c1, c2, c3, h, tyVar]
end Go.Ab.Lw
namespace Go.Ab.Lw
set_option maxRecDepth 100000
set_option linter.unusedVariables false
def srcD : List UInt8 := [100, 97, 116, 97, 32, 66, 111, 111, 108, 32, 61, 32, 84, 114, 117, 101, 32, 124, 32, 70, 97, 108, 115, 101, 59, 32, 100, 97, 116, 97, 32, 79, 112, 116, 105, 111, 110, 32, 97, 32, 61, 32, 78, 111, 110, 101, 32, 124, 32, 83, 111, 109, 101, 32, 97, 59, 32, 100, 97, 116, 97, 32, 76, 105, 115, 116, 32, 97, 32, 61, 32, 78, 105, 108, 32, 124, 32, 67, 111, 110, 115, 32, 97, 32, 40, 76, 105, 115, 116, 32, 97, 41, 59, 100, 97, 116, 97, 32, 80, 97, 105, 114, 32, 97, 32, 98, 32, 61, 32, 80, 97, 105, 114, 32, 97, 32, 98, 59, 32, 100, 97, 116, 97, 32, 78, 97, 116, 32, 61, 32, 90, 101, 114, 111, 32, 124, 32, 83, 117, 99, 99, 32, 78, 97, 116, 59, 32, 100, 97, 116, 97, 32, 70, 117, 110, 32, 97, 32, 98, 32, 61, 32, 70, 117, 110, 32, 40, 97, 32, 45, 62, 32, 98, 41, 59, 32, 100, 97, 116, 97, 32, 84, 119, 111, 32, 97, 32, 61, 32, 66, 111, 116, 104, 32, 97, 32, 97, 32, 124, 32, 79, 110, 101, 32, 40, 79, 112, 116, 105, 111, 110, 32, 97, 41, 59]
def toksD : List PV := [.lst [.agg [.int .i64 4, .str [100, 97, 116, 97], .int .i64 0], .agg [.int .i64 2, .str [66, 111, 111, 108], .int .i64 5], .agg [.int .i64 5, .str [61], .int .i64 10], .agg [.int .i64 2, .str [84, 114, 117, 101], .int .i64 12], .agg [.int .i64 5, .str [124], .int .i64 17], .agg [.int .i64 2, .str [70, 97, 108, 115, 101], .int .i64 19], .agg [.int .i64 5, .str [59], .int .i64 24], .agg [.int .i64 4, .str [100, 97, 116, 97], .int .i64 26], .agg [.int .i64 2, .str [79, 112, 116, 105, 111, 110], .int .i64 31], .agg [.int .i64 1, .str [97], .int .i64 38], .agg [.int .i64 5, .str [61], .int .i64 40], .agg [.int .i64 2, .str [78, 111, 110, 101], .int .i64 42], .agg [.int .i64 5, .str [124], .int .i64 47], .agg [.int .i64 2, .str [83, 111, 109, 101], .int .i64 49], .agg [.int .i64 1, .str [97], .int .i64 54], .agg [.int .i64 5, .str [59], .int .i64 55], .agg [.int .i64 4, .str [100, 97, 116, 97], .int .i64 57], .agg [.int .i64 2, .str [76, 105, 115, 116], .int .i64 62], .agg [.int .i64 1, .str [97], .int .i64 67], .agg [.int .i64 5, .str [61], .int .i64 69], .agg [.int .i64 2, .str [78, 105, 108], .int .i64 71], .agg [.int .i64 5, .str [124], .int .i64 75], .agg [.int .i64 2, .str [67, 111, 110, 115], .int .i64 77], .agg [.int .i64 1, .str [97], .int .i64 82], .agg [.int .i64 5, .str [40], .int .i64 84], .agg [.int .i64 2, .str [76, 105, 115, 116], .int .i64 85], .agg [.int .i64 1, .str [97], .int .i64 90], .agg [.int .i64 5, .str [41], .int .i64 91], .agg [.int .i64 5, .str [59], .int .i64 92], .agg [.int .i64 4, .str [100, 97, 116, 97], .int .i64 93], .agg [.int .i64 2, .str [80, 97, 105, 114], .int .i64 98], .agg [.int .i64 1, .str [97], .int .i64 103], .agg [.int .i64 1, .str [98], .int .i64 105], .agg [.int .i64 5, .str [61], .int .i64 107], .agg [.int .i64 2, .str [80, 97, 105, 114], .int .i64 109], .agg [.int .i64 1, .str [97], .int .i64 114], .agg [.int .i64 1, .str [98], .int .i64 116], .agg [.int .i64 5, .str [59], .int .i64 117], .agg [.int .i64 4, .str [100, 97, 116, 97], .int .i64 119], .agg [.int .i64 2, .str [78, 97, 116], .int .i64 124], .agg [.int .i64 5, .str [61], .int .i64 128], .agg [.int .i64 2, .str [90, 101, 114, 111], .int .i64 130], .agg [.int .i64 5, .str [124], .int .i64 135], .agg [.int .i64 2, .str [83, 117, 99, 99], .int .i64 137], .agg [.int .i64 2, .str [78, 97, 116], .int .i64 142], .agg [.int .i64 5, .str [59], .int .i64 145], .agg [.int .i64 4, .str [100, 97, 116, 97], .int .i64 147], .agg [.int .i64 2, .str [70, 117, 110], .int .i64 152], .agg [.int .i64 1, .str [97], .int .i64 156], .agg [.int .i64 1, .str [98], .int .i64 158], .agg [.int .i64 5, .str [61], .int .i64 160], .agg [.int .i64 2, .str [70, 117, 110], .int .i64 162], .agg [.int .i64 5, .str [40], .int .i64 166], .agg [.int .i64 1, .str [97], .int .i64 167], .agg [.int .i64 5, .str [45, 62], .int .i64 169], .agg [.int .i64 1, .str [98], .int .i64 172], .agg [.int .i64 5, .str [41], .int .i64 173], .agg [.int .i64 5, .str [59], .int .i64 174], .agg [.int .i64 4, .str [100, 97, 116, 97], .int .i64 176], .agg [.int .i64 2, .str [84, 119, 111], .int .i64 181], .agg [.int .i64 1, .str [97], .int .i64 185], .agg [.int .i64 5, .str [61], .int .i64 187], .agg [.int .i64 2, .str [66, 111, 116, 104], .int .i64 189], .agg [.int .i64 1, .str [97], .int .i64 194], .agg [.int .i64 1, .str [97], .int .i64 196], .agg [.int .i64 5, .str [124], .int .i64 198], .agg [.int .i64 2, .str [79, 110, 101], .int .i64 200], .agg [.int .i64 5, .str [40], .int .i64 204], .agg [.int .i64 2, .str [79, 112, 116, 105, 111, 110], .int .i64 205], .agg [.int .i64 1, .str [97], .int .i64 212], .agg [.int .i64 5, .str [41], .int .i64 213], .agg [.int .i64 5, .str [59], .int .i64 214]], .agg [.int .i64 0, .int .i64 0]]

/-- All data declarations. -/
def allDatas : List Dt := [⟨0, [66, 111, 111, 108], [], [⟨12, [84, 114, 117, 101], []⟩, ⟨19, [70, 97, 108, 115, 101], []⟩]⟩,
  ⟨26, [79, 112, 116, 105, 111, 110], [[97]], [⟨42, [78, 111, 110, 101], []⟩, ⟨49, [83, 111, 109, 101], [⟨5, [97], 0, 0, []⟩]⟩]⟩,
  ⟨57, [76, 105, 115, 116], [[97]], [⟨71, [78, 105, 108], []⟩, ⟨77, [67, 111, 110, 115], [⟨5, [97], 0, 0, []⟩,⟨4, [76, 105, 115, 116], 0, 0, [⟨5, [97], 0, 0, []⟩]⟩]⟩]⟩,
  ⟨93, [80, 97, 105, 114], [[97], [98]], [⟨109, [80, 97, 105, 114], [⟨5, [97], 0, 0, []⟩,⟨5, [98], 0, 0, []⟩]⟩]⟩,
  ⟨119, [78, 97, 116], [], [⟨130, [90, 101, 114, 111], []⟩, ⟨137, [83, 117, 99, 99], [⟨4, [78, 97, 116], 0, 0, []⟩]⟩]⟩,
  ⟨147, [70, 117, 110], [[97], [98]], [⟨162, [70, 117, 110], [⟨4, [45, 62], 0, 0, [⟨5, [97], 0, 0, []⟩, ⟨5, [98], 0, 0, []⟩]⟩]⟩]⟩,
  ⟨176, [84, 119, 111], [[97]], [⟨189, [66, 111, 116, 104], [⟨5, [97], 0, 0, []⟩,⟨5, [97], 0, 0, []⟩]⟩, ⟨200, [79, 110, 101], [⟨4, [79, 112, 116, 105, 111, 110], 0, 0, [⟨5, [97], 0, 0, []⟩]⟩]⟩]⟩]

theorem scanD : (orcL AP).p 118 [.str srcD] = some toksD := Fc.p_of (k := 400) (n := 20) (by kernel_rfl)

def ovD (g : Nat) (x : List PV) : Option (List PV) := match g, x with
  | 118, [.str s] => if s = srcD then some toksD else none
  | _, _ => none
theorem ovD_ok : ∀ g x r, ovD g x = some r → (orcL AP).p g x = some r := by
  intro g x r h
  unfold ovD at h
  split at h
  · split at h
    · rename_i e; subst e; cases h; exact scanD
    · cases h
  · cases h

theorem c79 : (orcL AP).p 79 [] = some [.lst (allDatas.map Dt.pv)] := Fc.p_ofX (k := 400) (n := 40) ovD_ok (by kernel_rfl)
end Go.Ab.Lw
namespace Go.Ab.Lw
open Ev
set_option maxRecDepth 10000
set_option linter.unusedSimpArgs false
@[simp] theorem headSz_Dt {l : List Dt} : headSz 4 (l.map Dt.pv) = true := by cases l <;> simp
@[simp] theorem headSz_Ty {l : List Ty} : headSz 5 (l.map Ty.pv) = true := by cases l <;> simp
@[simp] theorem headSz_As {l : List As} : headSz 6 (l.map As.pv) = true := by cases l <;> simp

theorem wrapU_id {n : Int} (h1 : 0 ≤ n) (h2 : n < 18446744073709551616) : IntKind.u64.wrap n = n := by
  simp [IntKind.wrap, IntKind.bits, IntKind.signed]
  omega

def R32 (bits : Int) (ds : List Dt) : Option (AExit × St) :=
  some (.exit 0, ⟨[(0, .pv (vI bits)), (3, .pv (.lst (allDatas.map Dt.pv))), (4, .own (ds.map Dt.pv) 0), (5, .pv (vI 7)), (24, .pv (.bool false))], [], [], [ds.length]⟩)
theorem L32 (bits : Int) : ∀ (n i : Nat), 7 - i = n → i ≤ 7 → ∀ acc : List Dt, (∀ d ∈ acc, d ∈ allDatas) → acc.length ≤ 1 + i →
    ∃ ds : List Dt, cl AP g32L0 ⟨[(0, .pv (vI bits)), (3, .pv (.lst (allDatas.map Dt.pv))), (4, .own (acc.map Dt.pv) 0), (5, .pv (vI i))], [], [], [acc.length]⟩ = R32 bits ds ∧
      (∀ d ∈ ds, d ∈ allDatas) ∧ ds.length ≤ 8
  | 0, i, hn, hi, acc, ha, hl => by
    have : i = 7 := by omega
    subst this
    refine ⟨acc, ?_, ha, by omega⟩
    rw [g32L0_eq]
    have h7 : allDatas.length = 7 := rfl
    simp [g32B0, h7, R32]
  | n + 1, i, hn, hi, acc, ha, hl => by
    have h7 : allDatas.length = 7 := rfl
    have hi : i < 7 := by omega
    obtain ⟨x, hx⟩ := getO (l := allDatas) (i := i) (by omega)
    have hb : (acc.length + 1) * 72 ≤ 140737488355328 := by omega
    obtain ⟨d1, e1, m1, l1⟩ := L32 bits n (i + 1) (by omega) (by omega) (acc ++ [x]) (by
      intro d hd; simp at hd; rcases hd with hd | rfl
      · exact ha d hd
      · exact memO hx) (by simp; omega)
    obtain ⟨d2, e2, m2, l2⟩ := L32 bits n (i + 1) (by omega) (by omega) acc ha (by omega)
    simp at e1 e2
    have hi' : (i : Int) < 7 := by omega
    have key : ∀ S, S = cl AP g32L0 ⟨[(0, .pv (vI bits)), (3, .pv (.lst (allDatas.map Dt.pv))), (4, .own (acc.map Dt.pv) 0), (5, .pv (vI i))], [], [], [acc.length]⟩ → S = R32 bits d1 ∨ S = R32 bits d2 := by
      intro S hS
      rw [g32L0_eq] at hS
      simp (disch := omega) [-getElem?_pos, g32B0, h7, hi', hx, wrap_id, wrapU_id, hb, e1, e2] at hS
      subst hS
      (repeat' split) <;> simp
    rcases key _ rfl with h | h
    · exact ⟨d1, h, m1, l1⟩
    · exact ⟨d2, h, m2, l2⟩

theorem c32 (bits : Int) : ∃ ds : List Dt, (orcL AP).p 32 [vI bits] = some [.lst (ds.map Dt.pv)] ∧ (∀ d ∈ ds, d ∈ allDatas) ∧ ds.length ≤ 8 := by
  have hp := c79
  have h7 : allDatas.length = 7 := rfl
  obtain ⟨x, hx⟩ := getO (l := allDatas) (i := 1) (by decide)
  obtain ⟨d1, e1, m1, l1⟩ := L32 bits 7 0 rfl (by omega) [x] (by intro d hd; simp at hd; subst hd; exact memO hx) (by simp)
  obtain ⟨d2, e2, m2, l2⟩ := L32 bits 7 0 rfl (by omega) [] (by simp) (by simp)
  rw [g32L0_eq] at e1 e2
  simp at e1 e2
  have key : ∀ S, S = (orcL AP).p 32 [vI bits] → S = some [.lst (d1.map Dt.pv)] ∨ S = some [.lst (d2.map Dt.pv)] := by
    intro S hS
    rw [callP_body (af := g32) rfl rfl (by decide)] at hS
    simp [-getElem?_pos, g32, hp, g32L0_eq, hx, e1, e2, R32] at hS
    subst hS
    (repeat' split) <;> simp
  rcases key _ rfl with h | h
  · exact ⟨d1, h, m1, l1⟩
  · exact ⟨d2, h, m2, l2⟩
end Go.Ab.Lw
namespace Go.Ab.Lw
open Ev
set_option maxRecDepth 10000
set_option linter.unusedSimpArgs false
/-- A made type over leaves. -/
inductive Made (lv : Ty → Prop) : Ty → Prop
  | leaf {t : Ty} : lv t → Made lv t
  | int : Made lv tyInt
  | con {d : Dt} {args : List Ty} : d ∈ allDatas → args.length = d.params.length → (∀ x ∈ args, Made lv x) → Made lv ⟨4, d.name, 0, 0, args⟩
  | arrow {a b : Ty} : Made lv a → Made lv b → Made lv ⟨4, [45, 62], 0, 0, [a, b]⟩

theorem Made.mono {lv lv' : Ty → Prop} (h : ∀ t, lv t → lv' t) {t : Ty} (m : Made lv t) : Made lv' t := by
  induction m with
  | leaf h' => exact .leaf (h _ h')
  | int => exact .int
  | con hd hl _ ih => exact .con hd hl ih
  | arrow _ _ ha hb => exact .arrow ha hb

/-- A type in its cells. -/
def Ty.av (t : Ty) : AV := .agg [.pv (vI t.kind), .pv (.str t.name), .pv (vI t.id), .pv (vI t.home), .pv (.lst (t.args.map Ty.pv))]
@[simp] theorem Ty.av_eq (t : Ty) : t.av = .agg [.pv (vI t.kind), .pv (.str t.name), .pv (vI t.id), .pv (vI t.home), .pv (.lst (t.args.map Ty.pv))] := rfl

theorem natI {r : Int} {n : Nat} (h0 : 0 ≤ r) (h1 : r < n) : ∃ m : Nat, r = m ∧ m < n := ⟨r.toNat, by omega, by omega⟩

end Go.Ab.Lw
namespace Go.Ab.Lw
open Ev
set_option maxRecDepth 10000
set_option linter.unusedSimpArgs false
/-- No list within is long. -/
inductive Ty.Ok : Ty → Prop
  | mk {t : Ty} : Sm t.args → (∀ x ∈ t.args, Ty.Ok x) → Ty.Ok t
theorem Ty.Ok.sm {t : Ty} (h : t.Ok) : Sm t.args := by cases h; assumption
theorem Ty.Ok.kid {t : Ty} (h : t.Ok) : ∀ x ∈ t.args, x.Ok := by cases h; assumption
/-- Variables have no parts. -/
inductive Ty.Wf : Ty → Prop
  | mk {t : Ty} : (t.kind = 1 → t.args = []) → (∀ x ∈ t.args, Ty.Wf x) → Ty.Wf t
theorem Ty.Wf.var {t : Ty} (h : t.Wf) : t.kind = 1 → t.args = [] := by cases h; assumption
theorem Ty.Wf.kid {t : Ty} (h : t.Wf) : ∀ x ∈ t.args, x.Wf := by cases h; assumption

/-- The first assignment of a variable. -/
def fnd : List As → Int → Option Ty
  | [], _ => none
  | a :: r, id => if a.id = id then some a.ty else fnd r id

mutual
def Ty.sub (s : List As) : Ty → Ty
  | ⟨k, n, i, h, as⟩ => if k = 1 then (fnd s i).getD ⟨k, n, i, h, as⟩ else ⟨k, n, i, h, Ty.subs s as⟩
def Ty.subs (s : List As) : List Ty → List Ty
  | [] => []
  | a :: r => a.sub s :: Ty.subs s r
end
theorem Ty.subs_map (s : List As) : ∀ l : List Ty, Ty.subs s l = l.map (Ty.sub s)
  | [] => by simp [Ty.subs]
  | a :: r => by simp [Ty.subs, Ty.subs_map s r]
theorem Ty.sub_eq (s : List As) (t : Ty) : t.sub s = if t.kind = 1 then (fnd s t.id).getD t else ⟨t.kind, t.name, t.id, t.home, t.args.map (Ty.sub s)⟩ := by
  cases t; simp only [Ty.sub, Ty.subs_map]

def R46a (s : List As) (t : Ty) : Option Ty → Option (AExit × St)
  | some a => some (.ret, ⟨[(4, .lptr 4 0)], [(4, [.pv (vI a.kind), .pv (.str a.name), .pv (vI a.id), .pv (vI a.home), .pv (.lst (a.args.map Ty.pv))])], [], [0]⟩)
  | none => some (.exit 0, ⟨[(1, .pv (.lst (s.map As.pv))), (2, .lptr 2 0), (4, .lptr 4 0), (5, .pv (vI s.length)), (14, .pv (.bool false))],
      [(2, [.pv (vI t.kind), .pv (.str t.name), .pv (vI t.id), .pv (vI t.home), .pv (.lst (t.args.map Ty.pv))]), (4, [.pv (vI 0), .pv (.str []), .pv (vI 0), .pv (vI 0), .own [] 0])], [], [0]⟩)
theorem L46a {s : List As} (hS : Sm s) (t : Ty) : ∀ (n i : Nat), s.length - i = n → i ≤ s.length →
    cl AP g46L0 ⟨[(1, .pv (.lst (s.map As.pv))), (2, .lptr 2 0), (4, .lptr 4 0), (5, .pv (vI i))],
      [(2, [.pv (vI t.kind), .pv (.str t.name), .pv (vI t.id), .pv (vI t.home), .pv (.lst (t.args.map Ty.pv))]), (4, [.pv (vI 0), .pv (.str []), .pv (vI 0), .pv (vI 0), .own [] 0])], [], [0]⟩ = R46a s t (fnd (s.drop i) t.id)
  | 0, i, hn, hi => by
    have : i = s.length := by omega
    subst this
    rw [g46L0_eq]
    simp [g46B0, fnd, R46a]
  | n + 1, i, hn, hi => by
    have hi : i < s.length := by omega
    obtain ⟨x, hx⟩ := getO hi
    unfold Sm at hS
    have ih := L46a hS t n (i + 1) (by omega) (by omega)
    simp at ih
    rw [g46L0_eq, dropC hx]
    by_cases e : x.id = t.id
    · simp (disch := omega) [-getElem?_pos, g46B0, hx, hi, e, fnd, R46a]
    · simp (disch := omega) [-getElem?_pos, g46B0, hx, hi, e, fnd, wrap_id, ih]

theorem L46b {s : List As} {t : Ty} (hS : Sm t.args) (h : ∀ x ∈ t.args, (orcL AP).p 46 [x.pv, .lst (s.map As.pv)] = some [(x.sub s).pv]) : ∀ (n i : Nat), t.args.length - i = n → i ≤ t.args.length → ∀ acc : List Ty, acc = (t.args.take i).map (Ty.sub s) →
    cl AP g46L1 ⟨[(1, .pv (.lst (s.map As.pv))), (2, .lptr 2 0), (4, .lptr 4 0), (6, .lptr 6 0), (7, .pv (vI i))],
      [(2, [.pv (vI t.kind), .pv (.str t.name), .pv (vI t.id), .pv (vI t.home), .pv (.lst (t.args.map Ty.pv))]), (4, [.pv (vI 0), .pv (.str []), .pv (vI 0), .pv (vI 0), .own [] 0]),
        (6, [.pv (vI t.kind), .pv (.str t.name), .pv (vI t.id), .pv (vI t.home), .own (acc.map Ty.pv) 1])], [], [0, acc.length]⟩ =
      some (.exit 2, ⟨[(1, .pv (.lst (s.map As.pv))), (2, .lptr 2 0), (4, .lptr 4 0), (6, .lptr 6 0), (7, .pv (vI t.args.length)), (37, .pv (.bool false))],
      [(2, [.pv (vI t.kind), .pv (.str t.name), .pv (vI t.id), .pv (vI t.home), .pv (.lst (t.args.map Ty.pv))]), (4, [.pv (vI 0), .pv (.str []), .pv (vI 0), .pv (vI 0), .own [] 0]),
        (6, [.pv (vI t.kind), .pv (.str t.name), .pv (vI t.id), .pv (vI t.home), .own ((t.args.map (Ty.sub s)).map Ty.pv) 1])], [], [0, t.args.length]⟩)
  | 0, i, hn, hi, acc, ha => by
    have : i = t.args.length := by omega
    subst this
    subst ha
    rw [g46L1_eq]
    simp [g46B1]
  | n + 1, i, hn, hi, acc, ha => by
    have hi : i < t.args.length := by omega
    obtain ⟨x, hx⟩ := getO hi
    unfold Sm at hS
    have hb : (acc.length + 1) * 64 ≤ 140737488355328 := by subst ha; simp; omega
    have hc := h x (memO hx)
    have ih := L46b hS h n (i + 1) (by omega) (by omega) (acc ++ [x.sub s]) (by rw [List.take_add_one, hx, ha]; simp)
    rw [g46L1_eq] at ih ⊢
    simp at ih hc
    simp (disch := omega) [-getElem?_pos, g46B1, hx, hi, hc, hb, wrap_id]
    rw [g46L1_eq]
    simp [ih]

theorem c46 {s : List As} (hS : Sm s) {t : Ty} (hO : t.Ok) : (orcL AP).p 46 [t.pv, .lst (s.map As.pv)] = some [(t.sub s).pv] := by
  revert hO
  refine Ty.rec1 (p := fun t => t.Ok → (orcL AP).p 46 [t.pv, .lst (s.map As.pv)] = some [(t.sub s).pv]) ?_ t
  intro t ih hO
  rw [callP_body (af := g46) rfl rfl (by decide)]
  by_cases hk : t.kind = 1
  · have h := L46a hS t _ 0 rfl (by omega)
    rw [g46L0_eq] at h
    simp at h
    cases hf : fnd s t.id with
    | none =>
      rw [hf] at h
      simp [R46a, hk] at h
      simp [g46, hk, g46L0_eq, h, Ty.sub_eq, hf]
    | some a =>
      rw [hf] at h
      simp [R46a, hk] at h
      simp [g46, hk, g46L0_eq, h, Ty.sub_eq, hf]
  · have h := L46b (s := s) hO.sm (fun x hx => ih x hx (hO.kid x hx)) _ 0 rfl (by omega) [] (by simp)
    rw [g46L1_eq] at h
    simp at h
    simp [g46, hk, g46L1_eq, h, Ty.sub_eq]
end Go.Ab.Lw
namespace Go.Ab.Lw
open Ev
set_option maxRecDepth 10000
set_option linter.unusedSimpArgs false
/-- Shared memory that holds plain data alone. -/
def Quiet (sh : Sh) : Prop := ∀ cs, some cs ∈ sh → ∀ v ∈ cs, ∃ p, v = AV.pv p

theorem normL_pv {old ts : Toks} : ∀ {cs : List AV}, (∀ v ∈ cs, ∃ p, v = AV.pv p) → normL old ts cs = (cs, old, ts)
  | [], _ => rfl
  | v :: r, h => by
    obtain ⟨p, rfl⟩ := h v (by simp)
    simp only [normL_cons, normV_pv, normL_pv (cs := r) (fun v hv => h v (by simp [hv]))]
theorem Quiet.norm : ∀ {sh : Sh}, Quiet sh → ∀ old ts, normS old ts sh = (sh, old, ts)
  | [], _, _, _ => rfl
  | none :: sh, h, old, ts => by
    simp only [normS_none, Quiet.norm (sh := sh) (fun cs hc => h cs (by simp [hc]))]
  | some cs :: sh, h, old, ts => by
    simp only [normS_some, normL_pv (h cs (by simp)), Quiet.norm (sh := sh) (fun cs hc => h cs (by simp [hc]))]
theorem shiftL_pv {n : Nat} : ∀ {cs : List AV}, (∀ v ∈ cs, ∃ p, v = AV.pv p) → cs.map (shiftV n) = cs
  | [], _ => rfl
  | v :: r, h => by
    obtain ⟨p, rfl⟩ := h v (by simp)
    simp only [List.map_cons, shiftV_pv, shiftL_pv (cs := r) (fun v hv => h v (by simp [hv]))]
theorem Quiet.shift : ∀ {sh : Sh}, Quiet sh → ∀ n, shiftS n sh = sh
  | [], _, _ => rfl
  | none :: sh, h, n => by
    simp only [shiftS_none, Quiet.shift (sh := sh) (fun cs hc => h cs (by simp [hc]))]
  | some cs :: sh, h, n => by
    simp only [shiftS_some, shiftL_pv (h cs (by simp)), Quiet.shift (sh := sh) (fun cs hc => h cs (by simp [hc]))]
theorem Quiet.app {a b : Sh} (ha : Quiet a) (hb : Quiet b) : Quiet (a ++ b) := by
  intro cs hc
  simp only [List.mem_append] at hc
  rcases hc with hc | hc
  · exact ha cs hc
  · exact hb cs hc
theorem Quiet.one {cs : List AV} (h : ∀ v ∈ cs, ∃ p, v = AV.pv p) : Quiet [some cs] := by
  intro cs' hc
  simp at hc
  subst hc
  exact h

@[simp] theorem getEnd {α : Type} {l : List α} {x : α} : (l ++ [x])[l.length]? = some x := by simp
@[simp] theorem setEnd {α : Type} {l : List α} {x y : α} : (l ++ [x]).set l.length y = l ++ [y] := by simp [List.set_append]
@[simp] theorem takeEnd {α : Type} {l : List α} {x : α} : (l ++ [x]).take l.length = l := by simp

/-! ### An array of types under way -/

def Ty.cl (t : Ty) : List AV := [.pv (vI t.kind), .pv (.str t.name), .pv (vI t.id), .pv (vI t.home), .pv (.lst (t.args.map Ty.pv))]
def zcl : List AV := [.pv (vI 0), .pv (.str []), .pv (vI 0), .pv (vI 0), .pv (.lst [])]
def arrC (d : List Ty) (m : Nat) : List AV := d.flatMap Ty.cl ++ (List.replicate m zcl).flatten
theorem flat_len {d : List Ty} : (d.flatMap Ty.cl).length = d.length * 5 := by
  induction d with
  | nil => rfl
  | cons a r ih => simp [ih, Ty.cl, Nat.add_mul]
theorem rep_len {m : Nat} : ((List.replicate m zcl).flatten).length = m * 5 := by
  simp [zcl]
theorem arrC_len {d : List Ty} {m : Nat} : (arrC d m).length = (d.length + m) * 5 := by
  simp only [arrC, List.length_append, flat_len, rep_len, Nat.add_mul]
theorem arrC_set {d : List Ty} {m : Nat} {t : Ty} : setRange (arrC d (m + 1)) (d.length * 5) t.cl = arrC (d ++ [t]) m := by
  have e : arrC d (m + 1) = d.flatMap Ty.cl ++ (zcl ++ (List.replicate m zcl).flatten) := by simp [arrC, List.replicate_succ]
  have hl : (d.flatMap Ty.cl).length = d.length * 5 := flat_len
  rw [setRange_eq, e, ← hl, List.take_left, List.drop_append, List.drop_eq_nil_of_le (by omega)]
  have : (d.flatMap Ty.cl).length + t.cl.length - (d.flatMap Ty.cl).length = 5 := by simp [Ty.cl]
  rw [this]
  simp [arrC, zcl]
theorem arrC_pv {d : List Ty} {m : Nat} : ∀ v ∈ arrC d m, ∃ p, v = AV.pv p := by
  intro v hv
  simp only [arrC, List.mem_append, List.mem_flatMap, List.mem_flatten, List.mem_replicate] at hv
  rcases hv with ⟨t, _, hv⟩ | ⟨l, ⟨_, rfl⟩, hv⟩
  · simp [Ty.cl] at hv
    rcases hv with rfl | rfl | rfl | rfl | rfl <;> exact ⟨_, rfl⟩
  · simp [zcl] at hv
    rcases hv with rfl | rfl | rfl | rfl | rfl <;> exact ⟨_, rfl⟩
theorem mapB_pvs {l : List AV} (h : ∀ v ∈ l, ∃ p, v = .pv p) : mapB l = false := by
  cases l with
  | nil => rfl
  | cons c r => obtain ⟨p, rfl⟩ := h c (by simp); rfl
@[simp] theorem arrC_mapB {d : List Ty} {m : Nat} : mapB (arrC d m) = false := mapB_pvs arrC_pv

theorem frzL_app {a b : List AV} {x y : List PV} (ha : frzL a = some x) (hb : frzL b = some y) : frzL (a ++ b) = some (x ++ y) := by
  induction a generalizing x with
  | nil => simp at ha; subst ha; exact hb
  | cons v r ih =>
    simp only [frzL_cons] at ha
    simp only [List.cons_append, frzL_cons]
    cases h1 : frz0 v with
    | none => rw [h1] at ha; cases ha
    | some p =>
      cases h2 : frzL r with
      | none => rw [h1, h2] at ha; cases ha
      | some q =>
        rw [h1, h2] at ha
        simp at ha
        subst ha
        rw [ih h2]; rfl
theorem arrC_frz : ∀ {d : List Ty}, ((frzL (arrC d 0)).bind (arrEls 5 true d.length)).map PV.lst = some (.lst (d.map Ty.pv)) := by
  have key : ∀ d : List Ty, ∃ ps, frzL (d.flatMap Ty.cl) = some ps ∧ (chunk 5 d.length ps).map PV.agg = d.map Ty.pv := by
    intro d
    induction d with
    | nil => exact ⟨[], rfl, rfl⟩
    | cons t r ih =>
      obtain ⟨ps, h1, h2⟩ := ih
      refine ⟨[vI t.kind, .str t.name, vI t.id, vI t.home, .lst (t.args.map Ty.pv)] ++ ps, ?_, ?_⟩
      · rw [List.flatMap_cons]
        exact frzL_app (by simp [Ty.cl]) h1
      · simp only [List.length_cons, chunk]
        simp [h2]
  intro d
  obtain ⟨ps, h1, h2⟩ := key d
  have : arrC d 0 = d.flatMap Ty.cl := by simp [arrC]
  rw [this, h1]
  simp only [Option.bind_some, arrEls, if_true, Option.map_some, h2]

/-! ### Rebuilding -/

mutual
def Ty.rbl (f : Ty → Ty) : Ty → Ty
  | ⟨k, n, i, h, as⟩ => match as with
    | [] => f ⟨k, n, i, h, []⟩
    | a :: r => ⟨k, n, i, h, a.rbl f :: Ty.rbls f r⟩
def Ty.rbls (f : Ty → Ty) : List Ty → List Ty
  | [] => []
  | a :: r => a.rbl f :: Ty.rbls f r
end
theorem Ty.rbls_map (f : Ty → Ty) : ∀ l : List Ty, Ty.rbls f l = l.map (Ty.rbl f)
  | [] => by simp [Ty.rbls]
  | a :: r => by simp [Ty.rbls, Ty.rbls_map f r]
theorem Ty.rbl_nil {f : Ty → Ty} {t : Ty} (h : t.args = []) : t.rbl f = f t := by
  obtain ⟨k, n, i, hm, as⟩ := t
  simp at h
  subst h
  simp [Ty.rbl]
theorem Ty.rbl_cons {f : Ty → Ty} {t : Ty} (h : ¬ t.args = []) : t.rbl f = ⟨t.kind, t.name, t.id, t.home, t.args.map (Ty.rbl f)⟩ := by
  obtain ⟨k, n, i, hm, as⟩ := t
  cases as with
  | nil => simp at h
  | cons a r => simp [Ty.rbl, Ty.rbls_map]

/-- What a function value makes of leaves, whatever arrays are under way. -/
def LeafF (g : Nat) (cap : List AV) (c0 : List AV) (f : Ty → Ty) : Prop := ∀ (sh : Sh) (x : Ty), Quiet sh → sh[0]? = some (some c0) → x.args = [] → (orcL AP).i g (.pv x.pv :: cap) sh [] = some ([(f x).av], sh, [])

def R91 (F : AV) (t : Ty) (f : Ty → Ty) (sh0 : Sh) : Option (AExit × St) :=
  some (.exit 0, ⟨[(1, F), (2, .lptr 2 0), (4, .lptr 4 0), (5, .sarr sh0.length 5 t.args.length true), (20, .pv (.lst (t.args.map Ty.pv))), (21, .pv (vI t.args.length)), (22, .pv (vI t.args.length)), (23, .pv (.bool false))],
    [(2, t.cl), (4, [.pv (vI 0), .pv (.str []), .pv (vI 0), .pv (vI 0), .own [] 0])], sh0 ++ [some (arrC (t.args.map (Ty.rbl f)) 0)], [0]⟩)

theorem L91 {g : Nat} {cap : List AV} {c0 : List AV} {f : Ty → Ty} {t : Ty} {sh0 : Sh} (hq : Quiet sh0) (h0 : sh0[0]? = some (some c0)) (hcap : flatB.flatL cap = true) (hpass : passB.passL cap = true) (hS : Sm t.args)
    (h : ∀ x ∈ t.args, ∀ sh, Quiet sh → sh[0]? = some (some c0) → (orcL AP).i 91 [.pv x.pv, .fn g cap] sh [] = some ([(x.rbl f).av], sh, [])) : ∀ (n i : Nat), t.args.length - i = n → i ≤ t.args.length → ∀ d : List Ty, d = (t.args.take i).map (Ty.rbl f) →
    cl AP g91L0 ⟨[(1, .fn g cap), (2, .lptr 2 0), (4, .lptr 4 0), (5, .sarr sh0.length 5 t.args.length true), (20, .pv (.lst (t.args.map Ty.pv))), (21, .pv (vI t.args.length)), (22, .pv (vI i))],
      [(2, t.cl), (4, [.pv (vI 0), .pv (.str []), .pv (vI 0), .pv (vI 0), .own [] 0])], sh0 ++ [some (arrC d n)], [0]⟩ = R91 (.fn g cap) t f sh0
  | 0, i, hn, hi, d, hd => by
    have : i = t.args.length := by omega
    subst this
    have hd' : d = t.args.map (Ty.rbl f) := by simpa using hd
    subst hd'
    have hQ := hq.app (Quiet.one (arrC_pv (d := t.args.map (Ty.rbl f)) (m := 0)))
    rw [g91L0_eq]
    simp [g91B0, R91, hcap, hQ.norm, Ty.cl]
  | n + 1, i, hn, hi, d, hd => by
    have hi : i < t.args.length := by omega
    obtain ⟨x, hx⟩ := getO hi
    unfold Sm at hS
    have hdl : d.length = i := by rw [hd]; simp; omega
    have hQ := hq.app (Quiet.one (arrC_pv (d := d) (m := n + 1)))
    have h0' : (sh0 ++ [some (arrC d (n + 1))])[0]? = some (some c0) := by
      rw [List.getElem?_append_left]; exact h0; exact (List.getElem?_eq_some_iff.1 h0).1
    have hc := h x (memO hx) _ hQ h0'
    have ih := L91 hq h0 hcap hpass hS h n (i + 1) (by omega) (by omega) (d ++ [x.rbl f]) (by rw [List.take_add_one, hx, hd]; simp)
    have hset : setRange (arrC d (n + 1)) (i * 5) (x.rbl f).cl = arrC (d ++ [x.rbl f]) n := by rw [← hdl]; exact arrC_set
    have hlen : i * 5 + 5 ≤ (arrC d (n + 1)).length := by rw [arrC_len]; omega
    have hQ2 := hq.app (Quiet.one (arrC_pv (d := d ++ [x.rbl f]) (m := n)))
    rw [g91L0_eq] at ih ⊢
    simp [Ty.cl, hcap, hQ2.norm] at ih hset hc
    simp (disch := omega) [-getElem?_pos, g91B0, hx, hi, hcap, hpass, hQ.norm, hQ.shift, Ty.cl, hc, hset, hlen, wrap_id]
    rw [g91L0_eq]
    simp [ih, hcap, hQ2.norm]

theorem c91 {g : Nat} {cap : List AV} {c0 : List AV} {f : Ty → Ty} (hf : LeafF g cap c0 f) (hcap : flatB.flatL cap = true) (hpass : passB.passL cap = true) (harg : argsOf [] 1 cap = cap) (hnrm : ∀ old ts, normL old ts cap = (cap, old, ts)) (hpo : cap.all passO = true) {t : Ty} (hO : t.Ok) :
    ∀ sh, Quiet sh → sh[0]? = some (some c0) → (orcL AP).i 91 [.pv t.pv, .fn g cap] sh [] = some ([(t.rbl f).av], sh, []) := by
  revert hO
  refine Ty.rec1 (p := fun t => t.Ok → ∀ sh, Quiet sh → sh[0]? = some (some c0) → (orcL AP).i 91 [.pv t.pv, .fn g cap] sh [] = some ([(t.rbl f).av], sh, [])) ?_ t
  intro t ih hO sh hq h0
  rw [callI_body (af := g91) rfl (by simp [g91])]
  by_cases hn : t.args = []
  · have h := hf sh t hq h0 hn
    simp [hn] at h
    simp [g91, hn, hcap, hpass, harg, hnrm, hpo, hq.norm, hq.shift, h, Ty.rbl_nil hn]
  · have hl : ¬ t.args.length = 0 := by simpa using hn
    have hS := hO.sm
    have h := L91 hq h0 hcap hpass hO.sm (fun x hx => ih x hx (hO.kid x hx)) t.args.length 0 (by omega) (by omega) [] (by simp)
    have hz : arrC [] t.args.length = (List.replicate t.args.length [.pv (vI 0), .pv (.str []), .pv (vI 0), .pv (vI 0), .pv (.lst [])]).flatten := by simp [arrC, zcl]
    have hQ := hq.app (Quiet.one (arrC_pv (d := []) (m := t.args.length)))
    rw [g91L0_eq] at h
    unfold Sm at hS
    have b1 : (t.args.length : Int) ≤ 9223372036854775807 := by omega
    have b2 : (t.args.length : Int) * 64 ≤ 140737488355328 := by omega
    rw [hz] at h hQ
    simp [hcap, hQ.norm, Ty.cl, R91] at h
    have hQ2 := hq.app (Quiet.one (arrC_pv (d := t.args.map (Ty.rbl f)) (m := 0)))
    have hfr := arrC_frz (d := t.args.map (Ty.rbl f))
    have hle := arrC_len (d := t.args.map (Ty.rbl f)) (m := 0)
    simp at hfr hle
    simp (disch := omega) [g91, hn, hl, hcap, hpass, hq.norm, hq.shift, b1, b2, g91L0_eq, hQ.norm, h, Ty.rbl_cons hn, hfr, hle]
end Go.Ab.Lw
namespace Go.Ab.Lw
open Ev
set_option maxRecDepth 10000
set_option linter.unusedSimpArgs false
def subLeaf (s : List As) (x : Ty) : Ty := if x.kind = 1 then (fnd s x.id).getD x else x

theorem rbl_sub {s : List As} {t : Ty} (h : t.Wf) : t.rbl (subLeaf s) = t.sub s := by
  revert h
  refine Ty.rec1 (p := fun t => t.Wf → t.rbl (subLeaf s) = t.sub s) ?_ t
  intro t ih h
  by_cases hn : t.args = []
  · rw [Ty.rbl_nil hn, Ty.sub_eq]
    unfold subLeaf
    split
    · rfl
    · cases t; simp at hn; simp [hn]
  · have hk : ¬ t.kind = 1 := fun e => hn (h.var e)
    rw [Ty.rbl_cons hn, Ty.sub_eq, if_neg hk]
    congr 1
    exact List.map_congr_left fun x hx => ih x hx (h.kid x hx)

def R92 (s : List As) (t : Ty) (sh : Sh) : Option Ty → Option (AExit × St)
  | some a => some (.ret, ⟨[(3, .lptr 3 0)], [(3, a.cl)], sh, [0]⟩)
  | none => some (.exit 0, ⟨[(2, .lptr 2 0), (3, .lptr 3 0), (9, .pv (.lst (s.map As.pv))), (10, .pv (vI s.length)), (11, .pv (vI s.length)), (12, .pv (.bool false))],
      [(2, t.cl), (3, [.pv (vI 0), .pv (.str []), .pv (vI 0), .pv (vI 0), .own [] 0])], sh, [0]⟩)
theorem L92 {s : List As} (hS : Sm s) (t : Ty) {sh : Sh} (hq : Quiet sh) : ∀ (n i : Nat), s.length - i = n → i ≤ s.length →
    cl AP g92L0 ⟨[(2, .lptr 2 0), (3, .lptr 3 0), (9, .pv (.lst (s.map As.pv))), (10, .pv (vI s.length)), (11, .pv (vI i))],
      [(2, t.cl), (3, [.pv (vI 0), .pv (.str []), .pv (vI 0), .pv (vI 0), .own [] 0])], sh, [0]⟩ = R92 s t sh (fnd (s.drop i) t.id)
  | 0, i, hn, hi => by
    have : i = s.length := by omega
    subst this
    rw [g92L0_eq]
    simp [g92B0, fnd, R92, Ty.cl, hq.norm]
  | n + 1, i, hn, hi => by
    have hi : i < s.length := by omega
    obtain ⟨x, hx⟩ := getO hi
    unfold Sm at hS
    have ih := L92 hS t hq n (i + 1) (by omega) (by omega)
    rw [g92L0_eq] at ih
    simp [Ty.cl, hq.norm] at ih
    rw [g92L0_eq, dropC hx]
    by_cases e : x.id = t.id
    · simp (disch := omega) [-getElem?_pos, g92B0, hx, hi, e, fnd, R92, Ty.cl, hq.norm]
    · simp (disch := omega) [-getElem?_pos, g92B0, hx, hi, e, fnd, wrap_id, Ty.cl, hq.norm]
      rw [g92L0_eq]
      simp [ih, hq.norm]

theorem c92 {s : List As} (hS : Sm s) : LeafF 92 [.sptr 0 0] [.pv (.lst (s.map As.pv))] (subLeaf s) := by
  intro sh x hq h0 hx
  rw [callI_body (af := g92) rfl (by simp [g92])]
  by_cases hk : x.kind = 1
  · have h := L92 hS x hq _ 0 rfl (by omega)
    rw [g92L0_eq] at h
    simp [Ty.cl, hq.norm] at h
    cases hf : fnd s x.id with
    | none =>
      rw [hf] at h
      simp [R92, Ty.cl, hx, hk] at h
      simp [g92, hk, h0, g92L0_eq, hq.norm, h, subLeaf, hf, hx, hq.shift]
    | some a =>
      rw [hf] at h
      simp [R92, Ty.cl, hx, hk] at h
      simp [g92, hk, h0, g92L0_eq, hq.norm, h, subLeaf, hf, hx, hq.shift]
  · simp [g92, hk, h0, hq.norm, subLeaf, hx, hq.shift]

theorem c45 {s : List As} (hS : Sm s) {t : Ty} (hO : t.Ok) (hW : t.Wf) : (orcL AP).p 45 [t.pv, .lst (s.map As.pv)] = some [(t.sub s).pv] := by
  have h := c91 (c92 hS) rfl rfl rfl (fun _ _ => rfl) rfl hO [some [.pv (.lst (s.map As.pv))]] (by intro cs hc v hv; simp at hc; subst hc; simp at hv; exact ⟨_, hv⟩) rfl
  rw [rbl_sub hW] at h
  simp at h
  rw [callP_body (af := g45) rfl rfl (by decide)]
  simp [g45, h]

/-! ### Apply -/
end Go.Ab.Lw
namespace Go.Ab.Lw
open Ev
set_option maxRecDepth 10000
set_option linter.unusedSimpArgs false
noncomputable instance : DecidableEq As := fun _ _ => Classical.propDecidable _

/-! ### Equal -/
theorem L57 {as bs : List Ty} (hS : Sm as) (hl : as.length = bs.length) (h : ∀ x ∈ as, ∀ y, (orcL AP).p 20 [x.pv, y.pv] = some [.bool (decide (x = y))]) : ∀ (n i : Nat), as.length - i = n → i ≤ as.length →
    cl AP g57L0 ⟨[(0, .pv (.lst (as.map Ty.pv))), (1, .pv (.lst (bs.map Ty.pv))), (5, .pv (.int .i64 i))], [], [], []⟩ =
      if as.drop i = bs.drop i then some (.exit 0, ⟨[(0, .pv (.lst (as.map Ty.pv))), (1, .pv (.lst (bs.map Ty.pv))), (5, .pv (.int .i64 as.length)), (14, .pv (.bool false))], [], [], []⟩)
      else some (.ret, ⟨[(4, .pv (.bool false))], [], [], []⟩)
  | 0, i, hn, hi => by
    have : i = as.length := by omega
    subst this
    rw [g57L0_eq]
    simp [g57B0, hl]
  | n + 1, i, hn, hi => by
    have hi : i < as.length := by omega
    obtain ⟨x, hx⟩ := getO hi
    obtain ⟨y, hy⟩ := getO (hl ▸ hi)
    have hc := h x (memO hx) y
    simp at hc
    rw [g57L0_eq, dropC hx, dropC hy]
    unfold Sm at hS
    have ih := L57 hS hl h n (i + 1) (by omega) (by omega)
    simp at ih
    simp (disch := omega) [-getElem?_pos, g57B0, hx, hy, hi, hc, wrap_id, ih]
    by_cases e : x = y <;> simp [e]

theorem c57 {as bs : List Ty} (hS : Sm as) (h : ∀ x ∈ as, ∀ y, (orcL AP).p 20 [x.pv, y.pv] = some [.bool (decide (x = y))]) :
    (orcL AP).p 57 [.lst (as.map Ty.pv), .lst (bs.map Ty.pv)] = some [.bool (decide (as = bs))] := by
  rw [callP_body (af := g57) rfl rfl (by decide)]
  by_cases hl : as.length = bs.length
  · have hL := L57 hS hl h _ 0 rfl (by omega)
    simp at hL
    simp [g57, hl, hL]
    by_cases e : as = bs <;> simp [e]
  · have : ¬ as = bs := fun e => hl (by rw [e])
    simp [g57, hl, this]
    omega

theorem c20 {a b : Ty} (hO : a.Ok) : (orcL AP).p 20 [a.pv, b.pv] = some [.bool (decide (a = b))] := by
  revert b hO
  refine Ty.rec1 (p := fun a => ∀ {b : Ty}, a.Ok → (orcL AP).p 20 [a.pv, b.pv] = some [.bool (decide (a = b))]) ?_ a
  intro a ih b hO
  have h := c57 (bs := b.args) hO.sm (fun x hx y => ih x hx (hO.kid x hx))
  rw [callP_body (af := g20) rfl rfl (by decide)]
  simp [g20, h]
  cases a; cases b
  simp
  (repeat' split) <;> simp_all

/-! ### Compose -/
end Go.Ab.Lw
namespace Go.Ab.Lw
open Ev
set_option maxRecDepth 10000
set_option linter.unusedSimpArgs false
theorem params_few : ∀ d ∈ allDatas, d.params.length ≤ 8 := by decide +kernel

theorem Made.ok {lv : Ty → Prop} (h : ∀ t, lv t → t.args = []) {t : Ty} (m : Made lv t) : t.Ok := by
  induction m with
  | leaf hl => exact ⟨by rw [h _ hl]; simp [Sm], by rw [h _ hl]; simp⟩
  | int => exact ⟨by simp [tyInt, Sm], by simp [tyInt]⟩
  | con hd hl _ ih => exact ⟨by have := params_few _ hd; simp only [Sm]; omega, ih⟩
  | arrow _ _ ha hb => exact ⟨by simp [Sm], by intro x hx; simp at hx; rcases hx with rfl | rfl <;> assumption⟩
theorem Made.wf {lv : Ty → Prop} (h : ∀ t, lv t → t.args = []) {t : Ty} (m : Made lv t) : t.Wf := by
  induction m with
  | leaf hl => exact ⟨fun _ => h _ hl, by rw [h _ hl]; simp⟩
  | int => exact ⟨by simp [tyInt], by simp [tyInt]⟩
  | con hd hl _ ih => exact ⟨by simp, ih⟩
  | arrow _ _ ha hb => exact ⟨by simp, by intro x hx; simp at hx; rcases hx with rfl | rfl <;> assumption⟩
theorem fnd_mem : ∀ {s : List As} {id : Int} {t : Ty}, fnd s id = some t → ∃ a ∈ s, a.ty = t
  | a :: r, id, t, h => by
    simp only [fnd] at h
    split at h
    · cases h; exact ⟨a, by simp, rfl⟩
    · obtain ⟨b, hb, e⟩ := fnd_mem h; exact ⟨b, by simp [hb], e⟩

theorem sub_ok {s : List As} (hs : ∀ a ∈ s, a.ty.Ok) {t : Ty} (h : t.Ok) : (t.sub s).Ok := by
  revert h
  refine Ty.rec1 (p := fun t => t.Ok → (t.sub s).Ok) ?_ t
  intro t ih h
  rw [Ty.sub_eq]
  split
  · cases hf : fnd s t.id with
    | none => simpa using h
    | some a => obtain ⟨b, hb, rfl⟩ := fnd_mem hf; simpa using hs b hb
  · refine ⟨by have := h.sm; unfold Sm at *; simpa using this, ?_⟩
    intro x hx
    simp at hx
    obtain ⟨y, hy, rfl⟩ := hx
    exact ih y hy (h.kid y hy)
theorem sub_wf {s : List As} (hs : ∀ a ∈ s, a.ty.Wf) {t : Ty} (h : t.Wf) : (t.sub s).Wf := by
  revert h
  refine Ty.rec1 (p := fun t => t.Wf → (t.sub s).Wf) ?_ t
  intro t ih h
  rw [Ty.sub_eq]
  split
  · cases hf : fnd s t.id with
    | none => simpa using h
    | some a => obtain ⟨b, hb, rfl⟩ := fnd_mem hf; simpa using hs b hb
  · rename_i hk
    refine ⟨fun e => absurd e hk, ?_⟩
    intro x hx
    simp at hx
    obtain ⟨y, hy, rfl⟩ := hx
    exact ih y hy (h.kid y hy)

end Go.Ab.Lw
namespace Go.Ab.Lw
open Ev
set_option maxRecDepth 10000
set_option linter.unusedSimpArgs false
/-- The first place where something holds. -/
def idxB {α : Type} (p : α → Bool) : List α → Option Nat
  | [] => none
  | a :: r => if p a = true then some 0 else (idxB p r).map (· + 1)
theorem idxB_none {α : Type} {p : α → Bool} : ∀ {l : List α}, idxB p l = none ↔ ∀ x ∈ l, p x = false
  | [] => by simp [idxB]
  | a :: r => by
    simp only [idxB]
    by_cases h : p a = true
    · simp [h]
    · have h : p a = false := by simpa using h
      simp [h, idxB_none]
end Go.Ab.Lw
namespace Go.Ab.Lw
open Ev
set_option maxRecDepth 10000
set_option linter.unusedSimpArgs false
/-- Elements of that many cells. -/
structure El {α : Type} (f : α → PV) (sz : Nat) (ag : Bool) : Prop where
  len : ∀ x, (cellsP (f x)).length = sz
  of : ∀ x, ofCellsP ag sz (cellsP (f x)) = some (.pv (f x))

theorem El.head {α : Type} {f : α → PV} {sz : Nat} {ag : Bool} (h : El f sz ag) (l : List α) : headSz sz (l.map f) = true := by
  cases l with
  | nil => rfl
  | cons x r => simp [headSz, h.len x]

theorem el_int : El vI 1 false := ⟨fun _ => rfl, fun _ => rfl⟩
def idxI (o : Option Nat) : Int := match o with | some k => k | none => -1
theorem idxB_any {α : Type} {p : α → Bool} {s : List α} : decide (0 ≤ idxI (idxB p s)) = s.any p := by
  cases hi : idxB p s with
  | none =>
    have : s.any p = false := by rw [List.any_eq_false]; intro x hx; rw [idxB_none.1 hi x hx]; simp
    rw [this]; rfl
  | some k =>
    have : s.any p = true := by
      cases e : s.any p with
      | true => rfl
      | false => rw [List.any_eq_false] at e; have := idxB_none.2 (fun x hx => by simpa using e x hx); rw [hi] at this; cases this
    rw [this]; simp [idxI]

end Go.Ab.Lw
namespace Go.Ab.Lw
open Ev
set_option maxRecDepth 10000
set_option linter.unusedSimpArgs false
/-- Behind a round. -/
def backGo (f : St → Option (AExit × St)) (live : List Nat) (pi px sz : Nat) (ag : Bool) (env : List (Nat × AV)) (r : List (PV × Nat)) : Option (AExit × St) → Option (AExit × St)
  | some (.normal, st') => backN f live pi px sz ag env r st'
  | some (e, st') => some (e, { st' with env := env })
  | none => none
@[simp] theorem backGo_normal {f : St → Option (AExit × St)} {live : List Nat} {pi px sz : Nat} {ag : Bool} {env : List (Nat × AV)} {r : List (PV × Nat)} {st : St} : backGo f live pi px sz ag env r (some (.normal, st)) = backN f live pi px sz ag env r st := rfl
@[simp] theorem backGo_ret {f : St → Option (AExit × St)} {live : List Nat} {pi px sz : Nat} {ag : Bool} {env e : List (Nat × AV)} {r : List (PV × Nat)} {mem : List (Nat × List AV)} {sh : Sh} {toks : Toks} : backGo f live pi px sz ag env r (some (.ret, ⟨e, mem, sh, toks⟩)) = some (.ret, ⟨env, mem, sh, toks⟩) := rfl
@[simp] theorem backGo_exit {f : St → Option (AExit × St)} {live : List Nat} {pi px sz : Nat} {ag : Bool} {env e : List (Nat × AV)} {r : List (PV × Nat)} {mem : List (Nat × List AV)} {sh : Sh} {toks : Toks} {id : Nat} : backGo f live pi px sz ag env r (some (.exit id, ⟨e, mem, sh, toks⟩)) = some (.exit id, ⟨env, mem, sh, toks⟩) := rfl
@[simp] theorem backGo_ite {f : St → Option (AExit × St)} {live : List Nat} {pi px sz : Nat} {ag : Bool} {env : List (Nat × AV)} {r : List (PV × Nat)} {c : Prop} [Decidable c] {x y : Option (AExit × St)} : backGo f live pi px sz ag env r (if c then x else y) = if c then backGo f live pi px sz ag env r x else backGo f live pi px sz ag env r y := by split <;> rfl

@[simp] theorem backN_nil {f : St → Option (AExit × St)} {live : List Nat} {pi px sz : Nat} {ag : Bool} {env e : List (Nat × AV)} {mem : List (Nat × List AV)} {sh : Sh} {toks : Toks} : backN f live pi px sz ag env [] ⟨e, mem, sh, toks⟩ = some (.normal, ⟨env, mem, sh, toks⟩) := rfl
/-- Two parts of a round. -/
def andK (g : St → Option (AExit × St)) : Option (AExit × St) → Option (AExit × St)
  | some (.normal, st') => g st'
  | _ => none
@[simp] theorem andK_normal {g : St → Option (AExit × St)} {st : St} : andK g (some (.normal, st)) = g st := rfl

@[simp] theorem cl_backR {c : AOpd} {gb pi px sz : Nat} {ag : Bool} {live : List Nat} {x y : ACode} {env : List (Nat × AV)} {mem : List (Nat × List AV)} {sh : Sh} {toks : Toks} :
    cl AP (.back c gb pi px sz ag live x y) ⟨env, mem, sh, toks⟩ = backWith (andThen (cl AP x) (cl AP y)) (evOpd env c) gb pi px sz ag live ⟨env, mem, sh, toks⟩ := cl_back

end Go.Ab.Lw
namespace Go.Ab.Lw
open Ev
set_option maxRecDepth 10000
set_option linter.unusedSimpArgs false
/-- Names within are short, too. -/
inductive Ty.Nm : Ty → Prop
  | mk {t : Ty} : SmS t.name → (∀ x ∈ t.args, Ty.Nm x) → Ty.Nm t
theorem Ty.Nm.sm {t : Ty} (h : t.Nm) : SmS t.name := by cases h; assumption
theorem Ty.Nm.kid {t : Ty} (h : t.Nm) : ∀ x ∈ t.args, x.Nm := by cases h; assumption

end Go.Ab.Lw
namespace Go.Ab.Lw
open Ev
set_option maxRecDepth 10000
set_option linter.unusedSimpArgs false
/-- A scheme: its number of quantified variables, and its type. -/
abbrev Sc := As
/-- An entry of a context. -/
structure En where
  name : List UInt8
  sc : Sc
  deriving Inhabited
def En.pv (a : En) : PV := .agg [.str a.name, .int .i64 a.sc.id, .int .i64 a.sc.ty.kind, .str a.sc.ty.name, .int .i64 a.sc.ty.id, .int .i64 a.sc.ty.home, .lst (a.sc.ty.args.map Ty.pv)]
@[simp] theorem En.pv_eq (a : En) : a.pv = .agg [.str a.name, .int .i64 a.sc.id, .int .i64 a.sc.ty.kind, .str a.sc.ty.name, .int .i64 a.sc.ty.id, .int .i64 a.sc.ty.home, .lst (a.sc.ty.args.map Ty.pv)] := rfl
@[simp] theorem En.eta (t : En) : En.mk t.name t.sc = t := rfl
theorem el_en : El En.pv 7 true := ⟨fun x => by simp, fun x => by simp⟩
noncomputable instance : DecidableEq En := fun _ _ => Classical.propDecidable _
@[simp] theorem headSz_En {l : List En} : headSz 7 (l.map En.pv) = true := el_en.head l

end Go.Ab.Lw
namespace Go.Ab.Lw

section
variable {P : Program} {n : Nat} {t e : TypeId} {p : PV}

theorem shp_int (hu : P.underlying t = some (.int .i64)) (h : Shp P n t p) : ∃ i, p = vI i := by
  cases n with
  | zero => simp [Shp] at h
  | succ n => simp only [Shp, hu] at h; obtain ⟨i, rfl, _⟩ := h; exact ⟨i, rfl⟩
theorem shp_bool (hu : P.underlying t = some .bool) (h : Shp P n t p) : ∃ b, p = .bool b := by
  cases n with
  | zero => simp [Shp] at h
  | succ n => simp only [Shp, hu] at h; exact h
theorem shp_str (hu : P.underlying t = some .string) (h : Shp P n t p) : ∃ s, p = .str s := by
  cases n with
  | zero => simp [Shp] at h
  | succ n => simp only [Shp, hu] at h; obtain ⟨s, rfl, _⟩ := h; exact ⟨s, rfl⟩
/-- A slice of what a function of pure data makes. -/
theorem shp_list {α : Type} {f : α → PV} (hu : P.underlying t = some (.slice e)) (he : ∀ (m : Nat) (q : PV), Shp P m e q → ∃ x, q = f x) (h : Shp P n t p) : ∃ l : List α, p = .lst (l.map f) := by
  cases n with
  | zero => simp [Shp] at h
  | succ n =>
    simp only [Shp, hu] at h
    obtain ⟨els, rfl, _, h⟩ := h
    have key : ∀ els : List PV, (∀ q ∈ els, Shp P n e q) → ∃ l : List α, els = l.map f := by
      intro els
      induction els with
      | nil => intro _; exact ⟨[], rfl⟩
      | cons q r ih =>
        intro h
        obtain ⟨x, rfl⟩ := he n q (h q (by simp))
        obtain ⟨l, rfl⟩ := ih (fun q hq => h q (by simp [hq]))
        exact ⟨x :: l, rfl⟩
    obtain ⟨l, rfl⟩ := key els h
    exact ⟨l, rfl⟩
theorem shp_ints (hu : P.underlying t = some (.slice e)) (he : P.underlying e = some (.int .i64)) (h : Shp P n t p) : ∃ L : List Int, p = .lst (L.map vI) :=
  shp_list hu (fun _ _ h => shp_int he h) h

/-- A type. -/
theorem shp_ty {ti ts tl tt : TypeId} {f0 f1 f2 f3 f4 : Field} (hi : P.underlying ti = some (.int .i64)) (hs : P.underlying ts = some .string) (hl : P.underlying tl = some (.slice tt))
    (ht : P.underlying tt = some (.struct #[f0, f1, f2, f3, f4])) (e0 : f0.type = ti) (e1 : f1.type = ts) (e2 : f2.type = ti) (e3 : f3.type = ti) (e4 : f4.type = tl) :
    ∀ (n : Nat) (p : PV), Shp P n tt p → ∃ x : Ty, p = x.pv
  | 0, p, h => by simp [Shp] at h
  | n + 1, p, h => by
    simp only [Shp, ht] at h
    obtain ⟨ps, rfl, h⟩ := h
    match ps, h with
    | [p0, p1, p2, p3, p4], ⟨h0, h1, h2, h3, h4, _⟩ =>
      rw [e0] at h0; rw [e1] at h1; rw [e2] at h2; rw [e3] at h3; rw [e4] at h4
      obtain ⟨k, rfl⟩ := shp_int hi h0
      obtain ⟨s, rfl⟩ := shp_str hs h1
      obtain ⟨i, rfl⟩ := shp_int hi h2
      obtain ⟨m, rfl⟩ := shp_int hi h3
      cases n with
      | zero => simp [Shp] at h4
      | succ n =>
        simp only [Shp, hl] at h4
        obtain ⟨els, rfl, _, h4⟩ := h4
        have key : ∀ els : List PV, (∀ q ∈ els, Shp P n tt q) → ∃ l : List Ty, els = l.map Ty.pv := by
          intro els
          induction els with
          | nil => intro _; exact ⟨[], rfl⟩
          | cons q r ih =>
            intro h
            obtain ⟨x, rfl⟩ := shp_ty hi hs hl ht e0 e1 e2 e3 e4 n q (h q (by simp))
            obtain ⟨l, rfl⟩ := ih (fun q hq => h q (by simp [hq]))
            exact ⟨x :: l, rfl⟩
        obtain ⟨l, rfl⟩ := key els h4
        exact ⟨⟨k, s, i, m, l⟩, by simp [cellsP]⟩
  termination_by n => n
end
end Go.Ab.Lw

namespace Go.Ab.Lw
open Ev
set_option maxRecDepth 10000
set_option linter.unusedSimpArgs false

/-! ### Index and Contains of plain elements -/
def IxB : ACode :=
  (.seq
   (.reg [⟨some 9, none, [.t 8, .t 7], .v (.bin .lss)⟩] [0, 1, 7, 8, 9])
   (.seq
    (.cond (.t 9)
     .skip
     (.exit 0))
    (.seq
     (.block 1
      (.seq
       (.reg [⟨some 10, none, [.t 8], .v (.mv)⟩,
         ⟨some 5, none, [.t 10], .v (.mv)⟩] [0, 1, 5, 7, 8])
       (.seq
        (.reg [⟨some 11, none, [.t 1], .v (.mv)⟩,
          ⟨some 12, none, [.t 0], .v (.mv)⟩,
          ⟨some 13, none, [.t 5], .v (.mv)⟩,
          ⟨some 14, none, [.t 12, .t 13], .v (.iaddr 1)⟩,
          ⟨some 15, none, [.t 14], .v (.loadE 1 false)⟩,
          ⟨some 16, none, [.t 11, .t 15], .v (.bin .eql)⟩] [0, 1, 5, 7, 8, 16])
        (.cond (.t 16)
         (.seq
          (.reg [⟨some 17, none, [.t 5], .v (.mv)⟩,
            ⟨some 4, none, [.t 17], .v (.mv)⟩] [4])
          .ret)
         .skip))))
     (.reg [⟨some 18, none, [.t 8, .c (.pv (.int .i64 1))], .v (.bin .add)⟩,
       ⟨some 8, none, [.t 18], .v (.mv)⟩] [0, 1, 7, 8]))))
def IxL : ACode := .loop [0, 1, 7, 8] IxB
theorem IxL_eq {st : St} : cl AP IxL st = after (cl AP IxL) (cl AP IxB (norm (restrict [0, 1, 7, 8] st))) := cl_loop
def IxF : AFunc := ⟨2, 19, [.t 4],
  (.seq
   (.reg [⟨some 4, none, [.c (.pv (.int .i64 0))], .v (.mv)⟩] [0, 1])
   (.seq
    (.seq
     (.reg [⟨some 6, none, [.t 0], .v (.mv)⟩,
       ⟨some 7, none, [.t 6], .v (.len)⟩,
       ⟨some 8, none, [.c (.pv (.int .i64 0))], .v (.mv)⟩] [0, 1, 7, 8])
     (.block 0
      IxL))
    (.seq
     (.reg [⟨some 4, none, [.c (.pv (.int .i64 (-1)))], .v (.mv)⟩] [4])
     .ret))), none, false⟩
def CoF (g : Nat) : AFunc := ⟨2, 9, [.t 4],
  (.seq
   (.reg [⟨some 4, none, [.c (.pv (.bool false))], .v (.mv)⟩] [0, 1])
   (.seq
    (.reg [⟨some 5, none, [.t 0], .v (.mv)⟩,
      ⟨some 6, none, [.t 1], .v (.mv)⟩,
      ⟨some 7, none, [.t 5, .t 6], .callP g⟩,
      ⟨some 8, none, [.t 7, .c (.pv (.int .i64 0))], .v (.bin .geq)⟩,
      ⟨some 4, none, [.t 8], .v (.mv)⟩] [4])
    .ret)), none, false⟩

/-- Elements that are one cell and compared by '=='. -/
structure Eqs {α : Type} [DecidableEq α] (f : α → PV) : Prop where
  el : El f 1 false
  eq : ∀ x y, evV (.bin .eql) [.pv (f x), .pv (f y)] = some (.pv (.bool (decide (x = y))))
theorem eqs_int : Eqs vI := ⟨el_int, fun x y => by simp; rw [Bool.eq_iff_iff]; simp⟩
def RIx {α : Type} (f : α → PV) (s : List α) (y : α) (i : Nat) : Option Nat → Option (AExit × St)
  | some k => some (.ret, ⟨[(4, .pv (vI (i + k : Nat)))], [], [], []⟩)
  | none => some (.exit 0, ⟨[(0, .pv (.lst (s.map f))), (1, .pv (f y)), (7, .pv (vI s.length)), (8, .pv (vI s.length)), (9, .pv (.bool false))], [], [], []⟩)
theorem LIx {α : Type} [DecidableEq α] {f : α → PV} (he : Eqs f) {s : List α} (hS : Sm s) (y : α) : ∀ (n i : Nat), s.length - i = n → i ≤ s.length →
    cl AP IxL ⟨[(0, .pv (.lst (s.map f))), (1, .pv (f y)), (7, .pv (vI s.length)), (8, .pv (vI i))], [], [], []⟩ = RIx f s y i (idxB (fun x => decide (y = x)) (s.drop i))
  | 0, i, hn, hi => by
    have : i = s.length := by omega
    subst this
    rw [IxL_eq]
    simp [IxB, idxB, RIx]
  | n + 1, i, hn, hi => by
    have hi : i < s.length := by omega
    obtain ⟨x, hx⟩ := getO hi
    unfold Sm at hS
    have ih := LIx he hS y n (i + 1) (by omega) (by omega)
    simp at ih
    have h1 := he.el.len x
    have h2 := he.el.of x
    have h3 := he.eq y x
    rw [IxL_eq, dropC hx]
    by_cases e : y = x
    · rw [decide_eq_true e] at h3
      simp (disch := omega) [-getElem?_pos, IxB, hx, hi, e, idxB, RIx, h1, h2]
      rw [← e] at h3 ⊢
      simp [h3]
    · rw [decide_eq_false e] at h3
      simp (disch := omega) [-getElem?_pos, IxB, hx, hi, e, idxB, wrap_id, ih, h1, h2, h3]
      cases idxB (fun x => decide (y = x)) (s.drop (i + 1)) with
      | none => rfl
      | some k => simp [RIx]; omega

theorem cIx {α : Type} [DecidableEq α] {f : α → PV} (he : Eqs f) {k : Nat} (hk : AP k = some IxF) {s : List α} (hS : Sm s) {y : α} : (orcL AP).p k [.lst (s.map f), f y] = some [vI (idxI (idxB (fun x => decide (y = x)) s))] := by
  have h := LIx he hS y _ 0 rfl (by omega)
  simp at h
  rw [callP_body hk rfl (by simp [IxF])]
  cases hi : idxB (fun x => decide (y = x)) s with
  | none => rw [hi] at h; simp [RIx] at h; simp [IxF, h, idxI]
  | some k => rw [hi] at h; simp [RIx] at h; simp [IxF, h, idxI]

theorem any_mem {α : Type} [DecidableEq α] {s : List α} {y : α} : (s.any fun x => decide (y = x)) = decide (y ∈ s) := by
  rw [Bool.eq_iff_iff]; simp
theorem cCo {α : Type} [DecidableEq α] {f : α → PV} (he : Eqs f) {m k : Nat} (hm : AP m = some (CoF k)) (hk : AP k = some IxF) {s : List α} (hS : Sm s) {y : α} : (orcL AP).p m [.lst (s.map f), f y] = some [.bool (decide (y ∈ s))] := by
  have h := cIx he hk hS (y := y)
  rw [callP_body hm rfl (by simp [CoF]), ← any_mem, ← idxB_any]
  simp [CoF, h]

theorem c98 {s : List Int} (hS : Sm s) {y : Int} : (orcL AP).p 98 [.lst (s.map vI), vI y] = some [.bool (decide (y ∈ s))] := cCo eqs_int (k := 116) rfl rfl hS

/-! ### The reference's Has -/
theorem L95 {s : List Int} (hS : Sm s) (y : Int) : ∀ (n i : Nat), s.length - i = n → i ≤ s.length →
    cl AP g95L0 ⟨[(0, .pv (.lst (s.map vI))), (1, .pv (vI y)), (5, .pv (vI i))], [], [], []⟩ =
      if y ∈ s.drop i then some (.ret, ⟨[(4, .pv (.bool true))], [], [], []⟩) else some (.exit 0, ⟨[(0, .pv (.lst (s.map vI))), (1, .pv (vI y)), (5, .pv (vI s.length)), (9, .pv (.bool false))], [], [], []⟩)
  | 0, i, hn, hi => by
    have : i = s.length := by omega
    subst this
    rw [g95L0_eq]
    simp [g95B0]
  | n + 1, i, hn, hi => by
    have hi : i < s.length := by omega
    obtain ⟨x, hx⟩ := getO hi
    unfold Sm at hS
    have ih := L95 hS y n (i + 1) (by omega) (by omega)
    simp at ih
    rw [g95L0_eq, dropC hx]
    by_cases e : x = y
    · simp (disch := omega) [-getElem?_pos, g95B0, hx, hi, e]
    · have e' : ¬ y = x := fun h => e h.symm
      simp (disch := omega) [-getElem?_pos, g95B0, hx, hi, e, e', wrap_id, ih]
theorem c95 {s : List Int} (hS : Sm s) {y : Int} : (orcL AP).p 95 [.lst (s.map vI), vI y] = some [.bool (decide (y ∈ s))] := by
  have h := L95 hS y _ 0 rfl (by omega)
  simp at h
  rw [callP_body (af := g95) rfl rfl (by decide)]
  by_cases e : y ∈ s <;> simp [g95, h, e]

/-! ### All nodes -/
mutual
def Ty.nodes : Ty → List Ty
  | ⟨k, n, i, h, as⟩ => ⟨k, n, i, h, as⟩ :: Ty.nodess as
def Ty.nodess : List Ty → List Ty
  | [] => []
  | a :: r => a.nodes ++ Ty.nodess r
end
theorem Ty.nodess_eq : ∀ l : List Ty, Ty.nodess l = l.flatMap Ty.nodes
  | [] => by simp [Ty.nodess]
  | a :: r => by simp [Ty.nodess, Ty.nodess_eq r]
theorem Ty.nodes_eq (t : Ty) : t.nodes = t :: t.args.flatMap Ty.nodes := by cases t; simp only [Ty.nodes, Ty.nodess_eq]

theorem nodup_len {α : Type} [DecidableEq α] : ∀ {l S : List α}, l.Nodup → (∀ x ∈ l, x ∈ S) → l.length ≤ S.length
  | [], _, _, _ => by simp
  | x :: r, S, hn, h => by
    have hx := h x (by simp)
    have hr := nodup_len (l := r) (S := S.erase x) (List.nodup_cons.1 hn).2 (fun y hy => by
      rw [List.mem_erase_of_ne]
      · exact h y (by simp [hy])
      · rintro rfl; exact (List.nodup_cons.1 hn).1 hy)
    have := List.length_erase_of_mem hx
    have : 0 < S.length := List.length_pos_of_mem hx
    simp; omega

/-- One more variable. -/
def addI (out : List Int) (x : Ty) : List Int := if x.kind = 1 ∧ x.id ∉ out then out ++ [x.id] else out

/-- What was collected: without doubles, among few. -/
structure Coll (S out : List Int) : Prop where
  nodup : out.Nodup
  sub : ∀ x ∈ out, x ∈ S
  few : S.length < 1099511627776
theorem Coll.len {S out : List Int} (h : Coll S out) : Sm out := by
  have := nodup_len h.nodup h.sub
  have := h.few
  unfold Sm; omega
theorem Coll.add {S out : List Int} (h : Coll S out) {x : Ty} (hx : x.kind = 1 → x.id ∈ S) : Coll S (addI out x) := by
  unfold addI
  split
  · rename_i e
    refine ⟨?_, ?_, h.few⟩
    · rw [List.nodup_append]
      refine ⟨h.nodup, by simp, ?_⟩
      intro a ha b hb
      simp at hb; subst hb
      rintro rfl; exact e.2 ha
    · intro y hy
      simp at hy
      rcases hy with hy | rfl
      · exact h.sub y hy
      · exact hx e.1
  · exact h
theorem Coll.fold {S : List Int} : ∀ {l : List Ty} {out : List Int}, Coll S out → (∀ x ∈ l, x.kind = 1 → x.id ∈ S) → Coll S (l.foldl addI out)
  | [], _, h, _ => h
  | x :: r, out, h, hx => by
    simp only [List.foldl_cons]
    exact Coll.fold (h.add (hx x (by simp))) (fun y hy => hx y (by simp [hy]))

def shO (out : List Int) : Sh := [some [.own (out.map vI) 0]]
theorem c97 {S out : List Int} (h : Coll S out) (x : Ty) : (orcL AP).i 97 [.pv x.pv, .sptr 0 0] (shO out) [out.length] = some ([], shO (addI out x), [(addI out x).length]) := by
  have hl := h.len
  have k := c98 hl (y := x.id)
  unfold Sm at hl
  have hb : (out.length + 1) * 8 ≤ 140737488355328 := by omega
  have hh : headSz 1 (out.map vI) = true := el_int.head out
  rw [callI_body (af := g97) rfl (by simp [g97])]
  by_cases e1 : x.kind = 1
  · by_cases e2 : x.id ∈ out
    · rw [decide_eq_true e2] at k
      simp [g97, shO, addI, e1, e2, k, hh]
    · rw [decide_eq_false e2] at k
      simp [g97, shO, addI, e1, e2, k, hb, hh]
  · simp [g97, shO, addI, e1]

theorem L96 {S : List Int} {t : Ty} (hS : Sm t.args) (h : ∀ x ∈ t.args, ∀ out, Coll S out → (orcL AP).i 96 [.pv x.pv, .fn 97 [.sptr 0 0]] (shO out) [out.length] = some ([], shO (x.nodes.foldl addI out), [(x.nodes.foldl addI out).length]))
    (hk : ∀ x ∈ t.args.flatMap Ty.nodes, x.kind = 1 → x.id ∈ S) : ∀ (n i : Nat), t.args.length - i = n → i ≤ t.args.length → ∀ out, Coll S out →
    cl AP g96L0 ⟨[(1, .fn 97 [.sptr 0 0]), (10, .pv (.lst (t.args.map Ty.pv))), (11, .pv (vI t.args.length)), (12, .pv (vI i))], [], shO out, [out.length]⟩ =
      some (.exit 0, ⟨[(1, .fn 97 [.sptr 0 0]), (10, .pv (.lst (t.args.map Ty.pv))), (11, .pv (vI t.args.length)), (12, .pv (vI t.args.length)), (13, .pv (.bool false))], [], shO (((t.args.drop i).flatMap Ty.nodes).foldl addI out), [(((t.args.drop i).flatMap Ty.nodes).foldl addI out).length]⟩)
  | 0, i, hn, hi, out, hc => by
    have : i = t.args.length := by omega
    subst this
    rw [g96L0_eq]
    simp [g96B0, shO]
  | n + 1, i, hn, hi, out, hc => by
    have hi : i < t.args.length := by omega
    obtain ⟨x, hx⟩ := getO hi
    unfold Sm at hS
    have hkx : ∀ y ∈ x.nodes, y.kind = 1 → y.id ∈ S := fun y hy => hk y (by simp only [List.mem_flatMap]; exact ⟨x, memO hx, hy⟩)
    have k := h x (memO hx) out hc
    have ih := L96 hS h hk n (i + 1) (by omega) (by omega) _ (hc.fold hkx)
    rw [g96L0_eq] at ih ⊢
    rw [dropC hx]
    simp [shO] at k ih
    simp (disch := omega) [-getElem?_pos, g96B0, shO, hx, hi, k, wrap_id]
    rw [g96L0_eq]
    simp [ih]

theorem c96 {S : List Int} {t : Ty} (hO : t.Ok) (hk : ∀ x ∈ t.nodes, x.kind = 1 → x.id ∈ S) : ∀ out, Coll S out →
    (orcL AP).i 96 [.pv t.pv, .fn 97 [.sptr 0 0]] (shO out) [out.length] = some ([], shO (t.nodes.foldl addI out), [(t.nodes.foldl addI out).length]) := by
  revert hO hk
  refine Ty.rec1 (p := fun t => t.Ok → (∀ x ∈ t.nodes, x.kind = 1 → x.id ∈ S) → ∀ out, Coll S out →
    (orcL AP).i 96 [.pv t.pv, .fn 97 [.sptr 0 0]] (shO out) [out.length] = some ([], shO (t.nodes.foldl addI out), [(t.nodes.foldl addI out).length])) ?_ t
  intro t ih hO hk out hc
  rw [Ty.nodes_eq] at hk ⊢
  have k := c97 hc t
  have h := L96 (S := S) hO.sm (fun x hx out hc => ih x hx (hO.kid x hx) (fun y hy => hk y (by simp only [List.mem_cons, List.mem_flatMap]; exact .inr ⟨x, hx, hy⟩)) out hc) (fun x hx => hk x (by simp only [List.mem_cons]; exact .inr hx)) _ 0 rfl (by omega) _ (hc.add (hk t (by simp)))
  rw [callI_body (af := g96) rfl (by simp [g96])]
  rw [g96L0_eq] at h
  simp [shO] at k h
  simp [g96, g96L0_eq, shO, k, h]

/-- The variables of types. -/
def vars (l : List Ty) : List Int := (l.flatMap Ty.nodes).foldl addI []

theorem L55 {S : List Int} {l : List Ty} (hS : Sm l) (hO : ∀ t ∈ l, t.Ok) (hk : ∀ x ∈ l.flatMap Ty.nodes, x.kind = 1 → x.id ∈ S) : ∀ (n i : Nat), l.length - i = n → i ≤ l.length → ∀ out, Coll S out →
    cl AP g55L0 ⟨[(3, .sptr 0 0), (6, .pv (.lst (l.map Ty.pv))), (7, .pv (vI l.length)), (8, .pv (vI i))], [], shO out, [out.length]⟩ =
      some (.exit 0, ⟨[(3, .sptr 0 0), (6, .pv (.lst (l.map Ty.pv))), (7, .pv (vI l.length)), (8, .pv (vI l.length)), (9, .pv (.bool false))], [], shO (((l.drop i).flatMap Ty.nodes).foldl addI out), [(((l.drop i).flatMap Ty.nodes).foldl addI out).length]⟩)
  | 0, i, hn, hi, out, hc => by
    have : i = l.length := by omega
    subst this
    rw [g55L0_eq]
    simp [g55B0, shO]
  | n + 1, i, hn, hi, out, hc => by
    have hi : i < l.length := by omega
    obtain ⟨x, hx⟩ := getO hi
    unfold Sm at hS
    have hkx : ∀ y ∈ x.nodes, y.kind = 1 → y.id ∈ S := fun y hy => hk y (by simp only [List.mem_flatMap]; exact ⟨x, memO hx, hy⟩)
    have k := c96 (hO x (memO hx)) hkx out hc
    have ih := L55 hS hO hk n (i + 1) (by omega) (by omega) _ (hc.fold hkx)
    rw [g55L0_eq] at ih ⊢
    rw [dropC hx]
    simp [shO] at k ih
    simp (disch := omega) [-getElem?_pos, g55B0, shO, hx, hi, k, wrap_id]
    rw [g55L0_eq]
    simp [ih]

theorem coll_nil {S : List Int} (h : S.length < 1099511627776) : Coll S [] := ⟨by simp, by simp, h⟩
theorem c55 {S : List Int} (hf : S.length < 1099511627776) {l : List Ty} (hS : Sm l) (hO : ∀ t ∈ l, t.Ok) (hk : ∀ x ∈ l.flatMap Ty.nodes, x.kind = 1 → x.id ∈ S) : (orcL AP).p 55 [.lst (l.map Ty.pv)] = some [.lst ((vars l).map vI)] := by
  have h := L55 hS hO hk _ 0 rfl (by omega) [] (coll_nil hf)
  rw [callP_body (af := g55) rfl rfl (by decide)]
  rw [g55L0_eq] at h
  simp [shO] at h
  simp [g55, g55L0_eq, h, vars]
end Go.Ab.Lw
namespace Go.Ab.Lw
open Ev
set_option maxRecDepth 10000
set_option linter.unusedSimpArgs false
mutual
/-- The leaves of a kind. -/
def Ty.lvs (k : Int) : Ty → List Ty
  | ⟨kd, n, i, h, as⟩ => if kd = k ∧ as.length = 0 then [⟨kd, n, i, h, as⟩] else Ty.lvss k as
def Ty.lvss (k : Int) : List Ty → List Ty
  | [] => []
  | a :: r => a.lvs k ++ Ty.lvss k r
end
theorem Ty.lvss_eq (k : Int) : ∀ l : List Ty, Ty.lvss k l = l.flatMap (Ty.lvs k)
  | [] => by simp [Ty.lvss]
  | a :: r => by simp [Ty.lvss, Ty.lvss_eq k r]
theorem Ty.lvs_eq (k : Int) (t : Ty) : t.lvs k = if t.kind = k ∧ t.args.length = 0 then [t] else t.args.flatMap (Ty.lvs k) := by cases t; simp only [Ty.lvs, Ty.lvss_eq]

noncomputable def addT (out : List Ty) (x : Ty) : List Ty := if x ∈ out then out else out ++ [x]

structure CollT (S out : List Ty) : Prop where
  nodup : out.Nodup
  sub : ∀ x ∈ out, x ∈ S
  few : S.length < 1099511627776
  ok : ∀ x ∈ S, x.Ok
theorem CollT.len {S out : List Ty} (h : CollT S out) : Sm out := by
  have := nodup_len h.nodup h.sub
  have := h.few
  unfold Sm; omega
theorem CollT.add {S out : List Ty} (h : CollT S out) {x : Ty} (hx : x ∈ S) : CollT S (addT out x) := by
  unfold addT
  split
  · exact h
  · rename_i e
    refine ⟨?_, ?_, h.few, h.ok⟩
    · rw [List.nodup_append]
      refine ⟨h.nodup, by simp, ?_⟩
      intro a ha b hb
      simp at hb; subst hb
      rintro rfl; exact e ha
    · intro y hy
      simp at hy
      rcases hy with hy | rfl
      · exact h.sub y hy
      · exact hx
theorem CollT.fold {S : List Ty} : ∀ {l : List Ty} {out : List Ty}, CollT S out → (∀ x ∈ l, x ∈ S) → CollT S (l.foldl addT out)
  | [], _, h, _ => h
  | x :: r, out, h, hx => by
    simp only [List.foldl_cons]
    exact CollT.fold (h.add (hx x (by simp))) (fun y hy => hx y (by simp [hy]))

theorem L99a {S out : List Ty} (h : CollT S out) (t : Ty) : ∀ (n i : Nat), out.length - i = n → i ≤ out.length →
    cl AP g99L0 ⟨[(0, .own (out.map Ty.pv) 0), (4, .lptr 4 0), (7, .pv (vI i))], [(4, [.pv (vI t.kind), .pv (.str t.name), .pv (vI t.id), .pv (vI t.home), .pv (.lst (t.args.map Ty.pv))])], [], [out.length]⟩ =
      if t ∈ out.drop i then some (.ret, ⟨[(6, .own (out.map Ty.pv) 0)], [], [], [out.length]⟩)
      else some (.exit 0, ⟨[(0, .own (out.map Ty.pv) 0), (4, .lptr 4 0), (7, .pv (vI out.length)), (22, .pv (.bool false))], [(4, [.pv (vI t.kind), .pv (.str t.name), .pv (vI t.id), .pv (vI t.home), .pv (.lst (t.args.map Ty.pv))])], [], [out.length]⟩)
  | 0, i, hn, hi => by
    have : i = out.length := by omega
    subst this
    rw [g99L0_eq]
    simp [g99B0]
  | n + 1, i, hn, hi => by
    have hi : i < out.length := by omega
    obtain ⟨x, hx⟩ := getO hi
    have hS := h.len
    unfold Sm at hS
    have k := c20 (b := t) (h.ok x (h.sub x (memO hx)))
    have ih := L99a h t n (i + 1) (by omega) (by omega)
    rw [g99L0_eq] at ih ⊢
    rw [dropC hx]
    simp at ih k
    by_cases e : x = t
    · subst e
      rw [decide_eq_true rfl] at k
      simp (disch := omega) [-getElem?_pos, g99B0, hx, hi, k]
    · have e' : ¬ t = x := fun h => e h.symm
      rw [decide_eq_false e] at k
      simp (disch := omega) [-getElem?_pos, g99B0, hx, hi, k, e', wrap_id]
      rw [g99L0_eq]
      simp [ih]

theorem L99b {S : List Ty} {kd : Int} {t : Ty} (hS : Sm t.args) (h : ∀ x ∈ t.args, ∀ out, CollT S out → (orcL AP).i 99 [.own (out.map Ty.pv) 0, .pv x.pv, .pv (vI kd)] [] [out.length] = some ([.own (((x.lvs kd).foldl addT out).map Ty.pv) 0], [], [((x.lvs kd).foldl addT out).length]))
    (hk : ∀ x ∈ t.args.flatMap (Ty.lvs kd), x ∈ S) : ∀ (n i : Nat), t.args.length - i = n → i ≤ t.args.length → ∀ out, CollT S out →
    cl AP g99L1 ⟨[(0, .own (out.map Ty.pv) 0), (2, .pv (vI kd)), (4, .lptr 4 0), (8, .pv (vI i))], [(4, [.pv (vI t.kind), .pv (.str t.name), .pv (vI t.id), .pv (vI t.home), .pv (.lst (t.args.map Ty.pv))])], [], [out.length]⟩ =
      some (.exit 2, ⟨[(0, .own ((((t.args.drop i).flatMap (Ty.lvs kd)).foldl addT out).map Ty.pv) 0), (2, .pv (vI kd)), (4, .lptr 4 0), (8, .pv (vI t.args.length)), (40, .pv (.bool false))], [(4, [.pv (vI t.kind), .pv (.str t.name), .pv (vI t.id), .pv (vI t.home), .pv (.lst (t.args.map Ty.pv))])], [], [(((t.args.drop i).flatMap (Ty.lvs kd)).foldl addT out).length]⟩)
  | 0, i, hn, hi, out, hc => by
    have : i = t.args.length := by omega
    subst this
    rw [g99L1_eq]
    simp [g99B1]
  | n + 1, i, hn, hi, out, hc => by
    have hi : i < t.args.length := by omega
    obtain ⟨x, hx⟩ := getO hi
    unfold Sm at hS
    have hkx : ∀ y ∈ x.lvs kd, y ∈ S := fun y hy => hk y (by simp only [List.mem_flatMap]; exact ⟨x, memO hx, hy⟩)
    have k := h x (memO hx) out hc
    have ih := L99b hS h hk n (i + 1) (by omega) (by omega) _ (hc.fold hkx)
    rw [g99L1_eq] at ih ⊢
    rw [dropC hx]
    simp at k ih
    simp (disch := omega) [-getElem?_pos, g99B1, hx, hi, k, wrap_id]
    rw [g99L1_eq]
    simp [ih]

theorem c99 {S : List Ty} {kd : Int} {t : Ty} (hO : t.Ok) (hk : ∀ x ∈ t.lvs kd, x ∈ S) : ∀ out, CollT S out →
    (orcL AP).i 99 [.own (out.map Ty.pv) 0, .pv t.pv, .pv (vI kd)] [] [out.length] = some ([.own (((t.lvs kd).foldl addT out).map Ty.pv) 0], [], [((t.lvs kd).foldl addT out).length]) := by
  revert hO hk
  refine Ty.rec1 (p := fun t => t.Ok → (∀ x ∈ t.lvs kd, x ∈ S) → ∀ out, CollT S out →
    (orcL AP).i 99 [.own (out.map Ty.pv) 0, .pv t.pv, .pv (vI kd)] [] [out.length] = some ([.own (((t.lvs kd).foldl addT out).map Ty.pv) 0], [], [((t.lvs kd).foldl addT out).length])) ?_ t
  intro t ih hO hk out hc
  rw [Ty.lvs_eq] at hk ⊢
  have hl := hc.len
  unfold Sm at hl
  have hb : (out.length + 1) * 64 ≤ 140737488355328 := by omega
  rw [callI_body (af := g99) rfl (by simp [g99])]
  by_cases e : t.kind = kd ∧ t.args.length = 0
  · rw [if_pos e] at hk ⊢
    obtain ⟨e1, e2⟩ := e
    subst e1
    have e3 : t.args = [] := by simpa using e2
    have h := L99a hc t _ 0 rfl (by omega)
    rw [g99L0_eq] at h
    simp [e3] at h
    by_cases em : t ∈ out
    · simp [em] at h
      have ea : addT out t = out := by simp [addT, em]
      simp [g99, e3, g99L0_eq, h, ea]
    · simp [em] at h
      have ea : addT out t = out ++ [t] := by simp [addT, em]
      simp [g99, e3, g99L0_eq, h, ea, hb]
  · rw [if_neg e] at hk ⊢
    have h := L99b (S := S) (kd := kd) hO.sm (fun x hx out hc => ih x hx (hO.kid x hx) (fun y hy => hk y (by simp only [List.mem_flatMap]; exact ⟨x, hx, hy⟩)) out hc) hk _ 0 rfl (by omega) out hc
    rw [g99L1_eq] at h
    simp at h
    by_cases e1 : t.kind = kd
    · have e2 : ¬ t.args.length = 0 := fun h => e ⟨e1, h⟩
      have e3 : ¬ t.args = [] := by simpa using e2
      subst e1
      simp [g99, e2, e3, g99L1_eq, h]
    · simp [g99, e1, g99L1_eq, h]

/-- One more number. -/
def addN (out : List Int) (x : Ty) : List Int := if x.id ∈ out then out else out ++ [x.id]

noncomputable def refVars (l : List Ty) : List Int := ((l.flatMap (Ty.lvs 1)).foldl addT []).foldl addN []

theorem L56a {S : List Ty} {l : List Ty} (hS : Sm l) (hO : ∀ t ∈ l, t.Ok) (hk : ∀ x ∈ l.flatMap (Ty.lvs 1), x ∈ S) : ∀ (n i : Nat), l.length - i = n → i ≤ l.length → ∀ out, CollT S out →
    cl AP g56L0 ⟨[(0, .pv (.lst (l.map Ty.pv))), (3, .own (out.map Ty.pv) 0), (4, .pv (vI i))], [], [], [out.length]⟩ =
      some (.exit 0, ⟨[(0, .pv (.lst (l.map Ty.pv))), (3, .own ((((l.drop i).flatMap (Ty.lvs 1)).foldl addT out).map Ty.pv) 0), (4, .pv (vI l.length)), (10, .pv (.bool false))], [], [], [(((l.drop i).flatMap (Ty.lvs 1)).foldl addT out).length]⟩)
  | 0, i, hn, hi, out, hc => by
    have : i = l.length := by omega
    subst this
    rw [g56L0_eq]
    simp [g56B0]
  | n + 1, i, hn, hi, out, hc => by
    have hi : i < l.length := by omega
    obtain ⟨x, hx⟩ := getO hi
    unfold Sm at hS
    have hkx : ∀ y ∈ x.lvs 1, y ∈ S := fun y hy => hk y (by simp only [List.mem_flatMap]; exact ⟨x, memO hx, hy⟩)
    have k := c99 (kd := 1) (hO x (memO hx)) hkx out hc
    have ih := L56a hS hO hk n (i + 1) (by omega) (by omega) _ (hc.fold hkx)
    rw [g56L0_eq] at ih ⊢
    rw [dropC hx]
    simp at k ih
    simp (disch := omega) [-getElem?_pos, g56B0, hx, hi, k, wrap_id]
    rw [g56L0_eq]
    simp [ih]

theorem addN_len {l : List Ty} {out : List Int} : (l.foldl addN out).length ≤ out.length + l.length := by
  induction l generalizing out with
  | nil => simp
  | cons x r ih =>
    simp only [List.foldl_cons, List.length_cons]
    have := ih (out := addN out x)
    have h2 : (addN out x).length ≤ out.length + 1 := by unfold addN; split <;> simp
    omega
theorem L56b {S l : List Ty} (hc : CollT S l) : ∀ (n i : Nat), l.length - i = n → i ≤ l.length → ∀ out : List Int, out.length ≤ i →
    cl AP g56L1 ⟨[(3, .own (l.map Ty.pv) 0), (5, .own (out.map vI) 1), (6, .pv (vI i))], [], [], [l.length, out.length]⟩ =
      some (.exit 2, ⟨[(3, .own (l.map Ty.pv) 0), (5, .own (((l.drop i).foldl addN out).map vI) 1), (6, .pv (vI l.length)), (22, .pv (.bool false))], [], [], [l.length, ((l.drop i).foldl addN out).length]⟩)
  | 0, i, hn, hi, out, ho => by
    have : i = l.length := by omega
    subst this
    rw [g56L1_eq]
    simp [g56B1]
  | n + 1, i, hn, hi, out, ho => by
    have hi : i < l.length := by omega
    obtain ⟨x, hx⟩ := getO hi
    have hS := hc.len
    unfold Sm at hS
    have k := c95 (s := out) (by unfold Sm; omega) (y := x.id)
    have hb : (out.length + 1) * 8 ≤ 140737488355328 := by omega
    have hh : headSz 1 (out.map vI) = true := el_int.head out
    rw [dropC hx]
    by_cases e : x.id ∈ out
    · have ih := L56b hc n (i + 1) (by omega) (by omega) out (by omega)
      have ea : addN out x = out := by simp [addN, e]
      rw [g56L1_eq] at ih ⊢
      rw [decide_eq_true e] at k
      simp at ih
      simp (disch := omega) [-getElem?_pos, g56B1, hx, hi, k, wrap_id]
      rw [g56L1_eq]
      simp [ih, ea]
    · have ih := L56b hc n (i + 1) (by omega) (by omega) (out ++ [x.id]) (by simp; omega)
      have ea : addN out x = out ++ [x.id] := by simp [addN, e]
      rw [g56L1_eq] at ih ⊢
      rw [decide_eq_false e] at k
      simp at ih
      simp (disch := omega) [-getElem?_pos, g56B1, hx, hi, k, wrap_id, hb, hh]
      rw [g56L1_eq]
      simp [ih, ea]

theorem c56 {S : List Ty} (hf : S.length < 1099511627776) (hSo : ∀ x ∈ S, x.Ok) {l : List Ty} (hS : Sm l) (hO : ∀ t ∈ l, t.Ok) (hk : ∀ x ∈ l.flatMap (Ty.lvs 1), x ∈ S) : (orcL AP).p 56 [.lst (l.map Ty.pv)] = some [.lst ((refVars l).map vI)] := by
  have c0 : CollT S [] := ⟨by simp, by simp, hf, hSo⟩
  have h1 := L56a hS hO hk _ 0 rfl (by omega) [] c0
  have h2 := L56b (c0.fold (l := l.flatMap (Ty.lvs 1)) hk) _ 0 rfl (by omega) [] (by simp)
  rw [callP_body (af := g56) rfl rfl (by decide)]
  rw [g56L0_eq] at h1
  rw [g56L1_eq] at h2
  simp at h1 h2
  simp [g56, g56L0_eq, h1, g56L1_eq, h2, refVars]

/-! ### They are the same -/
theorem nodes_lvs {t : Ty} (hW : t.Wf) : ∀ out, t.nodes.foldl addI out = (t.lvs 1).foldl addI out := by
  revert hW
  refine Ty.rec1 (p := fun t => t.Wf → ∀ out, t.nodes.foldl addI out = (t.lvs 1).foldl addI out) ?_ t
  intro t ih hW out
  have flat : ∀ (as : List Ty), (∀ x ∈ as, x ∈ t.args) → ∀ out, (as.flatMap Ty.nodes).foldl addI out = (as.flatMap (Ty.lvs 1)).foldl addI out := by
    intro as
    induction as with
    | nil => intro _ _; rfl
    | cons a r ihr =>
      intro h out
      simp only [List.flatMap_cons, List.foldl_append]
      rw [ih a (h a (by simp)) (hW.kid a (h a (by simp))), ihr (fun x hx => h x (by simp [hx]))]
  rw [Ty.nodes_eq, Ty.lvs_eq]
  by_cases e : t.kind = 1
  · have ea := hW.var e
    simp [e, ea]
  · have : addI out t = out := by simp [addI, e]
    simp only [List.foldl_cons, this]
    rw [if_neg (fun h => e h.1)]
    exact flat t.args (fun _ h => h) out
theorem lvs_kind {k : Int} {t x : Ty} (h : x ∈ t.lvs k) : x.kind = k ∧ x.args = [] := by
  revert h
  refine Ty.rec1 (p := fun t => x ∈ t.lvs k → x.kind = k ∧ x.args = []) ?_ t
  intro t ih h
  rw [Ty.lvs_eq] at h
  split at h
  · rename_i e; simp at h; subst h; exact ⟨e.1, by simpa using e.2⟩
  · simp only [List.mem_flatMap] at h
    obtain ⟨y, hy, hx⟩ := h
    exact ih y hy hx
theorem addI_mem {l : List Ty} {out : List Int} {x : Ty} (hk : x.kind = 1) (h : x ∈ l) : x.id ∈ l.foldl addI out := by
  have mono : ∀ (l : List Ty) (out : List Int) (i : Int), i ∈ out → i ∈ l.foldl addI out := by
    intro l
    induction l with
    | nil => intro out i h; exact h
    | cons y r ih =>
      intro out i h
      simp only [List.foldl_cons]
      refine ih _ _ ?_
      unfold addI; split <;> simp [h]
  induction l generalizing out with
  | nil => simp at h
  | cons y r ih =>
    simp only [List.foldl_cons]
    simp at h
    rcases h with rfl | h
    · refine mono _ _ _ ?_
      unfold addI
      split
      · simp
      · rename_i e; simp [hk] at e; exact e
    · exact ih h
theorem fold_addT (l : List Ty) (hk : ∀ x ∈ l, x.kind = 1) : ∀ acc : List Ty, (l.foldl addT acc).foldl addI [] = l.foldl addI (acc.foldl addI []) := by
  induction l with
  | nil => intro acc; rfl
  | cons x r ih =>
    intro acc
    simp only [List.foldl_cons]
    rw [ih (fun y hy => hk y (by simp [hy]))]
    congr 1
    unfold addT
    split
    · rename_i e
      have := addI_mem (out := []) (hk x (by simp)) e
      simp [addI, this]
    · simp
theorem fold_addN (l : List Ty) (hk : ∀ x ∈ l, x.kind = 1) : ∀ out, l.foldl addN out = l.foldl addI out := by
  induction l with
  | nil => intro out; rfl
  | cons x r ih =>
    intro out
    simp only [List.foldl_cons]
    rw [ih (fun y hy => hk y (by simp [hy]))]
    congr 1
    unfold addN addI
    have := hk x (by simp)
    by_cases e : x.id ∈ out <;> simp [e, this]
theorem addT_sub {l acc : List Ty} {x : Ty} (h : x ∈ l.foldl addT acc) : x ∈ acc ∨ x ∈ l := by
  induction l generalizing acc with
  | nil => exact .inl h
  | cons y r ih =>
    simp only [List.foldl_cons] at h
    rcases ih h with h | h
    · unfold addT at h
      split at h
      · exact .inl h
      · simp at h
        rcases h with h | rfl
        · exact .inl h
        · right; simp
    · right; simp [h]
/-- **The reference's variables are the program's.** -/
theorem refVars_eq {l : List Ty} (hW : ∀ t ∈ l, t.Wf) : refVars l = vars l := by
  have hk : ∀ x ∈ l.flatMap (Ty.lvs 1), x.kind = 1 := fun x hx => by
    simp only [List.mem_flatMap] at hx; obtain ⟨t, _, h⟩ := hx; exact (lvs_kind h).1
  unfold refVars vars
  rw [fold_addN _ (fun x hx => by rcases addT_sub hx with h | h; simp at h; exact hk x h), fold_addT _ hk]
  have : ∀ (l : List Ty), (∀ t ∈ l, t.Wf) → ∀ out, (l.flatMap (Ty.lvs 1)).foldl addI out = (l.flatMap Ty.nodes).foldl addI out := by
    intro l
    induction l with
    | nil => intro _ _; rfl
    | cons a r ih =>
      intro h out
      simp only [List.flatMap_cons, List.foldl_append]
      rw [nodes_lvs (h a (by simp)), ih (fun t ht => h t (by simp [ht]))]
  exact this l hW []
end Go.Ab.Lw
namespace Go.Ab.Lw
open Ev
set_option maxRecDepth 10000
set_option linter.unusedSimpArgs false
theorem c176 {t : Ty} : (orcL AP).p 176 [t.pv] = some [(As.mk 0 t).pv] := by
  rw [callP_body (af := g176) rfl rfl (by decide)]
  simp [g176]
theorem sc_ext {a b : Sc} : a = b ↔ a.id = b.id ∧ a.ty = b.ty := by cases a; cases b; simp
theorem c183 {a b : Sc} (hO : a.ty.Ok) : (orcL AP).p 183 [a.pv, b.pv] = some [.bool (decide (a = b))] := by
  have k := c20 (b := b.ty) hO
  rw [callP_body (af := g183) rfl rfl (by decide)]
  simp at k
  by_cases e : a.id = b.id
  · have : decide (a = b) = decide (a.ty = b.ty) := by rw [Bool.eq_iff_iff]; simp [sc_ext, e]
    simp [g183, k, e, this]
  · have : decide (a = b) = false := by simp [sc_ext, e]
    simp [g183, e, this]
@[simp] theorem takeEnd1 {α : Type} {l : List α} {x : α} : (l ++ [x]).take (l.length + 1) = l ++ [x] := by rw [List.take_of_length_le]; simp

def varNames : List (List UInt8) := [[120], [121], [122], [102], [103], [118, 49], [118, 50], [105, 100]]
/-- Quantifying some variables. -/
def closeS (ids : List Int) : List Int → List As → List As
  | [], acc => acc
  | v :: r, acc => closeS ids r (if v ∈ ids then acc ++ [⟨v, tyBound acc.length⟩] else acc)
def closeSc (ids : List Int) (t : Ty) (vs : List Int) : Sc := ⟨(closeS ids vs []).length, t.sub (closeS ids vs [])⟩

theorem L208 {t : Ty} {ids vs : List Int} (hS : Sm vs) (hi : Sm ids) : ∀ (n i : Nat), vs.length - i = n → i ≤ vs.length → ∀ acc : List As, acc.length ≤ i →
    cl AP g208L0 ⟨[(1, .pv (.lst (ids.map vI))), (2, .lptr 2 0), (4, .lptr 4 0), (5, .pv (.lst (vs.map vI))), (6, .own (acc.map As.pv) 0), (7, .pv (vI i))], [(2, [.pv (vI t.kind), .pv (.str t.name), .pv (vI t.id), .pv (vI t.home), .pv (.lst (t.args.map Ty.pv))]), (4, [.pv (vI 0), .pv (vI 0), .pv (.str []), .pv (vI 0), .pv (vI 0), .own [] 1])], [], [acc.length, 0]⟩ =
      some (.exit 0, ⟨[(1, .pv (.lst (ids.map vI))), (2, .lptr 2 0), (4, .lptr 4 0), (5, .pv (.lst (vs.map vI))), (6, .own ((closeS ids (vs.drop i) acc).map As.pv) 0), (7, .pv (vI vs.length)), (14, .pv (.bool false))], [(2, [.pv (vI t.kind), .pv (.str t.name), .pv (vI t.id), .pv (vI t.home), .pv (.lst (t.args.map Ty.pv))]), (4, [.pv (vI 0), .pv (vI 0), .pv (.str []), .pv (vI 0), .pv (vI 0), .own [] 1])], [], [(closeS ids (vs.drop i) acc).length, 0]⟩)
  | 0, i, hn, hi', acc, ha => by
    have : i = vs.length := by omega
    subst this
    rw [g208L0_eq]
    simp [g208B0, closeS]
  | n + 1, i, hn, hi', acc, ha => by
    have hi' : i < vs.length := by omega
    obtain ⟨x, hx⟩ := getO hi'
    unfold Sm at hS
    have k := c95 hi (y := x)
    have k2 := c72 (n := acc.length)
    have hb : (acc.length + 1) * 72 ≤ 140737488355328 := by omega
    rw [dropC hx]
    by_cases e : x ∈ ids
    · have ih := L208 (t := t) hS hi n (i + 1) (by omega) (by omega) (acc ++ [⟨x, tyBound acc.length⟩]) (by simp; omega)
      have ea : closeS ids (x :: vs.drop (i + 1)) acc = closeS ids (vs.drop (i + 1)) (acc ++ [⟨x, tyBound acc.length⟩]) := by simp [closeS, e]
      rw [ea]
      rw [g208L0_eq] at ih ⊢
      rw [decide_eq_true e] at k
      simp [tyBound] at ih k2
      simp (disch := omega) [-getElem?_pos, g208B0, hx, hi', k, k2, wrap_id, hb, tyBound]
      rw [g208L0_eq]
      simp [ih, tyBound]
    · have ih := L208 (t := t) hS hi n (i + 1) (by omega) (by omega) acc (by omega)
      have ea : closeS ids (x :: vs.drop (i + 1)) acc = closeS ids (vs.drop (i + 1)) acc := by simp [closeS, e]
      rw [ea]
      rw [g208L0_eq] at ih ⊢
      rw [decide_eq_false e] at k
      simp at ih
      simp (disch := omega) [-getElem?_pos, g208B0, hx, hi', k, wrap_id]
      rw [g208L0_eq]
      simp [ih]
theorem closeS_len {ids : List Int} : ∀ (vs : List Int) (acc : List As), (closeS ids vs acc).length ≤ acc.length + vs.length
  | [], acc => by simp [closeS]
  | v :: r, acc => by
    simp only [closeS]
    have := closeS_len (ids := ids) r (if v ∈ ids then acc ++ [⟨v, tyBound acc.length⟩] else acc)
    split at this <;> simp at this ⊢ <;> (split <;> simp_all <;> omega)

/-- Types whose variables are few. -/
structure FewV (t : Ty) : Prop where
  ok : t.Ok
  wf : t.Wf
  few : ∃ S : List Ty, S.length < 1099511627776 ∧ (∀ x ∈ S, x.Ok) ∧ ∀ x ∈ t.lvs 1, x ∈ S

theorem vars_nodup_len {t : Ty} (h : FewV t) : Sm (refVars [t]) := by
  obtain ⟨S, hf, hSo, hk⟩ := h.few
  have c0 : CollT S [] := ⟨by simp, by simp, hf, hSo⟩
  have := (c0.fold (l := [t].flatMap (Ty.lvs 1)) (by simpa using hk)).len
  unfold Sm at *
  have h2 := addN_len (l := ([t].flatMap (Ty.lvs 1)).foldl addT []) (out := [])
  unfold refVars
  simp at this h2 ⊢
  omega
theorem c208 {t : Ty} (h : FewV t) {ids : List Int} (hi : Sm ids) : (orcL AP).p 208 [t.pv, .lst (ids.map vI)] = some [(closeSc ids t (vars [t])).pv] := by
  obtain ⟨S, hf, hSo, hk⟩ := h.few
  have k1 := c56 hf hSo (l := [t]) (by simp [Sm]) (by simpa using h.ok) (by simpa using hk)
  have hv := vars_nodup_len h
  rw [refVars_eq (by simpa using h.wf)] at k1 hv
  have k2 := L208 (t := t) hv hi _ 0 rfl (by omega) [] (by simp)
  have hl := closeS_len (ids := ids) (vars [t]) []
  have k3 := c46 (s := closeS ids (vars [t]) []) (by unfold Sm at hv ⊢; simp at hl; omega) h.ok
  rw [callP_body (af := g208) rfl rfl (by decide)]
  rw [g208L0_eq] at k2
  simp at k1 k2 k3
  simp [g208, k1, g208L0_eq, k2, k3, closeSc]
end Go.Ab.Lw
namespace Go.Ab.Lw
open Ev
set_option maxRecDepth 10000
set_option linter.unusedSimpArgs false
/-- The leaves of a made type are among the leaves. -/
theorem Made.lvs {lv : Ty → Prop} (h : ∀ t, lv t → t.args = []) {t : Ty} (m : Made lv t) {k : Int} (hk : k ≠ 4) : ∀ x ∈ t.lvs k, lv x := by
  induction m with
  | leaf hl =>
    intro x hx
    rw [Ty.lvs_eq, h _ hl] at hx
    split at hx
    · simp at hx; subst hx; exact hl
    · simp at hx
  | int =>
    intro x hx
    rw [Ty.lvs_eq] at hx
    simp [tyInt] at hx
    exact absurd hx.1.symm hk
  | con hd hl _ ih =>
    intro x hx
    rw [Ty.lvs_eq] at hx
    split at hx
    · rename_i e; exact absurd e.1.symm hk
    · simp only [List.mem_flatMap] at hx
      obtain ⟨y, hy, hx⟩ := hx
      exact ih y hy x hx
  | arrow _ _ ha hb =>
    intro x hx
    rw [Ty.lvs_eq] at hx
    simp at hx
    rcases hx with hx | hx
    · exact ha x hx
    · exact hb x hx
theorem bare_ok {t : Ty} (h : t.args = []) : t.Ok := ⟨by rw [h]; simp [Sm], by rw [h]; simp⟩
theorem Made.few {lv : List Ty} (hl : lv.length < 1099511627776) (h : ∀ t, t ∈ lv → t.args = []) {t : Ty} (m : Made (· ∈ lv) t) : FewV t :=
  ⟨m.ok h, m.wf h, lv, hl, fun x hx => bare_ok (h x hx), m.lvs h (by decide)⟩

theorem closeS_ok {ids : List Int} : ∀ (vs : List Int) (acc : List As), (∀ a ∈ acc, a.ty.Ok) → ∀ a ∈ closeS ids vs acc, a.ty.Ok
  | [], acc, h => by simpa [closeS] using h
  | v :: r, acc, h => by
    simp only [closeS]
    refine closeS_ok r _ ?_
    split
    · intro a ha
      simp at ha
      rcases ha with ha | rfl
      · exact h a ha
      · exact bare_ok rfl
    · exact h
theorem closeSc_ok {ids vs : List Int} {t : Ty} (h : t.Ok) : (closeSc ids t vs).ty.Ok := sub_ok (closeS_ok vs [] (by simp)) h

/-- A made entry. -/
def MadeE (lv : List Ty) (x : En) : Prop := x.name ∈ varNames ∧ ∃ t, Made (· ∈ lv) t ∧ (x.sc = ⟨0, t⟩ ∨ ∃ ids : List Int, ids.length = 2 ∧ x.sc = closeSc ids t (vars [t]))
theorem MadeE.ok {lv : List Ty} (h : ∀ t, t ∈ lv → t.args = []) {x : En} (m : MadeE lv x) : x.sc.ty.Ok := by
  obtain ⟨_, t, mt, e | ⟨ids, _, e⟩⟩ := m
  · rw [e]; exact mt.ok h
  · rw [e]; exact closeSc_ok (mt.ok h)

end Go.Ab.Lw
namespace Go.Ab.Lw
open Ev
set_option maxRecDepth 10000
theorem c433 : (orcL AP).p 433 [] = some [.bool true] := Fc.p_of (k := 400) (n := 40) (by kernel_rfl)
end Go.Ab.Lw
namespace Go.Ab.Lw
open Ev
set_option maxRecDepth 10000
set_option linter.unusedSimpArgs false
/-- A type whose variables are among few. -/
structure Good (S : List Ty) (t : Ty) : Prop where
  ok : t.Ok
  wf : t.Wf
  sub : ∀ x ∈ t.lvs 1, x ∈ S

theorem nodes_var {t : Ty} (hW : t.Wf) : ∀ x ∈ t.nodes, x.kind = 1 → x ∈ t.lvs 1 := by
  revert hW
  refine Ty.rec1 (p := fun t => t.Wf → ∀ x ∈ t.nodes, x.kind = 1 → x ∈ t.lvs 1) ?_ t
  intro t ih hW x hx hk
  rw [Ty.nodes_eq] at hx
  rw [Ty.lvs_eq]
  simp only [List.mem_cons, List.mem_flatMap] at hx
  rcases hx with rfl | ⟨y, hy, hx⟩
  · have ea := hW.var hk
    simp [hk, ea]
  · have : ¬ (t.kind = 1 ∧ t.args.length = 0) := by
      rintro ⟨_, h⟩
      have : t.args = [] := by simpa using h
      rw [this] at hy; simp at hy
    rw [if_neg this]
    simp only [List.mem_flatMap]
    exact ⟨y, hy, ih y hy (hW.kid y hy) x hx hk⟩

theorem sub_lvs {s : List As} (hs : ∀ a ∈ s, a.ty.lvs 1 = []) {t : Ty} (hW : t.Wf) : ∀ x ∈ (t.sub s).lvs 1, x ∈ t.lvs 1 := by
  revert hW
  refine Ty.rec1 (p := fun t => t.Wf → ∀ x ∈ (t.sub s).lvs 1, x ∈ t.lvs 1) ?_ t
  intro t ih hW x hx
  rw [Ty.sub_eq] at hx
  split at hx
  · rename_i hk
    cases hf : fnd s t.id with
    | none => rw [hf] at hx; exact hx
    | some a =>
      rw [hf] at hx
      obtain ⟨b, hb, rfl⟩ := fnd_mem hf
      rw [Option.getD_some, hs b hb] at hx
      simp at hx
  · rename_i hk
    rw [Ty.lvs_eq] at hx
    rw [if_neg (fun h => hk h.1)] at hx
    rw [Ty.lvs_eq, if_neg (fun h => hk h.1)]
    simp only [List.mem_flatMap, List.mem_map] at hx ⊢
    obtain ⟨_, ⟨y, hy, rfl⟩, hx⟩ := hx
    exact ⟨y, hy, ih y hy (hW.kid y hy) x hx⟩
theorem closeS_all {P : Ty → Prop} (hP : ∀ n : Int, P (tyBound n)) {ids : List Int} : ∀ (vs : List Int) (acc : List As), (∀ a ∈ acc, P a.ty) → ∀ a ∈ closeS ids vs acc, P a.ty
  | [], acc, h => by simpa [closeS] using h
  | v :: r, acc, h => by
    simp only [closeS]
    refine closeS_all hP r _ ?_
    split
    · intro a ha
      simp at ha
      rcases ha with ha | rfl
      · exact h a ha
      · exact hP _
    · exact h
theorem tyBound_wf {n : Int} : (tyBound n).Wf := ⟨by simp [tyBound], by simp [tyBound]⟩
theorem tyBound_lvs {n : Int} : (tyBound n).lvs 1 = [] := by rw [Ty.lvs_eq]; simp [tyBound]
theorem Good.close {S : List Ty} {t : Ty} (h : Good S t) (ids vs : List Int) : Good S (closeSc ids t vs).ty where
  ok := closeSc_ok h.ok
  wf := sub_wf (closeS_all (P := Ty.Wf) (fun _ => tyBound_wf) vs [] (by simp)) h.wf
  sub := fun x hx => h.sub x (sub_lvs (closeS_all (P := fun t => t.lvs 1 = []) (fun _ => tyBound_lvs) vs [] (by simp)) h.wf x hx)
theorem Made.good {lv : List Ty} (h : ∀ t, t ∈ lv → t.args = []) {t : Ty} (m : Made (· ∈ lv) t) : Good lv t := ⟨m.ok h, m.wf h, m.lvs h (by decide)⟩
theorem MadeE.good {lv : List Ty} (h : ∀ t, t ∈ lv → t.args = []) {x : En} (m : MadeE lv x) : Good lv x.sc.ty := by
  obtain ⟨_, t, mt, e | ⟨ids, _, e⟩⟩ := m
  · rw [e]; exact mt.good h
  · rw [e]; exact (mt.good h).close _ _

theorem g55 {S : List Ty} (hf : S.length < 1099511627776) {l : List Ty} (hS : Sm l) (hG : ∀ t ∈ l, Good S t) : (orcL AP).p 55 [.lst (l.map Ty.pv)] = some [.lst ((vars l).map vI)] := by
  refine c55 (S := S.map Ty.id) (by simpa using hf) hS (fun t ht => (hG t ht).ok) ?_
  intro x hx hk
  simp only [List.mem_flatMap] at hx
  obtain ⟨t, ht, hx⟩ := hx
  exact List.mem_map_of_mem ((hG t ht).sub x (nodes_var (hG t ht).wf x hx hk))
theorem g56 {S : List Ty} (hf : S.length < 1099511627776) (hO : ∀ x ∈ S, x.Ok) {l : List Ty} (hS : Sm l) (hG : ∀ t ∈ l, Good S t) : (orcL AP).p 56 [.lst (l.map Ty.pv)] = some [.lst ((vars l).map vI)] := by
  rw [← refVars_eq (fun t ht => (hG t ht).wf)]
  refine c56 hf hO hS (fun t ht => (hG t ht).ok) ?_
  intro x hx
  simp only [List.mem_flatMap] at hx
  obtain ⟨t, ht, hx⟩ := hx
  exact (hG t ht).sub x hx

/-! ### The reference's -/
end Go.Ab.Lw
namespace Go.Ab.Lw
open Ev
set_option maxRecDepth 10000
set_option linter.unusedSimpArgs false
theorem vars_len {S : List Ty} (hf : S.length < 1099511627776) {l : List Ty} (hG : ∀ t ∈ l, Good S t) : Sm (vars l) := by
  have c0 : Coll (S.map Ty.id) [] := coll_nil (by simpa using hf)
  refine (c0.fold (l := l.flatMap Ty.nodes) ?_).len
  intro x hx hk
  simp only [List.mem_flatMap] at hx
  obtain ⟨t, ht, hx⟩ := hx
  exact List.mem_map_of_mem ((hG t ht).sub x (nodes_var (hG t ht).wf x hx hk))

end Go.Ab.Lw
namespace Go.Ab.Lw
open Ev
set_option maxRecDepth 10000
set_option linter.unusedSimpArgs false
/-- A made type over leaves and data types. -/
inductive MadeG (D : Dt → Prop) (lv : List Ty) : Nat → Ty → Prop
  | leaf {n : Nat} {t : Ty} : t ∈ lv → MadeG D lv n t
  | int {n : Nat} : MadeG D lv n tyInt
  | con {n : Nat} {d : Dt} {args : List Ty} : D d → args.length = d.params.length → (∀ x ∈ args, MadeG D lv n x) → MadeG D lv (n + 1) ⟨4, d.name, 0, 0, args⟩
  | arrow {n : Nat} {a b : Ty} : MadeG D lv n a → MadeG D lv n b → MadeG D lv (n + 1) ⟨4, [45, 62], 0, 0, [a, b]⟩

/-- What the maker of types gives at a depth. -/
def GivesG (L : List Int) (ds : List Dt) (lv : List Ty) (dep : Nat) : Prop := ∀ i : Nat, i ≤ L.length → ∃ (t : Ty) (j : Nat),
  (orcL AP).i 27 [.sptr 0 0, .pv (.lst (ds.map Dt.pv)), .pv (.lst (lv.map Ty.pv)), .pv (vI dep)] (tp L i) [] = some ([t.av], tp L j, []) ∧ MadeG (· ∈ ds) lv dep t ∧ j ≤ L.length

theorem L27g {L : List Int} {ds : List Dt} {lv : List Ty} {dep : Nat} (hdep : dep < 1000) (hg : GivesG L ds lv dep) {d : Dt} (hS : Sm d.params) : ∀ (n k : Nat), d.params.length - k = n → k ≤ d.params.length → ∀ (acc : List Ty) (i : Nat), acc.length = k → (∀ x ∈ acc, MadeG (· ∈ ds) lv dep x) → i ≤ L.length →
    ∃ (r : List Ty) (j : Nat), cl AP g27L0 ⟨[(0, .sptr 0 0), (1, .pv (.lst (ds.map Dt.pv))), (2, .pv (.lst (lv.map Ty.pv))), (3, .pv (vI (dep + 1))), (8, .lptr 8 0), (10, .lptr 10 0), (11, .own (acc.map Ty.pv) 0), (12, .pv (vI k))],
      [(8, [.pv (vI 0), .pv (.str []), .pv (vI 0), .pv (vI 0), .own [] 1]), (10, [.pv (vI d.pos), .pv (.str d.name), .pv (.lst (d.params.map .str)), .pv (.lst (d.cons.map Con.pv))])], tp L i, [acc.length, 0]⟩ =
      some (.exit 1, ⟨[(0, .sptr 0 0), (1, .pv (.lst (ds.map Dt.pv))), (2, .pv (.lst (lv.map Ty.pv))), (3, .pv (vI (dep + 1))), (8, .lptr 8 0), (10, .lptr 10 0), (11, .own (r.map Ty.pv) 0), (12, .pv (vI d.params.length)), (65, .pv (.bool false))],
      [(8, [.pv (vI 0), .pv (.str []), .pv (vI 0), .pv (vI 0), .own [] 1]), (10, [.pv (vI d.pos), .pv (.str d.name), .pv (.lst (d.params.map .str)), .pv (.lst (d.cons.map Con.pv))])], tp L j, [r.length, 0]⟩) ∧
      r.length = d.params.length ∧ (∀ x ∈ r, MadeG (· ∈ ds) lv dep x) ∧ j ≤ L.length
  | 0, k, hn, hk, acc, i, ha, hm, hi => by
    have : k = d.params.length := by omega
    subst this
    refine ⟨acc, i, ?_, ha, hm, hi⟩
    rw [g27L0_eq]
    simp [g27B0]
  | n + 1, k, hn, hk, acc, i, ha, hm, hi => by
    unfold Sm at hS
    have hk : k < d.params.length := by omega
    have hb : (acc.length + 1) * 64 ≤ 140737488355328 := by omega
    obtain ⟨t, j, e, mt, hj⟩ := hg i hi
    simp at e
    obtain ⟨r, j', e', hr, hm', hj'⟩ := L27g hdep hg hS n (k + 1) (by omega) (by omega) (acc ++ [t]) j (by simp; omega) (by
      intro x hx; simp at hx; rcases hx with hx | rfl
      · exact hm x hx
      · exact mt) hj
    simp at e'
    refine ⟨r, j', ?_, hr, hm', hj'⟩
    rw [g27L0_eq]
    have h1 : (dep : Int) + 1 - 1 = dep := by omega
    simp (disch := omega) [-getElem?_pos, g27B0, hk, wrap_id, h1, e, hb]
    rw [e']

theorem g27_0 {L : List Int} (hL : Sm L) {ds : List Dt} {lv : List Ty} (hlv : Sm lv) : GivesG L ds lv 0 := by
  intro i hi
  obtain ⟨k, j1, e1, k0, k7, hj1⟩ := c68 hL hi (n := 7) (by omega) (by omega)
  simp at e1
  unfold Sm at hlv
  by_cases h1 : k < 3
  · by_cases h2 : lv = []
    · subst h2
      refine ⟨tyInt, j1, ?_, .int, hj1⟩
      have c := c34
      simp at c
      rw [callI_body (af := g27) rfl (by simp [g27])]
      simp [-getElem?_pos, g27, e1, h1, c, tyInt]
    · have hp : 0 < lv.length := List.length_pos_iff.2 h2
      obtain ⟨r, j2, e2, r0, r1, hj2⟩ := c68 hL hj1 (n := lv.length) (by omega) (by omega)
      obtain ⟨m, rfl, hm⟩ := natI r0 r1
      obtain ⟨x, hx⟩ := getO hm
      simp at e2
      refine ⟨x, j2, ?_, .leaf (memO hx), hj2⟩
      rw [callI_body (af := g27) rfl (by simp [g27])]
      simp [-getElem?_pos, g27, e1, h1, hp, e2, hx]
  · refine ⟨tyInt, j1, ?_, .int, hj1⟩
    have c := c34
    simp at c
    rw [callI_body (af := g27) rfl (by simp [g27])]
    simp [-getElem?_pos, g27, e1, h1, c, tyInt]

theorem g27_s {L : List Int} (hL : Sm L) {ds : List Dt} (hds : ds.length ≤ 20) (hda : ∀ d ∈ ds, d.params.length ≤ 8) {lv : List Ty} (hlv : Sm lv) {dep : Nat} (hdep : dep < 1000) (hg : GivesG L ds lv dep) : GivesG L ds lv (dep + 1) := by
  intro i hi
  obtain ⟨k, j1, e1, k0, k7, hj1⟩ := c68 hL hi (n := 7) (by omega) (by omega)
  simp at e1
  unfold Sm at hlv
  have hd1 : ¬ ((dep : Int) + 1 < 1) := by omega
  have hd2 : (dep : Int) + 1 - 1 = dep := by omega
  have leafCase : ∀ h1 : k < 3, ∀ h2 : ¬ lv = [], ∃ (t : Ty) (j : Nat), (orcL AP).i 27 [.sptr 0 0, .pv (.lst (ds.map Dt.pv)), .pv (.lst (lv.map Ty.pv)), .pv (vI ((dep + 1 : Nat) : Int))] (tp L i) [] = some ([t.av], tp L j, []) ∧ MadeG (· ∈ ds) lv (dep + 1) t ∧ j ≤ L.length := by
    intro h1 h2
    have hp : 0 < lv.length := List.length_pos_iff.2 h2
    obtain ⟨r, j2, e2, r0, r1, hj2⟩ := c68 hL hj1 (n := lv.length) (by omega) (by omega)
    obtain ⟨m, rfl, hm⟩ := natI r0 r1
    obtain ⟨x, hx⟩ := getO hm
    simp at e2
    refine ⟨x, j2, ?_, .leaf (memO hx), hj2⟩
    rw [callI_body (af := g27) rfl (by simp [g27])]
    simp [-getElem?_pos, g27, e1, h1, hp, e2, hx]
  by_cases h1 : k < 3 ∧ ¬ lv = []
  · exact leafCase h1.1 h1.2
  · have h1' : ¬ k < 3 ∨ lv = [] := by
      by_cases h : k < 3
      · right; by_cases h' : lv = []
        · exact h'
        · exact absurd ⟨h, h'⟩ h1
      · exact .inl h
    by_cases h2 : k < 4
    · refine ⟨tyInt, j1, ?_, .int, hj1⟩
      have c := c34
      simp at c
      rw [callI_body (af := g27) rfl (by simp [g27])]
      rcases h1' with h | h
      · simp [-getElem?_pos, g27, e1, h, h2, c, tyInt]
      · subst h
        simp [-getElem?_pos, g27, e1, h2, c, tyInt]
    · have h3 : ¬ k < 3 := by omega
      by_cases h4 : (k = 4 ∨ k = 5) ∧ ¬ ds = []
      · obtain ⟨h4, h5⟩ := h4
        have hp : 0 < ds.length := List.length_pos_iff.2 h5
        obtain ⟨r, j2, e2, r0, r1, hj2⟩ := c68 hL hj1 (n := ds.length) (by omega) (by omega)
        obtain ⟨m, rfl, hm⟩ := natI r0 r1
        obtain ⟨d, hx⟩ := getO hm
        simp at e2
        have hdm := memO hx
        have hps : Sm d.params := by
          unfold Sm
          have := hda d hdm
          omega
        obtain ⟨as, j3, e3, ha, hm3, hj3⟩ := L27g hdep hg hps d.params.length 0 rfl (by omega) [] j2 rfl (by simp) hj2
        rw [g27L0_eq] at e3
        simp at e3
        have hsa : Sm as := by unfold Sm at hps ⊢; omega
        have c := c62 (s := d.name) (l := as) hsa
        simp at c
        refine ⟨⟨4, d.name, 0, 0, as⟩, j3, ?_, .con hdm ha hm3, hj3⟩
        rw [callI_body (af := g27) rfl (by simp [g27])]
        rcases h4 with rfl | rfl
        · simp [-getElem?_pos, g27, e1, hp, hd1, e2, hx, g27L0_eq, e3, c]
        · simp [-getElem?_pos, g27, e1, hp, hd1, e2, hx, g27L0_eq, e3, c]
      · obtain ⟨a, j2, ea, ma, hj2⟩ := hg j1 hj1
        obtain ⟨b, j3, eb, mb, hj3⟩ := hg j2 hj2
        simp at ea eb
        have c := c69 (a := a) (b := b)
        simp at c
        refine ⟨⟨4, [45, 62], 0, 0, [a, b]⟩, j3, ?_, .arrow ma mb, hj3⟩
        rw [callI_body (af := g27) rfl (by simp [g27])]
        by_cases h5 : ds = []
        · subst h5
          simp at ea eb
          simp (disch := omega) [-getElem?_pos, g27, e1, h2, h3, hd1, hd2, wrap_id, ea, eb, c]
        · have h6 : ¬ k = 4 ∧ ¬ k = 5 := by
            constructor
            · intro h; exact h4 ⟨.inl h, h5⟩
            · intro h; exact h4 ⟨.inr h, h5⟩
          simp (disch := omega) [-getElem?_pos, g27, e1, h2, h3, h6.1, h6.2, hd1, hd2, wrap_id, ea, eb, c]
theorem mk27 {L : List Int} (hL : Sm L) {ds : List Dt} (hds : ds.length ≤ 20) (hda : ∀ d ∈ ds, d.params.length ≤ 8) {lv : List Ty} (hlv : Sm lv) : ∀ dep : Nat, dep < 1000 → GivesG L ds lv dep
  | 0, _ => g27_0 hL hlv
  | dep + 1, h => g27_s hL hds hda hlv (by omega) (mk27 hL hds hda hlv dep (by omega))

theorem MadeG.ok {D : Dt → Prop} (hD : ∀ d, D d → d.params.length ≤ 8) {lv : List Ty} (h : ∀ t ∈ lv, t.args = []) {n : Nat} {t : Ty} (m : MadeG D lv n t) : t.Ok := by
  induction m with
  | leaf hl => exact bare_ok (h _ hl)
  | int => exact bare_ok rfl
  | con hd hl _ ih => exact ⟨by have := hD _ hd; unfold Sm; simp; omega, ih⟩
  | arrow _ _ ha hb => exact ⟨by simp [Sm], by intro x hx; simp at hx; rcases hx with rfl | rfl <;> assumption⟩
theorem sum_le {f : Ty → List Ty} {b : Nat} : ∀ {l : List Ty}, (∀ x ∈ l, (f x).length ≤ b) → (l.flatMap f).length ≤ l.length * b
  | [], _ => by simp
  | a :: r, h => by
    have h1 := h a (by simp)
    have h2 := sum_le (f := f) (b := b) (l := r) (fun x hx => h x (by simp [hx]))
    simp only [List.flatMap_cons, List.length_append, List.length_cons, Nat.add_mul]
    omega
/-- Made types are small. -/
theorem MadeG.small {D : Dt → Prop} (hD : ∀ d, D d → d.params.length ≤ 8) {lv : List Ty} (h : ∀ t ∈ lv, t.args = []) {n : Nat} {t : Ty} (m : MadeG D lv n t) : t.nodes.length ≤ 9 ^ n := by
  have one : ∀ n : Nat, 1 ≤ 9 ^ n := fun n => Nat.one_le_pow n 9 (by decide)
  induction m with
  | leaf hl => rw [Ty.nodes_eq, h _ hl]; simpa using one _
  | int => rw [Ty.nodes_eq]; simpa [tyInt] using one _
  | @con n d args hd hl _ ih =>
    rw [Ty.nodes_eq]
    have h1 := sum_le (f := Ty.nodes) (l := args) ih
    have h2 := hD _ hd
    have h3 := one n
    have h4 : args.length * 9 ^ n ≤ 8 * 9 ^ n := Nat.mul_le_mul_right _ (by omega)
    simp only [List.length_cons, Nat.pow_succ]
    omega
  | @arrow n a b _ _ ha hb =>
    rw [Ty.nodes_eq]
    have h3 := one n
    simp only [List.length_cons, List.flatMap_cons, List.flatMap_nil, List.append_nil, List.length_append, Nat.pow_succ]
    omega
theorem MadeG.made {D : Dt → Prop} (hD : ∀ d, D d → d ∈ allDatas) {lv : List Ty} {n : Nat} {t : Ty} (m : MadeG D lv n t) : Made (· ∈ lv) t := by
  induction m with
  | leaf hl => exact .leaf hl
  | int => exact .int
  | con hd hl _ ih => exact .con (hD _ hd) hl ih
  | arrow _ _ ha hb => exact .arrow ha hb
end Go.Ab.Lw
namespace Go.Ab.Lw
open Ev
set_option maxRecDepth 10000
set_option linter.unusedSimpArgs false
def leavesK : List Ty := [tyVar 0, tyVar 1, tyVar 2, tyVar 3, tyRigid 0 0]
theorem leavesK_bare : ∀ t, t ∈ leavesK → t.args = [] := by
  intro t ht
  simp [leavesK] at ht
  rcases ht with rfl | rfl | rfl | rfl | rfl <;> rfl

theorem L434 {L : List Int} (hL : Sm L) {t : Ty} : ∀ (n : Nat), n ≤ 4 → ∀ (ids : List Int) (i : Nat), ids.length + n ≤ 4 → (∀ x ∈ ids, 0 ≤ x ∧ x < 5) → i ≤ L.length → ∃ (r : List Int) (j : Nat),
    cl AP g434L0 ⟨[(0, .sptr 0 0), (4, .lptr 4 0), (6, .lptr 6 0), (7, .own (ids.map vI) 0), (8, .pv (vI n))],
        [(4, [.pv (vI 0), .pv (.str []), .pv (vI 0), .pv (vI 0), .own [] 1]), (6, [.pv (vI t.kind), .pv (.str t.name), .pv (vI t.id), .pv (vI t.home), .pv (.lst (t.args.map Ty.pv))])], tp L i, [ids.length, 0]⟩ =
      some (.exit 0, ⟨[(0, .sptr 0 0), (4, .lptr 4 0), (6, .lptr 6 0), (7, .own (r.map vI) 0), (8, .pv (vI 0)), (20, .pv (.bool false))],
        [(4, [.pv (vI 0), .pv (.str []), .pv (vI 0), .pv (vI 0), .own [] 1]), (6, [.pv (vI t.kind), .pv (.str t.name), .pv (vI t.id), .pv (vI t.home), .pv (.lst (t.args.map Ty.pv))])], tp L j, [r.length, 0]⟩) ∧ r.length ≤ 4 ∧ (∀ x ∈ r, 0 ≤ x ∧ x < 5) ∧ j ≤ L.length
  | 0, _, ids, i, ha, hm, hi => by
    refine ⟨ids, i, ?_, by omega, hm, hi⟩
    rw [g434L0_eq]
    simp [g434B0]
  | n + 1, hn, ids, i, ha, hm, hi => by
    obtain ⟨q, j1, e1, q0, q5, hj1⟩ := c68 hL hi (n := 5) (by omega) (by omega)
    obtain ⟨r, j, e, hr, hmr, hj⟩ := L434 hL (t := t) n (by omega) (ids ++ [q]) j1 (by simp; omega) (by
      intro x hx
      simp at hx
      rcases hx with hx | rfl
      · exact hm x hx
      · exact ⟨q0, q5⟩) hj1
    have hb : (ids.length + 1) * 8 ≤ 140737488355328 := by omega
    have hh : headSz 1 (ids.map vI) = true := el_int.head ids
    have hn1 : ((n : Int) + 1 - 1) = n := by omega
    have hn2 : (0 : Int) < (n : Int) + 1 := by omega
    refine ⟨r, j, ?_, hr, hmr, hj⟩
    rw [g434L0_eq] at e ⊢
    simp at e1 e
    simp (disch := omega) [-getElem?_pos, g434B0, hn1, hn2, e1, hb, hh, wrap_id]
    rw [g434L0_eq]
    simp [e]

/-- What law 14 makes: a type and some numbers. -/
theorem c434g {L : List Int} (hL : Sm L) (bits : Int) {i : Nat} (hi : i ≤ L.length) : ∃ (t : Ty) (ids : List Int) (j : Nat),
    (orcL AP).i 434 [.sptr 0 0, .pv (vI bits)] (tp L i) [] = some ([t.av, .own (ids.map vI) 0], tp L j, [ids.length]) ∧ Made (· ∈ leavesK) t ∧ t.nodes.length ≤ 729 ∧ ids.length ≤ 4 ∧ (∀ x ∈ ids, 0 ≤ x ∧ x < 5) ∧ j ≤ L.length := by
  obtain ⟨ds, ed, hda, hds⟩ := c32 bits
  have v4 := c70_4 (sh := tp L i) calm_tp
  have r0 := c71 (n := 0) (m := 0)
  obtain ⟨t, j1, e1, mt, hj1⟩ := mk27 hL (by omega) (fun d hd => params_few d (hda d hd)) (lv := leavesK) (by simp [Sm, leavesK]) 3 (by omega) i hi
  have hsm := mt.small (fun d hd => params_few d (hda d hd)) leavesK_bare
  have mt := mt.made hda
  obtain ⟨k, j2, e2, k0, k4, hj2⟩ := c68 hL hj1 (n := 4) (by omega) (by omega)
  obtain ⟨m, rfl, hm⟩ := natI (n := 4) k0 (by simpa using k4)
  obtain ⟨r, j, e, hr, hmr, hj⟩ := L434 hL (t := t) m (by omega) [] j2 (by simp; omega) (by simp) hj2
  refine ⟨t, r, j, ?_, mt, by simpa using hsm, hr, hmr, hj⟩
  rw [g434L0_eq] at e
  simp [leavesK, tyVar, tyRigid] at ed v4 r0 e1 e2 e
  rw [callI_body (af := g434) rfl (by simp [g434])]
  simp (disch := omega) [-getElem?_pos, g434, ed, v4, r0, tyVar, e1, e2, g434L0_eq, e]
/-- What law 14 makes: a type and some numbers. -/
theorem c434 {L : List Int} (hL : Sm L) (bits : Int) {i : Nat} (hi : i ≤ L.length) : ∃ (t : Ty) (ids : List Int) (j : Nat),
    (orcL AP).i 434 [.sptr 0 0, .pv (vI bits)] (tp L i) [] = some ([t.av, .own (ids.map vI) 0], tp L j, [ids.length]) ∧ Made (· ∈ leavesK) t ∧ ids.length ≤ 4 ∧ (∀ x ∈ ids, 0 ≤ x ∧ x < 5) ∧ j ≤ L.length := by
  obtain ⟨t, ids, j, h1, h2, _, h3⟩ := c434g hL bits hi
  exact ⟨t, ids, j, h1, h2, h3⟩
end Go.Ab.Lw
namespace Go.Ab.Lw
open Ev
set_option maxRecDepth 10000
set_option linter.unusedSimpArgs false
/-- One more number. -/
def addU (out : List Int) (x : Int) : List Int := if x ∈ out then out else out ++ [x]
/-- The numbers of the nodes of kind 2. -/
def bnd (x : Ty) : List Int := if x.kind = 2 then [x.id] else []
end Go.Ab.Lw
namespace Go.Ab.Lw
open Ev
set_option maxRecDepth 10000
set_option linter.unusedSimpArgs false
mutual
def Ty.hasK (k : Int) : Ty → Bool
  | ⟨q, _, _, _, as⟩ => decide (q = k) || Ty.hasKs k as
def Ty.hasKs (k : Int) : List Ty → Bool
  | [] => false
  | a :: r => a.hasK k || Ty.hasKs k r
end
theorem Ty.hasKs_any (k : Int) : ∀ l : List Ty, Ty.hasKs k l = l.any (Ty.hasK k)
  | [] => by simp [Ty.hasKs]
  | a :: r => by simp [Ty.hasKs, Ty.hasKs_any k r]
theorem Ty.hasK_eq (k : Int) (t : Ty) : t.hasK k = (decide (t.kind = k) || t.args.any (Ty.hasK k)) := by
  cases t; simp only [Ty.hasK, Ty.hasKs_any]

end Go.Ab.Lw
namespace Go.Ab.Lw
open Ev
set_option maxRecDepth 10000
set_option linter.unusedSimpArgs false
theorem mem_foldU : ∀ {l : List Int} {out : List Int} {x : Int}, x ∈ l.foldl addU out ↔ x ∈ out ∨ x ∈ l
  | [], _, _ => by simp
  | y :: l, out, x => by
    simp only [List.foldl_cons, mem_foldU, addU]
    split
    · rename_i h
      constructor
      · rintro (h1 | h1)
        · exact .inl h1
        · exact .inr (by simp [h1])
      · rintro (h1 | h1)
        · exact .inl h1
        · simp at h1
          rcases h1 with rfl | h1
          · exact .inl h
          · exact .inr h1
    · simp; constructor
      · rintro ((h1 | h1) | h1) <;> simp [h1]
      · rintro (h1 | h1 | h1) <;> simp [h1]
end Go.Ab.Lw
namespace Go.Ab.Lw
open Ev
set_option maxRecDepth 10000
set_option linter.unusedSimpArgs false
theorem L437 {t : Ty} {ids vs : List Int} (hS : Sm vs) (hi : Sm ids) : ∀ (n i : Nat), vs.length - i = n → i ≤ vs.length → ∀ acc : List As, acc.length ≤ i →
    cl AP g437L0 ⟨[(1, .pv (.lst (ids.map vI))), (2, .lptr 2 0), (4, .lptr 4 0), (5, .own (acc.map As.pv) 0), (10, .pv (.lst (vs.map vI))), (11, .pv (vI vs.length)), (12, .pv (vI i))], [(2, [.pv (vI t.kind), .pv (.str t.name), .pv (vI t.id), .pv (vI t.home), .pv (.lst (t.args.map Ty.pv))]), (4, [.pv (vI 0), .pv (vI 0), .pv (.str []), .pv (vI 0), .pv (vI 0), .own [] 1])], [], [acc.length, 0]⟩ =
      some (.exit 0, ⟨[(1, .pv (.lst (ids.map vI))), (2, .lptr 2 0), (4, .lptr 4 0), (5, .own ((closeS ids (vs.drop i) acc).map As.pv) 0), (10, .pv (.lst (vs.map vI))), (11, .pv (vI vs.length)), (12, .pv (vI vs.length)), (13, .pv (.bool false))], [(2, [.pv (vI t.kind), .pv (.str t.name), .pv (vI t.id), .pv (vI t.home), .pv (.lst (t.args.map Ty.pv))]), (4, [.pv (vI 0), .pv (vI 0), .pv (.str []), .pv (vI 0), .pv (vI 0), .own [] 1])], [], [(closeS ids (vs.drop i) acc).length, 0]⟩)
  | 0, i, hn, hi', acc, ha => by
    have : i = vs.length := by omega
    subst this
    rw [g437L0_eq]
    simp [g437B0, closeS]
  | n + 1, i, hn, hi', acc, ha => by
    have hi' : i < vs.length := by omega
    obtain ⟨x, hx⟩ := getO hi'
    unfold Sm at hS
    have k := c98 hi (y := x)
    have hb : (acc.length + 1) * 72 ≤ 140737488355328 := by omega
    rw [dropC hx]
    by_cases e : x ∈ ids
    · have ih := L437 (t := t) hS hi n (i + 1) (by omega) (by omega) (acc ++ [⟨x, tyBound acc.length⟩]) (by simp; omega)
      have ea : closeS ids (x :: vs.drop (i + 1)) acc = closeS ids (vs.drop (i + 1)) (acc ++ [⟨x, tyBound acc.length⟩]) := by simp [closeS, e]
      rw [ea]
      rw [g437L0_eq] at ih ⊢
      rw [decide_eq_true e] at k
      simp [tyBound] at ih
      simp (disch := omega) [-getElem?_pos, g437B0, hx, hi', k, wrap_id, hb, tyBound]
      rw [g437L0_eq]
      simp [ih, tyBound]
    · have ih := L437 (t := t) hS hi n (i + 1) (by omega) (by omega) acc (by omega)
      have ea : closeS ids (x :: vs.drop (i + 1)) acc = closeS ids (vs.drop (i + 1)) acc := by simp [closeS, e]
      rw [ea]
      rw [g437L0_eq] at ih ⊢
      rw [decide_eq_false e] at k
      simp at ih
      simp (disch := omega) [-getElem?_pos, g437B0, hx, hi', k, wrap_id]
      rw [g437L0_eq]
      simp [ih]

theorem c437 {S : List Ty} (hf : S.length < 1099511627776) {t : Ty} (hG : Good S t) {ids : List Int} (hi : Sm ids) : (orcL AP).p 437 [t.pv, .lst (ids.map vI)] = some [(closeSc ids t (vars [t])).pv] := by
  have hG1 : ∀ x ∈ [t], Good S x := by simpa using hG
  have k1 := g55 hf (l := [t]) (by simp [Sm]) hG1
  have hv := vars_len hf hG1
  have k2 := L437 (t := t) hv hi _ 0 rfl (by omega) [] (by simp)
  have hl := closeS_len (ids := ids) (vars [t]) []
  have k3 := c45 (s := closeS ids (vars [t]) []) (by unfold Sm at hv ⊢; simp at hl; omega) hG.ok hG.wf
  rw [callP_body (af := g437) rfl rfl (by decide)]
  rw [g437L0_eq] at k2
  simp at k1 k2 k3
  simp [g437, k1, g437L0_eq, k2, k3, closeSc]

theorem c438 {t : Ty} : (orcL AP).p 438 [t.pv] = some [(As.mk 0 t).pv] := by
  rw [callP_body (af := g438) rfl rfl (by decide)]
  simp [g438]

/-! ### What closing makes is in order -/
/-- The numbers of the variables in order. -/
def vr (x : Ty) : List Int := if x.kind = 1 then [x.id] else []
def seqV (t : Ty) : List Int := t.nodes.flatMap vr
theorem seqV_eq (t : Ty) : seqV t = vr t ++ t.args.flatMap seqV := by
  unfold seqV
  rw [Ty.nodes_eq, List.flatMap_cons, List.flatMap_assoc]
theorem flat_congr {α β : Type} {f g : α → List β} : ∀ {l : List α}, (∀ x ∈ l, f x = g x) → l.flatMap f = l.flatMap g
  | [], _ => rfl
  | x :: l, h => by simp only [List.flatMap_cons]; rw [h x (by simp), flat_congr (l := l) (fun y hy => h y (by simp [hy]))]
theorem vars1 {t : Ty} : vars [t] = (seqV t).foldl addU [] := by
  unfold vars seqV
  simp only [List.flatMap_cons, List.flatMap_nil, List.append_nil]
  generalize ([] : List Int) = out
  generalize t.nodes = l
  induction l generalizing out with
  | nil => rfl
  | cons x l ih =>
    simp only [List.foldl_cons, List.flatMap_cons, List.foldl_append]
    rw [ih]
    congr 1
    by_cases e : x.kind = 1
    · by_cases e2 : x.id ∈ out <;> simp [addI, vr, e, addU, e2]
    · simp [addI, vr, e]

def enumK : Nat → List Int → List As
  | _, [] => []
  | n, v :: r => ⟨v, tyBound n⟩ :: enumK (n + 1) r
theorem enumK_len : ∀ {l : List Int} {n : Nat}, (enumK n l).length = l.length
  | [], _ => rfl
  | v :: r, n => by simp [enumK, enumK_len]
theorem closeS_enum {ids : List Int} : ∀ (vs : List Int) (acc : List As), closeS ids vs acc = acc ++ enumK acc.length (vs.filter (fun v => decide (v ∈ ids)))
  | [], acc => by simp [closeS, enumK]
  | v :: r, acc => by
    simp only [closeS]
    by_cases e : v ∈ ids
    · rw [if_pos e, closeS_enum r]
      simp [e, enumK]
    · rw [if_neg e, closeS_enum r]
      simp [e]
theorem fnd_old {v : Int} : ∀ {A B : List Int} {n : Nat}, v ∈ A → ∃ i : Nat, i < A.length ∧ fnd (enumK n (A ++ B)) v = some (tyBound (n + i : Nat))
  | a :: A, B, n, h => by
    by_cases e : a = v
    · exact ⟨0, by simp, by simp [enumK, fnd, e]⟩
    · have e' : ¬ v = a := fun h => e h.symm
      simp [e'] at h
      obtain ⟨i, hi, ih⟩ := fnd_old (v := v) (A := A) (B := B) (n := n + 1) h
      refine ⟨i + 1, by simp; omega, ?_⟩
      rw [show n + (i + 1) = n + 1 + i from by omega]
      simp [enumK, fnd, e, ih]
end Go.Ab.Lw
namespace Go.Ab.Lw
open Ev
set_option maxRecDepth 10000
set_option linter.unusedSimpArgs false
/-- What a map from numbers to types holds. -/
abbrev Mt := List (Int × Ty)
def fndM : Mt → Int → Option Ty
  | [], _ => none
  | (j, x) :: r, i => if i = j then some x else fndM r i
def putT : Mt → Int → Ty → Mt
  | [], i, t => [(i, t)]
  | (j, x) :: r, i, t => if i = j then (i, t) :: r else (j, x) :: putT r i t
/-- The heads of two types agree. -/
def hdB (p t : Ty) : Bool := decide (p.kind = t.kind) && decide (p.name = t.name) && decide (p.id = t.id) && decide (p.home = t.home) && decide (p.args.length = t.args.length)
/-- The match of a quantified variable. -/
noncomputable def mtV (m : Mt) (i : Int) (t : Ty) : Bool := match fndM m i with | none => true | some x => decide (x = t)

mutual
noncomputable def Ty.mt (t : Ty) (m : Mt) : Ty → Bool × Mt
  | ⟨k, n, i, h, as⟩ => if k = 2 then (mtV m i t, putT m i t) else if hdB ⟨k, n, i, h, as⟩ t = true then Ty.mtL t.args m as else (false, m)
noncomputable def Ty.mtL (ts : List Ty) (m : Mt) : List Ty → Bool × Mt
  | [] => (true, m)
  | p :: ps => match ts with
    | [] => (true, m)
    | t :: ts => if (Ty.mt t m p).1 = true then Ty.mtL ts (Ty.mt t m p).2 ps else (false, (Ty.mt t m p).2)
end
end Go.Ab.Lw
namespace Go.Ab.Lw
open Ev
set_option maxRecDepth 10000
set_option linter.unusedSimpArgs false
theorem Made.none {lv : Ty → Prop} {k : Int} (hk : k ≠ 4) (h : ∀ t, lv t → t.hasK k = false) {t : Ty} (m : Made lv t) : t.hasK k = false := by
  have hk' : ¬ (4 : Int) = k := fun e => hk e.symm
  induction m with
  | leaf hl => exact h _ hl
  | int => rw [Ty.hasK_eq]; simp [tyInt, hk']
  | con hd hl _ ih =>
    rw [Ty.hasK_eq]
    simp only [Bool.or_eq_false_iff, List.any_eq_false]
    exact ⟨by simp [hk'], fun x hx => by simp [ih x hx]⟩
  | arrow _ _ ha hb => rw [Ty.hasK_eq]; simp [ha, hb, hk']
end Go.Ab.Lw
namespace Go.Ab.Lw
open Ev
set_option maxRecDepth 10000
set_option linter.unusedSimpArgs false
structure Plain (s : List As) (x : Ty) : Prop where
  var : ∀ v ∈ x.nodes, v.kind = 1 → v = tyVar v.id ∧ ∃ i, fnd s v.id = some (tyBound i)
  bnd : ∀ v ∈ x.nodes, v.kind ≠ 2
theorem Plain.kid {s : List As} {x : Ty} (h : Plain s x) : ∀ y ∈ x.args, Plain s y := by
  intro y hy
  have hn : ∀ v ∈ y.nodes, v ∈ x.nodes := by
    intro v hv
    rw [Ty.nodes_eq x]
    simp only [List.mem_cons, List.mem_flatMap]
    exact .inr ⟨y, hy, hv⟩
  exact ⟨fun v hv => h.var v (hn v hv), fun v hv => h.bnd v (hn v hv)⟩
theorem self_node {x : Ty} : x ∈ x.nodes := by rw [Ty.nodes_eq]; simp

end Go.Ab.Lw
namespace Go.Ab.Lw
open Ev
set_option maxRecDepth 10000
set_option linter.unusedSimpArgs false
theorem sub_good {S : List Ty} {s : List As} (hs : ∀ a ∈ s, Good S a.ty) {t : Ty} (h : Good S t) : Good S (t.sub s) := by
  refine ⟨sub_ok (fun a ha => (hs a ha).ok) h.ok, sub_wf (fun a ha => (hs a ha).wf) h.wf, ?_⟩
  have key : t.Wf → (∀ x ∈ t.lvs 1, x ∈ S) → ∀ x ∈ (t.sub s).lvs 1, x ∈ S := by
    refine Ty.rec1 (p := fun t => t.Wf → (∀ x ∈ t.lvs 1, x ∈ S) → ∀ x ∈ (t.sub s).lvs 1, x ∈ S) ?_ t
    intro t ih hW hl x hx
    rw [Ty.sub_eq] at hx
    split at hx
    · cases hf : fnd s t.id with
      | none => rw [hf] at hx; exact hl x hx
      | some a =>
        rw [hf] at hx
        obtain ⟨b, hb, rfl⟩ := fnd_mem hf
        exact (hs b hb).sub x hx
    · rename_i hk
      rw [Ty.lvs_eq] at hx
      rw [if_neg (fun h => hk h.1)] at hx
      simp only [List.mem_flatMap, List.mem_map] at hx
      obtain ⟨_, ⟨y, hy, rfl⟩, hx⟩ := hx
      refine ih y hy (hW.kid y hy) (fun z hz => hl z ?_) x hx
      rw [Ty.lvs_eq, if_neg (fun h => hk h.1)]
      simp only [List.mem_flatMap]
      exact ⟨y, hy, hz⟩
  exact key h.wf h.sub
theorem Good.mono {S S' : List Ty} (h : ∀ x ∈ S, x ∈ S') {t : Ty} (g : Good S t) : Good S' t := ⟨g.ok, g.wf, fun x hx => h x (g.sub x hx)⟩

end Go.Ab.Lw
namespace Go.Ab.Lw
open Ev
set_option maxRecDepth 10000
set_option linter.unusedSimpArgs false
/-- The variables of a pattern are within the arrays. -/
def Rng (n : Nat) (p : Ty) : Prop := ∀ x ∈ p.nodes, x.kind = 2 → 0 ≤ x.id ∧ x.id < n
theorem Rng.kid {n : Nat} {p : Ty} (h : Rng n p) : ∀ y ∈ p.args, Rng n y := by
  intro y hy x hx
  refine h x ?_
  rw [Ty.nodes_eq p]
  simp only [List.mem_cons, List.mem_flatMap]
  exact .inr ⟨y, hy, hx⟩

end Go.Ab.Lw
namespace Go.Ab.Lw
open Ev
set_option maxRecDepth 10000
set_option linter.unusedSimpArgs false
mutual
/-- The quantified variables replaced. -/
def Ty.bind (F : Int → Ty) : Ty → Ty
  | ⟨k, n, i, h, as⟩ => if k = 2 then F i else ⟨k, n, i, h, Ty.binds F as⟩
def Ty.binds (F : Int → Ty) : List Ty → List Ty
  | [] => []
  | a :: r => a.bind F :: Ty.binds F r
end
/-- The quantified variables are plain. -/
def Bd (p : Ty) : Prop := ∀ v ∈ p.nodes, v.kind = 2 → v = tyBound v.id
theorem Bd.kid {p : Ty} (h : Bd p) : ∀ y ∈ p.args, Bd y := by
  intro y hy v hv
  refine h v ?_
  rw [Ty.nodes_eq p]
  simp only [List.mem_cons, List.mem_flatMap]
  exact .inr ⟨y, hy, hv⟩
end Go.Ab.Lw
namespace Go.Ab.Lw
open Ev
set_option maxRecDepth 10000
set_option linter.unusedSimpArgs false
/-- Types where places have no parts. -/
inductive Ty.Wb : Ty → Prop
  | mk {t : Ty} : (t.kind = 2 → t.args = []) → (∀ x ∈ t.args, Ty.Wb x) → Ty.Wb t
theorem Ty.Wb.var {t : Ty} (h : t.Wb) : t.kind = 2 → t.args = [] := by cases h; assumption
theorem Ty.Wb.kid {t : Ty} (h : t.Wb) : ∀ x ∈ t.args, x.Wb := by cases h; assumption
end Go.Ab.Lw
namespace Go.Ab.Lw
open Ev
set_option maxRecDepth 10000
set_option linter.unusedSimpArgs false
theorem Bd.leaf {p : Ty} (h : Bd p) (e : p.kind = 2) : p.args = [] := by
  have := congrArg Ty.args (h p self_node e)
  exact this
theorem foldU_map {f : Int → Int} : ∀ (l out : List Int), (∀ x y, (x ∈ l ∨ x ∈ out) → (y ∈ l ∨ y ∈ out) → f x = f y → x = y) → (l.map f).foldl addU (out.map f) = (l.foldl addU out).map f
  | [], _, _ => rfl
  | x :: r, out, h => by
    simp only [List.map_cons, List.foldl_cons]
    have e : addU (out.map f) (f x) = (addU out x).map f := by
      unfold addU
      by_cases hx : x ∈ out
      · rw [if_pos hx, if_pos (List.mem_map_of_mem hx)]
      · rw [if_neg hx, if_neg]
        · simp
        · intro hm
          simp only [List.mem_map] at hm
          obtain ⟨y, hy, he⟩ := hm
          exact hx (h y x (.inr hy) (.inl (by simp)) he ▸ hy)
    rw [e]
    apply foldU_map
    intro a b ha hb
    have key : ∀ z, (z ∈ r ∨ z ∈ addU out x) → (z ∈ x :: r ∨ z ∈ out) := by
      intro z hz
      rcases hz with hz | hz
      · exact .inl (by simp [hz])
      · unfold addU at hz
        split at hz
        · exact .inr hz
        · simp at hz
          rcases hz with hz | rfl
          · exact .inr hz
          · exact .inl (by simp)
    exact h a b (key a ha) (key b hb)
end Go.Ab.Lw
namespace Go.Ab.Lw
open Ev
set_option maxRecDepth 10000
set_option linter.unusedSimpArgs false
theorem leavesK_var {t : Ty} (h : t ∈ leavesK) (hk : t.kind = 1) : (0 ≤ t.id ∧ t.id < 4) ∧ t = tyVar t.id := by
  simp [leavesK] at h
  rcases h with rfl | rfl | rfl | rfl | rfl <;> simp_all [tyVar, tyRigid]
theorem good_self {t : Ty} (h : Good leavesK t) (hk : t.kind = 1) : (0 ≤ t.id ∧ t.id < 4) ∧ t = tyVar t.id :=
  leavesK_var (h.sub t (nodes_var h.wf t (by rw [Ty.nodes_eq]; simp) hk)) hk
theorem good_kid {t : Ty} (h : Good leavesK t) (hk : ¬ t.kind = 1) : ∀ x ∈ t.args, Good leavesK x := by
  intro x hx
  refine ⟨?_, h.wf.kid x hx, fun y hy => h.sub y ?_⟩
  · exact h.ok.kid x hx
  · rw [Ty.lvs_eq, if_neg (fun e => hk e.1)]
    simp only [List.mem_flatMap]
    exact ⟨x, hx, hy⟩
theorem seqV_var (n : Int) : seqV (tyVar n) = [n] := by rw [seqV_eq]; simp [tyVar, vr]

theorem seqV_move {s : List As} {τ : Int → Int} (hs : ∀ v, 0 ≤ v → v < 4 → fnd s v = some (tyVar (τ v))) {t : Ty} (h : Good leavesK t) : seqV (t.sub s) = (seqV t).map τ := by
  revert h
  refine Ty.rec1 (p := fun t => Good leavesK t → seqV (t.sub s) = (seqV t).map τ) ?_ t
  intro t ih h
  by_cases hk : t.kind = 1
  · obtain ⟨⟨h0, h4⟩, he⟩ := good_self h hk
    have : t.sub s = tyVar (τ t.id) := by rw [Ty.sub_eq, if_pos hk, hs _ h0 h4]; rfl
    rw [this, seqV_var]
    rw [he, seqV_var]; rfl
  · rw [Ty.sub_eq, if_neg hk, seqV_eq, seqV_eq t]
    have e1 : vr t = [] := by unfold vr; rw [if_neg hk]
    have e2 : vr ⟨t.kind, t.name, t.id, t.home, t.args.map (·.sub s)⟩ = [] := by unfold vr; rw [if_neg hk]
    rw [e1, e2, List.nil_append, List.nil_append, List.flatMap_map, List.map_flatMap]
    exact flat_congr fun x hx => ih x hx (good_kid h hk x hx)

theorem sub_move {s A B : List As} {τ : Int → Int} (hs : ∀ v, 0 ≤ v → v < 4 → fnd s v = some (tyVar (τ v))) {t : Ty} (h : Good leavesK t)
    (hv : ∀ v ∈ seqV t, fnd B (τ v) = fnd A v ∧ (fnd A v = none → τ v = v)) : (t.sub s).sub B = t.sub A := by
  revert h hv
  refine Ty.rec1 (p := fun t => Good leavesK t → (∀ v ∈ seqV t, fnd B (τ v) = fnd A v ∧ (fnd A v = none → τ v = v)) → (t.sub s).sub B = t.sub A) ?_ t
  intro t ih h hv
  by_cases hk : t.kind = 1
  · obtain ⟨⟨h0, h4⟩, he⟩ := good_self h hk
    have : t.sub s = tyVar (τ t.id) := by rw [Ty.sub_eq, if_pos hk, hs _ h0 h4]; rfl
    rw [this, Ty.sub_eq, if_pos (show (tyVar (τ t.id)).kind = 1 from rfl)]
    rw [Ty.sub_eq A t, if_pos hk]
    obtain ⟨e1, e2⟩ := hv t.id (by rw [he, seqV_var]; simp [tyVar])
    show (fnd B (τ t.id)).getD (tyVar (τ t.id)) = _
    rw [e1]
    cases hf : fnd A t.id with
    | some a => rfl
    | none => rw [e2 hf]; exact he.symm
  · rw [Ty.sub_eq s t, if_neg hk, Ty.sub_eq, if_neg hk, Ty.sub_eq A t, if_neg hk]
    simp only [List.map_map]
    congr 1
    apply List.map_congr_left
    intro x hx
    refine ih x hx (good_kid h hk x hx) fun v hm => hv v ?_
    rw [seqV_eq]
    simp only [List.mem_append, List.mem_flatMap]
    exact .inr ⟨x, hx, hm⟩

theorem fnd_move {τ : Int → Int} {v : Int} : ∀ {W : List Int} {n : Nat}, (∀ w ∈ W, τ v = τ w → v = w) → fnd (enumK n (W.map τ)) (τ v) = fnd (enumK n W) v
  | [], _, _ => rfl
  | w :: W, n, h => by
    simp only [List.map_cons, enumK, fnd]
    by_cases e : w = v
    · subst e; simp
    · have e' : ¬ τ w = τ v := fun e' => e (h w (by simp) e'.symm).symm
      rw [if_neg e, if_neg e']
      exact fnd_move fun u hu => h u (by simp [hu])

/-- **Closing does not depend on the numbers.** -/
theorem close_move {x : Ty} (m : Made (· ∈ leavesK) x) {τ : Int → Int} {s : List As} {ids moved : List Int}
    (hs : ∀ v, 0 ≤ v → v < 4 → fnd s v = some (tyVar (τ v)))
    (hinj : ∀ v w, 0 ≤ v → v < 4 → 0 ≤ w → w < 4 → τ v = τ w → v = w)
    (hfix : ∀ v, 0 ≤ v → v < 4 → v ∉ ids → τ v = v)
    (hmv : ∀ v, 0 ≤ v → v < 4 → (τ v ∈ moved ↔ v ∈ ids)) : closeSc moved (x.sub s) (vars [x.sub s]) = closeSc ids x (vars [x]) := by
  have hG := m.good leavesK_bare
  have hr : ∀ v ∈ seqV x, 0 ≤ v ∧ v < 4 := by
    intro v hv
    unfold seqV at hv
    simp only [List.mem_flatMap] at hv
    obtain ⟨y, hy, hvy⟩ := hv
    unfold vr at hvy
    split at hvy
    · rename_i hk
      simp at hvy
      subst hvy
      exact (leavesK_var (hG.sub y (nodes_var hG.wf y hy hk)) hk).1
    · simp at hvy
  have hV : ∀ v, v ∈ vars [x] ↔ v ∈ seqV x := by intro v; rw [vars1, mem_foldU]; simp
  have e1 : vars [x.sub s] = (vars [x]).map τ := by
    rw [vars1, vars1, seqV_move hs hG]
    have := foldU_map (f := τ) (seqV x) [] (by
      intro v w hv hw e
      simp at hv hw
      exact hinj v w (hr v hv).1 (hr v hv).2 (hr w hw).1 (hr w hw).2 e)
    simpa using this
  have e2 : ((vars [x]).map τ).filter (fun v => decide (v ∈ moved)) = ((vars [x]).filter fun v => decide (v ∈ ids)).map τ := by
    rw [List.filter_map]
    congr 1
    apply List.filter_congr
    intro v hv
    have := hr v ((hV v).1 hv)
    have h := hmv v this.1 this.2
    simp [h]
  unfold closeSc
  rw [e1, closeS_enum, closeS_enum, e2]
  simp only [List.nil_append, List.length_nil, enumK_len, List.length_map]
  congr 1
  refine sub_move hs hG fun v hv => ?_
  have hv4 := hr v hv
  refine ⟨fnd_move fun w hw e => ?_, fun hn => ?_⟩
  · have hw' := hr w ((hV w).1 (List.mem_filter.1 hw).1)
    exact hinj v w hv4.1 hv4.2 hw'.1 hw'.2 e
  · refine hfix v hv4.1 hv4.2 fun hi => ?_
    have hmem : v ∈ (vars [x]).filter fun v => decide (v ∈ ids) := by
      rw [List.mem_filter]; exact ⟨(hV v).2 hv, by simpa using hi⟩
    obtain ⟨i, _, hf⟩ := fnd_old (v := v) (A := (vars [x]).filter fun v => decide (v ∈ ids)) (B := []) (n := 0) hmem
    rw [List.append_nil] at hf
    rw [hf] at hn
    simp at hn
end Go.Ab.Lw
namespace Go.Ab.Lw
open Ev
set_option maxRecDepth 10000
set_option linter.unusedSimpArgs false
/-- The numbers that the variables get. -/
def mvs (τ : Int → Int) (ids : List Int) : Nat → Int → List Int
  | 0, _ => []
  | n + 1, i => (if i ∈ ids then [τ i] else []) ++ mvs τ ids n (i + 1)

theorem L427_5 {L : List Int} {j : Nat} {x : Ty} {ids : List Int} {b : Int} {τ : Int → Int} (mv : List Int) : cl AP g427L0 ⟨[(2, .pv (vI b)), (8, .lptr 8 0), (9, .own (ids.map vI) 0), (10, .sarr 5 6 5 true), (11, .own ((mv).map vI) 1), (12, .pv (vI 5))], [(8, [.pv (vI x.kind), .pv (.str x.name), .pv (vI x.id), .pv (vI x.home), .pv (.lst (x.args.map Ty.pv))])], [some [.pv (.lst (L.map vI)), .pv (vI j)], none, none, none, none, some [.pv (vI 0), .pv (vI 1), .pv (.str []), .pv (vI (τ 0)), .pv (vI 0), .pv (.lst []), .pv (vI 1), .pv (vI 1), .pv (.str []), .pv (vI (τ 1)), .pv (vI 0), .pv (.lst []), .pv (vI 2), .pv (vI 1), .pv (.str []), .pv (vI (τ 2)), .pv (vI 0), .pv (.lst []), .pv (vI 3), .pv (vI 1), .pv (.str []), .pv (vI (τ 3)), .pv (vI 0), .pv (.lst []), .pv (vI 4), .pv (vI 1), .pv (.str []), .pv (vI (τ 4)), .pv (vI 0), .pv (.lst [])]], [ids.length, (mv).length]⟩ =
    some (.exit 0, ⟨[(2, .pv (vI b)), (8, .lptr 8 0), (9, .own (ids.map vI) 0), (10, .sarr 5 6 5 true), (11, .own ((mv).map vI) 1), (12, .pv (vI 5)), (29, .pv (.bool false))], [(8, [.pv (vI x.kind), .pv (.str x.name), .pv (vI x.id), .pv (vI x.home), .pv (.lst (x.args.map Ty.pv))])], [some [.pv (.lst (L.map vI)), .pv (vI j)], none, none, none, none, some [.pv (vI 0), .pv (vI 1), .pv (.str []), .pv (vI (τ 0)), .pv (vI 0), .pv (.lst []), .pv (vI 1), .pv (vI 1), .pv (.str []), .pv (vI (τ 1)), .pv (vI 0), .pv (.lst []), .pv (vI 2), .pv (vI 1), .pv (.str []), .pv (vI (τ 2)), .pv (vI 0), .pv (.lst []), .pv (vI 3), .pv (vI 1), .pv (.str []), .pv (vI (τ 3)), .pv (vI 0), .pv (.lst []), .pv (vI 4), .pv (vI 1), .pv (.str []), .pv (vI (τ 4)), .pv (vI 0), .pv (.lst [])]], [ids.length, (mv).length]⟩) := by
  rw [g427L0_eq]
  simp [g427B0]

set_option maxHeartbeats 1000000 in
theorem L427_4 {L : List Int} {j : Nat} {x : Ty} {ids : List Int} {b m : Int} {τ : Int → Int} (hi : Sm ids) (hm : (orcL AP).p 26 [vI b, vI 90] = some [vI m]) (h0 : 0 ≤ m) (h9 : m < 90) (h1 : ∀ i, 0 ≤ i → i < 5 → i ∈ ids → τ i = 10 + m * 7 + 4 - i) (h2 : ∀ i, 0 ≤ i → i < 5 → i ∉ ids → τ i = i) (mv : List Int) (hv : mv.length ≤ 4) : cl AP g427L0 ⟨[(2, .pv (vI b)), (8, .lptr 8 0), (9, .own (ids.map vI) 0), (10, .sarr 4 6 4 true), (11, .own ((mv).map vI) 1), (12, .pv (vI 4))], [(8, [.pv (vI x.kind), .pv (.str x.name), .pv (vI x.id), .pv (vI x.home), .pv (.lst (x.args.map Ty.pv))])], [some [.pv (.lst (L.map vI)), .pv (vI j)], none, none, none, some [.pv (vI 0), .pv (vI 1), .pv (.str []), .pv (vI (τ 0)), .pv (vI 0), .pv (.lst []), .pv (vI 1), .pv (vI 1), .pv (.str []), .pv (vI (τ 1)), .pv (vI 0), .pv (.lst []), .pv (vI 2), .pv (vI 1), .pv (.str []), .pv (vI (τ 2)), .pv (vI 0), .pv (.lst []), .pv (vI 3), .pv (vI 1), .pv (.str []), .pv (vI (τ 3)), .pv (vI 0), .pv (.lst [])]], [ids.length, (mv).length]⟩ =
    some (.exit 0, ⟨[(2, .pv (vI b)), (8, .lptr 8 0), (9, .own (ids.map vI) 0), (10, .sarr 5 6 5 true), (11, .own ((mv ++ mvs τ ids 1 4).map vI) 1), (12, .pv (vI 5)), (29, .pv (.bool false))], [(8, [.pv (vI x.kind), .pv (.str x.name), .pv (vI x.id), .pv (vI x.home), .pv (.lst (x.args.map Ty.pv))])], [some [.pv (.lst (L.map vI)), .pv (vI j)], none, none, none, none, some [.pv (vI 0), .pv (vI 1), .pv (.str []), .pv (vI (τ 0)), .pv (vI 0), .pv (.lst []), .pv (vI 1), .pv (vI 1), .pv (.str []), .pv (vI (τ 1)), .pv (vI 0), .pv (.lst []), .pv (vI 2), .pv (vI 1), .pv (.str []), .pv (vI (τ 2)), .pv (vI 0), .pv (.lst []), .pv (vI 3), .pv (vI 1), .pv (.str []), .pv (vI (τ 3)), .pv (vI 0), .pv (.lst []), .pv (vI 4), .pv (vI 1), .pv (.str []), .pv (vI (τ 4)), .pv (vI 0), .pv (.lst [])]], [ids.length, (mv ++ mvs τ ids 1 4).length]⟩) := by
  have k := c95 hi (y := 4)
  have q1 := el_int.head mv
  have q2 : (mv.length + 1) * 8 ≤ 140737488355328 := by omega
  have kv := c63 (n := 4)
  have k2 := c63 (n := 10 + m * 7 + 4 - 4)
  by_cases e : (4 : Int) ∈ ids
  · have et := h1 4 (by omega) (by omega) e
    have ih := L427_5 (L := L) (j := j) (x := x) (ids := ids) (b := b) (τ := τ) (mv ++ [τ 4])
    have em : mv ++ mvs τ ids 1 4 = (mv ++ [τ 4]) ++ mvs τ ids 0 5 := by simp [mvs, e]
    rw [em]
    rw [show mvs τ ids 0 5 = [] from rfl, List.append_nil]
    rw [decide_eq_true e] at k
    rw [g427L0_eq] at ih ⊢
    simp [et] at ih
    simp at k kv k2 hm
    simp (disch := omega) [g427B0, k, kv, k2, hm, wrap_id, e, et, q1, q2]
    rw [g427L0_eq]
    simp [ih, et]
  · have et := h2 4 (by omega) (by omega) e
    have ih := L427_5 (L := L) (j := j) (x := x) (ids := ids) (b := b) (τ := τ) mv
    have em : mv ++ mvs τ ids 1 4 = mv ++ mvs τ ids 0 5 := by simp [mvs, e]
    rw [em]
    rw [show mvs τ ids 0 5 = [] from rfl, List.append_nil]
    rw [decide_eq_false e] at k
    rw [g427L0_eq] at ih ⊢
    simp [et] at ih
    simp at k kv k2 hm
    simp (disch := omega) [g427B0, k, kv, k2, hm, wrap_id, e, et, q1, q2]
    rw [g427L0_eq]
    simp [ih, et]

set_option maxHeartbeats 1000000 in
theorem L427_3 {L : List Int} {j : Nat} {x : Ty} {ids : List Int} {b m : Int} {τ : Int → Int} (hi : Sm ids) (hm : (orcL AP).p 26 [vI b, vI 90] = some [vI m]) (h0 : 0 ≤ m) (h9 : m < 90) (h1 : ∀ i, 0 ≤ i → i < 5 → i ∈ ids → τ i = 10 + m * 7 + 4 - i) (h2 : ∀ i, 0 ≤ i → i < 5 → i ∉ ids → τ i = i) (mv : List Int) (hv : mv.length ≤ 3) : cl AP g427L0 ⟨[(2, .pv (vI b)), (8, .lptr 8 0), (9, .own (ids.map vI) 0), (10, .sarr 3 6 3 true), (11, .own ((mv).map vI) 1), (12, .pv (vI 3))], [(8, [.pv (vI x.kind), .pv (.str x.name), .pv (vI x.id), .pv (vI x.home), .pv (.lst (x.args.map Ty.pv))])], [some [.pv (.lst (L.map vI)), .pv (vI j)], none, none, some [.pv (vI 0), .pv (vI 1), .pv (.str []), .pv (vI (τ 0)), .pv (vI 0), .pv (.lst []), .pv (vI 1), .pv (vI 1), .pv (.str []), .pv (vI (τ 1)), .pv (vI 0), .pv (.lst []), .pv (vI 2), .pv (vI 1), .pv (.str []), .pv (vI (τ 2)), .pv (vI 0), .pv (.lst [])]], [ids.length, (mv).length]⟩ =
    some (.exit 0, ⟨[(2, .pv (vI b)), (8, .lptr 8 0), (9, .own (ids.map vI) 0), (10, .sarr 5 6 5 true), (11, .own ((mv ++ mvs τ ids 2 3).map vI) 1), (12, .pv (vI 5)), (29, .pv (.bool false))], [(8, [.pv (vI x.kind), .pv (.str x.name), .pv (vI x.id), .pv (vI x.home), .pv (.lst (x.args.map Ty.pv))])], [some [.pv (.lst (L.map vI)), .pv (vI j)], none, none, none, none, some [.pv (vI 0), .pv (vI 1), .pv (.str []), .pv (vI (τ 0)), .pv (vI 0), .pv (.lst []), .pv (vI 1), .pv (vI 1), .pv (.str []), .pv (vI (τ 1)), .pv (vI 0), .pv (.lst []), .pv (vI 2), .pv (vI 1), .pv (.str []), .pv (vI (τ 2)), .pv (vI 0), .pv (.lst []), .pv (vI 3), .pv (vI 1), .pv (.str []), .pv (vI (τ 3)), .pv (vI 0), .pv (.lst []), .pv (vI 4), .pv (vI 1), .pv (.str []), .pv (vI (τ 4)), .pv (vI 0), .pv (.lst [])]], [ids.length, (mv ++ mvs τ ids 2 3).length]⟩) := by
  have k := c95 hi (y := 3)
  have q1 := el_int.head mv
  have q2 : (mv.length + 1) * 8 ≤ 140737488355328 := by omega
  have kv := c63 (n := 3)
  have k2 := c63 (n := 10 + m * 7 + 4 - 3)
  by_cases e : (3 : Int) ∈ ids
  · have et := h1 3 (by omega) (by omega) e
    have ih := L427_4 (L := L) (j := j) (x := x) hi hm h0 h9 h1 h2 (mv ++ [τ 3]) (by simp; omega)
    have em : mv ++ mvs τ ids 2 3 = (mv ++ [τ 3]) ++ mvs τ ids 1 4 := by simp [mvs, e]
    rw [em]
    skip
    rw [decide_eq_true e] at k
    rw [g427L0_eq] at ih ⊢
    simp [et] at ih
    simp at k kv k2 hm
    simp (disch := omega) [g427B0, k, kv, k2, hm, wrap_id, e, et, q1, q2]
    rw [g427L0_eq]
    simp [ih, et]
  · have et := h2 3 (by omega) (by omega) e
    have ih := L427_4 (L := L) (j := j) (x := x) hi hm h0 h9 h1 h2 mv (by omega)
    have em : mv ++ mvs τ ids 2 3 = mv ++ mvs τ ids 1 4 := by simp [mvs, e]
    rw [em]
    skip
    rw [decide_eq_false e] at k
    rw [g427L0_eq] at ih ⊢
    simp [et] at ih
    simp at k kv k2 hm
    simp (disch := omega) [g427B0, k, kv, k2, hm, wrap_id, e, et, q1, q2]
    rw [g427L0_eq]
    simp [ih, et]

set_option maxHeartbeats 1000000 in
theorem L427_2 {L : List Int} {j : Nat} {x : Ty} {ids : List Int} {b m : Int} {τ : Int → Int} (hi : Sm ids) (hm : (orcL AP).p 26 [vI b, vI 90] = some [vI m]) (h0 : 0 ≤ m) (h9 : m < 90) (h1 : ∀ i, 0 ≤ i → i < 5 → i ∈ ids → τ i = 10 + m * 7 + 4 - i) (h2 : ∀ i, 0 ≤ i → i < 5 → i ∉ ids → τ i = i) (mv : List Int) (hv : mv.length ≤ 2) : cl AP g427L0 ⟨[(2, .pv (vI b)), (8, .lptr 8 0), (9, .own (ids.map vI) 0), (10, .sarr 2 6 2 true), (11, .own ((mv).map vI) 1), (12, .pv (vI 2))], [(8, [.pv (vI x.kind), .pv (.str x.name), .pv (vI x.id), .pv (vI x.home), .pv (.lst (x.args.map Ty.pv))])], [some [.pv (.lst (L.map vI)), .pv (vI j)], none, some [.pv (vI 0), .pv (vI 1), .pv (.str []), .pv (vI (τ 0)), .pv (vI 0), .pv (.lst []), .pv (vI 1), .pv (vI 1), .pv (.str []), .pv (vI (τ 1)), .pv (vI 0), .pv (.lst [])]], [ids.length, (mv).length]⟩ =
    some (.exit 0, ⟨[(2, .pv (vI b)), (8, .lptr 8 0), (9, .own (ids.map vI) 0), (10, .sarr 5 6 5 true), (11, .own ((mv ++ mvs τ ids 3 2).map vI) 1), (12, .pv (vI 5)), (29, .pv (.bool false))], [(8, [.pv (vI x.kind), .pv (.str x.name), .pv (vI x.id), .pv (vI x.home), .pv (.lst (x.args.map Ty.pv))])], [some [.pv (.lst (L.map vI)), .pv (vI j)], none, none, none, none, some [.pv (vI 0), .pv (vI 1), .pv (.str []), .pv (vI (τ 0)), .pv (vI 0), .pv (.lst []), .pv (vI 1), .pv (vI 1), .pv (.str []), .pv (vI (τ 1)), .pv (vI 0), .pv (.lst []), .pv (vI 2), .pv (vI 1), .pv (.str []), .pv (vI (τ 2)), .pv (vI 0), .pv (.lst []), .pv (vI 3), .pv (vI 1), .pv (.str []), .pv (vI (τ 3)), .pv (vI 0), .pv (.lst []), .pv (vI 4), .pv (vI 1), .pv (.str []), .pv (vI (τ 4)), .pv (vI 0), .pv (.lst [])]], [ids.length, (mv ++ mvs τ ids 3 2).length]⟩) := by
  have k := c95 hi (y := 2)
  have q1 := el_int.head mv
  have q2 : (mv.length + 1) * 8 ≤ 140737488355328 := by omega
  have kv := c63 (n := 2)
  have k2 := c63 (n := 10 + m * 7 + 4 - 2)
  by_cases e : (2 : Int) ∈ ids
  · have et := h1 2 (by omega) (by omega) e
    have ih := L427_3 (L := L) (j := j) (x := x) hi hm h0 h9 h1 h2 (mv ++ [τ 2]) (by simp; omega)
    have em : mv ++ mvs τ ids 3 2 = (mv ++ [τ 2]) ++ mvs τ ids 2 3 := by simp [mvs, e]
    rw [em]
    skip
    rw [decide_eq_true e] at k
    rw [g427L0_eq] at ih ⊢
    simp [et] at ih
    simp at k kv k2 hm
    simp (disch := omega) [g427B0, k, kv, k2, hm, wrap_id, e, et, q1, q2]
    rw [g427L0_eq]
    simp [ih, et]
  · have et := h2 2 (by omega) (by omega) e
    have ih := L427_3 (L := L) (j := j) (x := x) hi hm h0 h9 h1 h2 mv (by omega)
    have em : mv ++ mvs τ ids 3 2 = mv ++ mvs τ ids 2 3 := by simp [mvs, e]
    rw [em]
    skip
    rw [decide_eq_false e] at k
    rw [g427L0_eq] at ih ⊢
    simp [et] at ih
    simp at k kv k2 hm
    simp (disch := omega) [g427B0, k, kv, k2, hm, wrap_id, e, et, q1, q2]
    rw [g427L0_eq]
    simp [ih, et]

set_option maxHeartbeats 1000000 in
theorem L427_1 {L : List Int} {j : Nat} {x : Ty} {ids : List Int} {b m : Int} {τ : Int → Int} (hi : Sm ids) (hm : (orcL AP).p 26 [vI b, vI 90] = some [vI m]) (h0 : 0 ≤ m) (h9 : m < 90) (h1 : ∀ i, 0 ≤ i → i < 5 → i ∈ ids → τ i = 10 + m * 7 + 4 - i) (h2 : ∀ i, 0 ≤ i → i < 5 → i ∉ ids → τ i = i) (mv : List Int) (hv : mv.length ≤ 1) : cl AP g427L0 ⟨[(2, .pv (vI b)), (8, .lptr 8 0), (9, .own (ids.map vI) 0), (10, .sarr 1 6 1 true), (11, .own ((mv).map vI) 1), (12, .pv (vI 1))], [(8, [.pv (vI x.kind), .pv (.str x.name), .pv (vI x.id), .pv (vI x.home), .pv (.lst (x.args.map Ty.pv))])], [some [.pv (.lst (L.map vI)), .pv (vI j)], some [.pv (vI 0), .pv (vI 1), .pv (.str []), .pv (vI (τ 0)), .pv (vI 0), .pv (.lst [])]], [ids.length, (mv).length]⟩ =
    some (.exit 0, ⟨[(2, .pv (vI b)), (8, .lptr 8 0), (9, .own (ids.map vI) 0), (10, .sarr 5 6 5 true), (11, .own ((mv ++ mvs τ ids 4 1).map vI) 1), (12, .pv (vI 5)), (29, .pv (.bool false))], [(8, [.pv (vI x.kind), .pv (.str x.name), .pv (vI x.id), .pv (vI x.home), .pv (.lst (x.args.map Ty.pv))])], [some [.pv (.lst (L.map vI)), .pv (vI j)], none, none, none, none, some [.pv (vI 0), .pv (vI 1), .pv (.str []), .pv (vI (τ 0)), .pv (vI 0), .pv (.lst []), .pv (vI 1), .pv (vI 1), .pv (.str []), .pv (vI (τ 1)), .pv (vI 0), .pv (.lst []), .pv (vI 2), .pv (vI 1), .pv (.str []), .pv (vI (τ 2)), .pv (vI 0), .pv (.lst []), .pv (vI 3), .pv (vI 1), .pv (.str []), .pv (vI (τ 3)), .pv (vI 0), .pv (.lst []), .pv (vI 4), .pv (vI 1), .pv (.str []), .pv (vI (τ 4)), .pv (vI 0), .pv (.lst [])]], [ids.length, (mv ++ mvs τ ids 4 1).length]⟩) := by
  have k := c95 hi (y := 1)
  have q1 := el_int.head mv
  have q2 : (mv.length + 1) * 8 ≤ 140737488355328 := by omega
  have kv := c63 (n := 1)
  have k2 := c63 (n := 10 + m * 7 + 4 - 1)
  by_cases e : (1 : Int) ∈ ids
  · have et := h1 1 (by omega) (by omega) e
    have ih := L427_2 (L := L) (j := j) (x := x) hi hm h0 h9 h1 h2 (mv ++ [τ 1]) (by simp; omega)
    have em : mv ++ mvs τ ids 4 1 = (mv ++ [τ 1]) ++ mvs τ ids 3 2 := by simp [mvs, e]
    rw [em]
    skip
    rw [decide_eq_true e] at k
    rw [g427L0_eq] at ih ⊢
    simp [et] at ih
    simp at k kv k2 hm
    simp (disch := omega) [g427B0, k, kv, k2, hm, wrap_id, e, et, q1, q2]
    rw [g427L0_eq]
    simp [ih, et]
  · have et := h2 1 (by omega) (by omega) e
    have ih := L427_2 (L := L) (j := j) (x := x) hi hm h0 h9 h1 h2 mv (by omega)
    have em : mv ++ mvs τ ids 4 1 = mv ++ mvs τ ids 3 2 := by simp [mvs, e]
    rw [em]
    skip
    rw [decide_eq_false e] at k
    rw [g427L0_eq] at ih ⊢
    simp [et] at ih
    simp at k kv k2 hm
    simp (disch := omega) [g427B0, k, kv, k2, hm, wrap_id, e, et, q1, q2]
    rw [g427L0_eq]
    simp [ih, et]

set_option maxHeartbeats 1000000 in
theorem L427_0 {L : List Int} {j : Nat} {x : Ty} {ids : List Int} {b m : Int} {τ : Int → Int} (hi : Sm ids) (hm : (orcL AP).p 26 [vI b, vI 90] = some [vI m]) (h0 : 0 ≤ m) (h9 : m < 90) (h1 : ∀ i, 0 ≤ i → i < 5 → i ∈ ids → τ i = 10 + m * 7 + 4 - i) (h2 : ∀ i, 0 ≤ i → i < 5 → i ∉ ids → τ i = i) : cl AP g427L0 ⟨[(2, .pv (vI b)), (8, .lptr 8 0), (9, .own (ids.map vI) 0), (10, .own [] 1), (11, .own ((([] : List Int)).map vI) 2), (12, .pv (vI 0))], [(8, [.pv (vI x.kind), .pv (.str x.name), .pv (vI x.id), .pv (vI x.home), .pv (.lst (x.args.map Ty.pv))])], [some [.pv (.lst (L.map vI)), .pv (vI j)]], [ids.length, 0, (([] : List Int)).length]⟩ =
    some (.exit 0, ⟨[(2, .pv (vI b)), (8, .lptr 8 0), (9, .own (ids.map vI) 0), (10, .sarr 5 6 5 true), (11, .own ((mvs τ ids 5 0).map vI) 1), (12, .pv (vI 5)), (29, .pv (.bool false))], [(8, [.pv (vI x.kind), .pv (.str x.name), .pv (vI x.id), .pv (vI x.home), .pv (.lst (x.args.map Ty.pv))])], [some [.pv (.lst (L.map vI)), .pv (vI j)], none, none, none, none, some [.pv (vI 0), .pv (vI 1), .pv (.str []), .pv (vI (τ 0)), .pv (vI 0), .pv (.lst []), .pv (vI 1), .pv (vI 1), .pv (.str []), .pv (vI (τ 1)), .pv (vI 0), .pv (.lst []), .pv (vI 2), .pv (vI 1), .pv (.str []), .pv (vI (τ 2)), .pv (vI 0), .pv (.lst []), .pv (vI 3), .pv (vI 1), .pv (.str []), .pv (vI (τ 3)), .pv (vI 0), .pv (.lst []), .pv (vI 4), .pv (vI 1), .pv (.str []), .pv (vI (τ 4)), .pv (vI 0), .pv (.lst [])]], [ids.length, (mvs τ ids 5 0).length]⟩) := by
  have k := c95 hi (y := 0)
  have kv := c63 (n := 0)
  have k2 := c63 (n := 10 + m * 7 + 4 - 0)
  by_cases e : (0 : Int) ∈ ids
  · have et := h1 0 (by omega) (by omega) e
    have ih := L427_1 (L := L) (j := j) (x := x) hi hm h0 h9 h1 h2 ([τ 0]) (by simp)
    have em : mvs τ ids 5 0 = ([τ 0]) ++ mvs τ ids 4 1 := by simp [mvs, e]
    rw [em]
    skip
    rw [decide_eq_true e] at k
    rw [g427L0_eq] at ih ⊢
    simp [et] at ih
    simp at k kv k2 hm
    simp (disch := omega) [g427B0, k, kv, k2, hm, wrap_id, e, et]
    rw [g427L0_eq]
    simp [ih, et]
  · have et := h2 0 (by omega) (by omega) e
    have ih := L427_1 (L := L) (j := j) (x := x) hi hm h0 h9 h1 h2 [] (by simp)
    have em : mvs τ ids 5 0 = mvs τ ids 4 1 := by simp [mvs, e]
    rw [em]
    skip
    rw [decide_eq_false e] at k
    rw [g427L0_eq] at ih ⊢
    simp [et] at ih
    simp at k kv k2 hm
    simp (disch := omega) [g427B0, k, kv, k2, hm, wrap_id, e, et]
    rw [g427L0_eq]
    simp [ih, et]

end Go.Ab.Lw
namespace Go.Ab.Lw
open Ev
set_option maxRecDepth 10000
set_option linter.unusedSimpArgs false
theorem mem_mvs {τ : Int → Int} {ids : List Int} {y : Int} : ∀ {n : Nat} {i : Int}, y ∈ mvs τ ids n i ↔ ∃ k, i ≤ k ∧ k < i + n ∧ k ∈ ids ∧ y = τ k
  | 0, i => by
    simp only [mvs, List.not_mem_nil, false_iff]
    rintro ⟨k, h1, h2, _⟩
    simp at h2
    omega
  | n + 1, i => by
    have ih := mem_mvs (τ := τ) (ids := ids) (y := y) (n := n) (i := i + 1)
    simp only [mvs, List.mem_append, ih]
    constructor
    · rintro (h | ⟨k, h1, h2, h3, h4⟩)
      · split at h
        · rename_i hi
          simp at h
          exact ⟨i, by omega, by omega, hi, h⟩
        · simp at h
      · exact ⟨k, by omega, by omega, h3, h4⟩
    · rintro ⟨k, h1, h2, h3, h4⟩
      by_cases e : k = i
      · subst e
        left
        rw [if_pos h3]; simp [h4]
      · exact .inr ⟨k, by omega, by omega, h3, h4⟩
theorem mvs_len {τ : Int → Int} {ids : List Int} : ∀ {n : Nat} {i : Int}, (mvs τ ids n i).length ≤ n
  | 0, _ => by simp [mvs]
  | n + 1, i => by
    have ih := mvs_len (τ := τ) (ids := ids) (n := n) (i := i + 1)
    simp only [mvs, List.length_append]
    split <;> simp <;> omega

/-- **The law SchemeCloses.** -/
theorem law427 (bits b : Int) (L : List Int) : (orcL AP).p 427 [vI bits, .lst (L.map vI), vI b] = some [.bool true] := by
  have c0 := c433
  have c1 := c15 (l := L)
  rw [callP_body (af := g427) rfl rfl (by decide)]
  by_cases hL : L.length ≤ 60
  · simp [hL] at c1
    have hLs : Sm L := by unfold Sm; omega
    obtain ⟨x, ids, j1, e1, mx, hi1, _, hj1⟩ := c434 hLs bits (i := 0) (by omega)
    obtain ⟨m, e2, m0, m9⟩ := c26 (n := b) (m := 90) (by omega) (by omega)
    obtain ⟨τ, hτ⟩ : ∃ τ : Int → Int, ∀ i, τ i = if i ∈ ids then 10 + m * 7 + 4 - i else i := ⟨_, fun _ => rfl⟩
    have h1 : ∀ i, 0 ≤ i → i < 5 → i ∈ ids → τ i = 10 + m * 7 + 4 - i := fun i _ _ h => by rw [hτ, if_pos h]
    have h2 : ∀ i, 0 ≤ i → i < 5 → i ∉ ids → τ i = i := fun i _ _ h => by rw [hτ, if_neg h]
    have hids : Sm ids := by unfold Sm; omega
    have h := L427_0 (L := L) (j := j1) (x := x) (ids := ids) (b := b) (m := m) (τ := τ) hids e2 m0 m9 h1 h2
    have hl : (mvs τ ids 5 0).length ≤ 5 := mvs_len
    have hmm : ∀ v, 0 ≤ v → v < 4 → (τ v ∈ mvs τ ids 5 0 ↔ v ∈ ids) := by
      intro v v0 v4
      rw [mem_mvs]
      constructor
      · rintro ⟨k, k0, k5, hk, he⟩
        by_cases hv : v ∈ ids
        · exact hv
        · rw [h2 v v0 (by omega) hv, h1 k k0 (by simpa using k5) hk] at he
          simp at k5
          omega
      · intro hv
        exact ⟨v, v0, by simp; omega, hv, rfl⟩
    have hf : leavesK.length < 1099511627776 := by simp [leavesK]
    have gx := mx.good leavesK_bare
    have k1 := c437 hf gx (ids := ids) hids
    have k2 := c208 (mx.few hf leavesK_bare) (ids := ids) hids
    have k3 := c183 (a := closeSc ids x (vars [x])) (b := closeSc ids x (vars [x])) (closeSc_ok gx.ok)
    have k4 := c46 (s := [⟨0, tyVar (τ 0)⟩, ⟨1, tyVar (τ 1)⟩, ⟨2, tyVar (τ 2)⟩, ⟨3, tyVar (τ 3)⟩, ⟨4, tyVar (τ 4)⟩]) (by simp [Sm]) gx.ok
    have k5 := c437 (S := leavesK ++ [tyVar (τ 0), tyVar (τ 1), tyVar (τ 2), tyVar (τ 3), tyVar (τ 4)]) (by simp [leavesK])
      (t := x.sub [⟨0, tyVar (τ 0)⟩, ⟨1, tyVar (τ 1)⟩, ⟨2, tyVar (τ 2)⟩, ⟨3, tyVar (τ 3)⟩, ⟨4, tyVar (τ 4)⟩])
      (sub_good (by
        intro a ha
        have gv : ∀ n, tyVar n ∈ leavesK ++ [tyVar (τ 0), tyVar (τ 1), tyVar (τ 2), tyVar (τ 3), tyVar (τ 4)] → Good (leavesK ++ [tyVar (τ 0), tyVar (τ 1), tyVar (τ 2), tyVar (τ 3), tyVar (τ 4)]) (tyVar n) :=
          fun n hn => ⟨bare_ok rfl, .mk (fun _ => rfl) (by intro z hz; simp [tyVar] at hz), fun y hy => by rw [Ty.lvs_eq, if_pos ⟨rfl, rfl⟩] at hy; simp at hy; rw [hy]; exact hn⟩
        simp only [List.mem_cons, List.not_mem_nil, or_false] at ha
        rcases ha with rfl | rfl | rfl | rfl | rfl <;> exact gv _ (by simp))
        (gx.mono fun _ h => List.mem_append_left _ h)) (ids := mvs τ ids 5 0) (by unfold Sm; omega)
    rw [close_move mx (τ := τ) (ids := ids) (by
      intro v v0 v4
      have : v = 0 ∨ v = 1 ∨ v = 2 ∨ v = 3 := by omega
      rcases this with rfl | rfl | rfl | rfl <;> simp [fnd])
      (by
        intro v w v0 v4 w0 w4 e
        by_cases hv : v ∈ ids <;> by_cases hw : w ∈ ids
        · rw [h1 v v0 (by omega) hv, h1 w w0 (by omega) hw] at e; omega
        · rw [h1 v v0 (by omega) hv, h2 w w0 (by omega) hw] at e; omega
        · rw [h2 v v0 (by omega) hv, h1 w w0 (by omega) hw] at e; omega
        · rw [h2 v v0 (by omega) hv, h2 w w0 (by omega) hw] at e; omega)
      (fun v v0 v4 hv => h2 v v0 (by omega) hv) hmm] at k5
    have k6 := c438 (t := x)
    have k7 := c176 (t := x)
    have k8 := c183 (a := ⟨0, x⟩) (b := ⟨0, x⟩) gx.ok
    generalize mvs τ ids 5 0 = mv at h k5 hl
    generalize closeSc ids x (vars [x]) = C at k1 k2 k3 k5
    generalize x.sub [⟨0, tyVar (τ 0)⟩, ⟨1, tyVar (τ 1)⟩, ⟨2, tyVar (τ 2)⟩, ⟨3, tyVar (τ 3)⟩, ⟨4, tyVar (τ 4)⟩] = y at k4 k5
    rw [g427L0_eq] at h
    simp [tyVar] at e1 k1 k2 k3 k4 k5 k6 k7 k8 h
    simp (disch := omega) [g427, c0, c1, e1, g427L0_eq, h, arrEls, chunk, k1, k2, k3, k4, k5, k6, k7, k8]
  · simp [hL] at c1
    simp [g427, c0, c1]
end Go.Ab.Lw
