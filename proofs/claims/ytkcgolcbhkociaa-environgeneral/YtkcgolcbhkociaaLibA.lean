import Derived.Test.YtkcgolcbhkociaaCodeA
import Derived.Test.YtkcgolcbhkociaaAbBridge
import Derived.Test.YtkcgolcbhkociaaAbForce
import Derived.KernelRfl
/-
  The program's data.
  The makers: what their functions give.
  The makers: what their functions give.
  The data declarations that programs are made of: what the reader makes of their text.
  The makers: data declarations, chosen by bits.
  The makers: types and substitutions off the tape.
  The makers: substitutions off the tape; what law 13 makes.
  Types and substitutions: what replaces variables.
  Types: rebuilding with new leaves.
  Substitutions: composing; equality of types and of substitutions.
  The order of types.
  Chapter 13: the plain laws, and the law that composition composes.
  Chapter 13: equality of substitutions; the laws SubstAssociates and SubstEqual.
  Functions of package slices over any elements.
  Ranges over a slice backward.
  Which types are valid.
  Contexts: their entries; looking names up.
  slices.EqualFunc and slices.Clip over any elements.
  What the pure data of a parameter looks like.
  Chapter 3: what its laws make; the laws TypesValid and TypesEqual.
  The variables of types, by the program and by the reference.
  The reference's variables of types; they are the program's.
  Contexts: schemes, adding, hidden entries; what law 19 makes.
  Law 19 makes contexts; the law EnvironLooks.
  Contexts: their free variables; the law EnvironSeen.
  The maker of types over any list of data types.
  What law 14 makes; the law SchemeFree.
  Which schemes are valid, by the program and by the reference.
  Valid schemes: the program's and the reference's answers are one.
  Valid schemes, by the program; closing and mono.
  Closing and mono, by the program.
  Matching, by the program.
  Instances, by the program.
  Instances, by the reference.
  Matching, by the reference.
  Both matchings are one.
  The law SchemeValid.
  When a closed type is general.
  The law SchemeClosesGeneral.
  The reference's Instance; the law SchemeInstances.
  When matching succeeds.
  Chapter 3: opening.
  The law EnvironLooks.
  General by the reference.
  Both Generals are one; general both ways is equal.
  What SchemeGeneral makes: closed types.
  The law SchemeGeneral.
  What is made beside an array that is frozen: as the first time.
  General and Equal of contexts.
  The law EnvironGeneral: all pairs and triples of the four contexts.
  The law EnvironGeneral: the context that is changed in its place.
  The law EnvironGeneral: changing a context in its place, by the program.
  The law EnvironGeneral, put together.
-/
set_option linter.unusedVariables false
set_option linter.unusedSimpArgs false
namespace Go.Ab.Lw
/-- A type. -/
structure Ty where
  kind : Int
  name : List UInt8
  id : Int
  home : Int
  args : List Ty
  deriving Inhabited

noncomputable instance : DecidableEq Ty := fun _ _ => Classical.propDecidable _

mutual
def Ty.pv : Ty → PV
  | ⟨k, n, i, h, as⟩ => .agg [.int .i64 k, .str n, .int .i64 i, .int .i64 h, .lst (Ty.pvs as)]
def Ty.pvs : List Ty → List PV
  | [] => []
  | a :: r => a.pv :: Ty.pvs r
end

theorem Ty.pvs_map : ∀ l : List Ty, Ty.pvs l = l.map Ty.pv
  | [] => by simp [Ty.pvs]
  | a :: r => by simp [Ty.pvs, Ty.pvs_map r]

@[simp] theorem Ty.pv_eq (t : Ty) : t.pv = .agg [.int .i64 t.kind, .str t.name, .int .i64 t.id, .int .i64 t.home, .lst (t.args.map Ty.pv)] := by
  cases t; simp only [Ty.pv, Ty.pvs_map]

/-- A property of all types that are parts. -/
theorem Ty.rec1 {p : Ty → Prop} (h : ∀ t : Ty, (∀ x ∈ t.args, p x) → p t) : ∀ t, p t
  | ⟨k, n, i, hm, as⟩ => h _ (fun x _hx => Ty.rec1 h x)
termination_by t => SizeOf.sizeOf t
decreasing_by have := _root_.List.sizeOf_lt_of_mem _hx; simp at *; omega

/-- A constructor, and a data declaration. -/
structure Con where
  pos : Int
  name : List UInt8
  fields : List Ty
  deriving Inhabited
structure Dt where
  pos : Int
  name : List UInt8
  params : List (List UInt8)
  cons : List Con
  deriving Inhabited
def Con.pv (c : Con) : PV := .agg [.int .i64 c.pos, .str c.name, .lst (c.fields.map Ty.pv)]
def Dt.pv (d : Dt) : PV := .agg [.int .i64 d.pos, .str d.name, .lst (d.params.map .str), .lst (d.cons.map Con.pv)]
@[simp] theorem Con.pv_eq (c : Con) : c.pv = .agg [.int .i64 c.pos, .str c.name, .lst (c.fields.map Ty.pv)] := rfl
@[simp] theorem Dt.pv_eq (d : Dt) : d.pv = .agg [.int .i64 d.pos, .str d.name, .lst (d.params.map .str), .lst (d.cons.map Con.pv)] := rfl

/-- An assignment. -/
structure As where
  id : Int
  ty : Ty
  deriving Inhabited
def As.pv (a : As) : PV := .agg [.int .i64 a.id, .int .i64 a.ty.kind, .str a.ty.name, .int .i64 a.ty.id, .int .i64 a.ty.home, .lst (a.ty.args.map Ty.pv)]
@[simp] theorem As.pv_eq (a : As) : a.pv = .agg [.int .i64 a.id, .int .i64 a.ty.kind, .str a.ty.name, .int .i64 a.ty.id, .int .i64 a.ty.home, .lst (a.ty.args.map Ty.pv)] := rfl

@[simp] theorem Ty.eta (t : Ty) : Ty.mk t.kind t.name t.id t.home t.args = t := by cases t; rfl
@[simp] theorem As.eta (t : As) : As.mk t.id t.ty = t := rfl

abbrev vI (n : Int) : PV := .int .i64 n
def tp (L : List Int) (i : Int) : Sh := [some [.pv (.lst (L.map vI)), .pv (vI i)]]
@[simp] theorem tp_eq (L : List Int) (i : Int) : tp L i = [some [.pv (.lst (L.map vI)), .pv (vI i)]] := rfl

/-- Lists that any memory holds. -/
def Sm {α : Type} (l : List α) : Prop := l.length < 1099511627776

/-- Texts that any memory holds. -/
def SmS {α : Type} (l : List α) : Prop := l.length ≤ 9223372036854775807

@[simp] theorem natNeg (n : Nat) : ((n : Int) < 0) ↔ False := by simp
@[simp] theorem natNeg1 (n : Nat) : ((n : Int) + 1 < 0) ↔ False := by simp; omega

theorem dropC {α : Type} {l : List α} {i : Nat} {x : α} (h : l[i]? = some x) : l.drop i = x :: l.drop (i + 1) := by
  obtain ⟨hi, rfl⟩ := List.getElem?_eq_some_iff.1 h
  exact List.drop_eq_getElem_cons hi
theorem getO {α : Type} {l : List α} {i : Nat} (h : i < l.length) : ∃ x, l[i]? = some x := ⟨_, List.getElem?_eq_getElem h⟩
theorem memO {α : Type} {l : List α} {i : Nat} {x : α} (h : l[i]? = some x) : x ∈ l := List.mem_of_getElem? h
theorem dropN {α : Type} {l : List α} {i : Nat} (h : l.length ≤ i) : l.drop i = [] := List.drop_eq_nil_of_le h

end Go.Ab.Lw
namespace Go.Ab.Lw
open Ev
set_option maxRecDepth 10000
set_option linter.unusedSimpArgs false
theorem c26 {n m : Int} (h1 : 1 ≤ m) (h2 : m < 4611686018427387904) : ∃ r, (orcL AP).p 26 [vI n, vI m] = some [vI r] ∧ 0 ≤ r ∧ r < m := by
  rw [callP_body (af := g26) rfl rfl (by decide)]
  have a1 := Int.tmod_lt_of_pos n (show 0 < m by omega)
  have a2 := Int.lt_tmod_of_pos n (show 0 < m by omega)
  have e1 : ¬ m < 1 := by omega
  have e2 : ¬ m = 0 := by omega
  by_cases h : n.tmod m < 0
  · refine ⟨n.tmod m + m, ?_, by omega, by omega⟩
    simp (disch := omega) [g26, e1, e2, h, wrap_id]
  · refine ⟨n.tmod m, ?_, by omega, by omega⟩
    simp [g26, e1, e2, h]

/-- A choice off the tape. -/
theorem c68 {L : List Int} (hL : Sm L) {i : Nat} (hi : i ≤ L.length) {n : Int} (h1 : 1 ≤ n) (h2 : n < 4611686018427387904) :
    ∃ (r : Int) (j : Nat), (orcL AP).i 68 [.sptr 0 0, .pv (vI n)] (tp L i) [] = some ([.pv (vI r)], tp L j, []) ∧ 0 ≤ r ∧ r < n ∧ j ≤ L.length := by
  unfold Sm at hL
  rw [callI_body (af := g68) rfl (by simp [g68])]
  by_cases h : i < L.length
  · obtain ⟨x, hx⟩ := getO h
    obtain ⟨r, e, e1, e2⟩ := c26 (n := x) h1 h2
    refine ⟨r, i + 1, ?_, e1, e2, h⟩
    have h' : ¬ L.length ≤ i := by omega
    simp (disch := omega) [-getElem?_pos, g68, h', wrap_id, hx, e]
  · have h' : L.length ≤ i := by omega
    refine ⟨0, i, ?_, by omega, by omega, hi⟩
    simp [g68, h']

theorem c63 {n : Int} : (orcL AP).p 63 [vI n] = some [(Ty.mk 1 [] n 0 []).pv] := by
  rw [callP_body (af := g63) rfl rfl (by decide)]
  simp [g63]
theorem c71 {n m : Int} : (orcL AP).p 71 [vI n, vI m] = some [(Ty.mk 3 [] m n []).pv] := by
  rw [callP_body (af := g71) rfl rfl (by decide)]
  simp [g71]
theorem c72 {n : Int} : (orcL AP).p 72 [vI n] = some [(Ty.mk 2 [] n 0 []).pv] := by
  rw [callP_body (af := g72) rfl rfl (by decide)]
  simp [g72]
theorem c62 {s : List UInt8} {l : List Ty} (h : Sm l) : (orcL AP).p 62 [.str s, .lst (l.map Ty.pv)] = some [(Ty.mk 4 s 0 0 l).pv] := by
  unfold Sm at h
  rw [callP_body (af := g62) rfl rfl (by decide)]
  cases l with
  | nil => simp [g62]
  | cons a r =>
    have : (r.length + 1) * 64 ≤ 140737488355328 := by simp at h; omega
    simp [g62, this]
theorem c34 : (orcL AP).p 34 [] = some [(Ty.mk 4 [73, 110, 116] 0 0 []).pv] := by
  rw [callP_body (af := g34) rfl rfl (by decide)]
  have h := c62 (s := [73, 110, 116]) (l := []) (by simp [Sm])
  simp at h
  simp [g34, h]
theorem c69 {a b : Ty} : (orcL AP).p 69 [a.pv, b.pv] = some [(Ty.mk 4 [45, 62] 0 0 [a, b]).pv] := by
  rw [callP_body (af := g69) rfl rfl (by decide)]
  have h := c62 (s := [45, 62]) (l := [a, b]) (by simp [Sm])
  simp at h
  simp [g69, h]
theorem c15 {l : List Int} : (orcL AP).p 15 [.lst (l.map vI)] = some [.bool (decide (l.length ≤ 60))] := by
  rw [callP_body (af := g15) rfl rfl (by decide)]
  simp [g15]
  omega

end Go.Ab.Lw
namespace Go.Ab.Lw
open Ev
set_option maxRecDepth 10000
set_option linter.unusedSimpArgs false
/-- Shared memory without tokens. -/
def Calm (sh : Sh) : Prop := ∀ old ts, normS old ts sh = (sh, old, ts)
theorem calm_tp {L : List Int} {i : Int} : Calm (tp L i) := fun _ _ => rfl

def tyVar (n : Int) : Ty := ⟨1, [], n, 0, []⟩
def tyRigid (h n : Int) : Ty := ⟨3, [], n, h, []⟩
def tyBound (n : Int) : Ty := ⟨2, [], n, 0, []⟩
def tyInt : Ty := ⟨4, [73, 110, 116], 0, 0, []⟩

end Go.Ab.Lw
namespace Go.Ab.Lw
set_option maxRecDepth 100000
set_option linter.unusedVariables false
def srcD : List UInt8 := [100, 97, 116, 97, 32, 66, 111, 111, 108, 32, 61, 32, 84, 114, 117, 101, 32, 124, 32, 70, 97, 108, 115, 101, 59, 32, 100, 97, 116, 97, 32, 79, 112, 116, 105, 111, 110, 32, 97, 32, 61, 32, 78, 111, 110, 101, 32, 124, 32, 83, 111, 109, 101, 32, 97, 59, 32, 100, 97, 116, 97, 32, 76, 105, 115, 116, 32, 97, 32, 61, 32, 78, 105, 108, 32, 124, 32, 67, 111, 110, 115, 32, 97, 32, 40, 76, 105, 115, 116, 32, 97, 41, 59, 100, 97, 116, 97, 32, 80, 97, 105, 114, 32, 97, 32, 98, 32, 61, 32, 80, 97, 105, 114, 32, 97, 32, 98, 59, 32, 100, 97, 116, 97, 32, 78, 97, 116, 32, 61, 32, 90, 101, 114, 111, 32, 124, 32, 83, 117, 99, 99, 32, 78, 97, 116, 59, 32, 100, 97, 116, 97, 32, 70, 117, 110, 32, 97, 32, 98, 32, 61, 32, 70, 117, 110, 32, 40, 97, 32, 45, 62, 32, 98, 41, 59, 32, 100, 97, 116, 97, 32, 84, 119, 111, 32, 97, 32, 61, 32, 66, 111, 116, 104, 32, 97, 32, 97, 32, 124, 32, 79, 110, 101, 32, 40, 79, 112, 116, 105, 111, 110, 32, 97, 41, 59]
def toksD : List PV := [.lst [.agg [.int .i64 4, .str [100, 97, 116, 97], .int .i64 0], .agg [.int .i64 2, .str [66, 111, 111, 108], .int .i64 5], .agg [.int .i64 5, .str [61], .int .i64 10], .agg [.int .i64 2, .str [84, 114, 117, 101], .int .i64 12], .agg [.int .i64 5, .str [124], .int .i64 17], .agg [.int .i64 2, .str [70, 97, 108, 115, 101], .int .i64 19], .agg [.int .i64 5, .str [59], .int .i64 24], .agg [.int .i64 4, .str [100, 97, 116, 97], .int .i64 26], .agg [.int .i64 2, .str [79, 112, 116, 105, 111, 110], .int .i64 31], .agg [.int .i64 1, .str [97], .int .i64 38], .agg [.int .i64 5, .str [61], .int .i64 40], .agg [.int .i64 2, .str [78, 111, 110, 101], .int .i64 42], .agg [.int .i64 5, .str [124], .int .i64 47], .agg [.int .i64 2, .str [83, 111, 109, 101], .int .i64 49], .agg [.int .i64 1, .str [97], .int .i64 54], .agg [.int .i64 5, .str [59], .int .i64 55], .agg [.int .i64 4, .str [100, 97, 116, 97], .int .i64 57], .agg [.int .i64 2, .str [76, 105, 115, 116], .int .i64 62], .agg [.int .i64 1, .str [97], .int .i64 67], .agg [.int .i64 5, .str [61], .int .i64 69], .agg [.int .i64 2, .str [78, 105, 108], .int .i64 71], .agg [.int .i64 5, .str [124], .int .i64 75], .agg [.int .i64 2, .str [67, 111, 110, 115], .int .i64 77], .agg [.int .i64 1, .str [97], .int .i64 82], .agg [.int .i64 5, .str [40], .int .i64 84], .agg [.int .i64 2, .str [76, 105, 115, 116], .int .i64 85], .agg [.int .i64 1, .str [97], .int .i64 90], .agg [.int .i64 5, .str [41], .int .i64 91], .agg [.int .i64 5, .str [59], .int .i64 92], .agg [.int .i64 4, .str [100, 97, 116, 97], .int .i64 93], .agg [.int .i64 2, .str [80, 97, 105, 114], .int .i64 98], .agg [.int .i64 1, .str [97], .int .i64 103], .agg [.int .i64 1, .str [98], .int .i64 105], .agg [.int .i64 5, .str [61], .int .i64 107], .agg [.int .i64 2, .str [80, 97, 105, 114], .int .i64 109], .agg [.int .i64 1, .str [97], .int .i64 114], .agg [.int .i64 1, .str [98], .int .i64 116], .agg [.int .i64 5, .str [59], .int .i64 117], .agg [.int .i64 4, .str [100, 97, 116, 97], .int .i64 119], .agg [.int .i64 2, .str [78, 97, 116], .int .i64 124], .agg [.int .i64 5, .str [61], .int .i64 128], .agg [.int .i64 2, .str [90, 101, 114, 111], .int .i64 130], .agg [.int .i64 5, .str [124], .int .i64 135], .agg [.int .i64 2, .str [83, 117, 99, 99], .int .i64 137], .agg [.int .i64 2, .str [78, 97, 116], .int .i64 142], .agg [.int .i64 5, .str [59], .int .i64 145], .agg [.int .i64 4, .str [100, 97, 116, 97], .int .i64 147], .agg [.int .i64 2, .str [70, 117, 110], .int .i64 152], .agg [.int .i64 1, .str [97], .int .i64 156], .agg [.int .i64 1, .str [98], .int .i64 158], .agg [.int .i64 5, .str [61], .int .i64 160], .agg [.int .i64 2, .str [70, 117, 110], .int .i64 162], .agg [.int .i64 5, .str [40], .int .i64 166], .agg [.int .i64 1, .str [97], .int .i64 167], .agg [.int .i64 5, .str [45, 62], .int .i64 169], .agg [.int .i64 1, .str [98], .int .i64 172], .agg [.int .i64 5, .str [41], .int .i64 173], .agg [.int .i64 5, .str [59], .int .i64 174], .agg [.int .i64 4, .str [100, 97, 116, 97], .int .i64 176], .agg [.int .i64 2, .str [84, 119, 111], .int .i64 181], .agg [.int .i64 1, .str [97], .int .i64 185], .agg [.int .i64 5, .str [61], .int .i64 187], .agg [.int .i64 2, .str [66, 111, 116, 104], .int .i64 189], .agg [.int .i64 1, .str [97], .int .i64 194], .agg [.int .i64 1, .str [97], .int .i64 196], .agg [.int .i64 5, .str [124], .int .i64 198], .agg [.int .i64 2, .str [79, 110, 101], .int .i64 200], .agg [.int .i64 5, .str [40], .int .i64 204], .agg [.int .i64 2, .str [79, 112, 116, 105, 111, 110], .int .i64 205], .agg [.int .i64 1, .str [97], .int .i64 212], .agg [.int .i64 5, .str [41], .int .i64 213], .agg [.int .i64 5, .str [59], .int .i64 214]], .agg [.int .i64 0, .int .i64 0]]

/-- All data declarations. -/
def allDatas : List Dt := [⟨0, [66, 111, 111, 108], [], [⟨12, [84, 114, 117, 101], []⟩, ⟨19, [70, 97, 108, 115, 101], []⟩]⟩,
  ⟨26, [79, 112, 116, 105, 111, 110], [[97]], [⟨42, [78, 111, 110, 101], []⟩, ⟨49, [83, 111, 109, 101], [⟨5, [97], 0, 0, []⟩]⟩]⟩,
  ⟨57, [76, 105, 115, 116], [[97]], [⟨71, [78, 105, 108], []⟩, ⟨77, [67, 111, 110, 115], [⟨5, [97], 0, 0, []⟩,⟨4, [76, 105, 115, 116], 0, 0, [⟨5, [97], 0, 0, []⟩]⟩]⟩]⟩,
  ⟨93, [80, 97, 105, 114], [[97], [98]], [⟨109, [80, 97, 105, 114], [⟨5, [97], 0, 0, []⟩,⟨5, [98], 0, 0, []⟩]⟩]⟩,
  ⟨119, [78, 97, 116], [], [⟨130, [90, 101, 114, 111], []⟩, ⟨137, [83, 117, 99, 99], [⟨4, [78, 97, 116], 0, 0, []⟩]⟩]⟩,
  ⟨147, [70, 117, 110], [[97], [98]], [⟨162, [70, 117, 110], [⟨4, [45, 62], 0, 0, [⟨5, [97], 0, 0, []⟩, ⟨5, [98], 0, 0, []⟩]⟩]⟩]⟩,
  ⟨176, [84, 119, 111], [[97]], [⟨189, [66, 111, 116, 104], [⟨5, [97], 0, 0, []⟩,⟨5, [97], 0, 0, []⟩]⟩, ⟨200, [79, 110, 101], [⟨4, [79, 112, 116, 105, 111, 110], 0, 0, [⟨5, [97], 0, 0, []⟩]⟩]⟩]⟩]

theorem scanD : (orcL AP).p 118 [.str srcD] = some toksD := Fc.p_of (k := 400) (n := 20) (by kernel_rfl)

def ovD (g : Nat) (x : List PV) : Option (List PV) := match g, x with
  | 118, [.str s] => if s = srcD then some toksD else none
  | _, _ => none
theorem ovD_ok : ∀ g x r, ovD g x = some r → (orcL AP).p g x = some r := by
  intro g x r h
  unfold ovD at h
  split at h
  · split at h
    · rename_i e; subst e; cases h; exact scanD
    · cases h
  · cases h

theorem c79 : (orcL AP).p 79 [] = some [.lst (allDatas.map Dt.pv)] := Fc.p_ofX (k := 400) (n := 40) ovD_ok (by kernel_rfl)
end Go.Ab.Lw
namespace Go.Ab.Lw
open Ev
set_option maxRecDepth 10000
set_option linter.unusedSimpArgs false
@[simp] theorem headSz_Dt {l : List Dt} : headSz 4 (l.map Dt.pv) = true := by cases l <;> simp
@[simp] theorem headSz_Ty {l : List Ty} : headSz 5 (l.map Ty.pv) = true := by cases l <;> simp
@[simp] theorem headSz_As {l : List As} : headSz 6 (l.map As.pv) = true := by cases l <;> simp

theorem wrapU_id {n : Int} (h1 : 0 ≤ n) (h2 : n < 18446744073709551616) : IntKind.u64.wrap n = n := by
  simp [IntKind.wrap, IntKind.bits, IntKind.signed]
  omega

def R32 (bits : Int) (ds : List Dt) : Option (AExit × St) :=
  some (.exit 0, ⟨[(0, .pv (vI bits)), (3, .pv (.lst (allDatas.map Dt.pv))), (4, .own (ds.map Dt.pv) 0), (5, .pv (vI 7)), (24, .pv (.bool false))], [], [], [ds.length]⟩)
theorem L32 (bits : Int) : ∀ (n i : Nat), 7 - i = n → i ≤ 7 → ∀ acc : List Dt, (∀ d ∈ acc, d ∈ allDatas) → acc.length ≤ 1 + i →
    ∃ ds : List Dt, cl AP g32L0 ⟨[(0, .pv (vI bits)), (3, .pv (.lst (allDatas.map Dt.pv))), (4, .own (acc.map Dt.pv) 0), (5, .pv (vI i))], [], [], [acc.length]⟩ = R32 bits ds ∧
      (∀ d ∈ ds, d ∈ allDatas) ∧ ds.length ≤ 8
  | 0, i, hn, hi, acc, ha, hl => by
    have : i = 7 := by omega
    subst this
    refine ⟨acc, ?_, ha, by omega⟩
    rw [g32L0_eq]
    have h7 : allDatas.length = 7 := rfl
    simp [g32B0, h7, R32]
  | n + 1, i, hn, hi, acc, ha, hl => by
    have h7 : allDatas.length = 7 := rfl
    have hi : i < 7 := by omega
    obtain ⟨x, hx⟩ := getO (l := allDatas) (i := i) (by omega)
    have hb : (acc.length + 1) * 72 ≤ 140737488355328 := by omega
    obtain ⟨d1, e1, m1, l1⟩ := L32 bits n (i + 1) (by omega) (by omega) (acc ++ [x]) (by
      intro d hd; simp at hd; rcases hd with hd | rfl
      · exact ha d hd
      · exact memO hx) (by simp; omega)
    obtain ⟨d2, e2, m2, l2⟩ := L32 bits n (i + 1) (by omega) (by omega) acc ha (by omega)
    simp at e1 e2
    have hi' : (i : Int) < 7 := by omega
    have key : ∀ S, S = cl AP g32L0 ⟨[(0, .pv (vI bits)), (3, .pv (.lst (allDatas.map Dt.pv))), (4, .own (acc.map Dt.pv) 0), (5, .pv (vI i))], [], [], [acc.length]⟩ → S = R32 bits d1 ∨ S = R32 bits d2 := by
      intro S hS
      rw [g32L0_eq] at hS
      simp (disch := omega) [-getElem?_pos, g32B0, h7, hi', hx, wrap_id, wrapU_id, hb, e1, e2] at hS
      subst hS
      (repeat' split) <;> simp
    rcases key _ rfl with h | h
    · exact ⟨d1, h, m1, l1⟩
    · exact ⟨d2, h, m2, l2⟩

theorem c32 (bits : Int) : ∃ ds : List Dt, (orcL AP).p 32 [vI bits] = some [.lst (ds.map Dt.pv)] ∧ (∀ d ∈ ds, d ∈ allDatas) ∧ ds.length ≤ 8 := by
  have hp := c79
  have h7 : allDatas.length = 7 := rfl
  obtain ⟨x, hx⟩ := getO (l := allDatas) (i := 1) (by decide)
  obtain ⟨d1, e1, m1, l1⟩ := L32 bits 7 0 rfl (by omega) [x] (by intro d hd; simp at hd; subst hd; exact memO hx) (by simp)
  obtain ⟨d2, e2, m2, l2⟩ := L32 bits 7 0 rfl (by omega) [] (by simp) (by simp)
  rw [g32L0_eq] at e1 e2
  simp at e1 e2
  have key : ∀ S, S = (orcL AP).p 32 [vI bits] → S = some [.lst (d1.map Dt.pv)] ∨ S = some [.lst (d2.map Dt.pv)] := by
    intro S hS
    rw [callP_body (af := g32) rfl rfl (by decide)] at hS
    simp [-getElem?_pos, g32, hp, g32L0_eq, hx, e1, e2, R32] at hS
    subst hS
    (repeat' split) <;> simp
  rcases key _ rfl with h | h
  · exact ⟨d1, h, m1, l1⟩
  · exact ⟨d2, h, m2, l2⟩
end Go.Ab.Lw
namespace Go.Ab.Lw
open Ev
set_option maxRecDepth 10000
set_option linter.unusedSimpArgs false
/-- A made type over leaves. -/
inductive Made (lv : Ty → Prop) : Ty → Prop
  | leaf {t : Ty} : lv t → Made lv t
  | int : Made lv tyInt
  | con {d : Dt} {args : List Ty} : d ∈ allDatas → args.length = d.params.length → (∀ x ∈ args, Made lv x) → Made lv ⟨4, d.name, 0, 0, args⟩
  | arrow {a b : Ty} : Made lv a → Made lv b → Made lv ⟨4, [45, 62], 0, 0, [a, b]⟩

theorem Made.mono {lv lv' : Ty → Prop} (h : ∀ t, lv t → lv' t) {t : Ty} (m : Made lv t) : Made lv' t := by
  induction m with
  | leaf h' => exact .leaf (h _ h')
  | int => exact .int
  | con hd hl _ ih => exact .con hd hl ih
  | arrow _ _ ha hb => exact .arrow ha hb

/-- A type in its cells. -/
def Ty.av (t : Ty) : AV := .agg [.pv (vI t.kind), .pv (.str t.name), .pv (vI t.id), .pv (vI t.home), .pv (.lst (t.args.map Ty.pv))]
@[simp] theorem Ty.av_eq (t : Ty) : t.av = .agg [.pv (vI t.kind), .pv (.str t.name), .pv (vI t.id), .pv (vI t.home), .pv (.lst (t.args.map Ty.pv))] := rfl

theorem natI {r : Int} {n : Nat} (h0 : 0 ≤ r) (h1 : r < n) : ∃ m : Nat, r = m ∧ m < n := ⟨r.toNat, by omega, by omega⟩

end Go.Ab.Lw
namespace Go.Ab.Lw
open Ev
set_option maxRecDepth 10000
set_option linter.unusedSimpArgs false
def leavesS : List Ty := [tyVar 0, tyVar 1, tyVar 2, tyVar 3, tyVar 4, tyRigid (-1) 0]

end Go.Ab.Lw
namespace Go.Ab.Lw
open Ev
set_option maxRecDepth 10000
set_option linter.unusedSimpArgs false
/-- No list within is long. -/
inductive Ty.Ok : Ty → Prop
  | mk {t : Ty} : Sm t.args → (∀ x ∈ t.args, Ty.Ok x) → Ty.Ok t
theorem Ty.Ok.sm {t : Ty} (h : t.Ok) : Sm t.args := by cases h; assumption
theorem Ty.Ok.kid {t : Ty} (h : t.Ok) : ∀ x ∈ t.args, x.Ok := by cases h; assumption
/-- Variables have no parts. -/
inductive Ty.Wf : Ty → Prop
  | mk {t : Ty} : (t.kind = 1 → t.args = []) → (∀ x ∈ t.args, Ty.Wf x) → Ty.Wf t
theorem Ty.Wf.var {t : Ty} (h : t.Wf) : t.kind = 1 → t.args = [] := by cases h; assumption
theorem Ty.Wf.kid {t : Ty} (h : t.Wf) : ∀ x ∈ t.args, x.Wf := by cases h; assumption

/-- The first assignment of a variable. -/
def fnd : List As → Int → Option Ty
  | [], _ => none
  | a :: r, id => if a.id = id then some a.ty else fnd r id

mutual
def Ty.sub (s : List As) : Ty → Ty
  | ⟨k, n, i, h, as⟩ => if k = 1 then (fnd s i).getD ⟨k, n, i, h, as⟩ else ⟨k, n, i, h, Ty.subs s as⟩
def Ty.subs (s : List As) : List Ty → List Ty
  | [] => []
  | a :: r => a.sub s :: Ty.subs s r
end
theorem Ty.subs_map (s : List As) : ∀ l : List Ty, Ty.subs s l = l.map (Ty.sub s)
  | [] => by simp [Ty.subs]
  | a :: r => by simp [Ty.subs, Ty.subs_map s r]
theorem Ty.sub_eq (s : List As) (t : Ty) : t.sub s = if t.kind = 1 then (fnd s t.id).getD t else ⟨t.kind, t.name, t.id, t.home, t.args.map (Ty.sub s)⟩ := by
  cases t; simp only [Ty.sub, Ty.subs_map]

def R46a (s : List As) (t : Ty) : Option Ty → Option (AExit × St)
  | some a => some (.ret, ⟨[(4, .lptr 4 0)], [(4, [.pv (vI a.kind), .pv (.str a.name), .pv (vI a.id), .pv (vI a.home), .pv (.lst (a.args.map Ty.pv))])], [], [0]⟩)
  | none => some (.exit 0, ⟨[(1, .pv (.lst (s.map As.pv))), (2, .lptr 2 0), (4, .lptr 4 0), (5, .pv (vI s.length)), (14, .pv (.bool false))],
      [(2, [.pv (vI t.kind), .pv (.str t.name), .pv (vI t.id), .pv (vI t.home), .pv (.lst (t.args.map Ty.pv))]), (4, [.pv (vI 0), .pv (.str []), .pv (vI 0), .pv (vI 0), .own [] 0])], [], [0]⟩)
theorem L46a {s : List As} (hS : Sm s) (t : Ty) : ∀ (n i : Nat), s.length - i = n → i ≤ s.length →
    cl AP g46L0 ⟨[(1, .pv (.lst (s.map As.pv))), (2, .lptr 2 0), (4, .lptr 4 0), (5, .pv (vI i))],
      [(2, [.pv (vI t.kind), .pv (.str t.name), .pv (vI t.id), .pv (vI t.home), .pv (.lst (t.args.map Ty.pv))]), (4, [.pv (vI 0), .pv (.str []), .pv (vI 0), .pv (vI 0), .own [] 0])], [], [0]⟩ = R46a s t (fnd (s.drop i) t.id)
  | 0, i, hn, hi => by
    have : i = s.length := by omega
    subst this
    rw [g46L0_eq]
    simp [g46B0, fnd, R46a]
  | n + 1, i, hn, hi => by
    have hi : i < s.length := by omega
    obtain ⟨x, hx⟩ := getO hi
    unfold Sm at hS
    have ih := L46a hS t n (i + 1) (by omega) (by omega)
    simp at ih
    rw [g46L0_eq, dropC hx]
    by_cases e : x.id = t.id
    · simp (disch := omega) [-getElem?_pos, g46B0, hx, hi, e, fnd, R46a]
    · simp (disch := omega) [-getElem?_pos, g46B0, hx, hi, e, fnd, wrap_id, ih]

theorem L46b {s : List As} {t : Ty} (hS : Sm t.args) (h : ∀ x ∈ t.args, (orcL AP).p 46 [x.pv, .lst (s.map As.pv)] = some [(x.sub s).pv]) : ∀ (n i : Nat), t.args.length - i = n → i ≤ t.args.length → ∀ acc : List Ty, acc = (t.args.take i).map (Ty.sub s) →
    cl AP g46L1 ⟨[(1, .pv (.lst (s.map As.pv))), (2, .lptr 2 0), (4, .lptr 4 0), (6, .lptr 6 0), (7, .pv (vI i))],
      [(2, [.pv (vI t.kind), .pv (.str t.name), .pv (vI t.id), .pv (vI t.home), .pv (.lst (t.args.map Ty.pv))]), (4, [.pv (vI 0), .pv (.str []), .pv (vI 0), .pv (vI 0), .own [] 0]),
        (6, [.pv (vI t.kind), .pv (.str t.name), .pv (vI t.id), .pv (vI t.home), .own (acc.map Ty.pv) 1])], [], [0, acc.length]⟩ =
      some (.exit 2, ⟨[(1, .pv (.lst (s.map As.pv))), (2, .lptr 2 0), (4, .lptr 4 0), (6, .lptr 6 0), (7, .pv (vI t.args.length)), (37, .pv (.bool false))],
      [(2, [.pv (vI t.kind), .pv (.str t.name), .pv (vI t.id), .pv (vI t.home), .pv (.lst (t.args.map Ty.pv))]), (4, [.pv (vI 0), .pv (.str []), .pv (vI 0), .pv (vI 0), .own [] 0]),
        (6, [.pv (vI t.kind), .pv (.str t.name), .pv (vI t.id), .pv (vI t.home), .own ((t.args.map (Ty.sub s)).map Ty.pv) 1])], [], [0, t.args.length]⟩)
  | 0, i, hn, hi, acc, ha => by
    have : i = t.args.length := by omega
    subst this
    subst ha
    rw [g46L1_eq]
    simp [g46B1]
  | n + 1, i, hn, hi, acc, ha => by
    have hi : i < t.args.length := by omega
    obtain ⟨x, hx⟩ := getO hi
    unfold Sm at hS
    have hb : (acc.length + 1) * 64 ≤ 140737488355328 := by subst ha; simp; omega
    have hc := h x (memO hx)
    have ih := L46b hS h n (i + 1) (by omega) (by omega) (acc ++ [x.sub s]) (by rw [List.take_add_one, hx, ha]; simp)
    rw [g46L1_eq] at ih ⊢
    simp at ih hc
    simp (disch := omega) [-getElem?_pos, g46B1, hx, hi, hc, hb, wrap_id]
    rw [g46L1_eq]
    simp [ih]

theorem c46 {s : List As} (hS : Sm s) {t : Ty} (hO : t.Ok) : (orcL AP).p 46 [t.pv, .lst (s.map As.pv)] = some [(t.sub s).pv] := by
  revert hO
  refine Ty.rec1 (p := fun t => t.Ok → (orcL AP).p 46 [t.pv, .lst (s.map As.pv)] = some [(t.sub s).pv]) ?_ t
  intro t ih hO
  rw [callP_body (af := g46) rfl rfl (by decide)]
  by_cases hk : t.kind = 1
  · have h := L46a hS t _ 0 rfl (by omega)
    rw [g46L0_eq] at h
    simp at h
    cases hf : fnd s t.id with
    | none =>
      rw [hf] at h
      simp [R46a, hk] at h
      simp [g46, hk, g46L0_eq, h, Ty.sub_eq, hf]
    | some a =>
      rw [hf] at h
      simp [R46a, hk] at h
      simp [g46, hk, g46L0_eq, h, Ty.sub_eq, hf]
  · have h := L46b (s := s) hO.sm (fun x hx => ih x hx (hO.kid x hx)) _ 0 rfl (by omega) [] (by simp)
    rw [g46L1_eq] at h
    simp at h
    simp [g46, hk, g46L1_eq, h, Ty.sub_eq]
end Go.Ab.Lw
namespace Go.Ab.Lw
open Ev
set_option maxRecDepth 10000
set_option linter.unusedSimpArgs false
/-- Shared memory that holds plain data alone. -/
def Quiet (sh : Sh) : Prop := ∀ cs, some cs ∈ sh → ∀ v ∈ cs, ∃ p, v = AV.pv p

theorem normL_pv {old ts : Toks} : ∀ {cs : List AV}, (∀ v ∈ cs, ∃ p, v = AV.pv p) → normL old ts cs = (cs, old, ts)
  | [], _ => rfl
  | v :: r, h => by
    obtain ⟨p, rfl⟩ := h v (by simp)
    simp only [normL_cons, normV_pv, normL_pv (cs := r) (fun v hv => h v (by simp [hv]))]
theorem Quiet.norm : ∀ {sh : Sh}, Quiet sh → ∀ old ts, normS old ts sh = (sh, old, ts)
  | [], _, _, _ => rfl
  | none :: sh, h, old, ts => by
    simp only [normS_none, Quiet.norm (sh := sh) (fun cs hc => h cs (by simp [hc]))]
  | some cs :: sh, h, old, ts => by
    simp only [normS_some, normL_pv (h cs (by simp)), Quiet.norm (sh := sh) (fun cs hc => h cs (by simp [hc]))]
theorem shiftL_pv {n : Nat} : ∀ {cs : List AV}, (∀ v ∈ cs, ∃ p, v = AV.pv p) → cs.map (shiftV n) = cs
  | [], _ => rfl
  | v :: r, h => by
    obtain ⟨p, rfl⟩ := h v (by simp)
    simp only [List.map_cons, shiftV_pv, shiftL_pv (cs := r) (fun v hv => h v (by simp [hv]))]
theorem Quiet.shift : ∀ {sh : Sh}, Quiet sh → ∀ n, shiftS n sh = sh
  | [], _, _ => rfl
  | none :: sh, h, n => by
    simp only [shiftS_none, Quiet.shift (sh := sh) (fun cs hc => h cs (by simp [hc]))]
  | some cs :: sh, h, n => by
    simp only [shiftS_some, shiftL_pv (h cs (by simp)), Quiet.shift (sh := sh) (fun cs hc => h cs (by simp [hc]))]
theorem Quiet.app {a b : Sh} (ha : Quiet a) (hb : Quiet b) : Quiet (a ++ b) := by
  intro cs hc
  simp only [List.mem_append] at hc
  rcases hc with hc | hc
  · exact ha cs hc
  · exact hb cs hc
theorem Quiet.one {cs : List AV} (h : ∀ v ∈ cs, ∃ p, v = AV.pv p) : Quiet [some cs] := by
  intro cs' hc
  simp at hc
  subst hc
  exact h

@[simp] theorem getEnd {α : Type} {l : List α} {x : α} : (l ++ [x])[l.length]? = some x := by simp
@[simp] theorem setEnd {α : Type} {l : List α} {x y : α} : (l ++ [x]).set l.length y = l ++ [y] := by simp [List.set_append]
@[simp] theorem takeEnd {α : Type} {l : List α} {x : α} : (l ++ [x]).take l.length = l := by simp

/-! ### An array of types under way -/

def Ty.cl (t : Ty) : List AV := [.pv (vI t.kind), .pv (.str t.name), .pv (vI t.id), .pv (vI t.home), .pv (.lst (t.args.map Ty.pv))]
def zcl : List AV := [.pv (vI 0), .pv (.str []), .pv (vI 0), .pv (vI 0), .pv (.lst [])]
def arrC (d : List Ty) (m : Nat) : List AV := d.flatMap Ty.cl ++ (List.replicate m zcl).flatten
theorem flat_len {d : List Ty} : (d.flatMap Ty.cl).length = d.length * 5 := by
  induction d with
  | nil => rfl
  | cons a r ih => simp [ih, Ty.cl, Nat.add_mul]
theorem rep_len {m : Nat} : ((List.replicate m zcl).flatten).length = m * 5 := by
  simp [zcl]
theorem arrC_len {d : List Ty} {m : Nat} : (arrC d m).length = (d.length + m) * 5 := by
  simp only [arrC, List.length_append, flat_len, rep_len, Nat.add_mul]
theorem arrC_set {d : List Ty} {m : Nat} {t : Ty} : setRange (arrC d (m + 1)) (d.length * 5) t.cl = arrC (d ++ [t]) m := by
  have e : arrC d (m + 1) = d.flatMap Ty.cl ++ (zcl ++ (List.replicate m zcl).flatten) := by simp [arrC, List.replicate_succ]
  have hl : (d.flatMap Ty.cl).length = d.length * 5 := flat_len
  rw [setRange_eq, e, ← hl, List.take_left, List.drop_append, List.drop_eq_nil_of_le (by omega)]
  have : (d.flatMap Ty.cl).length + t.cl.length - (d.flatMap Ty.cl).length = 5 := by simp [Ty.cl]
  rw [this]
  simp [arrC, zcl]
theorem arrC_pv {d : List Ty} {m : Nat} : ∀ v ∈ arrC d m, ∃ p, v = AV.pv p := by
  intro v hv
  simp only [arrC, List.mem_append, List.mem_flatMap, List.mem_flatten, List.mem_replicate] at hv
  rcases hv with ⟨t, _, hv⟩ | ⟨l, ⟨_, rfl⟩, hv⟩
  · simp [Ty.cl] at hv
    rcases hv with rfl | rfl | rfl | rfl | rfl <;> exact ⟨_, rfl⟩
  · simp [zcl] at hv
    rcases hv with rfl | rfl | rfl | rfl | rfl <;> exact ⟨_, rfl⟩
theorem mapB_pvs {l : List AV} (h : ∀ v ∈ l, ∃ p, v = .pv p) : mapB l = false := by
  cases l with
  | nil => rfl
  | cons c r => obtain ⟨p, rfl⟩ := h c (by simp); rfl
@[simp] theorem arrC_mapB {d : List Ty} {m : Nat} : mapB (arrC d m) = false := mapB_pvs arrC_pv

theorem frzL_app {a b : List AV} {x y : List PV} (ha : frzL a = some x) (hb : frzL b = some y) : frzL (a ++ b) = some (x ++ y) := by
  induction a generalizing x with
  | nil => simp at ha; subst ha; exact hb
  | cons v r ih =>
    simp only [frzL_cons] at ha
    simp only [List.cons_append, frzL_cons]
    cases h1 : frz0 v with
    | none => rw [h1] at ha; cases ha
    | some p =>
      cases h2 : frzL r with
      | none => rw [h1, h2] at ha; cases ha
      | some q =>
        rw [h1, h2] at ha
        simp at ha
        subst ha
        rw [ih h2]; rfl
theorem arrC_frz : ∀ {d : List Ty}, ((frzL (arrC d 0)).bind (arrEls 5 true d.length)).map PV.lst = some (.lst (d.map Ty.pv)) := by
  have key : ∀ d : List Ty, ∃ ps, frzL (d.flatMap Ty.cl) = some ps ∧ (chunk 5 d.length ps).map PV.agg = d.map Ty.pv := by
    intro d
    induction d with
    | nil => exact ⟨[], rfl, rfl⟩
    | cons t r ih =>
      obtain ⟨ps, h1, h2⟩ := ih
      refine ⟨[vI t.kind, .str t.name, vI t.id, vI t.home, .lst (t.args.map Ty.pv)] ++ ps, ?_, ?_⟩
      · rw [List.flatMap_cons]
        exact frzL_app (by simp [Ty.cl]) h1
      · simp only [List.length_cons, chunk]
        simp [h2]
  intro d
  obtain ⟨ps, h1, h2⟩ := key d
  have : arrC d 0 = d.flatMap Ty.cl := by simp [arrC]
  rw [this, h1]
  simp only [Option.bind_some, arrEls, if_true, Option.map_some, h2]

/-! ### Rebuilding -/

end Go.Ab.Lw
namespace Go.Ab.Lw
open Ev
set_option maxRecDepth 10000
set_option linter.unusedSimpArgs false
noncomputable instance : DecidableEq As := fun _ _ => Classical.propDecidable _

/-! ### Equal -/
theorem L57 {as bs : List Ty} (hS : Sm as) (hl : as.length = bs.length) (h : ∀ x ∈ as, ∀ y, (orcL AP).p 20 [x.pv, y.pv] = some [.bool (decide (x = y))]) : ∀ (n i : Nat), as.length - i = n → i ≤ as.length →
    cl AP g57L0 ⟨[(0, .pv (.lst (as.map Ty.pv))), (1, .pv (.lst (bs.map Ty.pv))), (5, .pv (.int .i64 i))], [], [], []⟩ =
      if as.drop i = bs.drop i then some (.exit 0, ⟨[(0, .pv (.lst (as.map Ty.pv))), (1, .pv (.lst (bs.map Ty.pv))), (5, .pv (.int .i64 as.length)), (14, .pv (.bool false))], [], [], []⟩)
      else some (.ret, ⟨[(4, .pv (.bool false))], [], [], []⟩)
  | 0, i, hn, hi => by
    have : i = as.length := by omega
    subst this
    rw [g57L0_eq]
    simp [g57B0, hl]
  | n + 1, i, hn, hi => by
    have hi : i < as.length := by omega
    obtain ⟨x, hx⟩ := getO hi
    obtain ⟨y, hy⟩ := getO (hl ▸ hi)
    have hc := h x (memO hx) y
    simp at hc
    rw [g57L0_eq, dropC hx, dropC hy]
    unfold Sm at hS
    have ih := L57 hS hl h n (i + 1) (by omega) (by omega)
    simp at ih
    simp (disch := omega) [-getElem?_pos, g57B0, hx, hy, hi, hc, wrap_id, ih]
    by_cases e : x = y <;> simp [e]

theorem c57 {as bs : List Ty} (hS : Sm as) (h : ∀ x ∈ as, ∀ y, (orcL AP).p 20 [x.pv, y.pv] = some [.bool (decide (x = y))]) :
    (orcL AP).p 57 [.lst (as.map Ty.pv), .lst (bs.map Ty.pv)] = some [.bool (decide (as = bs))] := by
  rw [callP_body (af := g57) rfl rfl (by decide)]
  by_cases hl : as.length = bs.length
  · have hL := L57 hS hl h _ 0 rfl (by omega)
    simp at hL
    simp [g57, hl, hL]
    by_cases e : as = bs <;> simp [e]
  · have : ¬ as = bs := fun e => hl (by rw [e])
    simp [g57, hl, this]
    omega

theorem c20 {a b : Ty} (hO : a.Ok) : (orcL AP).p 20 [a.pv, b.pv] = some [.bool (decide (a = b))] := by
  revert b hO
  refine Ty.rec1 (p := fun a => ∀ {b : Ty}, a.Ok → (orcL AP).p 20 [a.pv, b.pv] = some [.bool (decide (a = b))]) ?_ a
  intro a ih b hO
  have h := c57 (bs := b.args) hO.sm (fun x hx y => ih x hx (hO.kid x hx))
  rw [callP_body (af := g20) rfl rfl (by decide)]
  simp [g20, h]
  cases a; cases b
  simp
  (repeat' split) <;> simp_all

/-! ### Compose -/
end Go.Ab.Lw
namespace Go.Ab.Lw
open Ev
set_option maxRecDepth 10000
set_option linter.unusedSimpArgs false
def ordI (a b : Int) : Int := if a < b then -1 else if b < a then 1 else 0
def ordS (a b : List UInt8) : Int := if evBin.bytesLt a b = true then -1 else if a = b then 0 else 1

/-- The first that is not 0. -/
def orI : List Int → Int
  | [] => 0
  | x :: r => if x = 0 then orI r else x

mutual
def cmpT : Ty → Ty → Int
  | ⟨k, n, i, h, as⟩, b => if orI [ordI k b.kind, ordS n b.name, ordI i b.id, ordI h b.home, ordI as.length b.args.length] = 0 then cmpL as b.args
      else orI [ordI k b.kind, ordS n b.name, ordI i b.id, ordI h b.home, ordI as.length b.args.length]
def cmpL : List Ty → List Ty → Int
  | [], [] => 0
  | [], _ :: _ => -1
  | _ :: _, [] => 1
  | a :: r, b :: s => if cmpT a b = 0 then cmpL r s else cmpT a b
end
/-- The heads' order. -/
def cmpH (a b : Ty) : Int := orI [ordI a.kind b.kind, ordS a.name b.name, ordI a.id b.id, ordI a.home b.home, ordI a.args.length b.args.length]
theorem cmpT_eq (a b : Ty) : cmpT a b = if cmpH a b = 0 then cmpL a.args b.args else cmpH a b := by
  cases a; simp only [cmpT, cmpH]; rfl

theorem c113 {n : Int} : (orcL AP).p 113 [vI n] = some [.bool false] := by
  rw [callP_body (af := g113) rfl rfl (by decide)]
  simp [g113]
theorem c114 {n : List UInt8} : (orcL AP).p 114 [.str n] = some [.bool false] := by
  rw [callP_body (af := g114) rfl rfl (by decide)]
  simp [g114]
theorem c81 {a b : Int} : (orcL AP).p 81 [vI a, vI b] = some [vI (ordI a b)] := by
  have h1 := c113 (n := a)
  have h2 := c113 (n := b)
  rw [callP_body (af := g81) rfl rfl (by decide)]
  simp [g81, h1, h2, ordI]
  (repeat' split) <;> rfl
theorem c82 {a b : List UInt8} : (orcL AP).p 82 [.str a, .str b] = some [vI (ordS a b)] := by
  have h1 := c114 (n := a)
  have h2 := c114 (n := b)
  rw [callP_body (af := g82) rfl rfl (by decide)]
  by_cases e1 : evBin.bytesLt a b = true
  · simp [g82, h1, h2, ordS, e1]
  · have e1 : evBin.bytesLt a b = false := by simpa using e1
    by_cases e2 : a = b
    · subst e2
      simp [g82, h1, h2, ordS, e1]
    · simp [g82, h1, h2, ordS, e1, e2]
theorem c80 {a b c d e : Int} : (orcL AP).p 80 [.lst [vI a, vI b, vI c, vI d, vI e]] = some [vI (orI [a, b, c, d, e])] := by
  rw [callP_body (af := g80) rfl rfl (by decide)]
  by_cases h1 : a = 0
  · by_cases h2 : b = 0
    · by_cases h3 : c = 0
      · by_cases h4 : d = 0
        · by_cases h5 : e = 0
          · simp (disch := omega) [-getElem?_pos, g80, g80L0_eq, g80B0, wrap_id, orI, h1, h2, h3, h4, h5]
          · simp (disch := omega) [-getElem?_pos, g80, g80L0_eq, g80B0, wrap_id, orI, h1, h2, h3, h4, h5]
        · simp (disch := omega) [-getElem?_pos, g80, g80L0_eq, g80B0, wrap_id, orI, h1, h2, h3, h4]
      · simp (disch := omega) [-getElem?_pos, g80, g80L0_eq, g80B0, wrap_id, orI, h1, h2, h3]
    · simp (disch := omega) [-getElem?_pos, g80, g80L0_eq, g80B0, wrap_id, orI, h1, h2]
  · simp (disch := omega) [-getElem?_pos, g80, g80L0_eq, g80B0, wrap_id, orI, h1]

def R83 (as bs : List Ty) (sh : Sh) (l : Int) (c : Int) (eq : Bool) : Option (AExit × St) :=
  if eq = true then some (.exit 0, ⟨[(0, .pv (.lst (as.map Ty.pv))), (1, .pv (.lst (bs.map Ty.pv))), (2, .fn 35 []), (11, .pv (.lst (as.map Ty.pv))), (12, .pv (vI l)), (13, .pv (vI l)), (14, .pv (.bool false))], [], sh, []⟩)
  else some (.ret, ⟨[(6, .pv (vI c))], [], sh, []⟩)
theorem L83 {as bs : List Ty} (hS : Sm as) (hl : as.length = bs.length) (h : ∀ x ∈ as, ∀ y, (orcL AP).i 35 [.pv x.pv, .pv y.pv] [] [] = some ([.pv (vI (cmpT x y))], [], [])) : ∀ (n i : Nat), as.length - i = n → i ≤ as.length →
    cl AP g83L0 ⟨[(0, .pv (.lst (as.map Ty.pv))), (1, .pv (.lst (bs.map Ty.pv))), (2, .fn 35 []), (11, .pv (.lst (as.map Ty.pv))), (12, .pv (vI as.length)), (13, .pv (vI i))], [], [], []⟩ =
      R83 as bs [] as.length (cmpL (as.drop i) (bs.drop i)) (decide (cmpL (as.drop i) (bs.drop i) = 0))
  | 0, i, hn, hi => by
    have : i = as.length := by omega
    subst this
    rw [g83L0_eq, dropN (l := bs) (by omega)]
    simp [g83B0, R83, cmpL]
  | n + 1, i, hn, hi => by
    have hi : i < as.length := by omega
    obtain ⟨x, hx⟩ := getO hi
    obtain ⟨y, hy⟩ := getO (hl ▸ hi)
    have hc := h x (memO hx) y
    have ih := L83 hS hl h n (i + 1) (by omega) (by omega)
    unfold Sm at hS
    have hb : ¬ bs.length ≤ i := by omega
    rw [g83L0_eq] at ih ⊢
    rw [dropC hx, dropC hy]
    simp at ih hc
    by_cases e : cmpT x y = 0
    · rw [e] at hc
      simp (disch := omega) [-getElem?_pos, g83B0, hx, hy, hi, hb, hc, wrap_id]
      rw [g83L0_eq]
      simp [ih, cmpL, e]
    · simp (disch := omega) [-getElem?_pos, g83B0, hx, hy, hi, hb, hc, wrap_id, e, R83, cmpL]

theorem cmpH_len {a b : Ty} (h : cmpH a b = 0) : a.args.length = b.args.length := by
  simp only [cmpH, orI] at h
  have : ordI a.args.length b.args.length = 0 := by
    split at h
    · split at h
      · split at h
        · split at h
          · split at h
            · assumption
            · contradiction
          · contradiction
        · contradiction
      · contradiction
    · contradiction
  unfold ordI at this
  split at this
  · cases this
  · split at this
    · cases this
    · omega

theorem c35_both {a : Ty} (hO : a.Ok) : ∀ b : Ty, (orcL AP).p 35 [a.pv, b.pv] = some [vI (cmpT a b)] ∧ (orcL AP).i 35 [.pv a.pv, .pv b.pv] [] [] = some ([.pv (vI (cmpT a b))], [], []) := by
  revert hO
  refine Ty.rec1 (p := fun a => a.Ok → ∀ b : Ty, (orcL AP).p 35 [a.pv, b.pv] = some [vI (cmpT a b)] ∧ (orcL AP).i 35 [.pv a.pv, .pv b.pv] [] [] = some ([.pv (vI (cmpT a b))], [], [])) ?_ a
  intro a ih hO b
  have k1 := c81 (a := a.kind) (b := b.kind)
  have k2 := c82 (a := a.name) (b := b.name)
  have k3 := c81 (a := a.id) (b := b.id)
  have k4 := c81 (a := a.home) (b := b.home)
  have k5 := c81 (a := a.args.length) (b := b.args.length)
  have k6 := c80 (a := ordI a.kind b.kind) (b := ordS a.name b.name) (c := ordI a.id b.id) (d := ordI a.home b.home) (e := ordI a.args.length b.args.length)
  have eH : orI [ordI a.kind b.kind, ordS a.name b.name, ordI a.id b.id, ordI a.home b.home, ordI a.args.length b.args.length] = cmpH a b := rfl
  rw [eH] at k6
  have hS := hO.sm
  by_cases e : cmpH a b = 0
  · have hl := cmpH_len e
    have h := L83 hS hl (fun x hx y => (ih x hx (hO.kid x hx) y).2) _ 0 rfl (by omega)
    rw [g83L0_eq] at h
    simp at h
    have c83 : (orcL AP).i 83 [.pv (.lst (a.args.map Ty.pv)), .pv (.lst (b.args.map Ty.pv)), .fn 35 []] [] [] = some ([.pv (vI (cmpL a.args b.args))], [], []) := by
      rw [callI_body (af := g83) rfl (by simp [g83])]
      by_cases e2 : cmpL a.args b.args = 0
      · simp [R83, e2] at h
        have hlt : ¬ a.args.length < b.args.length := by omega
        simp [g83, g83L0_eq, h, hlt, e2]
      · simp [R83, e2] at h
        simp [g83, g83L0_eq, h]
    rw [e] at k6
    rw [cmpT_eq, if_pos e]
    constructor
    · rw [callP_body (af := g35) rfl rfl (by decide)]
      simp [g35, k1, k2, k3, k4, k5, k6, c83]
    · rw [callI_body (af := g35) rfl (by simp [g35])]
      simp [g35, k1, k2, k3, k4, k5, k6, c83]
  · rw [cmpT_eq, if_neg e]
    constructor
    · rw [callP_body (af := g35) rfl rfl (by decide)]
      simp [g35, k1, k2, k3, k4, k5, k6, e]
    · rw [callI_body (af := g35) rfl (by simp [g35])]
      simp [g35, k1, k2, k3, k4, k5, k6, e]

theorem c35 {a b : Ty} (hO : a.Ok) : (orcL AP).p 35 [a.pv, b.pv] = some [vI (cmpT a b)] := (c35_both hO b).1
theorem c33 {a b : Ty} (hO : a.Ok) : (orcL AP).p 33 [a.pv, b.pv] = some [.bool (cmpT a b == 0)] := by
  have h := c35 (b := b) hO
  simp at h
  rw [callP_body (af := g33) rfl rfl (by decide)]
  simp [g33, h]
end Go.Ab.Lw
namespace Go.Ab.Lw
open Ev
set_option maxRecDepth 10000
set_option linter.unusedSimpArgs false
theorem params_few : ∀ d ∈ allDatas, d.params.length ≤ 8 := by decide +kernel

theorem Made.ok {lv : Ty → Prop} (h : ∀ t, lv t → t.args = []) {t : Ty} (m : Made lv t) : t.Ok := by
  induction m with
  | leaf hl => exact ⟨by rw [h _ hl]; simp [Sm], by rw [h _ hl]; simp⟩
  | int => exact ⟨by simp [tyInt, Sm], by simp [tyInt]⟩
  | con hd hl _ ih => exact ⟨by have := params_few _ hd; simp only [Sm]; omega, ih⟩
  | arrow _ _ ha hb => exact ⟨by simp [Sm], by intro x hx; simp at hx; rcases hx with rfl | rfl <;> assumption⟩
theorem Made.wf {lv : Ty → Prop} (h : ∀ t, lv t → t.args = []) {t : Ty} (m : Made lv t) : t.Wf := by
  induction m with
  | leaf hl => exact ⟨fun _ => h _ hl, by rw [h _ hl]; simp⟩
  | int => exact ⟨by simp [tyInt], by simp [tyInt]⟩
  | con hd hl _ ih => exact ⟨by simp, ih⟩
  | arrow _ _ ha hb => exact ⟨by simp, by intro x hx; simp at hx; rcases hx with rfl | rfl <;> assumption⟩
theorem fnd_mem : ∀ {s : List As} {id : Int} {t : Ty}, fnd s id = some t → ∃ a ∈ s, a.ty = t
  | a :: r, id, t, h => by
    simp only [fnd] at h
    split at h
    · cases h; exact ⟨a, by simp, rfl⟩
    · obtain ⟨b, hb, e⟩ := fnd_mem h; exact ⟨b, by simp [hb], e⟩

theorem sub_ok {s : List As} (hs : ∀ a ∈ s, a.ty.Ok) {t : Ty} (h : t.Ok) : (t.sub s).Ok := by
  revert h
  refine Ty.rec1 (p := fun t => t.Ok → (t.sub s).Ok) ?_ t
  intro t ih h
  rw [Ty.sub_eq]
  split
  · cases hf : fnd s t.id with
    | none => simpa using h
    | some a => obtain ⟨b, hb, rfl⟩ := fnd_mem hf; simpa using hs b hb
  · refine ⟨by have := h.sm; unfold Sm at *; simpa using this, ?_⟩
    intro x hx
    simp at hx
    obtain ⟨y, hy, rfl⟩ := hx
    exact ih y hy (h.kid y hy)
theorem sub_wf {s : List As} (hs : ∀ a ∈ s, a.ty.Wf) {t : Ty} (h : t.Wf) : (t.sub s).Wf := by
  revert h
  refine Ty.rec1 (p := fun t => t.Wf → (t.sub s).Wf) ?_ t
  intro t ih h
  rw [Ty.sub_eq]
  split
  · cases hf : fnd s t.id with
    | none => simpa using h
    | some a => obtain ⟨b, hb, rfl⟩ := fnd_mem hf; simpa using hs b hb
  · rename_i hk
    refine ⟨fun e => absurd e hk, ?_⟩
    intro x hx
    simp at hx
    obtain ⟨y, hy, rfl⟩ := hx
    exact ih y hy (h.kid y hy)

end Go.Ab.Lw
namespace Go.Ab.Lw
open Ev
set_option maxRecDepth 10000
set_option linter.unusedSimpArgs false
theorem bytesLt_irr : ∀ s : List UInt8, evBin.bytesLt s s = false
  | [] => rfl
  | a :: r => by simp [evBin.bytesLt, bytesLt_irr r]
theorem ordI_zero {a b : Int} : ordI a b = 0 ↔ a = b := by
  unfold ordI
  split
  · constructor
    · intro h; cases h
    · intro h; omega
  · split
    · constructor
      · intro h; cases h
      · intro h; omega
    · constructor
      · intro _; omega
      · intro _; rfl
theorem ordS_zero {a b : List UInt8} : ordS a b = 0 ↔ a = b := by
  unfold ordS
  split
  · rename_i h
    constructor
    · intro e; cases e
    · intro e; subst e; rw [bytesLt_irr] at h; cases h
  · split
    · rename_i h; simp [h]
    · rename_i h; simp [h]
theorem orI_zero : ∀ {l : List Int}, orI l = 0 ↔ ∀ x ∈ l, x = 0
  | [] => by simp [orI]
  | x :: r => by
    simp only [orI]
    split
    · rename_i h; rw [orI_zero]; simp [h]
    · rename_i h; constructor
      · intro e; exact absurd e h
      · intro e; exact e x (by simp)
theorem cmpH_zero {a b : Ty} : cmpH a b = 0 ↔ a.kind = b.kind ∧ a.name = b.name ∧ a.id = b.id ∧ a.home = b.home ∧ a.args.length = b.args.length := by
  unfold cmpH
  rw [orI_zero]
  simp [ordI_zero, ordS_zero]
  intros; omega
theorem cmpT_zero (a : Ty) : ∀ b, cmpT a b = 0 ↔ a = b := by
  refine Ty.rec1 (p := fun a => ∀ b, cmpT a b = 0 ↔ a = b) ?_ a
  intro a ih b
  have key : ∀ (as bs : List Ty), (∀ x ∈ as, ∀ b, cmpT x b = 0 ↔ x = b) → (cmpL as bs = 0 ↔ as = bs) := by
    intro as
    induction as with
    | nil => intro bs _; cases bs <;> simp [cmpL]
    | cons x r ih =>
      intro bs h
      cases bs with
      | nil => simp [cmpL]
      | cons y s =>
        simp only [cmpL]
        have hx := h x (by simp) y
        have hr := ih s (fun z hz => h z (by simp [hz]))
        split
        · rename_i e; rw [hr]; simp [hx.1 e]
        · rename_i e; constructor
          · intro e'; exact absurd e' e
          · intro e'; simp at e'; exact absurd (hx.2 e'.1) e
  rw [cmpT_eq]
  split
  · rename_i h
    rw [key _ _ ih]
    rw [cmpH_zero] at h
    cases a; cases b; simp at h ⊢; simp [h]
  · rename_i h
    constructor
    · intro e; exact absurd e h
    · intro e; subst e; exact absurd (cmpH_zero.2 ⟨rfl, rfl, rfl, rfl, rfl⟩) h
theorem cmpT_beq (a b : Ty) : (cmpT a b == 0) = decide (a = b) := by
  by_cases h : a = b
  · rw [decide_eq_true h, (cmpT_zero a b).2 h]; rfl
  · rw [decide_eq_false h]; simpa using fun e => h ((cmpT_zero a b).1 e)
theorem c33e {a b : Ty} (hO : a.Ok) : (orcL AP).p 33 [a.pv, b.pv] = some [.bool (decide (a = b))] := by rw [c33 hO, cmpT_beq]

/-- The first place where something holds. -/
def idxB {α : Type} (p : α → Bool) : List α → Option Nat
  | [] => none
  | a :: r => if p a = true then some 0 else (idxB p r).map (· + 1)
theorem idxB_none {α : Type} {p : α → Bool} : ∀ {l : List α}, idxB p l = none ↔ ∀ x ∈ l, p x = false
  | [] => by simp [idxB]
  | a :: r => by
    simp only [idxB]
    by_cases h : p a = true
    · simp [h]
    · have h : p a = false := by simpa using h
      simp [h, idxB_none]
end Go.Ab.Lw
namespace Go.Ab.Lw
open Ev
set_option maxRecDepth 10000
set_option linter.unusedSimpArgs false
/-- Elements of that many cells. -/
structure El {α : Type} (f : α → PV) (sz : Nat) (ag : Bool) : Prop where
  len : ∀ x, (cellsP (f x)).length = sz
  of : ∀ x, ofCellsP ag sz (cellsP (f x)) = some (.pv (f x))

theorem El.head {α : Type} {f : α → PV} {sz : Nat} {ag : Bool} (h : El f sz ag) (l : List α) : headSz sz (l.map f) = true := by
  cases l with
  | nil => rfl
  | cons x r => simp [headSz, h.len x]

theorem el_int : El vI 1 false := ⟨fun _ => rfl, fun _ => rfl⟩
def IdxB (sz : Nat) (ag : Bool) : ACode :=
  (.seq
   (.reg [⟨some 9, none, [.t 8, .t 7], .v (.bin .lss)⟩] [0, 1, 7, 8, 9])
   (.seq
    (.cond (.t 9)
     .skip
     (.exit 0))
    (.seq
     (.block 1
      (.seq
       (.reg [⟨some 10, none, [.t 8], .v (.mv)⟩,
         ⟨some 5, none, [.t 10], .v (.mv)⟩] [0, 1, 5, 7, 8])
       (.seq
        (.reg [⟨some 11, none, [.t 1], .v (.mv)⟩,
          ⟨some 12, none, [.t 0], .v (.mv)⟩,
          ⟨some 13, none, [.t 5], .v (.mv)⟩,
          ⟨some 14, none, [.t 12, .t 13], .v (.iaddr sz)⟩,
          ⟨some 15, none, [.t 14], .loadS sz ag⟩,
          ⟨some 16, none, [.t 11, .t 15], .callV⟩] [0, 1, 5, 7, 8, 16])
        (.cond (.t 16)
         (.seq
          (.reg [⟨some 17, none, [.t 5], .v (.mv)⟩,
            ⟨some 4, none, [.t 17], .v (.mv)⟩] [4])
          .ret)
         .skip))))
     (.reg [⟨some 18, none, [.t 8, .c (.pv (.int .i64 1))], .v (.bin .add)⟩,
       ⟨some 8, none, [.t 18], .v (.mv)⟩] [0, 1, 7, 8]))))
def IdxL (sz : Nat) (ag : Bool) : ACode := .loop [0, 1, 7, 8] (IdxB sz ag)
theorem IdxL_eq {sz : Nat} {ag : Bool} {st : St} : cl AP (IdxL sz ag) st = after (cl AP (IdxL sz ag)) (cl AP (IdxB sz ag) (norm (restrict [0, 1, 7, 8] st))) := cl_loop
def IdxF (sz : Nat) (ag : Bool) : AFunc := ⟨2, 19, [.t 4],
  (.seq
   (.reg [⟨some 4, none, [.c (.pv (.int .i64 0))], .v (.mv)⟩] [0, 1])
   (.seq
    (.seq
     (.reg [⟨some 6, none, [.t 0], .v (.mv)⟩,
       ⟨some 7, none, [.t 6], .v (.len)⟩,
       ⟨some 8, none, [.c (.pv (.int .i64 0))], .v (.mv)⟩] [0, 1, 7, 8])
     (.block 0
      (IdxL sz ag)))
    (.seq
     (.reg [⟨some 4, none, [.c (.pv (.int .i64 (-1)))], .v (.mv)⟩] [4])
     .ret))), none, false⟩
/-- ContainsFunc over an IndexFunc. -/
def CntF (g : Nat) : AFunc := ⟨2, 9, [.t 4],
  (.seq
   (.reg [⟨some 4, none, [.c (.pv (.bool false))], .v (.mv)⟩] [0, 1])
   (.seq
    (.reg [⟨some 5, none, [.t 0], .v (.mv)⟩,
      ⟨some 6, none, [.t 1], .v (.mv)⟩,
      ⟨some 7, none, [.t 5, .t 6], .callI g []⟩,
      ⟨some 8, none, [.t 7, .c (.pv (.int .i64 0))], .v (.bin .geq)⟩,
      ⟨some 4, none, [.t 8], .v (.mv)⟩] [4])
    .ret)), none, false⟩

/-- A function value that asks something of each element. -/
def Asks {α : Type} (F : AV) (sh : Sh) (f : α → PV) (p : α → Bool) (s : List α) : Prop := ∀ x ∈ s, exec (orcL AP) .callV [F, .pv (f x)] none sh [] = some ⟨.pv (.bool (p x)), none, sh, []⟩

def RIdx {α : Type} (f : α → PV) (F : AV) (s : List α) (sh : Sh) (i : Nat) : Option Nat → Option (AExit × St)
  | some k => some (.ret, ⟨[(4, .pv (vI (i + k : Nat)))], [], sh, []⟩)
  | none => some (.exit 0, ⟨[(0, .pv (.lst (s.map f))), (1, F), (7, .pv (vI s.length)), (8, .pv (vI s.length)), (9, .pv (.bool false))], [], sh, []⟩)
theorem LIdx {α : Type} {f : α → PV} {sz : Nat} {ag : Bool} (he : El f sz ag) {s : List α} (hS : Sm s) {sh : Sh} (hq : Quiet sh) {g : Nat} {cap : List AV} {p : α → Bool} (hcap : flatB.flatL cap = true)
    (hf : Asks (.fn g cap) sh f p s) : ∀ (n i : Nat), s.length - i = n → i ≤ s.length →
    cl AP (IdxL sz ag) ⟨[(0, .pv (.lst (s.map f))), (1, .fn g cap), (7, .pv (vI s.length)), (8, .pv (vI i))], [], sh, []⟩ = RIdx f (.fn g cap) s sh i (idxB p (s.drop i))
  | 0, i, hn, hi => by
    have : i = s.length := by omega
    subst this
    rw [IdxL_eq]
    simp [IdxB, idxB, RIdx, hq.norm, hcap]
  | n + 1, i, hn, hi => by
    have hi : i < s.length := by omega
    obtain ⟨x, hx⟩ := getO hi
    unfold Sm at hS
    have ih := LIdx he hS hq hcap hf n (i + 1) (by omega) (by omega)
    simp at ih
    have hc := hf x (memO hx)
    rw [IdxL_eq, dropC hx]
    cases e : p x with
    | true =>
      rw [e] at hc
      simp (disch := omega) [-getElem?_pos, -exec_callV, IdxB, hx, hi, e, idxB, RIdx, hq.norm, hc, hcap, he.len, he.of]
    | false =>
      rw [e] at hc
      simp (disch := omega) [-getElem?_pos, -exec_callV, IdxB, hx, hi, e, idxB, wrap_id, hq.norm, hc, ih, hcap, he.len, he.of]
      cases idxB p (s.drop (i + 1)) with
      | none => rfl
      | some k => simp [RIdx]; omega

def idxI (o : Option Nat) : Int := match o with | some k => k | none => -1
theorem cIdx {α : Type} {f : α → PV} {sz : Nat} {ag : Bool} (he : El f sz ag) {k : Nat} (hk : AP k = some (IdxF sz ag)) {s : List α} (hS : Sm s) {sh : Sh} (hq : Quiet sh) {g : Nat} {cap : List AV} {p : α → Bool} (hcap : flatB.flatL cap = true)
    (hf : Asks (.fn g cap) sh f p s) : (orcL AP).i k [.pv (.lst (s.map f)), .fn g cap] sh [] = some ([.pv (vI (idxI (idxB p s)))], sh, []) := by
  have h := LIdx he hS hq hcap hf _ 0 rfl (by omega)
  simp at h
  rw [callI_body hk (by simp [IdxF])]
  cases hi : idxB p s with
  | none => rw [hi] at h; simp [RIdx] at h; simp [IdxF, h, hq.norm, hcap, idxI]
  | some k => rw [hi] at h; simp [RIdx] at h; simp [IdxF, h, hq.norm, hcap, idxI]

theorem idxB_any {α : Type} {p : α → Bool} {s : List α} : decide (0 ≤ idxI (idxB p s)) = s.any p := by
  cases hi : idxB p s with
  | none =>
    have : s.any p = false := by rw [List.any_eq_false]; intro x hx; rw [idxB_none.1 hi x hx]; simp
    rw [this]; rfl
  | some k =>
    have : s.any p = true := by
      cases e : s.any p with
      | true => rfl
      | false => rw [List.any_eq_false] at e; have := idxB_none.2 (fun x hx => by simpa using e x hx); rw [hi] at this; cases this
    rw [this]; simp [idxI]

theorem cCnt {α : Type} {f : α → PV} {sz : Nat} {ag : Bool} (he : El f sz ag) {m k : Nat} (hm : AP m = some (CntF k)) (hk : AP k = some (IdxF sz ag)) {s : List α} (hS : Sm s) {sh : Sh} (hq : Quiet sh) {g : Nat} {cap : List AV} {p : α → Bool} (hcap : flatB.flatL cap = true) (hpass : passB.passL cap = true) (hnrm : ∀ old ts, normL old ts cap = (cap, old, ts))
    (hf : Asks (.fn g cap) sh f p s) : (orcL AP).i m [.pv (.lst (s.map f)), .fn g cap] sh [] = some ([.pv (.bool (s.any p))], sh, []) := by
  have h := cIdx he hk hS hq hcap hf
  rw [callI_body hm (by simp [CntF])]
  rw [← idxB_any]
  simp [CntF, h, hq.norm, hq.shift, hcap, hpass, hnrm]

end Go.Ab.Lw
namespace Go.Ab.Lw
open Ev
set_option maxRecDepth 10000
set_option linter.unusedSimpArgs false
/-- Behind a round. -/
def backGo (f : St → Option (AExit × St)) (live : List Nat) (pi px sz : Nat) (ag : Bool) (env : List (Nat × AV)) (r : List (PV × Nat)) : Option (AExit × St) → Option (AExit × St)
  | some (.normal, st') => backN f live pi px sz ag env r st'
  | some (e, st') => some (e, { st' with env := env })
  | none => none
@[simp] theorem backGo_normal {f : St → Option (AExit × St)} {live : List Nat} {pi px sz : Nat} {ag : Bool} {env : List (Nat × AV)} {r : List (PV × Nat)} {st : St} : backGo f live pi px sz ag env r (some (.normal, st)) = backN f live pi px sz ag env r st := rfl
@[simp] theorem backGo_ret {f : St → Option (AExit × St)} {live : List Nat} {pi px sz : Nat} {ag : Bool} {env e : List (Nat × AV)} {r : List (PV × Nat)} {mem : List (Nat × List AV)} {sh : Sh} {toks : Toks} : backGo f live pi px sz ag env r (some (.ret, ⟨e, mem, sh, toks⟩)) = some (.ret, ⟨env, mem, sh, toks⟩) := rfl
@[simp] theorem backGo_exit {f : St → Option (AExit × St)} {live : List Nat} {pi px sz : Nat} {ag : Bool} {env e : List (Nat × AV)} {r : List (PV × Nat)} {mem : List (Nat × List AV)} {sh : Sh} {toks : Toks} {id : Nat} : backGo f live pi px sz ag env r (some (.exit id, ⟨e, mem, sh, toks⟩)) = some (.exit id, ⟨env, mem, sh, toks⟩) := rfl
@[simp] theorem backGo_ite {f : St → Option (AExit × St)} {live : List Nat} {pi px sz : Nat} {ag : Bool} {env : List (Nat × AV)} {r : List (PV × Nat)} {c : Prop} [Decidable c] {x y : Option (AExit × St)} : backGo f live pi px sz ag env r (if c then x else y) = if c then backGo f live pi px sz ag env r x else backGo f live pi px sz ag env r y := by split <;> rfl

@[simp] theorem backN_nil {f : St → Option (AExit × St)} {live : List Nat} {pi px sz : Nat} {ag : Bool} {env e : List (Nat × AV)} {mem : List (Nat × List AV)} {sh : Sh} {toks : Toks} : backN f live pi px sz ag env [] ⟨e, mem, sh, toks⟩ = some (.normal, ⟨env, mem, sh, toks⟩) := rfl
/-- Two parts of a round. -/
def andK (g : St → Option (AExit × St)) : Option (AExit × St) → Option (AExit × St)
  | some (.normal, st') => g st'
  | _ => none
@[simp] theorem andK_normal {g : St → Option (AExit × St)} {st : St} : andK g (some (.normal, st)) = g st := rfl

@[simp] theorem cl_backR {c : AOpd} {gb pi px sz : Nat} {ag : Bool} {live : List Nat} {x y : ACode} {env : List (Nat × AV)} {mem : List (Nat × List AV)} {sh : Sh} {toks : Toks} :
    cl AP (.back c gb pi px sz ag live x y) ⟨env, mem, sh, toks⟩ = backWith (andThen (cl AP x) (cl AP y)) (evOpd env c) gb pi px sz ag live ⟨env, mem, sh, toks⟩ := cl_back

end Go.Ab.Lw
namespace Go.Ab.Lw
open Ev
set_option maxRecDepth 10000
set_option linter.unusedSimpArgs false
/-- Names within are short, too. -/
inductive Ty.Nm : Ty → Prop
  | mk {t : Ty} : SmS t.name → (∀ x ∈ t.args, Ty.Nm x) → Ty.Nm t
theorem Ty.Nm.sm {t : Ty} (h : t.Nm) : SmS t.name := by cases h; assumption
theorem Ty.Nm.kid {t : Ty} (h : t.Nm) : ∀ x ∈ t.args, x.Nm := by cases h; assumption

end Go.Ab.Lw
namespace Go.Ab.Lw
open Ev
set_option maxRecDepth 10000
set_option linter.unusedSimpArgs false
/-- A scheme: its number of quantified variables, and its type. -/
abbrev Sc := As
/-- An entry of a context. -/
structure En where
  name : List UInt8
  sc : Sc
  deriving Inhabited
def En.pv (a : En) : PV := .agg [.str a.name, .int .i64 a.sc.id, .int .i64 a.sc.ty.kind, .str a.sc.ty.name, .int .i64 a.sc.ty.id, .int .i64 a.sc.ty.home, .lst (a.sc.ty.args.map Ty.pv)]
@[simp] theorem En.pv_eq (a : En) : a.pv = .agg [.str a.name, .int .i64 a.sc.id, .int .i64 a.sc.ty.kind, .str a.sc.ty.name, .int .i64 a.sc.ty.id, .int .i64 a.sc.ty.home, .lst (a.sc.ty.args.map Ty.pv)] := rfl
@[simp] theorem En.eta (t : En) : En.mk t.name t.sc = t := rfl
theorem el_en : El En.pv 7 true := ⟨fun x => by simp, fun x => by simp⟩
noncomputable instance : DecidableEq En := fun _ _ => Classical.propDecidable _
@[simp] theorem headSz_En {l : List En} : headSz 7 (l.map En.pv) = true := el_en.head l

def scZero : Sc := ⟨0, ⟨0, [], 0, 0, []⟩⟩

/-- The last entry of a name. -/
def lkE : List En → List UInt8 → Option Sc
  | [], _ => none
  | a :: r, s => match lkE r s with
    | some c => some c
    | none => if a.name = s then some a.sc else none

theorem lkE_snoc (l : List En) (a : En) (s : List UInt8) : lkE (l ++ [a]) s = if a.name = s then some a.sc else lkE l s := by
  induction l with
  | nil => simp [lkE]
  | cons b r ih =>
    simp only [List.cons_append, lkE, ih]
    by_cases h : a.name = s
    · simp [h]
    · simp [h]

def rLk (o : Option Sc) : List PV := [(o.getD scZero).pv, .bool o.isSome]

theorem L181 {l : List En} (hS : Sm l) {s : List UInt8} : ∀ (k : Nat), k ≤ l.length →
    cl AP g181L0 ⟨[(0, .pv (.lst (l.map En.pv))), (1, .pv (.str s)), (4, .lptr 4 0), (6, .pv (vI ((k : Int) - 1)))], [(4, [.pv (vI 0), .pv (vI 0), .pv (.str []), .pv (vI 0), .pv (vI 0), .own [] 0])], [], [0]⟩ =
      match lkE (l.take k) s with
      | some c => some (.ret, ⟨[(4, .lptr 4 0), (5, .pv (.bool true))], [(4, [.pv (vI c.id), .pv (vI c.ty.kind), .pv (.str c.ty.name), .pv (vI c.ty.id), .pv (vI c.ty.home), .pv (.lst (c.ty.args.map Ty.pv))])], [], [0]⟩)
      | none => some (.exit 0, ⟨[(0, .pv (.lst (l.map En.pv))), (1, .pv (.str s)), (4, .lptr 4 0), (6, .pv (vI (-1))), (11, .pv (.bool false))], [(4, [.pv (vI 0), .pv (vI 0), .pv (.str []), .pv (vI 0), .pv (vI 0), .own [] 0])], [], [0]⟩)
  | 0, _ => by
    rw [g181L0_eq]
    simp [g181B0, lkE]
  | k + 1, hk => by
    obtain ⟨x, hx⟩ := getO (l := l) (i := k) (by omega)
    have ih := L181 hS (s := s) k (by omega)
    unfold Sm at hS
    have e1 : ((k + 1 : Nat) : Int) - 1 = k := by omega
    rw [g181L0_eq, e1, List.take_add_one, hx]
    simp only [Option.toList_some, lkE_snoc]
    by_cases e : x.name = s
    · simp (disch := omega) [-getElem?_pos, g181B0, hx, e]
    · simp (disch := omega) [-getElem?_pos, g181B0, hx, e, wrap_id]
      simpa using ih

theorem c181 {l : List En} (hS : Sm l) {s : List UInt8} : (orcL AP).p 181 [.lst (l.map En.pv), .str s] = some (rLk (lkE l s)) := by
  have h := L181 hS (s := s) l.length (Nat.le_refl _)
  unfold Sm at hS
  rw [callP_body (af := g181) rfl rfl (by decide)]
  rw [List.take_length] at h
  rw [g181L0_eq] at h
  cases e : lkE l s with
  | none =>
    rw [e] at h
    simp at h
    simp (disch := omega) [g181, wrap_id, g181L0_eq, h, rLk, scZero]
  | some c =>
    rw [e] at h
    simp at h
    simp (disch := omega) [g181, wrap_id, g181L0_eq, h, rLk]

end Go.Ab.Lw
namespace Go.Ab.Lw
open Ev
set_option maxRecDepth 10000
set_option linter.unusedSimpArgs false
/-- Elements that are structs: their cells. -/
structure Els {α : Type} (f : α → PV) (cs : α → List PV) (sz : Nat) : Prop where
  eq : ∀ x, f x = .agg (cs x)
  len : ∀ x, (cs x).length = sz
  leaf : ∀ x, ((cs x).map AV.pv).all leafB = true

def EqB (z1 z2 : List PV) (s1 s2 : Nat) : ACode :=
  (.seq
   (.reg [⟨some 18, none, [.t 17, .t 16], .v (.bin .lss)⟩] [1, 2, 15, 16, 17, 18])
   (.seq
    (.cond (.t 18)
     .skip
     (.exit 0))
    (.seq
     (.block 1
      (.seq
       (.reg [⟨some 19, none, [.t 17], .v (.mv)⟩,
         ⟨some 20, none, [.t 15, .t 17], .v (.iaddr s1)⟩,
         ⟨some 21, none, [.t 20], .loadS s1 true⟩,
         ⟨some 8, none, [], .alloc 8 z1⟩,
         ⟨some 7, none, [.t 19], .v (.mv)⟩,
         ⟨none, none, [.t 8, .t 21], .storeL 8 0 s1⟩] [1, 2, 7, 8, 15, 16, 17])
       (.seq
        (.reg [⟨some 22, none, [.t 1], .v (.mv)⟩,
          ⟨some 23, none, [.t 7], .v (.mv)⟩,
          ⟨some 24, none, [.t 22, .t 23], .v (.iaddr s2)⟩,
          ⟨some 25, none, [.t 24], .loadS s2 true⟩,
          ⟨some 9, none, [], .alloc 9 z2⟩,
          ⟨none, none, [.t 9, .t 25], .storeL 9 0 s2⟩] [1, 2, 8, 9, 15, 16, 17])
        (.seq
         (.reg [⟨some 26, none, [.t 2], .v (.mv)⟩,
           ⟨some 27, none, [.t 8], .loadL 8 0 s1 true⟩,
           ⟨some 28, none, [.t 9], .loadL 9 0 s2 true⟩,
           ⟨some 29, none, [.t 26, .t 27, .t 28], .callV⟩,
           ⟨some 30, none, [.t 29], .v (.un .not)⟩] [1, 2, 15, 16, 17, 30])
         (.cond (.t 30)
          (.seq
           (.reg [⟨some 6, none, [.c (.pv (.bool false))], .v (.mv)⟩] [6])
           .ret)
          .skip)))))
     (.reg [⟨some 31, none, [.t 17, .c (.pv (.int .i64 1))], .v (.bin .add)⟩,
       ⟨some 17, none, [.t 31], .v (.mv)⟩] [1, 2, 15, 16, 17]))))
def EqL (z1 z2 : List PV) (s1 s2 : Nat) : ACode := .loop [1, 2, 15, 16, 17] (EqB z1 z2 s1 s2)
theorem EqL_eq {z1 z2 : List PV} {s1 s2 : Nat} {st : St} : cl AP (EqL z1 z2 s1 s2) st = after (cl AP (EqL z1 z2 s1 s2)) (cl AP (EqB z1 z2 s1 s2) (norm (restrict [1, 2, 15, 16, 17] st))) := cl_loop
def EqF (z1 z2 : List PV) (s1 s2 : Nat) : AFunc := ⟨3, 32, [.t 6],
  (.seq
   (.reg [⟨some 6, none, [.c (.pv (.bool false))], .v (.mv)⟩] [0, 1, 2])
   (.seq
    (.seq
     (.reg [⟨some 10, none, [.t 0], .v (.mv)⟩,
       ⟨some 11, none, [.t 10], .v (.len)⟩,
       ⟨some 12, none, [.t 1], .v (.mv)⟩,
       ⟨some 13, none, [.t 12], .v (.len)⟩,
       ⟨some 14, none, [.t 11, .t 13], .v (.bin .neq)⟩] [0, 1, 2, 14])
     (.cond (.t 14)
      (.seq
       (.reg [⟨some 6, none, [.c (.pv (.bool false))], .v (.mv)⟩] [6])
       .ret)
      .skip))
    (.seq
     (.seq
      (.reg [⟨some 15, none, [.t 0], .v (.mv)⟩,
        ⟨some 16, none, [.t 15], .v (.len)⟩,
        ⟨some 17, none, [.c (.pv (.int .i64 0))], .v (.mv)⟩] [1, 2, 15, 16, 17])
      (.block 0
       (EqL z1 z2 s1 s2)))
     (.seq
      (.reg [⟨some 6, none, [.c (.pv (.bool true))], .v (.mv)⟩] [6])
      .ret)))), none, false⟩

/-- A function value that asks something of each two elements. -/
def Asks2 {α β : Type} (F : AV) (sh : Sh) (c : α → List PV) (d : β → List PV) (p : α → β → Bool) (s : List α) : Prop :=
  ∀ x ∈ s, ∀ y, exec (orcL AP) .callV [F, .agg ((c x).map .pv), .agg ((d y).map .pv)] none sh [] = some ⟨.pv (.bool (p x y)), none, sh, []⟩

/-- All in the same places. -/
def all2 {α β : Type} (p : α → β → Bool) : List α → List β → Bool
  | [], [] => true
  | x :: r, y :: t => p x y && all2 p r t
  | _, _ => false

theorem all2_len {α β : Type} {p : α → β → Bool} : ∀ {a : List α} {b : List β}, all2 p a b = true → a.length = b.length
  | [], [], _ => rfl
  | x :: r, y :: t, h => by simp only [all2, Bool.and_eq_true] at h; simp [all2_len h.2]
  | [], _ :: _, h => by simp [all2] at h
  | _ :: _, [], h => by simp [all2] at h

def REq {α β : Type} (f : α → PV) (g : β → PV) (F : AV) (a : List α) (b : List β) (sh : Sh) (t : Bool) : Option (AExit × St) :=
  if t = true then some (.exit 0, ⟨[(1, .pv (.lst (b.map g))), (2, F), (15, .pv (.lst (a.map f))), (16, .pv (vI a.length)), (17, .pv (vI a.length)), (18, .pv (.bool false))], [], sh, []⟩)
  else some (.ret, ⟨[(6, .pv (.bool false))], [], sh, []⟩)
theorem LEq {α β : Type} {f : α → PV} {g : β → PV} {c : α → List PV} {d : β → List PV} {s1 s2 : Nat} (hf : Els f c s1) (hg : Els g d s2) {z1 z2 : List PV} (h1 : z1.length = s1) (h2 : z2.length = s2) {a : List α} {b : List β} (hS : Sm a) (hl : a.length = b.length)
    {sh : Sh} (hq : Quiet sh) {k : Nat} {cap : List AV} {p : α → β → Bool} (hcap : flatB.flatL cap = true) (hp : Asks2 (.fn k cap) sh c d p a) : ∀ (n i : Nat), a.length - i = n → i ≤ a.length →
    cl AP (EqL z1 z2 s1 s2) ⟨[(1, .pv (.lst (b.map g))), (2, .fn k cap), (15, .pv (.lst (a.map f))), (16, .pv (vI a.length)), (17, .pv (vI i))], [], sh, []⟩ = REq f g (.fn k cap) a b sh (all2 p (a.drop i) (b.drop i))
  | 0, i, hn, hi => by
    have : i = a.length := by omega
    subst this
    rw [EqL_eq, dropN (l := b) (by omega), dropN (l := a) (by omega)]
    simp [EqB, REq, all2, hq.norm, hcap]
  | n + 1, i, hn, hi => by
    have hi : i < a.length := by omega
    obtain ⟨x, hx⟩ := getO hi
    obtain ⟨y, hy⟩ := getO (hl ▸ hi)
    unfold Sm at hS
    have ih := LEq hf hg h1 h2 hS hl hq hcap hp n (i + 1) (by omega) (by omega)
    simp at ih
    have hc := hp x (memO hx) y
    rw [EqL_eq, dropC hx, dropC hy]
    have u1 := hf.len x
    have u2 := hg.len y
    have e1 : (z1.map evV.zeroCell).drop s1 = [] := by rw [List.drop_eq_nil_of_le]; simp [h1]
    have e2 : (z2.map evV.zeroCell).drop s2 = [] := by rw [List.drop_eq_nil_of_le]; simp [h2]
    have t1 : ((c x).map AV.pv).take s1 = (c x).map AV.pv := by rw [List.take_of_length_le]; simp [u1]
    have t2 : ((d y).map AV.pv).take s2 = (d y).map AV.pv := by rw [List.take_of_length_le]; simp [u2]
    have q1 : (c x).take s1 = c x := by rw [List.take_of_length_le]; omega
    have q2 : (d y).take s2 = d y := by rw [List.take_of_length_le]; omega
    have w1 := hf.leaf x
    have w2 := hg.leaf y
    cases e : p x y with
    | true =>
      rw [e] at hc
      simp (disch := omega) [-getElem?_pos, -exec_callV, -List.all_map, -List.map_take, -List.map_drop, -List.map_eq_nil_iff, EqB, hx, hy, hi, e, all2, wrap_id, hq.norm, hc, ih, hcap, hf.eq, hg.eq, u1, u2, h1, h2, e1, e2, t1, t2, q1, q2, w1, w2]
    | false =>
      rw [e] at hc
      simp (disch := omega) [-getElem?_pos, -exec_callV, -List.all_map, -List.map_take, -List.map_drop, -List.map_eq_nil_iff, EqB, hx, hy, hi, e, all2, REq, hq.norm, hc, hcap, hf.eq, hg.eq, u1, u2, h1, h2, e1, e2, t1, t2, q1, q2, w1, w2]

theorem cEq {α β : Type} {f : α → PV} {g : β → PV} {c : α → List PV} {d : β → List PV} {s1 s2 : Nat} (hf : Els f c s1) (hg : Els g d s2) {z1 z2 : List PV} (h1 : z1.length = s1) (h2 : z2.length = s2) {m : Nat} (hm : AP m = some (EqF z1 z2 s1 s2)) {a : List α} {b : List β} (hS : Sm a)
    {sh : Sh} (hq : Quiet sh) {k : Nat} {cap : List AV} {p : α → β → Bool} (hcap : flatB.flatL cap = true) (hp : Asks2 (.fn k cap) sh c d p a) :
    (orcL AP).i m [.pv (.lst (a.map f)), .pv (.lst (b.map g)), .fn k cap] sh [] = some ([.pv (.bool (all2 p a b))], sh, []) := by
  rw [callI_body hm (by simp [EqF])]
  by_cases hl : a.length = b.length
  · have h := LEq hf hg h1 h2 hS hl hq hcap hp _ 0 rfl (by omega)
    simp at h
    cases e : all2 p a b with
    | true => rw [e] at h; simp [REq] at h; simp [EqF, h, hq.norm, hcap, hl.symm]
    | false => rw [e] at h; simp [REq] at h; simp [EqF, h, hq.norm, hcap, hl.symm]
  · have e : all2 p a b = false := by
      cases e : all2 p a b with
      | true => exact absurd (all2_len e) hl
      | false => rfl
    simp [EqF, hq.norm, hcap, hl, e]
    omega

/-! ### Clip -/
end Go.Ab.Lw
namespace Go.Ab.Lw

section
variable {P : Program} {n : Nat} {t e : TypeId} {p : PV}

theorem shp_int (hu : P.underlying t = some (.int .i64)) (h : Shp P n t p) : ∃ i, p = vI i := by
  cases n with
  | zero => simp [Shp] at h
  | succ n => simp only [Shp, hu] at h; obtain ⟨i, rfl, _⟩ := h; exact ⟨i, rfl⟩
theorem shp_bool (hu : P.underlying t = some .bool) (h : Shp P n t p) : ∃ b, p = .bool b := by
  cases n with
  | zero => simp [Shp] at h
  | succ n => simp only [Shp, hu] at h; exact h
theorem shp_str (hu : P.underlying t = some .string) (h : Shp P n t p) : ∃ s, p = .str s := by
  cases n with
  | zero => simp [Shp] at h
  | succ n => simp only [Shp, hu] at h; obtain ⟨s, rfl, _⟩ := h; exact ⟨s, rfl⟩
/-- A slice of what a function of pure data makes. -/
theorem shp_list {α : Type} {f : α → PV} (hu : P.underlying t = some (.slice e)) (he : ∀ (m : Nat) (q : PV), Shp P m e q → ∃ x, q = f x) (h : Shp P n t p) : ∃ l : List α, p = .lst (l.map f) := by
  cases n with
  | zero => simp [Shp] at h
  | succ n =>
    simp only [Shp, hu] at h
    obtain ⟨els, rfl, _, h⟩ := h
    have key : ∀ els : List PV, (∀ q ∈ els, Shp P n e q) → ∃ l : List α, els = l.map f := by
      intro els
      induction els with
      | nil => intro _; exact ⟨[], rfl⟩
      | cons q r ih =>
        intro h
        obtain ⟨x, rfl⟩ := he n q (h q (by simp))
        obtain ⟨l, rfl⟩ := ih (fun q hq => h q (by simp [hq]))
        exact ⟨x :: l, rfl⟩
    obtain ⟨l, rfl⟩ := key els h
    exact ⟨l, rfl⟩
theorem shp_ints (hu : P.underlying t = some (.slice e)) (he : P.underlying e = some (.int .i64)) (h : Shp P n t p) : ∃ L : List Int, p = .lst (L.map vI) :=
  shp_list hu (fun _ _ h => shp_int he h) h

/-- A type. -/
theorem shp_ty {ti ts tl tt : TypeId} {f0 f1 f2 f3 f4 : Field} (hi : P.underlying ti = some (.int .i64)) (hs : P.underlying ts = some .string) (hl : P.underlying tl = some (.slice tt))
    (ht : P.underlying tt = some (.struct #[f0, f1, f2, f3, f4])) (e0 : f0.type = ti) (e1 : f1.type = ts) (e2 : f2.type = ti) (e3 : f3.type = ti) (e4 : f4.type = tl) :
    ∀ (n : Nat) (p : PV), Shp P n tt p → ∃ x : Ty, p = x.pv
  | 0, p, h => by simp [Shp] at h
  | n + 1, p, h => by
    simp only [Shp, ht] at h
    obtain ⟨ps, rfl, h⟩ := h
    match ps, h with
    | [p0, p1, p2, p3, p4], ⟨h0, h1, h2, h3, h4, _⟩ =>
      rw [e0] at h0; rw [e1] at h1; rw [e2] at h2; rw [e3] at h3; rw [e4] at h4
      obtain ⟨k, rfl⟩ := shp_int hi h0
      obtain ⟨s, rfl⟩ := shp_str hs h1
      obtain ⟨i, rfl⟩ := shp_int hi h2
      obtain ⟨m, rfl⟩ := shp_int hi h3
      cases n with
      | zero => simp [Shp] at h4
      | succ n =>
        simp only [Shp, hl] at h4
        obtain ⟨els, rfl, _, h4⟩ := h4
        have key : ∀ els : List PV, (∀ q ∈ els, Shp P n tt q) → ∃ l : List Ty, els = l.map Ty.pv := by
          intro els
          induction els with
          | nil => intro _; exact ⟨[], rfl⟩
          | cons q r ih =>
            intro h
            obtain ⟨x, rfl⟩ := shp_ty hi hs hl ht e0 e1 e2 e3 e4 n q (h q (by simp))
            obtain ⟨l, rfl⟩ := ih (fun q hq => h q (by simp [hq]))
            exact ⟨x :: l, rfl⟩
        obtain ⟨l, rfl⟩ := key els h4
        exact ⟨⟨k, s, i, m, l⟩, by simp [cellsP]⟩
  termination_by n => n
end
end Go.Ab.Lw

namespace Go.Ab.Lw
open Ev
set_option maxRecDepth 10000
set_option linter.unusedSimpArgs false
def tyNamed (s : List UInt8) : Ty := ⟨5, s, 0, 0, []⟩
theorem c106 {s : List UInt8} : (orcL AP).p 106 [.str s] = some [(tyNamed s).pv] := by
  rw [callP_body (af := g106) rfl rfl (by decide)]
  simp [g106, tyNamed]
end Go.Ab.Lw
namespace Go.Ab.Lw
open Ev
set_option maxRecDepth 10000
set_option linter.unusedSimpArgs false

/-! ### Index and Contains of plain elements -/
theorem L95 {s : List Int} (hS : Sm s) (y : Int) : ∀ (n i : Nat), s.length - i = n → i ≤ s.length →
    cl AP g95L0 ⟨[(0, .pv (.lst (s.map vI))), (1, .pv (vI y)), (5, .pv (vI i))], [], [], []⟩ =
      if y ∈ s.drop i then some (.ret, ⟨[(4, .pv (.bool true))], [], [], []⟩) else some (.exit 0, ⟨[(0, .pv (.lst (s.map vI))), (1, .pv (vI y)), (5, .pv (vI s.length)), (9, .pv (.bool false))], [], [], []⟩)
  | 0, i, hn, hi => by
    have : i = s.length := by omega
    subst this
    rw [g95L0_eq]
    simp [g95B0]
  | n + 1, i, hn, hi => by
    have hi : i < s.length := by omega
    obtain ⟨x, hx⟩ := getO hi
    unfold Sm at hS
    have ih := L95 hS y n (i + 1) (by omega) (by omega)
    simp at ih
    rw [g95L0_eq, dropC hx]
    by_cases e : x = y
    · simp (disch := omega) [-getElem?_pos, g95B0, hx, hi, e]
    · have e' : ¬ y = x := fun h => e h.symm
      simp (disch := omega) [-getElem?_pos, g95B0, hx, hi, e, e', wrap_id, ih]
theorem c95 {s : List Int} (hS : Sm s) {y : Int} : (orcL AP).p 95 [.lst (s.map vI), vI y] = some [.bool (decide (y ∈ s))] := by
  have h := L95 hS y _ 0 rfl (by omega)
  simp at h
  rw [callP_body (af := g95) rfl rfl (by decide)]
  by_cases e : y ∈ s <;> simp [g95, h, e]

/-! ### All nodes -/
mutual
def Ty.nodes : Ty → List Ty
  | ⟨k, n, i, h, as⟩ => ⟨k, n, i, h, as⟩ :: Ty.nodess as
def Ty.nodess : List Ty → List Ty
  | [] => []
  | a :: r => a.nodes ++ Ty.nodess r
end
theorem Ty.nodess_eq : ∀ l : List Ty, Ty.nodess l = l.flatMap Ty.nodes
  | [] => by simp [Ty.nodess]
  | a :: r => by simp [Ty.nodess, Ty.nodess_eq r]
theorem Ty.nodes_eq (t : Ty) : t.nodes = t :: t.args.flatMap Ty.nodes := by cases t; simp only [Ty.nodes, Ty.nodess_eq]

theorem nodup_len {α : Type} [DecidableEq α] : ∀ {l S : List α}, l.Nodup → (∀ x ∈ l, x ∈ S) → l.length ≤ S.length
  | [], _, _, _ => by simp
  | x :: r, S, hn, h => by
    have hx := h x (by simp)
    have hr := nodup_len (l := r) (S := S.erase x) (List.nodup_cons.1 hn).2 (fun y hy => by
      rw [List.mem_erase_of_ne]
      · exact h y (by simp [hy])
      · rintro rfl; exact (List.nodup_cons.1 hn).1 hy)
    have := List.length_erase_of_mem hx
    have : 0 < S.length := List.length_pos_of_mem hx
    simp; omega

/-- One more variable. -/
def addI (out : List Int) (x : Ty) : List Int := if x.kind = 1 ∧ x.id ∉ out then out ++ [x.id] else out

/-- What was collected: without doubles, among few. -/
structure Coll (S out : List Int) : Prop where
  nodup : out.Nodup
  sub : ∀ x ∈ out, x ∈ S
  few : S.length < 1099511627776
theorem Coll.len {S out : List Int} (h : Coll S out) : Sm out := by
  have := nodup_len h.nodup h.sub
  have := h.few
  unfold Sm; omega
theorem Coll.add {S out : List Int} (h : Coll S out) {x : Ty} (hx : x.kind = 1 → x.id ∈ S) : Coll S (addI out x) := by
  unfold addI
  split
  · rename_i e
    refine ⟨?_, ?_, h.few⟩
    · rw [List.nodup_append]
      refine ⟨h.nodup, by simp, ?_⟩
      intro a ha b hb
      simp at hb; subst hb
      rintro rfl; exact e.2 ha
    · intro y hy
      simp at hy
      rcases hy with hy | rfl
      · exact h.sub y hy
      · exact hx e.1
  · exact h
theorem Coll.fold {S : List Int} : ∀ {l : List Ty} {out : List Int}, Coll S out → (∀ x ∈ l, x.kind = 1 → x.id ∈ S) → Coll S (l.foldl addI out)
  | [], _, h, _ => h
  | x :: r, out, h, hx => by
    simp only [List.foldl_cons]
    exact Coll.fold (h.add (hx x (by simp))) (fun y hy => hx y (by simp [hy]))

/-- The variables of types. -/
def vars (l : List Ty) : List Int := (l.flatMap Ty.nodes).foldl addI []

theorem coll_nil {S : List Int} (h : S.length < 1099511627776) : Coll S [] := ⟨by simp, by simp, h⟩
end Go.Ab.Lw
namespace Go.Ab.Lw
open Ev
set_option maxRecDepth 10000
set_option linter.unusedSimpArgs false
mutual
/-- The leaves of a kind. -/
def Ty.lvs (k : Int) : Ty → List Ty
  | ⟨kd, n, i, h, as⟩ => if kd = k ∧ as.length = 0 then [⟨kd, n, i, h, as⟩] else Ty.lvss k as
def Ty.lvss (k : Int) : List Ty → List Ty
  | [] => []
  | a :: r => a.lvs k ++ Ty.lvss k r
end
theorem Ty.lvss_eq (k : Int) : ∀ l : List Ty, Ty.lvss k l = l.flatMap (Ty.lvs k)
  | [] => by simp [Ty.lvss]
  | a :: r => by simp [Ty.lvss, Ty.lvss_eq k r]
theorem Ty.lvs_eq (k : Int) (t : Ty) : t.lvs k = if t.kind = k ∧ t.args.length = 0 then [t] else t.args.flatMap (Ty.lvs k) := by cases t; simp only [Ty.lvs, Ty.lvss_eq]

noncomputable def addT (out : List Ty) (x : Ty) : List Ty := if x ∈ out then out else out ++ [x]

structure CollT (S out : List Ty) : Prop where
  nodup : out.Nodup
  sub : ∀ x ∈ out, x ∈ S
  few : S.length < 1099511627776
  ok : ∀ x ∈ S, x.Ok
theorem CollT.len {S out : List Ty} (h : CollT S out) : Sm out := by
  have := nodup_len h.nodup h.sub
  have := h.few
  unfold Sm; omega
theorem CollT.add {S out : List Ty} (h : CollT S out) {x : Ty} (hx : x ∈ S) : CollT S (addT out x) := by
  unfold addT
  split
  · exact h
  · rename_i e
    refine ⟨?_, ?_, h.few, h.ok⟩
    · rw [List.nodup_append]
      refine ⟨h.nodup, by simp, ?_⟩
      intro a ha b hb
      simp at hb; subst hb
      rintro rfl; exact e ha
    · intro y hy
      simp at hy
      rcases hy with hy | rfl
      · exact h.sub y hy
      · exact hx
theorem CollT.fold {S : List Ty} : ∀ {l : List Ty} {out : List Ty}, CollT S out → (∀ x ∈ l, x ∈ S) → CollT S (l.foldl addT out)
  | [], _, h, _ => h
  | x :: r, out, h, hx => by
    simp only [List.foldl_cons]
    exact CollT.fold (h.add (hx x (by simp))) (fun y hy => hx y (by simp [hy]))

theorem L99a {S out : List Ty} (h : CollT S out) (t : Ty) : ∀ (n i : Nat), out.length - i = n → i ≤ out.length →
    cl AP g99L0 ⟨[(0, .own (out.map Ty.pv) 0), (4, .lptr 4 0), (7, .pv (vI i))], [(4, [.pv (vI t.kind), .pv (.str t.name), .pv (vI t.id), .pv (vI t.home), .pv (.lst (t.args.map Ty.pv))])], [], [out.length]⟩ =
      if t ∈ out.drop i then some (.ret, ⟨[(6, .own (out.map Ty.pv) 0)], [], [], [out.length]⟩)
      else some (.exit 0, ⟨[(0, .own (out.map Ty.pv) 0), (4, .lptr 4 0), (7, .pv (vI out.length)), (22, .pv (.bool false))], [(4, [.pv (vI t.kind), .pv (.str t.name), .pv (vI t.id), .pv (vI t.home), .pv (.lst (t.args.map Ty.pv))])], [], [out.length]⟩)
  | 0, i, hn, hi => by
    have : i = out.length := by omega
    subst this
    rw [g99L0_eq]
    simp [g99B0]
  | n + 1, i, hn, hi => by
    have hi : i < out.length := by omega
    obtain ⟨x, hx⟩ := getO hi
    have hS := h.len
    unfold Sm at hS
    have k := c20 (b := t) (h.ok x (h.sub x (memO hx)))
    have ih := L99a h t n (i + 1) (by omega) (by omega)
    rw [g99L0_eq] at ih ⊢
    rw [dropC hx]
    simp at ih k
    by_cases e : x = t
    · subst e
      rw [decide_eq_true rfl] at k
      simp (disch := omega) [-getElem?_pos, g99B0, hx, hi, k]
    · have e' : ¬ t = x := fun h => e h.symm
      rw [decide_eq_false e] at k
      simp (disch := omega) [-getElem?_pos, g99B0, hx, hi, k, e', wrap_id]
      rw [g99L0_eq]
      simp [ih]

theorem L99b {S : List Ty} {kd : Int} {t : Ty} (hS : Sm t.args) (h : ∀ x ∈ t.args, ∀ out, CollT S out → (orcL AP).i 99 [.own (out.map Ty.pv) 0, .pv x.pv, .pv (vI kd)] [] [out.length] = some ([.own (((x.lvs kd).foldl addT out).map Ty.pv) 0], [], [((x.lvs kd).foldl addT out).length]))
    (hk : ∀ x ∈ t.args.flatMap (Ty.lvs kd), x ∈ S) : ∀ (n i : Nat), t.args.length - i = n → i ≤ t.args.length → ∀ out, CollT S out →
    cl AP g99L1 ⟨[(0, .own (out.map Ty.pv) 0), (2, .pv (vI kd)), (4, .lptr 4 0), (8, .pv (vI i))], [(4, [.pv (vI t.kind), .pv (.str t.name), .pv (vI t.id), .pv (vI t.home), .pv (.lst (t.args.map Ty.pv))])], [], [out.length]⟩ =
      some (.exit 2, ⟨[(0, .own ((((t.args.drop i).flatMap (Ty.lvs kd)).foldl addT out).map Ty.pv) 0), (2, .pv (vI kd)), (4, .lptr 4 0), (8, .pv (vI t.args.length)), (40, .pv (.bool false))], [(4, [.pv (vI t.kind), .pv (.str t.name), .pv (vI t.id), .pv (vI t.home), .pv (.lst (t.args.map Ty.pv))])], [], [(((t.args.drop i).flatMap (Ty.lvs kd)).foldl addT out).length]⟩)
  | 0, i, hn, hi, out, hc => by
    have : i = t.args.length := by omega
    subst this
    rw [g99L1_eq]
    simp [g99B1]
  | n + 1, i, hn, hi, out, hc => by
    have hi : i < t.args.length := by omega
    obtain ⟨x, hx⟩ := getO hi
    unfold Sm at hS
    have hkx : ∀ y ∈ x.lvs kd, y ∈ S := fun y hy => hk y (by simp only [List.mem_flatMap]; exact ⟨x, memO hx, hy⟩)
    have k := h x (memO hx) out hc
    have ih := L99b hS h hk n (i + 1) (by omega) (by omega) _ (hc.fold hkx)
    rw [g99L1_eq] at ih ⊢
    rw [dropC hx]
    simp at k ih
    simp (disch := omega) [-getElem?_pos, g99B1, hx, hi, k, wrap_id]
    rw [g99L1_eq]
    simp [ih]

theorem c99 {S : List Ty} {kd : Int} {t : Ty} (hO : t.Ok) (hk : ∀ x ∈ t.lvs kd, x ∈ S) : ∀ out, CollT S out →
    (orcL AP).i 99 [.own (out.map Ty.pv) 0, .pv t.pv, .pv (vI kd)] [] [out.length] = some ([.own (((t.lvs kd).foldl addT out).map Ty.pv) 0], [], [((t.lvs kd).foldl addT out).length]) := by
  revert hO hk
  refine Ty.rec1 (p := fun t => t.Ok → (∀ x ∈ t.lvs kd, x ∈ S) → ∀ out, CollT S out →
    (orcL AP).i 99 [.own (out.map Ty.pv) 0, .pv t.pv, .pv (vI kd)] [] [out.length] = some ([.own (((t.lvs kd).foldl addT out).map Ty.pv) 0], [], [((t.lvs kd).foldl addT out).length])) ?_ t
  intro t ih hO hk out hc
  rw [Ty.lvs_eq] at hk ⊢
  have hl := hc.len
  unfold Sm at hl
  have hb : (out.length + 1) * 64 ≤ 140737488355328 := by omega
  rw [callI_body (af := g99) rfl (by simp [g99])]
  by_cases e : t.kind = kd ∧ t.args.length = 0
  · rw [if_pos e] at hk ⊢
    obtain ⟨e1, e2⟩ := e
    subst e1
    have e3 : t.args = [] := by simpa using e2
    have h := L99a hc t _ 0 rfl (by omega)
    rw [g99L0_eq] at h
    simp [e3] at h
    by_cases em : t ∈ out
    · simp [em] at h
      have ea : addT out t = out := by simp [addT, em]
      simp [g99, e3, g99L0_eq, h, ea]
    · simp [em] at h
      have ea : addT out t = out ++ [t] := by simp [addT, em]
      simp [g99, e3, g99L0_eq, h, ea, hb]
  · rw [if_neg e] at hk ⊢
    have h := L99b (S := S) (kd := kd) hO.sm (fun x hx out hc => ih x hx (hO.kid x hx) (fun y hy => hk y (by simp only [List.mem_flatMap]; exact ⟨x, hx, hy⟩)) out hc) hk _ 0 rfl (by omega) out hc
    rw [g99L1_eq] at h
    simp at h
    by_cases e1 : t.kind = kd
    · have e2 : ¬ t.args.length = 0 := fun h => e ⟨e1, h⟩
      have e3 : ¬ t.args = [] := by simpa using e2
      subst e1
      simp [g99, e2, e3, g99L1_eq, h]
    · simp [g99, e1, g99L1_eq, h]

/-- One more number. -/
def addN (out : List Int) (x : Ty) : List Int := if x.id ∈ out then out else out ++ [x.id]

noncomputable def refVars (l : List Ty) : List Int := ((l.flatMap (Ty.lvs 1)).foldl addT []).foldl addN []

theorem L56a {S : List Ty} {l : List Ty} (hS : Sm l) (hO : ∀ t ∈ l, t.Ok) (hk : ∀ x ∈ l.flatMap (Ty.lvs 1), x ∈ S) : ∀ (n i : Nat), l.length - i = n → i ≤ l.length → ∀ out, CollT S out →
    cl AP g56L0 ⟨[(0, .pv (.lst (l.map Ty.pv))), (3, .own (out.map Ty.pv) 0), (4, .pv (vI i))], [], [], [out.length]⟩ =
      some (.exit 0, ⟨[(0, .pv (.lst (l.map Ty.pv))), (3, .own ((((l.drop i).flatMap (Ty.lvs 1)).foldl addT out).map Ty.pv) 0), (4, .pv (vI l.length)), (10, .pv (.bool false))], [], [], [(((l.drop i).flatMap (Ty.lvs 1)).foldl addT out).length]⟩)
  | 0, i, hn, hi, out, hc => by
    have : i = l.length := by omega
    subst this
    rw [g56L0_eq]
    simp [g56B0]
  | n + 1, i, hn, hi, out, hc => by
    have hi : i < l.length := by omega
    obtain ⟨x, hx⟩ := getO hi
    unfold Sm at hS
    have hkx : ∀ y ∈ x.lvs 1, y ∈ S := fun y hy => hk y (by simp only [List.mem_flatMap]; exact ⟨x, memO hx, hy⟩)
    have k := c99 (kd := 1) (hO x (memO hx)) hkx out hc
    have ih := L56a hS hO hk n (i + 1) (by omega) (by omega) _ (hc.fold hkx)
    rw [g56L0_eq] at ih ⊢
    rw [dropC hx]
    simp at k ih
    simp (disch := omega) [-getElem?_pos, g56B0, hx, hi, k, wrap_id]
    rw [g56L0_eq]
    simp [ih]

theorem addN_len {l : List Ty} {out : List Int} : (l.foldl addN out).length ≤ out.length + l.length := by
  induction l generalizing out with
  | nil => simp
  | cons x r ih =>
    simp only [List.foldl_cons, List.length_cons]
    have := ih (out := addN out x)
    have h2 : (addN out x).length ≤ out.length + 1 := by unfold addN; split <;> simp
    omega
theorem L56b {S l : List Ty} (hc : CollT S l) : ∀ (n i : Nat), l.length - i = n → i ≤ l.length → ∀ out : List Int, out.length ≤ i →
    cl AP g56L1 ⟨[(3, .own (l.map Ty.pv) 0), (5, .own (out.map vI) 1), (6, .pv (vI i))], [], [], [l.length, out.length]⟩ =
      some (.exit 2, ⟨[(3, .own (l.map Ty.pv) 0), (5, .own (((l.drop i).foldl addN out).map vI) 1), (6, .pv (vI l.length)), (22, .pv (.bool false))], [], [], [l.length, ((l.drop i).foldl addN out).length]⟩)
  | 0, i, hn, hi, out, ho => by
    have : i = l.length := by omega
    subst this
    rw [g56L1_eq]
    simp [g56B1]
  | n + 1, i, hn, hi, out, ho => by
    have hi : i < l.length := by omega
    obtain ⟨x, hx⟩ := getO hi
    have hS := hc.len
    unfold Sm at hS
    have k := c95 (s := out) (by unfold Sm; omega) (y := x.id)
    have hb : (out.length + 1) * 8 ≤ 140737488355328 := by omega
    have hh : headSz 1 (out.map vI) = true := el_int.head out
    rw [dropC hx]
    by_cases e : x.id ∈ out
    · have ih := L56b hc n (i + 1) (by omega) (by omega) out (by omega)
      have ea : addN out x = out := by simp [addN, e]
      rw [g56L1_eq] at ih ⊢
      rw [decide_eq_true e] at k
      simp at ih
      simp (disch := omega) [-getElem?_pos, g56B1, hx, hi, k, wrap_id]
      rw [g56L1_eq]
      simp [ih, ea]
    · have ih := L56b hc n (i + 1) (by omega) (by omega) (out ++ [x.id]) (by simp; omega)
      have ea : addN out x = out ++ [x.id] := by simp [addN, e]
      rw [g56L1_eq] at ih ⊢
      rw [decide_eq_false e] at k
      simp at ih
      simp (disch := omega) [-getElem?_pos, g56B1, hx, hi, k, wrap_id, hb, hh]
      rw [g56L1_eq]
      simp [ih, ea]

theorem c56 {S : List Ty} (hf : S.length < 1099511627776) (hSo : ∀ x ∈ S, x.Ok) {l : List Ty} (hS : Sm l) (hO : ∀ t ∈ l, t.Ok) (hk : ∀ x ∈ l.flatMap (Ty.lvs 1), x ∈ S) : (orcL AP).p 56 [.lst (l.map Ty.pv)] = some [.lst ((refVars l).map vI)] := by
  have c0 : CollT S [] := ⟨by simp, by simp, hf, hSo⟩
  have h1 := L56a hS hO hk _ 0 rfl (by omega) [] c0
  have h2 := L56b (c0.fold (l := l.flatMap (Ty.lvs 1)) hk) _ 0 rfl (by omega) [] (by simp)
  rw [callP_body (af := g56) rfl rfl (by decide)]
  rw [g56L0_eq] at h1
  rw [g56L1_eq] at h2
  simp at h1 h2
  simp [g56, g56L0_eq, h1, g56L1_eq, h2, refVars]

/-! ### They are the same -/
theorem nodes_lvs {t : Ty} (hW : t.Wf) : ∀ out, t.nodes.foldl addI out = (t.lvs 1).foldl addI out := by
  revert hW
  refine Ty.rec1 (p := fun t => t.Wf → ∀ out, t.nodes.foldl addI out = (t.lvs 1).foldl addI out) ?_ t
  intro t ih hW out
  have flat : ∀ (as : List Ty), (∀ x ∈ as, x ∈ t.args) → ∀ out, (as.flatMap Ty.nodes).foldl addI out = (as.flatMap (Ty.lvs 1)).foldl addI out := by
    intro as
    induction as with
    | nil => intro _ _; rfl
    | cons a r ihr =>
      intro h out
      simp only [List.flatMap_cons, List.foldl_append]
      rw [ih a (h a (by simp)) (hW.kid a (h a (by simp))), ihr (fun x hx => h x (by simp [hx]))]
  rw [Ty.nodes_eq, Ty.lvs_eq]
  by_cases e : t.kind = 1
  · have ea := hW.var e
    simp [e, ea]
  · have : addI out t = out := by simp [addI, e]
    simp only [List.foldl_cons, this]
    rw [if_neg (fun h => e h.1)]
    exact flat t.args (fun _ h => h) out
theorem lvs_kind {k : Int} {t x : Ty} (h : x ∈ t.lvs k) : x.kind = k ∧ x.args = [] := by
  revert h
  refine Ty.rec1 (p := fun t => x ∈ t.lvs k → x.kind = k ∧ x.args = []) ?_ t
  intro t ih h
  rw [Ty.lvs_eq] at h
  split at h
  · rename_i e; simp at h; subst h; exact ⟨e.1, by simpa using e.2⟩
  · simp only [List.mem_flatMap] at h
    obtain ⟨y, hy, hx⟩ := h
    exact ih y hy hx
theorem addI_mem {l : List Ty} {out : List Int} {x : Ty} (hk : x.kind = 1) (h : x ∈ l) : x.id ∈ l.foldl addI out := by
  have mono : ∀ (l : List Ty) (out : List Int) (i : Int), i ∈ out → i ∈ l.foldl addI out := by
    intro l
    induction l with
    | nil => intro out i h; exact h
    | cons y r ih =>
      intro out i h
      simp only [List.foldl_cons]
      refine ih _ _ ?_
      unfold addI; split <;> simp [h]
  induction l generalizing out with
  | nil => simp at h
  | cons y r ih =>
    simp only [List.foldl_cons]
    simp at h
    rcases h with rfl | h
    · refine mono _ _ _ ?_
      unfold addI
      split
      · simp
      · rename_i e; simp [hk] at e; exact e
    · exact ih h
theorem fold_addT (l : List Ty) (hk : ∀ x ∈ l, x.kind = 1) : ∀ acc : List Ty, (l.foldl addT acc).foldl addI [] = l.foldl addI (acc.foldl addI []) := by
  induction l with
  | nil => intro acc; rfl
  | cons x r ih =>
    intro acc
    simp only [List.foldl_cons]
    rw [ih (fun y hy => hk y (by simp [hy]))]
    congr 1
    unfold addT
    split
    · rename_i e
      have := addI_mem (out := []) (hk x (by simp)) e
      simp [addI, this]
    · simp
theorem fold_addN (l : List Ty) (hk : ∀ x ∈ l, x.kind = 1) : ∀ out, l.foldl addN out = l.foldl addI out := by
  induction l with
  | nil => intro out; rfl
  | cons x r ih =>
    intro out
    simp only [List.foldl_cons]
    rw [ih (fun y hy => hk y (by simp [hy]))]
    congr 1
    unfold addN addI
    have := hk x (by simp)
    by_cases e : x.id ∈ out <;> simp [e, this]
theorem addT_sub {l acc : List Ty} {x : Ty} (h : x ∈ l.foldl addT acc) : x ∈ acc ∨ x ∈ l := by
  induction l generalizing acc with
  | nil => exact .inl h
  | cons y r ih =>
    simp only [List.foldl_cons] at h
    rcases ih h with h | h
    · unfold addT at h
      split at h
      · exact .inl h
      · simp at h
        rcases h with h | rfl
        · exact .inl h
        · right; simp
    · right; simp [h]
/-- **The reference's variables are the program's.** -/
theorem refVars_eq {l : List Ty} (hW : ∀ t ∈ l, t.Wf) : refVars l = vars l := by
  have hk : ∀ x ∈ l.flatMap (Ty.lvs 1), x.kind = 1 := fun x hx => by
    simp only [List.mem_flatMap] at hx; obtain ⟨t, _, h⟩ := hx; exact (lvs_kind h).1
  unfold refVars vars
  rw [fold_addN _ (fun x hx => by rcases addT_sub hx with h | h; simp at h; exact hk x h), fold_addT _ hk]
  have : ∀ (l : List Ty), (∀ t ∈ l, t.Wf) → ∀ out, (l.flatMap (Ty.lvs 1)).foldl addI out = (l.flatMap Ty.nodes).foldl addI out := by
    intro l
    induction l with
    | nil => intro _ _; rfl
    | cons a r ih =>
      intro h out
      simp only [List.flatMap_cons, List.foldl_append]
      rw [nodes_lvs (h a (by simp)), ih (fun t ht => h t (by simp [ht]))]
  exact this l hW []
end Go.Ab.Lw
namespace Go.Ab.Lw
open Ev
set_option maxRecDepth 10000
set_option linter.unusedSimpArgs false
theorem c176 {t : Ty} : (orcL AP).p 176 [t.pv] = some [(As.mk 0 t).pv] := by
  rw [callP_body (af := g176) rfl rfl (by decide)]
  simp [g176]
theorem sc_ext {a b : Sc} : a = b ↔ a.id = b.id ∧ a.ty = b.ty := by cases a; cases b; simp
theorem en_ext {a b : En} : a = b ↔ a.name = b.name ∧ a.sc = b.sc := by cases a; cases b; simp
theorem c183 {a b : Sc} (hO : a.ty.Ok) : (orcL AP).p 183 [a.pv, b.pv] = some [.bool (decide (a = b))] := by
  have k := c20 (b := b.ty) hO
  rw [callP_body (af := g183) rfl rfl (by decide)]
  simp at k
  by_cases e : a.id = b.id
  · have : decide (a = b) = decide (a.ty = b.ty) := by rw [Bool.eq_iff_iff]; simp [sc_ext, e]
    simp [g183, k, e, this]
  · have : decide (a = b) = false := by simp [sc_ext, e]
    simp [g183, e, this]
theorem c232 {a b : Sc} (hO : a.ty.Ok) : (orcL AP).p 232 [a.pv, b.pv] = some [.bool (decide (a = b))] := by
  have k := c33e (b := b.ty) hO
  rw [callP_body (af := g232) rfl rfl (by decide)]
  simp at k
  by_cases e : a.id = b.id
  · have : decide (a = b) = decide (a.ty = b.ty) := by rw [Bool.eq_iff_iff]; simp [sc_ext, e]
    simp [g232, k, e, this]
  · have : decide (a = b) = false := by simp [sc_ext, e]
    simp [g232, e, this]

theorem L178 {a b : List En} (hS : Sm a) (hl : a.length = b.length) (h : ∀ x ∈ a, x.sc.ty.Ok) : ∀ (n i : Nat), a.length - i = n → i ≤ a.length →
    cl AP g178L0 ⟨[(0, .pv (.lst (a.map En.pv))), (1, .pv (.lst (b.map En.pv))), (5, .pv (.int .i64 i))], [], [], []⟩ =
      if a.drop i = b.drop i then some (.exit 0, ⟨[(0, .pv (.lst (a.map En.pv))), (1, .pv (.lst (b.map En.pv))), (5, .pv (.int .i64 a.length)), (14, .pv (.bool false))], [], [], []⟩)
      else some (.ret, ⟨[(4, .pv (.bool false))], [], [], []⟩)
  | 0, i, hn, hi => by
    have : i = a.length := by omega
    subst this
    rw [g178L0_eq]
    simp [g178B0, hl]
  | n + 1, i, hn, hi => by
    have hi : i < a.length := by omega
    obtain ⟨x, hx⟩ := getO hi
    obtain ⟨y, hy⟩ := getO (hl ▸ hi)
    have hc := c183 (b := y.sc) (h x (memO hx))
    simp at hc
    rw [g178L0_eq, dropC hx, dropC hy]
    unfold Sm at hS
    have ih := L178 hS hl h n (i + 1) (by omega) (by omega)
    simp at ih
    by_cases e1 : x.name = y.name
    · by_cases e2 : x.sc = y.sc
      · have e : x = y := en_ext.2 ⟨e1, e2⟩
        subst e
        simp at hc
        simp (disch := omega) [-getElem?_pos, g178B0, hx, hy, hi, hc, wrap_id, ih]
      · have e : ¬ x = y := fun e => e2 (en_ext.1 e).2
        rw [decide_eq_false e2] at hc
        simp (disch := omega) [-getElem?_pos, g178B0, hx, hy, hi, hc, wrap_id, ih, e, e1]
    · have e : ¬ x = y := fun e => e1 (en_ext.1 e).1
      simp (disch := omega) [-getElem?_pos, g178B0, hx, hy, hi, hc, wrap_id, ih, e, e1]
theorem c178 {a b : List En} (hS : Sm a) (h : ∀ x ∈ a, x.sc.ty.Ok) : (orcL AP).p 178 [.lst (a.map En.pv), .lst (b.map En.pv)] = some [.bool (decide (a = b))] := by
  rw [callP_body (af := g178) rfl rfl (by decide)]
  by_cases hl : a.length = b.length
  · have hL := L178 hS hl h _ 0 rfl (by omega)
    simp at hL
    simp [g178, hl, hL]
    by_cases e : a = b <;> simp [e]
  · have : ¬ a = b := fun e => hl (by rw [e])
    simp [g178, hl, this]
    omega

/-! ### Entries that are not hidden -/
def seenE : List En → List En
  | [] => []
  | a :: r => if (r.any fun x => decide (x.name = a.name)) = true then seenE r else a :: seenE r

@[simp] theorem takeEnd1 {α : Type} {l : List α} {x : α} : (l ++ [x]).take (l.length + 1) = l ++ [x] := by rw [List.take_of_length_le]; simp

/-- The shared box of the entry that is looked at. -/
def enC (x : En) : List AV := [.pv (.str x.name), .pv (vI x.sc.id), .pv (vI x.sc.ty.kind), .pv (.str x.sc.ty.name), .pv (vI x.sc.ty.id), .pv (vI x.sc.ty.home), .pv (.lst (x.sc.ty.args.map Ty.pv))]
theorem c212 (sh : Sh) (hq : Quiet sh) (a x : En) : (orcL AP).i 212 [.pv x.pv, .sptr sh.length 0] (sh ++ [some (enC a)]) [] = some ([.pv (.bool (decide (x.name = a.name)))], sh ++ [some (enC a)], []) := by
  have hQ : Quiet (sh ++ [some (enC a)]) := hq.app (Quiet.one (by simp [enC]))
  rw [callI_body (af := g212) rfl (by simp [g212])]
  have := hQ.norm
  simp [enC] at this
  simp [g212, enC, this]
  by_cases e : x.name = a.name <;> simp [e]
theorem c211 {s : List En} (hS : Sm s) (sh : Sh) (hq : Quiet sh) (a : En) : (orcL AP).i 211 [.pv (.lst (s.map En.pv)), .fn 212 [.sptr sh.length 0]] (sh ++ [some (enC a)]) [] = some ([.pv (.bool (s.any fun x => decide (x.name = a.name)))], sh ++ [some (enC a)], []) := by
  have hQ : Quiet (sh ++ [some (enC a)]) := hq.app (Quiet.one (by simp [enC]))
  refine cCnt el_en (m := 211) (k := 234) rfl rfl hS hQ (by simp) (by simp) (by simp) ?_
  intro x _
  have k := c212 sh hq a x
  have h1 := hQ.norm
  have h2 := hQ.shift
  simp at k
  simp [h1, h2, k]

theorem slLo {sz : Nat} {l : List PV} {k : IntKind} {h : Int} (h0 : 0 ≤ h) (h1 : h ≤ l.length) (hs : headSz sz l = true) : evSlice false sz true false false [.pv (.lst l), .pv (.int k h)] = some (.pv (.lst (l.drop h.toNat))) := by
  simp [evSlice, elsOf, evBounds, h0, h1, hs]

theorem L182 {l : List En} (hS : Sm l) : ∀ (n i : Nat), l.length - i = n → i ≤ l.length → ∀ (acc : List En) (sh : Sh), acc.length ≤ i → Quiet sh → ∃ sh', Quiet sh' ∧
    cl AP g182L0 ⟨[(0, .pv (.lst (l.map En.pv))), (3, .own (acc.map En.pv) 0), (6, .pv (.lst (l.map En.pv))), (7, .pv (vI l.length)), (8, .pv (vI i))], [], sh, [acc.length]⟩ =
      some (.exit 0, ⟨[(0, .pv (.lst (l.map En.pv))), (3, .own ((acc ++ seenE (l.drop i)).map En.pv) 0), (6, .pv (.lst (l.map En.pv))), (7, .pv (vI l.length)), (8, .pv (vI l.length)), (9, .pv (.bool false))], [], sh', [(acc ++ seenE (l.drop i)).length]⟩)
  | 0, i, hn, hi, acc, sh, ha, hq => by
    have : i = l.length := by omega
    subst this
    refine ⟨sh, hq, ?_⟩
    rw [g182L0_eq]
    simp [g182B0, seenE, hq.norm]
  | n + 1, i, hn, hi, acc, sh, ha, hq => by
    have hi : i < l.length := by omega
    obtain ⟨x, hx⟩ := getO hi
    have hQ : Quiet (sh ++ [some (enC x)]) := hq.app (Quiet.one (by simp [enC]))
    have hSd : Sm (l.drop (i + 1)) := by unfold Sm at hS ⊢; simp; omega
    have k := c211 hSd sh hq x
    unfold Sm at hS
    have hb : (acc.length + 1) * 88 ≤ 140737488355328 := by omega
    have h1 := hQ.norm
    have h2 := hQ.shift
    have hsl := slLo (sz := 7) (l := l.map En.pv) (k := .i64) (h := (i : Int) + 1) (by omega) (by simp; omega) (by simp)
    have hd : ((i : Int) + 1).toNat = i + 1 := by omega
    rw [hd] at hsl
    rw [dropC hx]
    cases e : (l.drop (i + 1)).any fun y => decide (y.name = x.name) with
    | true =>
      obtain ⟨sh', hq', ih⟩ := L182 hS n (i + 1) (by omega) (by omega) acc (sh ++ [some (enC x)]) (by omega) hQ
      refine ⟨sh', hq', ?_⟩
      have es : seenE (x :: l.drop (i + 1)) = seenE (l.drop (i + 1)) := by simp only [seenE, e, if_true]
      rw [g182L0_eq] at ih ⊢
      rw [e] at k
      simp [enC] at k h1 h2
      simp [enC, h1] at ih
      simp (disch := omega) [-getElem?_pos, g182B0, hx, hi, wrap_id, hq.norm, hsl, k, h1, h2, es]
      rw [g182L0_eq]
      simp [ih, h1]
    | false =>
      obtain ⟨sh', hq', ih⟩ := L182 hS n (i + 1) (by omega) (by omega) (acc ++ [x]) (sh ++ [some (enC x)]) (by simp; omega) hQ
      refine ⟨sh', hq', ?_⟩
      have es : seenE (x :: l.drop (i + 1)) = x :: seenE (l.drop (i + 1)) := by simp only [seenE, e]; simp
      rw [g182L0_eq] at ih ⊢
      rw [e] at k
      simp [enC] at k h1 h2
      simp [enC, h1] at ih
      simp (disch := omega) [-getElem?_pos, g182B0, hx, hi, wrap_id, hq.norm, hsl, k, h1, h2, es, hb]
      rw [g182L0_eq]
      simp [ih, h1]

theorem c182 {l : List En} (hS : Sm l) : (orcL AP).p 182 [.lst (l.map En.pv)] = some [.lst ((seenE l).map En.pv)] := by
  obtain ⟨sh', hq, h⟩ := L182 hS _ 0 rfl (by omega) [] [] (by simp) (by intro cs hc; simp at hc)
  rw [callP_body (af := g182) rfl rfl (by decide)]
  rw [g182L0_eq] at h
  simp at h
  simp [g182, g182L0_eq, h]

/-! ### What a name means -/
theorem any_none {r : List En} {a : En} : (r.any fun x => decide (x.name = a.name)) = true ↔ ∃ c, lkE r a.name = some c := by
  induction r with
  | nil => simp [lkE]
  | cons b r ih =>
    simp only [List.any_cons, Bool.or_eq_true, ih, lkE, decide_eq_true_eq]
    cases h : lkE r a.name with
    | some c => simp
    | none => by_cases e : b.name = a.name <;> simp [e]
theorem seen_sub (l : List En) : ∀ x ∈ seenE l, x ∈ l := by
  induction l with
  | nil => simp [seenE]
  | cons a r ih =>
    intro x hx
    simp only [seenE] at hx
    split at hx
    · simp [ih x hx]
    · simp at hx; rcases hx with rfl | hx
      · simp
      · simp [ih x hx]
theorem seen_len (l : List En) : (seenE l).length ≤ l.length := by
  induction l with
  | nil => simp [seenE]
  | cons a r ih =>
    simp only [seenE]
    split <;> simp <;> omega

/-! ### What law 19 makes -/
def varNames : List (List UInt8) := [[120], [121], [122], [102], [103], [118, 49], [118, 50], [105, 100]]
theorem c175 {L : List Int} (hL : Sm L) {i : Nat} (hi : i ≤ L.length) : ∃ (s : List UInt8) (j : Nat), (orcL AP).i 175 [.sptr 0 0] (tp L i) [] = some ([.pv (.str s)], tp L j, []) ∧ s ∈ varNames ∧ j ≤ L.length := by
  obtain ⟨k, j, e, k0, k8, hj⟩ := c68 hL hi (n := 8) (by omega) (by omega)
  obtain ⟨m, rfl, hm⟩ := natI (n := varNames.length) k0 (by simpa [varNames] using k8)
  obtain ⟨s, hs⟩ := getO hm
  refine ⟨s, j, ?_, memO hs, hj⟩
  simp at e
  rw [callI_body (af := g175) rfl (by simp [g175])]
  have hs' : ([PV.str [120], .str [121], .str [122], .str [102], .str [103], .str [118, 49], .str [118, 50], .str [105, 100]] : List PV)[m]? = some (.str s) := by
    have : ([PV.str [120], .str [121], .str [122], .str [102], .str [103], .str [118, 49], .str [118, 50], .str [105, 100]] : List PV) = varNames.map PV.str := rfl
    rw [this]; simp [hs]
  simp [-getElem?_pos, g175, e, hs']

/-- Quantifying some variables. -/
def closeS (ids : List Int) : List Int → List As → List As
  | [], acc => acc
  | v :: r, acc => closeS ids r (if v ∈ ids then acc ++ [⟨v, tyBound acc.length⟩] else acc)
def closeSc (ids : List Int) (t : Ty) (vs : List Int) : Sc := ⟨(closeS ids vs []).length, t.sub (closeS ids vs [])⟩

theorem L208 {t : Ty} {ids vs : List Int} (hS : Sm vs) (hi : Sm ids) : ∀ (n i : Nat), vs.length - i = n → i ≤ vs.length → ∀ acc : List As, acc.length ≤ i →
    cl AP g208L0 ⟨[(1, .pv (.lst (ids.map vI))), (2, .lptr 2 0), (4, .lptr 4 0), (5, .pv (.lst (vs.map vI))), (6, .own (acc.map As.pv) 0), (7, .pv (vI i))], [(2, [.pv (vI t.kind), .pv (.str t.name), .pv (vI t.id), .pv (vI t.home), .pv (.lst (t.args.map Ty.pv))]), (4, [.pv (vI 0), .pv (vI 0), .pv (.str []), .pv (vI 0), .pv (vI 0), .own [] 1])], [], [acc.length, 0]⟩ =
      some (.exit 0, ⟨[(1, .pv (.lst (ids.map vI))), (2, .lptr 2 0), (4, .lptr 4 0), (5, .pv (.lst (vs.map vI))), (6, .own ((closeS ids (vs.drop i) acc).map As.pv) 0), (7, .pv (vI vs.length)), (14, .pv (.bool false))], [(2, [.pv (vI t.kind), .pv (.str t.name), .pv (vI t.id), .pv (vI t.home), .pv (.lst (t.args.map Ty.pv))]), (4, [.pv (vI 0), .pv (vI 0), .pv (.str []), .pv (vI 0), .pv (vI 0), .own [] 1])], [], [(closeS ids (vs.drop i) acc).length, 0]⟩)
  | 0, i, hn, hi', acc, ha => by
    have : i = vs.length := by omega
    subst this
    rw [g208L0_eq]
    simp [g208B0, closeS]
  | n + 1, i, hn, hi', acc, ha => by
    have hi' : i < vs.length := by omega
    obtain ⟨x, hx⟩ := getO hi'
    unfold Sm at hS
    have k := c95 hi (y := x)
    have k2 := c72 (n := acc.length)
    have hb : (acc.length + 1) * 72 ≤ 140737488355328 := by omega
    rw [dropC hx]
    by_cases e : x ∈ ids
    · have ih := L208 (t := t) hS hi n (i + 1) (by omega) (by omega) (acc ++ [⟨x, tyBound acc.length⟩]) (by simp; omega)
      have ea : closeS ids (x :: vs.drop (i + 1)) acc = closeS ids (vs.drop (i + 1)) (acc ++ [⟨x, tyBound acc.length⟩]) := by simp [closeS, e]
      rw [ea]
      rw [g208L0_eq] at ih ⊢
      rw [decide_eq_true e] at k
      simp [tyBound] at ih k2
      simp (disch := omega) [-getElem?_pos, g208B0, hx, hi', k, k2, wrap_id, hb, tyBound]
      rw [g208L0_eq]
      simp [ih, tyBound]
    · have ih := L208 (t := t) hS hi n (i + 1) (by omega) (by omega) acc (by omega)
      have ea : closeS ids (x :: vs.drop (i + 1)) acc = closeS ids (vs.drop (i + 1)) acc := by simp [closeS, e]
      rw [ea]
      rw [g208L0_eq] at ih ⊢
      rw [decide_eq_false e] at k
      simp at ih
      simp (disch := omega) [-getElem?_pos, g208B0, hx, hi', k, wrap_id]
      rw [g208L0_eq]
      simp [ih]
theorem closeS_len {ids : List Int} : ∀ (vs : List Int) (acc : List As), (closeS ids vs acc).length ≤ acc.length + vs.length
  | [], acc => by simp [closeS]
  | v :: r, acc => by
    simp only [closeS]
    have := closeS_len (ids := ids) r (if v ∈ ids then acc ++ [⟨v, tyBound acc.length⟩] else acc)
    split at this <;> simp at this ⊢ <;> (split <;> simp_all <;> omega)

/-- Types whose variables are few. -/
structure FewV (t : Ty) : Prop where
  ok : t.Ok
  wf : t.Wf
  few : ∃ S : List Ty, S.length < 1099511627776 ∧ (∀ x ∈ S, x.Ok) ∧ ∀ x ∈ t.lvs 1, x ∈ S

theorem vars_nodup_len {t : Ty} (h : FewV t) : Sm (refVars [t]) := by
  obtain ⟨S, hf, hSo, hk⟩ := h.few
  have c0 : CollT S [] := ⟨by simp, by simp, hf, hSo⟩
  have := (c0.fold (l := [t].flatMap (Ty.lvs 1)) (by simpa using hk)).len
  unfold Sm at *
  have h2 := addN_len (l := ([t].flatMap (Ty.lvs 1)).foldl addT []) (out := [])
  unfold refVars
  simp at this h2 ⊢
  omega
theorem c208 {t : Ty} (h : FewV t) {ids : List Int} (hi : Sm ids) : (orcL AP).p 208 [t.pv, .lst (ids.map vI)] = some [(closeSc ids t (vars [t])).pv] := by
  obtain ⟨S, hf, hSo, hk⟩ := h.few
  have k1 := c56 hf hSo (l := [t]) (by simp [Sm]) (by simpa using h.ok) (by simpa using hk)
  have hv := vars_nodup_len h
  rw [refVars_eq (by simpa using h.wf)] at k1 hv
  have k2 := L208 (t := t) hv hi _ 0 rfl (by omega) [] (by simp)
  have hl := closeS_len (ids := ids) (vars [t]) []
  have k3 := c46 (s := closeS ids (vars [t]) []) (by unfold Sm at hv ⊢; simp at hl; omega) h.ok
  rw [callP_body (af := g208) rfl rfl (by decide)]
  rw [g208L0_eq] at k2
  simp at k1 k2 k3
  simp [g208, k1, g208L0_eq, k2, k3, closeSc]
end Go.Ab.Lw
namespace Go.Ab.Lw
open Ev
set_option maxRecDepth 10000
set_option linter.unusedSimpArgs false
theorem c70_3 {sh : Sh} (h : Calm sh) : (orcL AP).i 70 [.pv (vI 3)] sh [] = some ([.own ([tyVar 0, tyVar 1, tyVar 2].map Ty.pv) 0], sh, [3]) := by
  unfold Calm at h
  rw [callI_body (af := g70) rfl (by decide)]
  have c0 := c63 (n := 0); have c1 := c63 (n := 1); have c2 := c63 (n := 2)
  simp at c0 c1 c2
  simp (disch := omega) [-getElem?_pos, g70, g70L0_eq, g70B0, wrap_id, c0, c1, c2, h, tyVar]

def leavesE : List Ty := [tyVar 0, tyVar 1, tyVar 2, tyRigid 0 0]
theorem leavesE_bare : ∀ t, t ∈ leavesE → t.args = [] := by
  intro t ht
  simp [leavesE] at ht
  rcases ht with rfl | rfl | rfl | rfl <;> rfl

/-- The leaves of a made type are among the leaves. -/
theorem Made.lvs {lv : Ty → Prop} (h : ∀ t, lv t → t.args = []) {t : Ty} (m : Made lv t) {k : Int} (hk : k ≠ 4) : ∀ x ∈ t.lvs k, lv x := by
  induction m with
  | leaf hl =>
    intro x hx
    rw [Ty.lvs_eq, h _ hl] at hx
    split at hx
    · simp at hx; subst hx; exact hl
    · simp at hx
  | int =>
    intro x hx
    rw [Ty.lvs_eq] at hx
    simp [tyInt] at hx
    exact absurd hx.1.symm hk
  | con hd hl _ ih =>
    intro x hx
    rw [Ty.lvs_eq] at hx
    split at hx
    · rename_i e; exact absurd e.1.symm hk
    · simp only [List.mem_flatMap] at hx
      obtain ⟨y, hy, hx⟩ := hx
      exact ih y hy x hx
  | arrow _ _ ha hb =>
    intro x hx
    rw [Ty.lvs_eq] at hx
    simp at hx
    rcases hx with hx | hx
    · exact ha x hx
    · exact hb x hx
theorem bare_ok {t : Ty} (h : t.args = []) : t.Ok := ⟨by rw [h]; simp [Sm], by rw [h]; simp⟩
theorem Made.few {lv : List Ty} (hl : lv.length < 1099511627776) (h : ∀ t, t ∈ lv → t.args = []) {t : Ty} (m : Made (· ∈ lv) t) : FewV t :=
  ⟨m.ok h, m.wf h, lv, hl, fun x hx => bare_ok (h x hx), m.lvs h (by decide)⟩

theorem closeS_ok {ids : List Int} : ∀ (vs : List Int) (acc : List As), (∀ a ∈ acc, a.ty.Ok) → ∀ a ∈ closeS ids vs acc, a.ty.Ok
  | [], acc, h => by simpa [closeS] using h
  | v :: r, acc, h => by
    simp only [closeS]
    refine closeS_ok r _ ?_
    split
    · intro a ha
      simp at ha
      rcases ha with ha | rfl
      · exact h a ha
      · exact bare_ok rfl
    · exact h
theorem closeSc_ok {ids vs : List Int} {t : Ty} (h : t.Ok) : (closeSc ids t vs).ty.Ok := sub_ok (closeS_ok vs [] (by simp)) h

/-- A made entry. -/
def MadeE (lv : List Ty) (x : En) : Prop := x.name ∈ varNames ∧ ∃ t, Made (· ∈ lv) t ∧ (x.sc = ⟨0, t⟩ ∨ ∃ ids : List Int, ids.length = 2 ∧ x.sc = closeSc ids t (vars [t]))
theorem MadeE.ok {lv : List Ty} (h : ∀ t, t ∈ lv → t.args = []) {x : En} (m : MadeE lv x) : x.sc.ty.Ok := by
  obtain ⟨_, t, mt, e | ⟨ids, _, e⟩⟩ := m
  · rw [e]; exact mt.ok h
  · rw [e]; exact closeSc_ok (mt.ok h)

theorem c173 : (orcL AP).p 173 [] = some [.bool true] := Fc.p_of (k := 400) (n := 40) (by kernel_rfl)
end Go.Ab.Lw
namespace Go.Ab.Lw
open Ev
set_option maxRecDepth 10000
set_option linter.unusedSimpArgs false
/-- A type whose variables are among few. -/
structure Good (S : List Ty) (t : Ty) : Prop where
  ok : t.Ok
  wf : t.Wf
  sub : ∀ x ∈ t.lvs 1, x ∈ S

theorem nodes_var {t : Ty} (hW : t.Wf) : ∀ x ∈ t.nodes, x.kind = 1 → x ∈ t.lvs 1 := by
  revert hW
  refine Ty.rec1 (p := fun t => t.Wf → ∀ x ∈ t.nodes, x.kind = 1 → x ∈ t.lvs 1) ?_ t
  intro t ih hW x hx hk
  rw [Ty.nodes_eq] at hx
  rw [Ty.lvs_eq]
  simp only [List.mem_cons, List.mem_flatMap] at hx
  rcases hx with rfl | ⟨y, hy, hx⟩
  · have ea := hW.var hk
    simp [hk, ea]
  · have : ¬ (t.kind = 1 ∧ t.args.length = 0) := by
      rintro ⟨_, h⟩
      have : t.args = [] := by simpa using h
      rw [this] at hy; simp at hy
    rw [if_neg this]
    simp only [List.mem_flatMap]
    exact ⟨y, hy, ih y hy (hW.kid y hy) x hx hk⟩

theorem sub_lvs {s : List As} (hs : ∀ a ∈ s, a.ty.lvs 1 = []) {t : Ty} (hW : t.Wf) : ∀ x ∈ (t.sub s).lvs 1, x ∈ t.lvs 1 := by
  revert hW
  refine Ty.rec1 (p := fun t => t.Wf → ∀ x ∈ (t.sub s).lvs 1, x ∈ t.lvs 1) ?_ t
  intro t ih hW x hx
  rw [Ty.sub_eq] at hx
  split at hx
  · rename_i hk
    cases hf : fnd s t.id with
    | none => rw [hf] at hx; exact hx
    | some a =>
      rw [hf] at hx
      obtain ⟨b, hb, rfl⟩ := fnd_mem hf
      rw [Option.getD_some, hs b hb] at hx
      simp at hx
  · rename_i hk
    rw [Ty.lvs_eq] at hx
    rw [if_neg (fun h => hk h.1)] at hx
    rw [Ty.lvs_eq, if_neg (fun h => hk h.1)]
    simp only [List.mem_flatMap, List.mem_map] at hx ⊢
    obtain ⟨_, ⟨y, hy, rfl⟩, hx⟩ := hx
    exact ⟨y, hy, ih y hy (hW.kid y hy) x hx⟩
theorem closeS_all {P : Ty → Prop} (hP : ∀ n : Int, P (tyBound n)) {ids : List Int} : ∀ (vs : List Int) (acc : List As), (∀ a ∈ acc, P a.ty) → ∀ a ∈ closeS ids vs acc, P a.ty
  | [], acc, h => by simpa [closeS] using h
  | v :: r, acc, h => by
    simp only [closeS]
    refine closeS_all hP r _ ?_
    split
    · intro a ha
      simp at ha
      rcases ha with ha | rfl
      · exact h a ha
      · exact hP _
    · exact h
theorem tyBound_wf {n : Int} : (tyBound n).Wf := ⟨by simp [tyBound], by simp [tyBound]⟩
theorem tyBound_lvs {n : Int} : (tyBound n).lvs 1 = [] := by rw [Ty.lvs_eq]; simp [tyBound]
theorem Good.close {S : List Ty} {t : Ty} (h : Good S t) (ids vs : List Int) : Good S (closeSc ids t vs).ty where
  ok := closeSc_ok h.ok
  wf := sub_wf (closeS_all (P := Ty.Wf) (fun _ => tyBound_wf) vs [] (by simp)) h.wf
  sub := fun x hx => h.sub x (sub_lvs (closeS_all (P := fun t => t.lvs 1 = []) (fun _ => tyBound_lvs) vs [] (by simp)) h.wf x hx)
theorem Made.good {lv : List Ty} (h : ∀ t, t ∈ lv → t.args = []) {t : Ty} (m : Made (· ∈ lv) t) : Good lv t := ⟨m.ok h, m.wf h, m.lvs h (by decide)⟩
theorem MadeE.good {lv : List Ty} (h : ∀ t, t ∈ lv → t.args = []) {x : En} (m : MadeE lv x) : Good lv x.sc.ty := by
  obtain ⟨_, t, mt, e | ⟨ids, _, e⟩⟩ := m
  · rw [e]; exact mt.good h
  · rw [e]; exact (mt.good h).close _ _

theorem g56 {S : List Ty} (hf : S.length < 1099511627776) (hO : ∀ x ∈ S, x.Ok) {l : List Ty} (hS : Sm l) (hG : ∀ t ∈ l, Good S t) : (orcL AP).p 56 [.lst (l.map Ty.pv)] = some [.lst ((vars l).map vI)] := by
  rw [← refVars_eq (fun t ht => (hG t ht).wf)]
  refine c56 hf hO hS (fun t ht => (hG t ht).ok) ?_
  intro x hx
  simp only [List.mem_flatMap] at hx
  obtain ⟨t, ht, hx⟩ := hx
  exact (hG t ht).sub x hx

/-! ### The reference's -/
theorem L201 {l : List En} (hS : Sm l) : ∀ (n i : Nat), l.length - i = n → i ≤ l.length → ∀ acc : List En, acc.length ≤ i →
    cl AP g201L0 ⟨[(0, .pv (.lst (l.map En.pv))), (3, .own (acc.map En.pv) 0), (4, .pv (vI i))], [], [], [acc.length]⟩ =
      some (.exit 0, ⟨[(0, .pv (.lst (l.map En.pv))), (3, .own ((acc ++ seenE (l.drop i)).map En.pv) 0), (4, .pv (vI l.length)), (10, .pv (.bool false))], [], [], [(acc ++ seenE (l.drop i)).length]⟩)
  | 0, i, hn, hi, acc, ha => by
    have : i = l.length := by omega
    subst this
    rw [g201L0_eq]
    simp [g201B0, seenE]
  | n + 1, i, hn, hi, acc, ha => by
    have hi : i < l.length := by omega
    obtain ⟨x, hx⟩ := getO hi
    have k := c181 (l := l.drop (i + 1)) (s := x.name) (by unfold Sm at hS ⊢; simp; omega)
    unfold Sm at hS
    have hb : (acc.length + 1) * 88 ≤ 140737488355328 := by omega
    have hsl := slLo (sz := 7) (l := l.map En.pv) (k := .i64) (h := (i : Int) + 1) (by omega) (by simp; omega) (by simp)
    have hd : ((i : Int) + 1).toNat = i + 1 := by omega
    rw [hd] at hsl
    rw [dropC hx]
    simp only [rLk] at k
    cases e : lkE (l.drop (i + 1)) x.name with
    | some c =>
      have ea : (l.drop (i + 1)).any (fun y => decide (y.name = x.name)) = true := any_none.2 ⟨c, e⟩
      have es : seenE (x :: l.drop (i + 1)) = seenE (l.drop (i + 1)) := by simp only [seenE, ea, if_true]
      have ih := L201 hS n (i + 1) (by omega) (by omega) acc (by omega)
      rw [g201L0_eq] at ih ⊢
      rw [e] at k
      simp at ih k
      simp (disch := omega) [-getElem?_pos, g201B0, hx, hi, wrap_id, hsl, k, es]
      rw [g201L0_eq]
      simp [ih]
    | none =>
      have ea : (l.drop (i + 1)).any (fun y => decide (y.name = x.name)) = false := by
        cases h : (l.drop (i + 1)).any (fun y => decide (y.name = x.name)) with
        | false => rfl
        | true => obtain ⟨c, hc⟩ := any_none.1 h; rw [e] at hc; cases hc
      have es : seenE (x :: l.drop (i + 1)) = x :: seenE (l.drop (i + 1)) := by simp only [seenE, ea]; simp
      have ih := L201 hS n (i + 1) (by omega) (by omega) (acc ++ [x]) (by simp; omega)
      rw [g201L0_eq] at ih ⊢
      rw [e] at k
      simp at ih k
      simp (disch := omega) [-getElem?_pos, g201B0, hx, hi, wrap_id, hsl, k, es, hb]
      rw [g201L0_eq]
      simp [ih]
theorem c201 {l : List En} (hS : Sm l) : (orcL AP).p 201 [.lst (l.map En.pv)] = some [.lst ((seenE l).map En.pv)] := by
  have h := L201 hS _ 0 rfl (by omega) [] (by simp)
  rw [callP_body (af := g201) rfl rfl (by decide)]
  rw [g201L0_eq] at h
  simp at h
  simp [g201, g201L0_eq, h]

end Go.Ab.Lw
namespace Go.Ab.Lw
open Ev
set_option maxRecDepth 10000
set_option linter.unusedSimpArgs false
/-- A made type over leaves and data types. -/
inductive MadeG (D : Dt → Prop) (lv : List Ty) : Nat → Ty → Prop
  | leaf {n : Nat} {t : Ty} : t ∈ lv → MadeG D lv n t
  | int {n : Nat} : MadeG D lv n tyInt
  | con {n : Nat} {d : Dt} {args : List Ty} : D d → args.length = d.params.length → (∀ x ∈ args, MadeG D lv n x) → MadeG D lv (n + 1) ⟨4, d.name, 0, 0, args⟩
  | arrow {n : Nat} {a b : Ty} : MadeG D lv n a → MadeG D lv n b → MadeG D lv (n + 1) ⟨4, [45, 62], 0, 0, [a, b]⟩

/-- What the maker of types gives at a depth. -/
def GivesG (L : List Int) (ds : List Dt) (lv : List Ty) (dep : Nat) : Prop := ∀ i : Nat, i ≤ L.length → ∃ (t : Ty) (j : Nat),
  (orcL AP).i 27 [.sptr 0 0, .pv (.lst (ds.map Dt.pv)), .pv (.lst (lv.map Ty.pv)), .pv (vI dep)] (tp L i) [] = some ([t.av], tp L j, []) ∧ MadeG (· ∈ ds) lv dep t ∧ j ≤ L.length

theorem L27g {L : List Int} {ds : List Dt} {lv : List Ty} {dep : Nat} (hdep : dep < 1000) (hg : GivesG L ds lv dep) {d : Dt} (hS : Sm d.params) : ∀ (n k : Nat), d.params.length - k = n → k ≤ d.params.length → ∀ (acc : List Ty) (i : Nat), acc.length = k → (∀ x ∈ acc, MadeG (· ∈ ds) lv dep x) → i ≤ L.length →
    ∃ (r : List Ty) (j : Nat), cl AP g27L0 ⟨[(0, .sptr 0 0), (1, .pv (.lst (ds.map Dt.pv))), (2, .pv (.lst (lv.map Ty.pv))), (3, .pv (vI (dep + 1))), (8, .lptr 8 0), (10, .lptr 10 0), (11, .own (acc.map Ty.pv) 0), (12, .pv (vI k))],
      [(8, [.pv (vI 0), .pv (.str []), .pv (vI 0), .pv (vI 0), .own [] 1]), (10, [.pv (vI d.pos), .pv (.str d.name), .pv (.lst (d.params.map .str)), .pv (.lst (d.cons.map Con.pv))])], tp L i, [acc.length, 0]⟩ =
      some (.exit 1, ⟨[(0, .sptr 0 0), (1, .pv (.lst (ds.map Dt.pv))), (2, .pv (.lst (lv.map Ty.pv))), (3, .pv (vI (dep + 1))), (8, .lptr 8 0), (10, .lptr 10 0), (11, .own (r.map Ty.pv) 0), (12, .pv (vI d.params.length)), (65, .pv (.bool false))],
      [(8, [.pv (vI 0), .pv (.str []), .pv (vI 0), .pv (vI 0), .own [] 1]), (10, [.pv (vI d.pos), .pv (.str d.name), .pv (.lst (d.params.map .str)), .pv (.lst (d.cons.map Con.pv))])], tp L j, [r.length, 0]⟩) ∧
      r.length = d.params.length ∧ (∀ x ∈ r, MadeG (· ∈ ds) lv dep x) ∧ j ≤ L.length
  | 0, k, hn, hk, acc, i, ha, hm, hi => by
    have : k = d.params.length := by omega
    subst this
    refine ⟨acc, i, ?_, ha, hm, hi⟩
    rw [g27L0_eq]
    simp [g27B0]
  | n + 1, k, hn, hk, acc, i, ha, hm, hi => by
    unfold Sm at hS
    have hk : k < d.params.length := by omega
    have hb : (acc.length + 1) * 64 ≤ 140737488355328 := by omega
    obtain ⟨t, j, e, mt, hj⟩ := hg i hi
    simp at e
    obtain ⟨r, j', e', hr, hm', hj'⟩ := L27g hdep hg hS n (k + 1) (by omega) (by omega) (acc ++ [t]) j (by simp; omega) (by
      intro x hx; simp at hx; rcases hx with hx | rfl
      · exact hm x hx
      · exact mt) hj
    simp at e'
    refine ⟨r, j', ?_, hr, hm', hj'⟩
    rw [g27L0_eq]
    have h1 : (dep : Int) + 1 - 1 = dep := by omega
    simp (disch := omega) [-getElem?_pos, g27B0, hk, wrap_id, h1, e, hb]
    rw [e']

theorem g27_0 {L : List Int} (hL : Sm L) {ds : List Dt} {lv : List Ty} (hlv : Sm lv) : GivesG L ds lv 0 := by
  intro i hi
  obtain ⟨k, j1, e1, k0, k7, hj1⟩ := c68 hL hi (n := 7) (by omega) (by omega)
  simp at e1
  unfold Sm at hlv
  by_cases h1 : k < 3
  · by_cases h2 : lv = []
    · subst h2
      refine ⟨tyInt, j1, ?_, .int, hj1⟩
      have c := c34
      simp at c
      rw [callI_body (af := g27) rfl (by simp [g27])]
      simp [-getElem?_pos, g27, e1, h1, c, tyInt]
    · have hp : 0 < lv.length := List.length_pos_iff.2 h2
      obtain ⟨r, j2, e2, r0, r1, hj2⟩ := c68 hL hj1 (n := lv.length) (by omega) (by omega)
      obtain ⟨m, rfl, hm⟩ := natI r0 r1
      obtain ⟨x, hx⟩ := getO hm
      simp at e2
      refine ⟨x, j2, ?_, .leaf (memO hx), hj2⟩
      rw [callI_body (af := g27) rfl (by simp [g27])]
      simp [-getElem?_pos, g27, e1, h1, hp, e2, hx]
  · refine ⟨tyInt, j1, ?_, .int, hj1⟩
    have c := c34
    simp at c
    rw [callI_body (af := g27) rfl (by simp [g27])]
    simp [-getElem?_pos, g27, e1, h1, c, tyInt]

theorem g27_s {L : List Int} (hL : Sm L) {ds : List Dt} (hds : ds.length ≤ 20) (hda : ∀ d ∈ ds, d.params.length ≤ 8) {lv : List Ty} (hlv : Sm lv) {dep : Nat} (hdep : dep < 1000) (hg : GivesG L ds lv dep) : GivesG L ds lv (dep + 1) := by
  intro i hi
  obtain ⟨k, j1, e1, k0, k7, hj1⟩ := c68 hL hi (n := 7) (by omega) (by omega)
  simp at e1
  unfold Sm at hlv
  have hd1 : ¬ ((dep : Int) + 1 < 1) := by omega
  have hd2 : (dep : Int) + 1 - 1 = dep := by omega
  have leafCase : ∀ h1 : k < 3, ∀ h2 : ¬ lv = [], ∃ (t : Ty) (j : Nat), (orcL AP).i 27 [.sptr 0 0, .pv (.lst (ds.map Dt.pv)), .pv (.lst (lv.map Ty.pv)), .pv (vI ((dep + 1 : Nat) : Int))] (tp L i) [] = some ([t.av], tp L j, []) ∧ MadeG (· ∈ ds) lv (dep + 1) t ∧ j ≤ L.length := by
    intro h1 h2
    have hp : 0 < lv.length := List.length_pos_iff.2 h2
    obtain ⟨r, j2, e2, r0, r1, hj2⟩ := c68 hL hj1 (n := lv.length) (by omega) (by omega)
    obtain ⟨m, rfl, hm⟩ := natI r0 r1
    obtain ⟨x, hx⟩ := getO hm
    simp at e2
    refine ⟨x, j2, ?_, .leaf (memO hx), hj2⟩
    rw [callI_body (af := g27) rfl (by simp [g27])]
    simp [-getElem?_pos, g27, e1, h1, hp, e2, hx]
  by_cases h1 : k < 3 ∧ ¬ lv = []
  · exact leafCase h1.1 h1.2
  · have h1' : ¬ k < 3 ∨ lv = [] := by
      by_cases h : k < 3
      · right; by_cases h' : lv = []
        · exact h'
        · exact absurd ⟨h, h'⟩ h1
      · exact .inl h
    by_cases h2 : k < 4
    · refine ⟨tyInt, j1, ?_, .int, hj1⟩
      have c := c34
      simp at c
      rw [callI_body (af := g27) rfl (by simp [g27])]
      rcases h1' with h | h
      · simp [-getElem?_pos, g27, e1, h, h2, c, tyInt]
      · subst h
        simp [-getElem?_pos, g27, e1, h2, c, tyInt]
    · have h3 : ¬ k < 3 := by omega
      by_cases h4 : (k = 4 ∨ k = 5) ∧ ¬ ds = []
      · obtain ⟨h4, h5⟩ := h4
        have hp : 0 < ds.length := List.length_pos_iff.2 h5
        obtain ⟨r, j2, e2, r0, r1, hj2⟩ := c68 hL hj1 (n := ds.length) (by omega) (by omega)
        obtain ⟨m, rfl, hm⟩ := natI r0 r1
        obtain ⟨d, hx⟩ := getO hm
        simp at e2
        have hdm := memO hx
        have hps : Sm d.params := by
          unfold Sm
          have := hda d hdm
          omega
        obtain ⟨as, j3, e3, ha, hm3, hj3⟩ := L27g hdep hg hps d.params.length 0 rfl (by omega) [] j2 rfl (by simp) hj2
        rw [g27L0_eq] at e3
        simp at e3
        have hsa : Sm as := by unfold Sm at hps ⊢; omega
        have c := c62 (s := d.name) (l := as) hsa
        simp at c
        refine ⟨⟨4, d.name, 0, 0, as⟩, j3, ?_, .con hdm ha hm3, hj3⟩
        rw [callI_body (af := g27) rfl (by simp [g27])]
        rcases h4 with rfl | rfl
        · simp [-getElem?_pos, g27, e1, hp, hd1, e2, hx, g27L0_eq, e3, c]
        · simp [-getElem?_pos, g27, e1, hp, hd1, e2, hx, g27L0_eq, e3, c]
      · obtain ⟨a, j2, ea, ma, hj2⟩ := hg j1 hj1
        obtain ⟨b, j3, eb, mb, hj3⟩ := hg j2 hj2
        simp at ea eb
        have c := c69 (a := a) (b := b)
        simp at c
        refine ⟨⟨4, [45, 62], 0, 0, [a, b]⟩, j3, ?_, .arrow ma mb, hj3⟩
        rw [callI_body (af := g27) rfl (by simp [g27])]
        by_cases h5 : ds = []
        · subst h5
          simp at ea eb
          simp (disch := omega) [-getElem?_pos, g27, e1, h2, h3, hd1, hd2, wrap_id, ea, eb, c]
        · have h6 : ¬ k = 4 ∧ ¬ k = 5 := by
            constructor
            · intro h; exact h4 ⟨.inl h, h5⟩
            · intro h; exact h4 ⟨.inr h, h5⟩
          simp (disch := omega) [-getElem?_pos, g27, e1, h2, h3, h6.1, h6.2, hd1, hd2, wrap_id, ea, eb, c]
theorem mk27 {L : List Int} (hL : Sm L) {ds : List Dt} (hds : ds.length ≤ 20) (hda : ∀ d ∈ ds, d.params.length ≤ 8) {lv : List Ty} (hlv : Sm lv) : ∀ dep : Nat, dep < 1000 → GivesG L ds lv dep
  | 0, _ => g27_0 hL hlv
  | dep + 1, h => g27_s hL hds hda hlv (by omega) (mk27 hL hds hda hlv dep (by omega))

theorem MadeG.ok {D : Dt → Prop} (hD : ∀ d, D d → d.params.length ≤ 8) {lv : List Ty} (h : ∀ t ∈ lv, t.args = []) {n : Nat} {t : Ty} (m : MadeG D lv n t) : t.Ok := by
  induction m with
  | leaf hl => exact bare_ok (h _ hl)
  | int => exact bare_ok rfl
  | con hd hl _ ih => exact ⟨by have := hD _ hd; unfold Sm; simp; omega, ih⟩
  | arrow _ _ ha hb => exact ⟨by simp [Sm], by intro x hx; simp at hx; rcases hx with rfl | rfl <;> assumption⟩
theorem sum_le {f : Ty → List Ty} {b : Nat} : ∀ {l : List Ty}, (∀ x ∈ l, (f x).length ≤ b) → (l.flatMap f).length ≤ l.length * b
  | [], _ => by simp
  | a :: r, h => by
    have h1 := h a (by simp)
    have h2 := sum_le (f := f) (b := b) (l := r) (fun x hx => h x (by simp [hx]))
    simp only [List.flatMap_cons, List.length_append, List.length_cons, Nat.add_mul]
    omega
/-- Made types are small. -/
theorem MadeG.small {D : Dt → Prop} (hD : ∀ d, D d → d.params.length ≤ 8) {lv : List Ty} (h : ∀ t ∈ lv, t.args = []) {n : Nat} {t : Ty} (m : MadeG D lv n t) : t.nodes.length ≤ 9 ^ n := by
  have one : ∀ n : Nat, 1 ≤ 9 ^ n := fun n => Nat.one_le_pow n 9 (by decide)
  induction m with
  | leaf hl => rw [Ty.nodes_eq, h _ hl]; simpa using one _
  | int => rw [Ty.nodes_eq]; simpa [tyInt] using one _
  | @con n d args hd hl _ ih =>
    rw [Ty.nodes_eq]
    have h1 := sum_le (f := Ty.nodes) (l := args) ih
    have h2 := hD _ hd
    have h3 := one n
    have h4 : args.length * 9 ^ n ≤ 8 * 9 ^ n := Nat.mul_le_mul_right _ (by omega)
    simp only [List.length_cons, Nat.pow_succ]
    omega
  | @arrow n a b _ _ ha hb =>
    rw [Ty.nodes_eq]
    have h3 := one n
    simp only [List.length_cons, List.flatMap_cons, List.flatMap_nil, List.append_nil, List.length_append, Nat.pow_succ]
    omega
theorem MadeG.made {D : Dt → Prop} (hD : ∀ d, D d → d ∈ allDatas) {lv : List Ty} {n : Nat} {t : Ty} (m : MadeG D lv n t) : Made (· ∈ lv) t := by
  induction m with
  | leaf hl => exact .leaf hl
  | int => exact .int
  | con hd hl _ ih => exact .con (hD _ hd) hl ih
  | arrow _ _ ha hb => exact .arrow ha hb
end Go.Ab.Lw
namespace Go.Ab.Lw
open Ev
set_option maxRecDepth 10000
set_option linter.unusedSimpArgs false
def leavesK : List Ty := [tyVar 0, tyVar 1, tyVar 2, tyVar 3, tyRigid 0 0]
theorem leavesK_bare : ∀ t, t ∈ leavesK → t.args = [] := by
  intro t ht
  simp [leavesK] at ht
  rcases ht with rfl | rfl | rfl | rfl | rfl <;> rfl

end Go.Ab.Lw
namespace Go.Ab.Lw
open Ev
set_option maxRecDepth 10000
set_option linter.unusedSimpArgs false
/-- One more number. -/
def addU (out : List Int) (x : Int) : List Int := if x ∈ out then out else out ++ [x]
/-- The numbers of the nodes of kind 2. -/
def bnd (x : Ty) : List Int := if x.kind = 2 then [x.id] else []
def seqB (t : Ty) : List Int := t.nodes.flatMap bnd
theorem seqB_eq (t : Ty) : seqB t = bnd t ++ t.args.flatMap seqB := by
  unfold seqB
  rw [Ty.nodes_eq, List.flatMap_cons, List.flatMap_assoc]

/-! ### The reference's -/
end Go.Ab.Lw
namespace Go.Ab.Lw
open Ev
set_option maxRecDepth 10000
set_option linter.unusedSimpArgs false
mutual
def Ty.hasK (k : Int) : Ty → Bool
  | ⟨q, _, _, _, as⟩ => decide (q = k) || Ty.hasKs k as
def Ty.hasKs (k : Int) : List Ty → Bool
  | [] => false
  | a :: r => a.hasK k || Ty.hasKs k r
end
theorem Ty.hasKs_any (k : Int) : ∀ l : List Ty, Ty.hasKs k l = l.any (Ty.hasK k)
  | [] => by simp [Ty.hasKs]
  | a :: r => by simp [Ty.hasKs, Ty.hasKs_any k r]
theorem Ty.hasK_eq (k : Int) (t : Ty) : t.hasK k = (decide (t.kind = k) || t.args.any (Ty.hasK k)) := by
  cases t; simp only [Ty.hasK, Ty.hasKs_any]

/-- The quantified variables of a type in order. -/
def bndU (t : Ty) : List Int := (seqB t).foldl addU []
end Go.Ab.Lw
namespace Go.Ab.Lw
open Ev
set_option maxRecDepth 10000
set_option linter.unusedSimpArgs false
theorem mem_foldU : ∀ {l : List Int} {out : List Int} {x : Int}, x ∈ l.foldl addU out ↔ x ∈ out ∨ x ∈ l
  | [], _, _ => by simp
  | y :: l, out, x => by
    simp only [List.foldl_cons, mem_foldU, addU]
    split
    · rename_i h
      constructor
      · rintro (h1 | h1)
        · exact .inl h1
        · exact .inr (by simp [h1])
      · rintro (h1 | h1)
        · exact .inl h1
        · simp at h1
          rcases h1 with rfl | h1
          · exact .inl h
          · exact .inr h1
    · simp; constructor
      · rintro ((h1 | h1) | h1) <;> simp [h1]
      · rintro (h1 | h1 | h1) <;> simp [h1]
end Go.Ab.Lw
namespace Go.Ab.Lw
open Ev
set_option maxRecDepth 10000
set_option linter.unusedSimpArgs false
def gS (s : List As) (v : Int) : List Int := match fnd s v with | some u => seqB u | none => []
/-- The numbers of the variables in order. -/
def vr (x : Ty) : List Int := if x.kind = 1 then [x.id] else []
def seqV (t : Ty) : List Int := t.nodes.flatMap vr
theorem seqV_eq (t : Ty) : seqV t = vr t ++ t.args.flatMap seqV := by
  unfold seqV
  rw [Ty.nodes_eq, List.flatMap_cons, List.flatMap_assoc]
theorem flat_congr {α β : Type} {f g : α → List β} : ∀ {l : List α}, (∀ x ∈ l, f x = g x) → l.flatMap f = l.flatMap g
  | [], _ => rfl
  | x :: l, h => by simp only [List.flatMap_cons]; rw [h x (by simp), flat_congr (l := l) (fun y hy => h y (by simp [hy]))]
theorem seqB_sub {s : List As} {t : Ty} (hW : t.Wf) (hB : seqB t = []) : seqB (t.sub s) = (seqV t).flatMap (gS s) := by
  revert hW hB
  refine Ty.rec1 (p := fun t => t.Wf → seqB t = [] → seqB (t.sub s) = (seqV t).flatMap (gS s)) ?_ t
  intro t ih hW hB
  rw [seqB_eq] at hB
  have hb : bnd t = [] := (List.append_eq_nil_iff.1 hB).1
  have ha : ∀ x ∈ t.args, seqB x = [] := by
    have := (List.append_eq_nil_iff.1 hB).2
    simpa [List.flatMap_eq_nil_iff] using this
  rw [Ty.sub_eq, seqV_eq]
  by_cases e : t.kind = 1
  · have ea := hW.var e
    rw [if_pos e]
    simp [vr, e, ea, gS]
    cases hf : fnd s t.id with
    | none => simp [seqB_eq, hb, ea]
    | some u => simp
  · rw [if_neg e]
    have hb' : bnd ⟨t.kind, t.name, t.id, t.home, t.args.map (Ty.sub s)⟩ = [] := by simpa [bnd] using hb
    rw [seqB_eq, hb']
    simp [vr, e]
    rw [List.flatMap_assoc, List.flatMap_map]
    exact flat_congr (fun x hx => ih x hx (hW.kid x hx) (ha x hx))

theorem vars1 {t : Ty} : vars [t] = (seqV t).foldl addU [] := by
  unfold vars seqV
  simp only [List.flatMap_cons, List.flatMap_nil, List.append_nil]
  generalize ([] : List Int) = out
  generalize t.nodes = l
  induction l generalizing out with
  | nil => rfl
  | cons x l ih =>
    simp only [List.foldl_cons, List.flatMap_cons, List.foldl_append]
    rw [ih]
    congr 1
    by_cases e : x.kind = 1
    · by_cases e2 : x.id ∈ out <;> simp [addI, vr, e, addU, e2]
    · simp [addI, vr, e]

def enumK : Nat → List Int → List As
  | _, [] => []
  | n, v :: r => ⟨v, tyBound n⟩ :: enumK (n + 1) r
theorem enumK_len : ∀ {l : List Int} {n : Nat}, (enumK n l).length = l.length
  | [], _ => rfl
  | v :: r, n => by simp [enumK, enumK_len]
theorem closeS_enum {ids : List Int} : ∀ (vs : List Int) (acc : List As), closeS ids vs acc = acc ++ enumK acc.length (vs.filter (fun v => decide (v ∈ ids)))
  | [], acc => by simp [closeS, enumK]
  | v :: r, acc => by
    simp only [closeS]
    by_cases e : v ∈ ids
    · rw [if_pos e, closeS_enum r]
      simp [e, enumK]
    · rw [if_neg e, closeS_enum r]
      simp [e]
theorem fnd_new {v : Int} : ∀ {A B : List Int} {n : Nat}, v ∉ A → fnd (enumK n (A ++ v :: B)) v = some (tyBound (n + A.length : Nat))
  | [], B, n, _ => by simp [enumK, fnd]
  | a :: A, B, n, h => by
    simp at h
    have h1 : ¬ a = v := fun e => h.1 e.symm
    have ih := fnd_new (v := v) (A := A) (B := B) (n := n + 1) h.2
    rw [show n + (a :: A).length = n + 1 + A.length from by simp only [List.length_cons]; omega]
    simp [enumK, fnd, h1, ih]
theorem fnd_old {v : Int} : ∀ {A B : List Int} {n : Nat}, v ∈ A → ∃ i : Nat, i < A.length ∧ fnd (enumK n (A ++ B)) v = some (tyBound (n + i : Nat))
  | a :: A, B, n, h => by
    by_cases e : a = v
    · exact ⟨0, by simp, by simp [enumK, fnd, e]⟩
    · have e' : ¬ v = a := fun h => e h.symm
      simp [e'] at h
      obtain ⟨i, hi, ih⟩ := fnd_old (v := v) (A := A) (B := B) (n := n + 1) h
      refine ⟨i + 1, by simp; omega, ?_⟩
      rw [show n + (i + 1) = n + 1 + i from by omega]
      simp [enumK, fnd, e, ih]
theorem fnd_no {v : Int} : ∀ {A : List Int} {n : Nat}, v ∉ A → fnd (enumK n A) v = none
  | [], _, _ => rfl
  | a :: A, n, h => by
    simp at h
    have h1 : ¬ a = v := fun e => h.1 e.symm
    simp [enumK, fnd, h1, fnd_no h.2]
theorem seqB_bound {n : Int} : seqB (tyBound n) = [n] := by rw [seqB_eq]; simp [tyBound, bnd]

/-- 0, 1, .. -/
def iR : Nat → List Int
  | 0 => []
  | n + 1 => iR n ++ [(n : Int)]
theorem mem_iR {x : Int} : ∀ {n : Nat}, x ∈ iR n ↔ 0 ≤ x ∧ x < n
  | 0 => by simp [iR]
  | n + 1 => by simp [iR, mem_iR (n := n)]; omega
theorem pre_foldU : ∀ {q D : List Int}, ∃ e, q.foldl addU D = D ++ e
  | [], D => ⟨[], by simp⟩
  | v :: r, D => by
    obtain ⟨e, h⟩ := pre_foldU (q := r) (D := addU D v)
    simp only [List.foldl_cons, h]
    unfold addU
    split
    · exact ⟨e, rfl⟩
    · exact ⟨v :: e, by simp⟩

theorem order {ids vs : List Int} : ∀ {q D : List Int}, vs = q.foldl addU D →
    (q.flatMap (gS (enumK 0 (vs.filter fun v => decide (v ∈ ids))))).foldl addU (iR (D.filter fun v => decide (v ∈ ids)).length) = iR (vs.filter fun v => decide (v ∈ ids)).length
  | [], D, h => by simp at h; subst h; simp
  | v :: r, D, h => by
    simp only [List.foldl_cons] at h
    have ih := order (ids := ids) (q := r) (D := addU D v) h
    rw [← ih, List.flatMap_cons, List.foldl_append]
    congr 1
    obtain ⟨e, he⟩ := pre_foldU (q := r) (D := addU D v)
    rw [he] at h
    by_cases hd : v ∈ D
    · have ed : addU D v = D := by simp [addU, hd]
      rw [ed] at h ⊢
      by_cases hi : v ∈ ids
      · obtain ⟨i, hil, hf⟩ := fnd_old (v := v) (A := D.filter fun v => decide (v ∈ ids)) (B := e.filter fun v => decide (v ∈ ids)) (n := 0) (by simp [hd, hi])
        rw [← List.filter_append, ← h] at hf
        have hg : gS (enumK 0 (vs.filter fun v => decide (v ∈ ids))) v = [(i : Int)] := by simp [gS, hf, seqB_bound]
        rw [hg]
        have : (i : Int) ∈ iR (D.filter fun v => decide (v ∈ ids)).length := mem_iR.2 ⟨by omega, by omega⟩
        simp [addU, this]
      · have hg : gS (enumK 0 (vs.filter fun v => decide (v ∈ ids))) v = [] := by
          have : v ∉ vs.filter fun v => decide (v ∈ ids) := by simp [hi]
          simp [gS, fnd_no this]
        rw [hg]
        rfl
    · have ed : addU D v = D ++ [v] := by simp [addU, hd]
      rw [ed] at h ⊢
      by_cases hi : v ∈ ids
      · have hf := fnd_new (v := v) (A := D.filter fun v => decide (v ∈ ids)) (B := e.filter fun v => decide (v ∈ ids)) (n := 0) (by simp [hd])
        have ef : (D.filter fun v => decide (v ∈ ids)) ++ v :: (e.filter fun v => decide (v ∈ ids)) = vs.filter fun v => decide (v ∈ ids) := by rw [h]; simp [hi]
        rw [ef] at hf
        have hg : gS (enumK 0 (vs.filter fun v => decide (v ∈ ids))) v = [((D.filter fun v => decide (v ∈ ids)).length : Int)] := by simp [gS, hf, seqB_bound]
        rw [hg]
        have : ((D.filter fun v => decide (v ∈ ids)).length : Int) ∉ iR (D.filter fun v => decide (v ∈ ids)).length := by rw [mem_iR]; omega
        simp [addU, this, hi, iR]
      · have hg : gS (enumK 0 (vs.filter fun v => decide (v ∈ ids))) v = [] := by
          have : v ∉ vs.filter fun v => decide (v ∈ ids) := by simp [hi]
          simp [gS, fnd_no this]
        rw [hg]
        simp [hi]

theorem bndU_close {t : Ty} {ids : List Int} (hW : t.Wf) (hB : seqB t = []) : bndU (closeSc ids t (vars [t])).ty = iR (closeSc ids t (vars [t])).id.toNat ∧ 0 ≤ (closeSc ids t (vars [t])).id := by
  unfold closeSc bndU
  simp only [closeS_enum, List.nil_append, List.length_nil, enumK_len]
  refine ⟨?_, by omega⟩
  rw [seqB_sub hW hB, vars1]
  have := order (ids := ids) (q := seqV t) (D := []) rfl
  simpa [iR] using this
end Go.Ab.Lw
namespace Go.Ab.Lw
open Ev
set_option maxRecDepth 10000
set_option linter.unusedSimpArgs false
/-- What a map from numbers to types holds. -/
abbrev Mt := List (Int × Ty)
def fndM : Mt → Int → Option Ty
  | [], _ => none
  | (j, x) :: r, i => if i = j then some x else fndM r i
def putT : Mt → Int → Ty → Mt
  | [], i, t => [(i, t)]
  | (j, x) :: r, i, t => if i = j then (i, t) :: r else (j, x) :: putT r i t
def mp (m : Mt) : List (PV × PV) := m.map fun a => (vI a.1, a.2.pv)
theorem findKV_mp {i : Int} : ∀ {m : Mt}, findKV .int (mp m) (vI i) = some ((fndM m i).map Ty.pv)
  | [] => rfl
  | (j, x) :: r => by
    have ih := findKV_mp (i := i) (m := r)
    unfold mp at ih ⊢
    simp only [List.map_cons, findKV, fndM, keyEq]
    by_cases e : i = j
    · rw [if_pos e, show (i == j) = true from by simp [e]]; rfl
    · rw [if_neg e, show (i == j) = false from by simp [e]]; exact ih
theorem putKV_mp {i : Int} {t : Ty} : ∀ {m : Mt}, putKV .int (mp m) (vI i) t.pv = some (mp (putT m i t))
  | [] => rfl
  | (j, x) :: r => by
    have ih := putKV_mp (i := i) (t := t) (m := r)
    unfold mp at ih ⊢
    simp only [List.map_cons, putKV, putT, keyEq]
    by_cases e : i = j
    · rw [if_pos e, show (i == j) = true from by simp [e]]; rfl
    · rw [if_neg e, show (i == j) = false from by simp [e]]
      exact congrArg (Option.map (fun q => (vI j, x.pv) :: q)) ih
theorem fnd_put {i j : Int} {t : Ty} : ∀ {m : Mt}, fndM (putT m i t) j = if j = i then some t else fndM m j
  | [] => by simp [putT, fndM]
  | (k, x) :: r => by
    have ih := fnd_put (i := i) (j := j) (t := t) (m := r)
    simp only [putT, fndM]
    by_cases e : i = k
    · subst e
      by_cases e2 : j = i <;> simp [fndM, e2]
    · by_cases e2 : j = i
      · subst e2; simp [fndM, e, ih]
      · have e' : ¬ k = i := fun h => e h.symm
        by_cases e3 : j = k <;> simp [fndM, e, e', e2, e3, ih]

def MOk (m : Mt) : Prop := ∀ i x, fndM m i = some x → x.Ok
theorem MOk.put {m : Mt} (h : MOk m) {t : Ty} (ht : t.Ok) {i : Int} : MOk (putT m i t) := by
  intro j x hx
  rw [fnd_put] at hx
  split at hx
  · cases hx; exact ht
  · exact h j x hx

/-- The heads of two types agree. -/
def hdB (p t : Ty) : Bool := decide (p.kind = t.kind) && decide (p.name = t.name) && decide (p.id = t.id) && decide (p.home = t.home) && decide (p.args.length = t.args.length)
/-- The match of a quantified variable. -/
noncomputable def mtV (m : Mt) (i : Int) (t : Ty) : Bool := match fndM m i with | none => true | some x => decide (x = t)

mutual
noncomputable def Ty.mt (t : Ty) (m : Mt) : Ty → Bool × Mt
  | ⟨k, n, i, h, as⟩ => if k = 2 then (mtV m i t, putT m i t) else if hdB ⟨k, n, i, h, as⟩ t = true then Ty.mtL t.args m as else (false, m)
noncomputable def Ty.mtL (ts : List Ty) (m : Mt) : List Ty → Bool × Mt
  | [] => (true, m)
  | p :: ps => match ts with
    | [] => (true, m)
    | t :: ts => if (Ty.mt t m p).1 = true then Ty.mtL ts (Ty.mt t m p).2 ps else (false, (Ty.mt t m p).2)
end
theorem Ty.mt_eq (t : Ty) (m : Mt) (p : Ty) : Ty.mt t m p = if p.kind = 2 then (mtV m p.id t, putT m p.id t) else if hdB p t = true then Ty.mtL t.args m p.args else (false, m) := by
  cases p; simp only [Ty.mt]
theorem mtL_ok : ∀ {ps ts : List Ty} {m : Mt}, (∀ p ∈ ps, ∀ t ∈ ts, ∀ m, MOk m → MOk (Ty.mt t m p).2) → MOk m → MOk (Ty.mtL ts m ps).2
  | [], ts, m, _, h => by simpa [Ty.mtL] using h
  | p :: ps, [], m, _, h => by simpa [Ty.mtL] using h
  | p :: ps, t :: ts, m, hp, h => by
    have h1 := hp p (by simp) t (by simp) m h
    simp only [Ty.mtL]
    split
    · exact mtL_ok (fun q hq u hu => hp q (by simp [hq]) u (by simp [hu])) h1
    · exact h1
theorem mt_ok {p : Ty} : ∀ {t : Ty}, t.Ok → ∀ m, MOk m → MOk (Ty.mt t m p).2 := by
  refine Ty.rec1 (p := fun p => ∀ {t : Ty}, t.Ok → ∀ m, MOk m → MOk (Ty.mt t m p).2) ?_ p
  intro p ih t ht m hm
  rw [Ty.mt_eq]
  split
  · exact hm.put ht
  · split
    · exact mtL_ok (fun q hq u hu m hm => ih q hq (ht.kid u hu) m hm) hm
    · exact hm

def shM (m : Mt) : Sh := [some [.mapc (mp m)]]
theorem L239 {p t : Ty} (hS : Sm t.args) (hl : p.args.length = t.args.length) (h : ∀ x ∈ p.args, ∀ y ∈ t.args, ∀ m, MOk m → (orcL AP).i 239 [.mref 0, .pv x.pv, .pv y.pv] (shM m) [] = some ([.pv (.bool (Ty.mt y m x).1)], shM (Ty.mt y m x).2, []))
    (hO : t.Ok) : ∀ (n i : Nat), t.args.length - i = n → i ≤ t.args.length → ∀ m, MOk m →
    cl AP g239L0 ⟨[(0, .mref 0), (4, .lptr 4 0), (5, .lptr 5 0), (68, .pv (vI t.args.length)), (69, .pv (vI i))], [(4, [.pv (vI p.kind), .pv (.str p.name), .pv (vI p.id), .pv (vI p.home), .pv (.lst (p.args.map Ty.pv))]), (5, [.pv (vI t.kind), .pv (.str t.name), .pv (vI t.id), .pv (vI t.home), .pv (.lst (t.args.map Ty.pv))])], shM m, []⟩ =
      if (Ty.mtL (t.args.drop i) m (p.args.drop i)).1 = true then some (.exit 0, ⟨[(0, .mref 0), (4, .lptr 4 0), (5, .lptr 5 0), (68, .pv (vI t.args.length)), (69, .pv (vI t.args.length)), (70, .pv (.bool false))], [(4, [.pv (vI p.kind), .pv (.str p.name), .pv (vI p.id), .pv (vI p.home), .pv (.lst (p.args.map Ty.pv))]), (5, [.pv (vI t.kind), .pv (.str t.name), .pv (vI t.id), .pv (vI t.home), .pv (.lst (t.args.map Ty.pv))])], shM (Ty.mtL (t.args.drop i) m (p.args.drop i)).2, []⟩)
      else some (.ret, ⟨[(6, .pv (.bool false))], [], shM (Ty.mtL (t.args.drop i) m (p.args.drop i)).2, []⟩)
  | 0, i, hn, hi, m, hm => by
    have : i = t.args.length := by omega
    subst this
    have e1 : p.args.drop t.args.length = [] := by rw [← hl]; simp
    rw [g239L0_eq, e1]
    simp [g239B0, Ty.mtL, shM]
  | n + 1, i, hn, hi, m, hm => by
    have hi : i < t.args.length := by omega
    obtain ⟨y, hy⟩ := getO hi
    obtain ⟨x, hx⟩ := getO (l := p.args) (i := i) (by omega)
    have hix : i < p.args.length := by omega
    unfold Sm at hS
    have k := h x (memO hx) y (memO hy) m hm
    have ih := L239 hS hl h hO n (i + 1) (by omega) (by omega) (Ty.mt y m x).2 (mt_ok (hO.kid y (memO hy)) m hm)
    rw [g239L0_eq] at ih ⊢
    rw [dropC hx, dropC hy]
    simp only [Ty.mtL]
    simp [shM] at k ih
    by_cases e : (Ty.mt y m x).1 = true
    · rw [e] at k
      simp only [if_pos e]
      simp (disch := omega) [-getElem?_pos, g239B0, hx, hy, hi, hix, k, wrap_id, shM]
      rw [g239L0_eq]
      simp [ih, shM]
    · have e' : (Ty.mt y m x).1 = false := by simpa using e
      rw [e'] at k
      simp only [if_neg e]
      simp (disch := omega) [-getElem?_pos, g239B0, hx, hy, hi, hix, k, wrap_id, shM]

theorem c239 {p : Ty} : ∀ {t : Ty}, t.Ok → ∀ m, MOk m → (orcL AP).i 239 [.mref 0, .pv p.pv, .pv t.pv] (shM m) [] = some ([.pv (.bool (Ty.mt t m p).1)], shM (Ty.mt t m p).2, []) := by
  refine Ty.rec1 (p := fun p => ∀ {t : Ty}, t.Ok → ∀ m, MOk m → (orcL AP).i 239 [.mref 0, .pv p.pv, .pv t.pv] (shM m) [] = some ([.pv (.bool (Ty.mt t m p).1)], shM (Ty.mt t m p).2, [])) ?_ p
  intro p ih t ht m hm
  rw [callI_body (af := g239) rfl (by simp [g239]), Ty.mt_eq]
  by_cases e2 : p.kind = 2
  · have f1 := findKV_mp (m := m) (i := p.id)
    have f2 := putKV_mp (m := m) (i := p.id) (t := t)
    simp only [e2, if_true]
    unfold mtV
    cases hf : fndM m p.id with
    | none =>
      rw [hf] at f1
      simp at f1 f2
      simp [g239, e2, shM, f1, f2]
    | some x =>
      have k := c33 (a := x) (b := t) (hm _ _ hf)
      have hc : (cmpT x t == 0) = decide (x = t) := by rw [Bool.eq_iff_iff]; simp [cmpT_zero]
      rw [hc] at k
      rw [hf] at f1
      simp at f1 f2 k
      simp [g239, e2, shM, f1, f2, k]
  · rw [if_neg e2]
    by_cases e : hdB p t = true
    · rw [if_pos e]
      simp [hdB] at e
      obtain ⟨⟨⟨⟨h1, h2⟩, h3⟩, h4⟩, h5⟩ := e
      have h := L239 (p := p) (t := t) ht.sm h5 (fun x hx y hy m hm => ih x hx (ht.kid y hy) m hm) ht _ 0 rfl (by omega) m hm
      rw [g239L0_eq] at h
      have e2' : ¬ t.kind = 2 := by rw [← h1]; exact e2
      simp [shM, h1, h2, h3, h4] at h
      cases e3 : (Ty.mtL t.args m p.args).1 with
      | true => simp [e3] at h; simp [g239, e2', h1, h2, h3, h4, h5, shM, g239L0_eq, h]
      | false => simp [e3] at h; simp [g239, e2', h1, h2, h3, h4, h5, shM, g239L0_eq, h]
    · rw [if_neg e]
      have : ¬ (p.kind = t.kind ∧ p.name = t.name ∧ p.id = t.id ∧ p.home = t.home ∧ p.args.length = t.args.length) := by
        rintro ⟨h1, h2, h3, h4, h5⟩; apply e; simp [hdB, h1, h2, h3, h4, h5]
      by_cases h1 : p.kind = t.kind
      · have e2' : ¬ t.kind = 2 := by rw [← h1]; exact e2
        by_cases h2 : p.name = t.name
        · by_cases h3 : p.id = t.id
          · by_cases h4 : p.home = t.home
            · have h5 : ¬ p.args.length = t.args.length := fun h5 => this ⟨h1, h2, h3, h4, h5⟩
              have h5' : ¬ (p.args.length : Int) = t.args.length := by omega
              simp [g239, e2', h1, h2, h3, h4, h5', shM]
            · simp [g239, e2', h1, h2, h3, h4, shM]
          · simp [g239, e2', h1, h2, h3, shM]
        · simp [g239, e2', h1, h2, shM]
      · simp [g239, e2, h1, shM]
end Go.Ab.Lw
namespace Go.Ab.Lw
open Ev
set_option maxRecDepth 10000
set_option linter.unusedSimpArgs false
def Few2 (t : Ty) : Prop := t.nodes.length ≤ 4611686018427387904
theorem L49 {t : Ty} (hS : Sm t.args) (h : ∀ x ∈ t.args, Few2 x → (orcL AP).p 49 [x.pv] = some [vI x.nodes.length]) : ∀ (n i : Nat), t.args.length - i = n → i ≤ t.args.length → ∀ a : Nat, a + ((t.args.drop i).flatMap Ty.nodes).length ≤ 4611686018427387904 →
    cl AP g49L0 ⟨[(3, .pv (vI a)), (7, .pv (.lst (t.args.map Ty.pv))), (8, .pv (vI t.args.length)), (9, .pv (vI i))], [], [], []⟩ =
      some (.exit 0, ⟨[(3, .pv (vI (a + ((t.args.drop i).flatMap Ty.nodes).length : Nat))), (7, .pv (.lst (t.args.map Ty.pv))), (8, .pv (vI t.args.length)), (9, .pv (vI t.args.length)), (10, .pv (.bool false))], [], [], []⟩)
  | 0, i, hn, hi, a, ha => by
    have : i = t.args.length := by omega
    subst this
    rw [g49L0_eq]
    simp [g49B0]
  | n + 1, i, hn, hi, a, ha => by
    have hi : i < t.args.length := by omega
    obtain ⟨x, hx⟩ := getO hi
    unfold Sm at hS
    rw [dropC hx, List.flatMap_cons, List.length_append] at ha
    have k := h x (memO hx) (by unfold Few2; omega)
    have ih := L49 hS h n (i + 1) (by omega) (by omega) (a + x.nodes.length) (by omega)
    rw [g49L0_eq] at ih ⊢
    rw [dropC hx, List.flatMap_cons, List.length_append]
    generalize ((t.args.drop (i + 1)).flatMap Ty.nodes).length = q at ih ha ⊢
    generalize x.nodes.length = b at ih ha k ⊢
    have e1 : ((a : Int) + b + q) = a + (b + q) := by omega
    simp at ih k
    rw [e1] at ih
    simp (disch := omega) [-getElem?_pos, g49B0, hx, hi, k, wrap_id]
    rw [g49L0_eq]
    simp [ih]
theorem c49 {t : Ty} (hO : t.Ok) (hf : Few2 t) : (orcL AP).p 49 [t.pv] = some [vI t.nodes.length] := by
  revert hO hf
  refine Ty.rec1 (p := fun t => t.Ok → Few2 t → (orcL AP).p 49 [t.pv] = some [vI t.nodes.length]) ?_ t
  intro t ih hO hf
  unfold Few2 at hf
  rw [Ty.nodes_eq] at hf ⊢
  simp only [List.length_cons] at hf ⊢
  have h := L49 hO.sm (fun x hx => ih x hx (hO.kid x hx)) _ 0 rfl (by omega) 1 (by simp only [List.drop_zero]; omega)
  rw [g49L0_eq] at h
  simp only [List.drop_zero] at h
  generalize (t.args.flatMap Ty.nodes).length = q at h ⊢
  rw [callP_body (af := g49) rfl rfl (by decide)]
  have e : ((1 : Int) + q) = q + 1 := by omega
  simp [e] at h
  simp [g49, g49L0_eq, h]

/-- What an instance is made of. -/
def zTy : Ty := ⟨0, [], 0, 0, []⟩
def fillM (m : Mt) (n : Nat) : List Ty := (List.range n).map fun i : Nat => (fndM m i).getD zTy
theorem fillM_len {m : Mt} {n : Nat} : (fillM m n).length = n := by simp [fillM]
theorem fillM_succ {m : Mt} {n : Nat} : fillM m (n + 1) = fillM m n ++ [(fndM m n).getD zTy] := by simp [fillM, List.range_succ]
theorem L237 {m : Mt} {N : Nat} (hN : N < 1099511627776) : ∀ (n i : Nat), N - i = n → i ≤ N →
    cl AP g237L0 ⟨[(6, .mref 0), (7, .sarr 1 5 N true), (25, .pv (vI N)), (26, .pv (vI i))], [], [some [.mapc (mp m)], some (arrC (fillM m i) n)], []⟩ =
      some (.exit 0, ⟨[(6, .mref 0), (7, .sarr 1 5 N true), (25, .pv (vI N)), (26, .pv (vI N)), (27, .pv (.bool false))], [], [some [.mapc (mp m)], some (arrC (fillM m N) 0)], []⟩)
  | 0, i, hn, hi => by
    have : i = N := by omega
    subst this
    have hQ : Quiet [some (arrC (fillM m i) 0)] := Quiet.one arrC_pv
    have h1 := hQ.norm
    simp at h1
    rw [g237L0_eq]
    simp [g237B0, h1]
  | n + 1, i, hn, hi => by
    have hi : i < N := by omega
    have hQ : Quiet [some (arrC (fillM m i) (n + 1))] := Quiet.one arrC_pv
    have hQ2 : Quiet [some (arrC (fillM m (i + 1)) n)] := Quiet.one arrC_pv
    have ih := L237 (m := m) hN n (i + 1) (by omega) (by omega)
    have hset : ∀ t : Ty, t = (fndM m i).getD zTy → setRange (arrC (fillM m i) (n + 1)) (i * 5) t.cl = arrC (fillM m (i + 1)) n := by
      intro t ht
      rw [fillM_succ, ← ht]
      have := arrC_set (d := fillM m i) (m := n) (t := t)
      rwa [fillM_len] at this
    have hlen : i * 5 + 5 ≤ (arrC (fillM m i) (n + 1)).length := by rw [arrC_len, fillM_len]; omega
    have h1 := hQ.norm
    have h2 := hQ2.norm
    have f1 := findKV_mp (m := m) (i := i)
    simp at h1 h2
    rw [g237L0_eq] at ih ⊢
    cases hf : fndM m i with
    | none =>
      have hs := hset zTy (by rw [hf]; rfl)
      rw [hf] at f1
      simp [Ty.cl, h2, zTy] at ih hs f1
      simp (disch := omega) [-getElem?_pos, g237B0, hi, h1, f1, hs, hlen, wrap_id]
      rw [g237L0_eq]
      simp [ih, h2]
    | some x =>
      have hs := hset x (by rw [hf]; rfl)
      rw [hf] at f1
      simp [Ty.cl, h2] at ih hs f1
      simp (disch := omega) [-getElem?_pos, g237B0, hi, h1, f1, hs, hlen, wrap_id]
      rw [g237L0_eq]
      simp [ih, h2]

def rI : Option (List Ty) → List PV
  | some l => [.lst (l.map Ty.pv), .bool true]
  | none => [.lst [], .bool false]
/-- The program's Instance. -/
noncomputable def instP (c : Sc) (t : Ty) : Option (List Ty) := if (Ty.mt t [] c.ty).1 = true then some (fillM (Ty.mt t [] c.ty).2 (min c.id.toNat c.ty.nodes.length)) else none
theorem c237 {c : Sc} (hO : c.ty.Ok) (hf : c.ty.nodes.length < 1000000) {t : Ty} (ht : t.Ok) : (orcL AP).p 237 [c.pv, t.pv] = some (rI (instP c t)) := by
  have k1 := c239 (p := c.ty) ht [] (by intro i x h; cases h)
  have k2 := c49 hO (by unfold Few2; omega)
  rw [callP_body (af := g237) rfl rfl (by decide)]
  unfold instP
  simp [shM, mp] at k1 k2
  cases e : (Ty.mt t [] c.ty).1 with
  | false => rw [e] at k1; simp [g237, k1, rI]
  | true =>
    rw [e] at k1
    generalize hm : (Ty.mt t [] c.ty).2 = m at k1 ⊢
    have hN : ∃ N : Nat, N = min c.id.toNat c.ty.nodes.length ∧ (if (c.ty.nodes.length : Int) < (if (0 : Int) > c.id then 0 else c.id) then (c.ty.nodes.length : Int) else (if (0 : Int) > c.id then 0 else c.id)) = N := by
      refine ⟨_, rfl, ?_⟩
      split <;> split <;> omega
    obtain ⟨N, hN1, hN2⟩ := hN
    have h := L237 (m := m) (N := N) (by omega) _ 0 rfl (by omega)
    have hz : arrC [] N = (List.replicate N [.pv (vI 0), .pv (.str []), .pv (vI 0), .pv (vI 0), .pv (.lst [])]).flatten := by simp [arrC, zcl]
    have hQ : Quiet [some (arrC [] N)] := Quiet.one arrC_pv
    have h1 := hQ.norm
    have hfr := arrC_frz (d := fillM m N)
    have hle := arrC_len (d := fillM m N) (m := 0)
    have h0 : fillM m 0 = [] := rfl
    rw [h0, Nat.sub_zero, hz] at h
    rw [hz] at h1
    rw [g237L0_eq] at h
    have b1 : (N : Int) ≤ 9223372036854775807 := by omega
    have b2 : (N : Int) * 64 ≤ 140737488355328 := by omega
    simp at h1
    simp [h1, mp] at h
    rw [fillM_len] at hfr hle
    simp at hfr hle
    rw [← hN1]
    simp (disch := omega) [g237, k1, k2, hN2, b1, b2, g237L0_eq, h1, h, hfr, hle, rI]
end Go.Ab.Lw
namespace Go.Ab.Lw
open Ev
set_option maxRecDepth 10000
set_option linter.unusedSimpArgs false
/-- Which variables are known. -/
def knM (m : Mt) (n : Nat) : List Bool := (List.range n).map fun i : Nat => (fndM m i).isSome
theorem knM_len {m : Mt} {n : Nat} : (knM m n).length = n := by simp [knM]
theorem fillM_get {m : Mt} {n i : Nat} (h : i < n) : (fillM m n)[i]? = some ((fndM m i).getD zTy) := by simp [fillM, h]
theorem knM_get {m : Mt} {n i : Nat} (h : i < n) : (knM m n)[i]? = some (fndM m i).isSome := by simp [knM, h]
theorem fillM_put {m : Mt} {n i : Nat} {t : Ty} : fillM (putT m i t) n = (fillM m n).set i t := by
  apply List.ext_getElem?
  intro j
  by_cases hj : j < n
  · rw [fillM_get hj, List.getElem?_set, fnd_put]
    by_cases e : i = j
    · subst e; simp [fillM_len, hj]
    · have e' : ¬ (j : Int) = i := by omega
      simp [e, e', fillM_get hj]
  · rw [List.getElem?_eq_none (by rw [fillM_len]; omega), List.getElem?_eq_none (by simp [fillM_len]; omega)]
theorem knM_put {m : Mt} {n i : Nat} {t : Ty} : knM (putT m i t) n = (knM m n).set i true := by
  apply List.ext_getElem?
  intro j
  by_cases hj : j < n
  · rw [knM_get hj, List.getElem?_set, fnd_put]
    by_cases e : i = j
    · subst e; simp [knM_len, hj]
    · have e' : ¬ (j : Int) = i := by omega
      simp [e, e', knM_get hj]
  · rw [List.getElem?_eq_none (by rw [knM_len]; omega), List.getElem?_eq_none (by simp [knM_len]; omega)]

theorem flat_take : ∀ {l : List Ty} {i : Nat}, i ≤ l.length → (l.flatMap Ty.cl).take (i * 5) = (l.take i).flatMap Ty.cl
  | _, 0, _ => by simp
  | [], i + 1, h => by simp at h
  | a :: r, i + 1, h => by
    have ih := flat_take (l := r) (i := i) (by simp at h; omega)
    have e : (i + 1) * 5 = a.cl.length + i * 5 := by simp [Ty.cl]; omega
    rw [List.flatMap_cons, List.take_succ_cons, List.flatMap_cons, e, List.take_length_add_append, ih]
theorem flat_drop : ∀ {l : List Ty} {i : Nat}, i ≤ l.length → (l.flatMap Ty.cl).drop (i * 5) = (l.drop i).flatMap Ty.cl
  | _, 0, _ => by simp
  | [], i + 1, h => by simp at h
  | a :: r, i + 1, h => by
    have ih := flat_drop (l := r) (i := i) (by simp at h; omega)
    have e : (i + 1) * 5 = a.cl.length + i * 5 := by simp [Ty.cl]; omega
    rw [List.flatMap_cons, List.drop_succ_cons, e, List.drop_length_add_append, ih]
theorem arr_set {l : List Ty} {i : Nat} {t : Ty} (h : i < l.length) : setRange (arrC l 0) (i * 5) t.cl = arrC (l.set i t) 0 := by
  have e0 : ∀ l : List Ty, arrC l 0 = l.flatMap Ty.cl := fun l => by simp [arrC]
  rw [setRange_eq, e0, e0, flat_take (by omega)]
  have e1 : i * 5 + t.cl.length = (i + 1) * 5 := by simp [Ty.cl]; omega
  rw [e1, flat_drop (by omega), List.set_eq_take_append_cons_drop, if_pos h]
  simp
theorem arr_get {l : List Ty} {i : Nat} {x : Ty} (h : l[i]? = some x) : ((arrC l 0).drop (i * 5)).take 5 = x.cl := by
  have hi : i < l.length := (List.getElem?_eq_some_iff.1 h).1
  have e0 : arrC l 0 = l.flatMap Ty.cl := by simp [arrC]
  rw [e0, flat_drop (by omega), dropC h, List.flatMap_cons]
  have : (5 : Nat) = x.cl.length := by simp [Ty.cl]
  rw [this, List.take_left]

mutual
noncomputable def Ty.rt (t : Ty) (m : Mt) : Ty → Bool × Mt
  | ⟨k, n, i, h, as⟩ => if k = 2 then (match fndM m i with | some x => (decide (x = t), m) | none => (true, putT m i t)) else if hdB ⟨k, n, i, h, as⟩ t = true then Ty.rtL t.args m as else (false, m)
noncomputable def Ty.rtL (ts : List Ty) (m : Mt) : List Ty → Bool × Mt
  | [] => (true, m)
  | p :: ps => match ts with
    | [] => (true, m)
    | t :: ts => if (Ty.rt t m p).1 = true then Ty.rtL ts (Ty.rt t m p).2 ps else (false, (Ty.rt t m p).2)
end
theorem Ty.rt_eq (t : Ty) (m : Mt) (p : Ty) : Ty.rt t m p = if p.kind = 2 then (match fndM m p.id with | some x => (decide (x = t), m) | none => (true, putT m p.id t)) else if hdB p t = true then Ty.rtL t.args m p.args else (false, m) := by
  cases p; simp only [Ty.rt]
end Go.Ab.Lw
namespace Go.Ab.Lw
open Ev
set_option maxRecDepth 10000
set_option linter.unusedSimpArgs false
def knC (m : Mt) (n : Nat) : List AV := (knM m n).map fun b => .pv (.bool b)
theorem knC_len {m : Mt} {n : Nat} : (knC m n).length = n := by simp [knC, knM_len]
theorem knC_get {m : Mt} {n i : Nat} (h : i < n) : (knC m n)[i]? = some (.pv (.bool (fndM m i).isSome)) := by simp [knC, knM_get h]
theorem knC_pv {m : Mt} {n : Nat} : ∀ v ∈ knC m n, ∃ p, v = AV.pv p := by
  intro v hv
  simp only [knC, List.mem_map] at hv
  obtain ⟨b, _, rfl⟩ := hv
  exact ⟨_, rfl⟩
theorem knC_mapB {m : Mt} {n : Nat} : mapB (knC m n) = false := mapB_pvs knC_pv
theorem knC_put {m : Mt} {n i : Nat} {t : Ty} (h : i < n) : setRange (knC m n) (i * 1) [.pv (.bool true)] = knC (putT m i t) n := by
  have hl : i < (knC m n).length := by rw [knC_len]; exact h
  rw [setRange_eq]
  have e : knC (putT m i t) n = (knC m n).set i (.pv (.bool true)) := by
    unfold knC
    rw [knM_put, List.map_set]
  rw [e, List.set_eq_take_append_cons_drop, if_pos hl]
  simp
theorem arr_put {m : Mt} {n i : Nat} {t : Ty} (h : i < n) : setRange (arrC (fillM m n) 0) (i * 5) t.cl = arrC (fillM (putT m i t) n) 0 := by
  rw [fillM_put]; exact arr_set (by rw [fillM_len]; exact h)

def shR (m : Mt) (n : Nat) : Sh := [some (arrC (fillM m n) 0), some (knC m n)]
theorem shR_quiet {m : Mt} {n : Nat} : Quiet (shR m n) := Quiet.app (Quiet.one arrC_pv) (Quiet.one knC_pv)

theorem shR_take {m m' : Mt} {n n' : Nat} : (shR m' n').take (shR m n).length = shR m' n' := rfl

/-- The variables of a pattern are within the arrays. -/
def Rng (n : Nat) (p : Ty) : Prop := ∀ x ∈ p.nodes, x.kind = 2 → 0 ≤ x.id ∧ x.id < n
theorem Rng.kid {n : Nat} {p : Ty} (h : Rng n p) : ∀ y ∈ p.args, Rng n y := by
  intro y hy x hx
  refine h x ?_
  rw [Ty.nodes_eq p]
  simp only [List.mem_cons, List.mem_flatMap]
  exact .inr ⟨y, hy, hx⟩

theorem rtL_ok : ∀ {ps ts : List Ty} {m : Mt}, (∀ p ∈ ps, ∀ t ∈ ts, ∀ m, MOk m → MOk (Ty.rt t m p).2) → MOk m → MOk (Ty.rtL ts m ps).2
  | [], ts, m, _, h => by simpa [Ty.rtL] using h
  | p :: ps, [], m, _, h => by simpa [Ty.rtL] using h
  | p :: ps, t :: ts, m, hp, h => by
    have h1 := hp p (by simp) t (by simp) m h
    simp only [Ty.rtL]
    split
    · exact rtL_ok (fun q hq u hu => hp q (by simp [hq]) u (by simp [hu])) h1
    · exact h1
theorem rt_ok {p : Ty} : ∀ {t : Ty}, t.Ok → ∀ m, MOk m → MOk (Ty.rt t m p).2 := by
  refine Ty.rec1 (p := fun p => ∀ {t : Ty}, t.Ok → ∀ m, MOk m → MOk (Ty.rt t m p).2) ?_ p
  intro p ih t ht m hm
  rw [Ty.rt_eq]
  split
  · split
    · exact hm
    · exact hm.put ht
  · split
    · exact rtL_ok (fun q hq u hu m hm => ih q hq (ht.kid u hu) m hm) hm
    · exact hm

theorem L240 {N : Nat} {p t : Ty} (hS : Sm t.args) (hl : p.args.length = t.args.length) (h : ∀ x ∈ p.args, ∀ y ∈ t.args, ∀ m, MOk m → (orcL AP).i 240 [.pv x.pv, .pv y.pv, .sarr 0 5 N true, .sarr 1 1 N false] (shR m N) [] = some ([.pv (.bool (Ty.rt y m x).1)], shR (Ty.rt y m x).2 N, []))
    (hO : t.Ok) : ∀ (n i : Nat), t.args.length - i = n → i ≤ t.args.length → ∀ m, MOk m →
    cl AP g240L0 ⟨[(2, .sarr 0 5 N true), (3, .sarr 1 1 N false), (4, .lptr 4 0), (5, .lptr 5 0), (9, .pv (vI i))], [(4, [.pv (vI p.kind), .pv (.str p.name), .pv (vI p.id), .pv (vI p.home), .pv (.lst (p.args.map Ty.pv))]), (5, [.pv (vI t.kind), .pv (.str t.name), .pv (vI t.id), .pv (vI t.home), .pv (.lst (t.args.map Ty.pv))])], shR m N, []⟩ =
      if (Ty.rtL (t.args.drop i) m (p.args.drop i)).1 = true then some (.exit 0, ⟨[(2, .sarr 0 5 N true), (3, .sarr 1 1 N false), (4, .lptr 4 0), (5, .lptr 5 0), (9, .pv (vI t.args.length)), (80, .pv (.bool false))], [(4, [.pv (vI p.kind), .pv (.str p.name), .pv (vI p.id), .pv (vI p.home), .pv (.lst (p.args.map Ty.pv))]), (5, [.pv (vI t.kind), .pv (.str t.name), .pv (vI t.id), .pv (vI t.home), .pv (.lst (t.args.map Ty.pv))])], shR (Ty.rtL (t.args.drop i) m (p.args.drop i)).2 N, []⟩)
      else some (.ret, ⟨[(8, .pv (.bool false))], [], shR (Ty.rtL (t.args.drop i) m (p.args.drop i)).2 N, []⟩)
  | 0, i, hn, hi, m, hm => by
    have : i = t.args.length := by omega
    subst this
    have e1 : p.args.drop t.args.length = [] := by rw [← hl]; simp
    have h1 := (shR_quiet (m := m) (n := N)).norm
    rw [g240L0_eq, e1]
    simp [g240B0, Ty.rtL, h1, hl]
  | n + 1, i, hn, hi, m, hm => by
    have hi : i < t.args.length := by omega
    obtain ⟨y, hy⟩ := getO hi
    obtain ⟨x, hx⟩ := getO (l := p.args) (i := i) (by omega)
    have hix : i < p.args.length := by omega
    unfold Sm at hS
    have h1 := (shR_quiet (m := m) (n := N)).norm
    have h2 := (shR_quiet (m := (Ty.rt y m x).2) (n := N)).norm
    have h3 := (shR_quiet (m := (Ty.rt y m x).2) (n := N)).shift
    have k := h x (memO hx) y (memO hy) m hm
    have ih := L240 hS hl h hO n (i + 1) (by omega) (by omega) (Ty.rt y m x).2 (rt_ok (hO.kid y (memO hy)) m hm)
    rw [g240L0_eq] at ih ⊢
    rw [dropC hx, dropC hy]
    simp only [Ty.rtL]
    simp [h2] at k ih
    by_cases e : (Ty.rt y m x).1 = true
    · rw [e] at k
      simp only [if_pos e]
      simp (disch := omega) [-getElem?_pos, g240B0, hx, hy, hi, hix, k, wrap_id, h1, h2, h3]
      rw [g240L0_eq]
      simp [ih, h2]
    · have e' : (Ty.rt y m x).1 = false := by simpa using e
      rw [e'] at k
      simp only [if_neg e]
      simp (disch := omega) [-getElem?_pos, g240B0, hx, hy, hi, hix, k, wrap_id, h1, h2, h3]

theorem c240 {N : Nat} (hN : N < 1099511627776) {p : Ty} : ∀ {t : Ty}, t.Ok → Rng N p → ∀ m, MOk m → (orcL AP).i 240 [.pv p.pv, .pv t.pv, .sarr 0 5 N true, .sarr 1 1 N false] (shR m N) [] = some ([.pv (.bool (Ty.rt t m p).1)], shR (Ty.rt t m p).2 N, []) := by
  refine Ty.rec1 (p := fun p => ∀ {t : Ty}, t.Ok → Rng N p → ∀ m, MOk m → (orcL AP).i 240 [.pv p.pv, .pv t.pv, .sarr 0 5 N true, .sarr 1 1 N false] (shR m N) [] = some ([.pv (.bool (Ty.rt t m p).1)], shR (Ty.rt t m p).2 N, [])) ?_ p
  intro p ih t ht hR m hm
  have h1 := (shR_quiet (m := m) (n := N)).norm
  have h2 := (shR_quiet (m := m) (n := N)).shift
  rw [callI_body (af := g240) rfl (by simp [g240]), Ty.rt_eq]
  by_cases e2 : p.kind = 2
  · obtain ⟨i0, i1⟩ := hR p (by rw [Ty.nodes_eq]; simp) e2
    obtain ⟨k, hk, hkN⟩ := natI i0 i1
    have kl := knC_get (m := m) hkN
    have kl2 := knC_len (m := m) (n := N)
    have al := arrC_len (d := fillM m N) (m := 0)
    rw [fillM_len] at al
    have fl := fillM_get (m := m) hkN
    have gl := arr_get fl
    have hlen : k * 5 + 5 ≤ (arrC (fillM m N) 0).length := by omega
    have hk1 : k + 1 ≤ N := hkN
    rw [if_pos e2, hk]
    cases hf : fndM m k with
    | none =>
      rw [hf] at kl
      have s1 := arr_put (m := m) (t := t) hkN
      have s2 := knC_put (m := m) (t := t) hkN
      have h3 := (shR_quiet (m := putT m k t) (n := N)).norm
      simp [shR, Ty.cl] at h1 h2 h3 kl s1 s2 
      simp (disch := omega) [-getElem?_pos, g240, e2, hk, hkN, hk1, shR, h1, h2, h3, kl, kl2, knC_mapB, s1, s2, hlen]
    | some x =>
      rw [hf] at kl gl
      have q := c20 (a := x) (b := t) (hm _ _ hf)
      simp [shR, Ty.cl] at h1 h2 kl gl q
      simp (disch := omega) [-getElem?_pos, g240, e2, hk, hkN, hk1, shR, h1, h2, kl, kl2, knC_mapB, gl, hlen, q]
  · rw [if_neg e2]
    by_cases e : hdB p t = true
    · rw [if_pos e]
      simp [hdB] at e
      obtain ⟨⟨⟨⟨e1, e2'⟩, e3⟩, e4⟩, e5⟩ := e
      have h := L240 (N := N) (p := p) (t := t) ht.sm e5 (fun x hx y hy m hm => ih x hx (ht.kid y hy) (hR.kid x hx) m hm) ht _ 0 rfl (by omega) m hm
      have h3 := (shR_quiet (m := (Ty.rtL t.args m p.args).2) (n := N)).norm
      rw [g240L0_eq] at h
      have e2t : ¬ t.kind = 2 := by rw [← e1]; exact e2
      simp [h1, e1, e2', e3, e4] at h
      cases e6 : (Ty.rtL t.args m p.args).1 with
      | true => simp [e6] at h; simp [g240, e2t, e1, e2', e3, e4, e5, h1, h2, h3, shR_take, g240L0_eq, h]
      | false => simp [e6] at h; simp [g240, e2t, e1, e2', e3, e4, e5, h1, h2, h3, shR_take, g240L0_eq, h]
    · rw [if_neg e]
      have : ¬ (p.kind = t.kind ∧ p.name = t.name ∧ p.id = t.id ∧ p.home = t.home ∧ p.args.length = t.args.length) := by
        rintro ⟨h1, h2, h3, h4, h5⟩; apply e; simp [hdB, h1, h2, h3, h4, h5]
      by_cases q1 : p.kind = t.kind
      · have e2' : ¬ t.kind = 2 := by rw [← q1]; exact e2
        by_cases q2 : p.name = t.name
        · by_cases q3 : p.id = t.id
          · by_cases q4 : p.home = t.home
            · have h5 : ¬ p.args.length = t.args.length := fun h5 => this ⟨q1, q2, q3, q4, h5⟩
              have h5' : ¬ (p.args.length : Int) = t.args.length := by omega
              simp [g240, e2', q1, q2, q3, q4, h5', h1, h2]
            · simp [g240, e2', q1, q2, q3, q4, h1, h2]
          · simp [g240, e2', q1, q2, q3, h1, h2]
        · simp [g240, e2', q1, q2, h1, h2]
      · simp [g240, e2, q1, h1, h2]
end Go.Ab.Lw
namespace Go.Ab.Lw
open Ev
set_option maxRecDepth 10000
set_option linter.unusedSimpArgs false
def Same (m m' : Mt) : Prop := ∀ j, fndM m j = fndM m' j
theorem rt_mt {p : Ty} : ∀ {t : Ty} {m m' : Mt}, Same m m' → (Ty.rt t m p).1 = (Ty.mt t m' p).1 ∧ ((Ty.rt t m p).1 = true → Same (Ty.rt t m p).2 (Ty.mt t m' p).2) := by
  refine Ty.rec1 (p := fun p => ∀ {t : Ty} {m m' : Mt}, Same m m' → (Ty.rt t m p).1 = (Ty.mt t m' p).1 ∧ ((Ty.rt t m p).1 = true → Same (Ty.rt t m p).2 (Ty.mt t m' p).2)) ?_ p
  intro p ih t m m' hs
  rw [Ty.rt_eq, Ty.mt_eq]
  by_cases e : p.kind = 2
  · rw [if_pos e, if_pos e]
    have h := hs p.id
    cases hf : fndM m p.id with
    | none =>
      rw [hf] at h
      refine ⟨by simp [mtV, ← h], fun _ j => ?_⟩
      simp only [fnd_put, hs j]
    | some x =>
      rw [hf] at h
      refine ⟨by simp [mtV, ← h], fun hx j => ?_⟩
      have hx' : x = t := by simpa using hx
      simp only [fnd_put]
      split
      · rename_i ej; subst ej; rw [hf, hx']
      · exact hs j
  · rw [if_neg e, if_neg e]
    by_cases eh : hdB p t = true
    · rw [if_pos eh, if_pos eh]
      have key : ∀ (ps ts : List Ty), (∀ q ∈ ps, q ∈ p.args) → ∀ m m' : Mt, Same m m' → (Ty.rtL ts m ps).1 = (Ty.mtL ts m' ps).1 ∧ ((Ty.rtL ts m ps).1 = true → Same (Ty.rtL ts m ps).2 (Ty.mtL ts m' ps).2) := by
        intro ps
        induction ps with
        | nil => intro ts _ m m' hs; simp only [Ty.rtL, Ty.mtL]; exact ⟨trivial, fun _ => hs⟩
        | cons q r ihr =>
          intro ts hq m m' hs
          cases ts with
          | nil => simp only [Ty.rtL, Ty.mtL]; exact ⟨trivial, fun _ => hs⟩
          | cons u us =>
            obtain ⟨h1, h2⟩ := ih q (hq q (by simp)) (t := u) hs
            simp only [Ty.rtL, Ty.mtL]
            by_cases e1 : (Ty.rt u m q).1 = true
            · have e2 : (Ty.mt u m' q).1 = true := by rw [← h1]; exact e1
              rw [if_pos e1, if_pos e2]
              exact ihr us (fun z hz => hq z (by simp [hz])) _ _ (h2 e1)
            · have e2 : ¬ (Ty.mt u m' q).1 = true := by rw [← h1]; exact e1
              rw [if_neg e1, if_neg e2]
              exact ⟨rfl, fun h => by simp at h⟩
      exact key p.args t.args (fun _ h => h) m m' hs
    · rw [if_neg eh, if_neg eh]
      exact ⟨rfl, fun h => by simp at h⟩

theorem fill0 {n : Nat} : arrC (fillM [] n) 0 = (List.replicate n [.pv (vI 0), .pv (.str []), .pv (vI 0), .pv (vI 0), .pv (.lst [])]).flatten := by
  have e : fillM [] n = List.replicate n zTy := by
    exact List.eq_replicate_iff.2 ⟨by simp [fillM], by intro b hb; simp [fillM, fndM] at hb; exact hb.2.symm⟩
  rw [e]
  simp only [arrC, List.replicate_zero, List.flatten_nil, List.append_nil, List.flatMap_def, List.map_replicate]
  rfl
theorem kn0 {n : Nat} : knC [] n = List.replicate n (.pv (.bool false)) := List.eq_replicate_iff.2 ⟨knC_len, by intro b hb; simp [knC, knM, fndM] at hb; exact hb.2.symm⟩
end Go.Ab.Lw
namespace Go.Ab.Lw
open Ev
set_option maxRecDepth 10000
set_option linter.unusedSimpArgs false
theorem enumK_all {P : Ty → Prop} : ∀ {l : List Int} {n : Nat}, (∀ i : Nat, i < n + l.length → P (tyBound i)) → ∀ a ∈ enumK n l, P a.ty
  | [], _, _ => by simp [enumK]
  | v :: r, n, h => by
    intro a ha
    simp [enumK] at ha
    rcases ha with rfl | ha
    · exact h n (by simp)
    · exact enumK_all (l := r) (n := n + 1) (fun i hi => h i (by simp; omega)) a ha
theorem Made.none {lv : Ty → Prop} {k : Int} (hk : k ≠ 4) (h : ∀ t, lv t → t.hasK k = false) {t : Ty} (m : Made lv t) : t.hasK k = false := by
  have hk' : ¬ (4 : Int) = k := fun e => hk e.symm
  induction m with
  | leaf hl => exact h _ hl
  | int => rw [Ty.hasK_eq]; simp [tyInt, hk']
  | con hd hl _ ih =>
    rw [Ty.hasK_eq]
    simp only [Bool.or_eq_false_iff, List.any_eq_false]
    exact ⟨by simp [hk'], fun x hx => by simp [ih x hx]⟩
  | arrow _ _ ha hb => rw [Ty.hasK_eq]; simp [ha, hb, hk']
theorem Made.seqB {lv : Ty → Prop} {S : List Int} (h : ∀ t, lv t → ∀ z ∈ Go.Ab.Lw.seqB t, z ∈ S) {t : Ty} (m : Made lv t) : ∀ z ∈ Go.Ab.Lw.seqB t, z ∈ S := by
  induction m with
  | leaf hl => exact h _ hl
  | int => rw [seqB_eq]; simp [tyInt, bnd]
  | con hd hl _ ih =>
    rw [seqB_eq]
    intro z hz
    simp [bnd] at hz
    obtain ⟨x, hx, hz⟩ := hz
    exact ih x hx z hz
  | arrow _ _ ha hb =>
    rw [seqB_eq]
    intro z hz
    simp [bnd] at hz
    rcases hz with hz | hz
    · exact ha z hz
    · exact hb z hz

end Go.Ab.Lw
namespace Go.Ab.Lw
open Ev
set_option maxRecDepth 10000
set_option linter.unusedSimpArgs false
/-- The program's General. -/
noncomputable def genP (a b : Sc) : Bool := (Ty.mt b.ty [] a.ty).1
theorem c229 {a b : Sc} (ha : a.ty.Ok) (hf : a.ty.nodes.length < 1000000) (hb : b.ty.Ok) : (orcL AP).p 229 [a.pv, b.pv] = some [.bool (genP a b)] := by
  have k := c237 ha hf hb
  rw [callP_body (af := g229) rfl rfl (by decide)]
  unfold genP
  unfold instP at k
  cases e : (Ty.mt b.ty [] a.ty).1 with
  | true => simp [e, rI] at k; simp [g229, k]
  | false => simp [e, rI] at k; simp [g229, k]

structure Plain (s : List As) (x : Ty) : Prop where
  var : ∀ v ∈ x.nodes, v.kind = 1 → v = tyVar v.id ∧ ∃ i, fnd s v.id = some (tyBound i)
  bnd : ∀ v ∈ x.nodes, v.kind ≠ 2
theorem Plain.kid {s : List As} {x : Ty} (h : Plain s x) : ∀ y ∈ x.args, Plain s y := by
  intro y hy
  have hn : ∀ v ∈ y.nodes, v ∈ x.nodes := by
    intro v hv
    rw [Ty.nodes_eq x]
    simp only [List.mem_cons, List.mem_flatMap]
    exact .inr ⟨y, hy, hv⟩
  exact ⟨fun v hv => h.var v (hn v hv), fun v hv => h.bnd v (hn v hv)⟩
theorem self_node {x : Ty} : x ∈ x.nodes := by rw [Ty.nodes_eq]; simp

theorem sub_nodes_len {s : List As} (hs : ∀ a ∈ s, a.ty.args = []) {t : Ty} (hW : t.Wf) : (t.sub s).nodes.length = t.nodes.length := by
  revert hW
  refine Ty.rec1 (p := fun t => t.Wf → (t.sub s).nodes.length = t.nodes.length) ?_ t
  intro t ih hW
  rw [Ty.sub_eq]
  by_cases e : t.kind = 1
  · rw [if_pos e]
    have ea := hW.var e
    cases hf : fnd s t.id with
    | none => rfl
    | some u =>
      obtain ⟨a, ha, rfl⟩ := fnd_mem hf
      rw [Option.getD_some, Ty.nodes_eq, Ty.nodes_eq t, hs a ha, ea]; simp
  · rw [if_neg e, Ty.nodes_eq, Ty.nodes_eq t]
    simp only [List.length_cons, List.flatMap_map]
    have key : ∀ (l : List Ty), (∀ y ∈ l, y ∈ t.args) → (l.flatMap fun y => (y.sub s).nodes).length = (l.flatMap Ty.nodes).length := by
      intro l
      induction l with
      | nil => intro _; rfl
      | cons a r ihr =>
        intro hl
        simp only [List.flatMap_cons, List.length_append]
        rw [ih a (hl a (by simp)) (hW.kid a (hl a (by simp))), ihr (fun y hy => hl y (by simp [hy]))]
    rw [key t.args (fun _ h => h)]

end Go.Ab.Lw
namespace Go.Ab.Lw
open Ev
set_option maxRecDepth 10000
set_option linter.unusedSimpArgs false
theorem Good.mono {S S' : List Ty} (h : ∀ x ∈ S, x ∈ S') {t : Ty} (g : Good S t) : Good S' t := ⟨g.ok, g.wf, fun x hx => h x (g.sub x hx)⟩

end Go.Ab.Lw
namespace Go.Ab.Lw
open Ev
set_option maxRecDepth 10000
set_option linter.unusedSimpArgs false
/-- The reference's Instance. -/
noncomputable def instR (N : Nat) (p t : Ty) : Option (List Ty) := if (Ty.rt t [] p).1 = true then some (fillM (Ty.rt t [] p).2 N) else none
theorem c238 {N : Nat} (hN : N < 1000000) {p t : Ty} (ht : t.Ok) (hR : Rng N p) : (orcL AP).p 238 [(As.mk N p).pv, t.pv] = some (rI (instR N p t)) := by
  have k := c240 (N := N) (by omega) ht hR [] (by intro i x h; cases h)
  rw [callP_body (af := g238) rfl rfl (by decide)]
  unfold instR
  generalize hm : (Ty.rt t [] p).2 = m at k ⊢
  have hfr := arrC_frz (d := fillM m N)
  have hle := arrC_len (d := fillM m N) (m := 0)
  rw [fillM_len] at hfr hle
  have h1 := (shR_quiet (m := []) (n := N)).norm
  have h2 := (shR_quiet (m := m) (n := N)).norm
  have h3 := (shR_quiet (m := m) (n := N)).shift
  have h4 := (Quiet.one (arrC_pv (d := fillM [] N) (m := 0))).norm
  have b1 : (N : Int) ≤ 9223372036854775807 := by omega
  have b2 : (N : Int) * 64 ≤ 140737488355328 := by omega
  have b3 : (N : Int) ≤ 140737488355328 := by omega
  have e0 : shR [] N = [some ((List.replicate N [.pv (vI 0), .pv (.str []), .pv (vI 0), .pv (vI 0), .pv (.lst [])]).flatten), some (List.replicate N (.pv (.bool false)))] := by unfold shR; rw [fill0, kn0]
  rw [e0] at k h1
  rw [fill0] at h4
  have h5 := (Quiet.one (knC_pv (m := []) (n := N))).norm
  rw [kn0] at h5
  simp [shR] at hfr hle k h1 h2 h3 h4 h5
  cases e : (Ty.rt t [] p).1 with
  | true =>
    rw [e] at k
    simp (disch := omega) [g238, b1, b2, b3, h1, h2, h3, h4, h5, k, hfr, hle, rI]
  | false =>
    rw [e] at k
    simp (disch := omega) [g238, b1, b2, b3, h1, h2, h3, h4, h5, k, rI]
end Go.Ab.Lw
namespace Go.Ab.Lw
open Ev
set_option maxRecDepth 10000
set_option linter.unusedSimpArgs false
mutual
/-- The quantified variables replaced. -/
def Ty.bind (F : Int → Ty) : Ty → Ty
  | ⟨k, n, i, h, as⟩ => if k = 2 then F i else ⟨k, n, i, h, Ty.binds F as⟩
def Ty.binds (F : Int → Ty) : List Ty → List Ty
  | [] => []
  | a :: r => a.bind F :: Ty.binds F r
end
theorem Ty.binds_map (F : Int → Ty) : ∀ l : List Ty, Ty.binds F l = l.map (Ty.bind F)
  | [] => by simp [Ty.binds]
  | a :: r => by simp [Ty.binds, Ty.binds_map F r]
theorem Ty.bind_eq (F : Int → Ty) (t : Ty) : t.bind F = if t.kind = 2 then F t.id else ⟨t.kind, t.name, t.id, t.home, t.args.map (Ty.bind F)⟩ := by
  cases t; simp only [Ty.bind, Ty.binds_map]

/-- A replacement agrees with what was found. -/
def Agr (m : Mt) (F : Int → Ty) : Prop := ∀ i x, fndM m i = some x → F i = x

/-- Matching succeeds when some replacement does it. -/
theorem mt_of {F : Int → Ty} {p : Ty} : ∀ {m : Mt}, Agr m F → (Ty.mt (p.bind F) m p).1 = true ∧ Agr (Ty.mt (p.bind F) m p).2 F := by
  refine Ty.rec1 (p := fun p => ∀ {m : Mt}, Agr m F → (Ty.mt (p.bind F) m p).1 = true ∧ Agr (Ty.mt (p.bind F) m p).2 F) ?_ p
  intro p ih m hm
  rw [Ty.mt_eq, Ty.bind_eq]
  by_cases e : p.kind = 2
  · rw [if_pos e, if_pos e]
    refine ⟨?_, ?_⟩
    · unfold mtV
      cases hf : fndM m p.id with
      | none => rfl
      | some x => simp [hm _ _ hf]
    · intro i x hx
      simp only [fnd_put] at hx
      split at hx
      · rename_i ei; subst ei; cases hx; rfl
      · exact hm i x hx
  · rw [if_neg e, if_neg e, if_pos (by simp [hdB])]
    have key : ∀ (l : List Ty), (∀ y ∈ l, y ∈ p.args) → ∀ m : Mt, Agr m F → (Ty.mtL (l.map (Ty.bind F)) m l).1 = true ∧ Agr (Ty.mtL (l.map (Ty.bind F)) m l).2 F := by
      intro l
      induction l with
      | nil => intro _ m hm; simp only [List.map_nil, Ty.mtL]; exact ⟨trivial, hm⟩
      | cons a r ihr =>
        intro hl m hm
        obtain ⟨h1, h2⟩ := ih a (hl a (by simp)) hm
        simp only [List.map_cons, Ty.mtL, if_pos h1]
        exact ihr (fun y hy => hl y (by simp [hy])) _ h2
    exact key p.args (fun _ h => h) m hm

/-- What was found before stays. -/
def Ext (m m' : Mt) : Prop := ∀ i x, fndM m i = some x → fndM m' i = some x
theorem Ext.trans {a b c : Mt} (h : Ext a b) (h' : Ext b c) : Ext a c := fun i x e => h' i x (h i x e)

/-- A success is a replacement. -/
theorem of_mt {p : Ty} : ∀ {t : Ty} {m : Mt}, (Ty.mt t m p).1 = true → Ext m (Ty.mt t m p).2 ∧ ∀ F, Agr (Ty.mt t m p).2 F → p.bind F = t := by
  refine Ty.rec1 (p := fun p => ∀ {t : Ty} {m : Mt}, (Ty.mt t m p).1 = true → Ext m (Ty.mt t m p).2 ∧ ∀ F, Agr (Ty.mt t m p).2 F → p.bind F = t) ?_ p
  intro p ih t m h
  rw [Ty.mt_eq] at h ⊢
  by_cases e : p.kind = 2
  · rw [if_pos e] at h ⊢
    refine ⟨?_, ?_⟩
    · intro i x hx
      simp only [fnd_put]
      split
      · rename_i ei
        subst ei
        simp only [mtV, hx] at h
        rw [of_decide_eq_true h]
      · exact hx
    · intro F hF
      rw [Ty.bind_eq, if_pos e]
      exact hF _ _ (by simp only [fnd_put, if_true])
  · rw [if_neg e] at h ⊢
    by_cases eh : hdB p t = true
    · rw [if_pos eh] at h ⊢
      simp [hdB] at eh
      obtain ⟨⟨⟨⟨e1, e2⟩, e3⟩, e4⟩, e5⟩ := eh
      have key : ∀ (ps ts : List Ty), (∀ q ∈ ps, q ∈ p.args) → ps.length = ts.length → ∀ m : Mt, (Ty.mtL ts m ps).1 = true → Ext m (Ty.mtL ts m ps).2 ∧ ∀ F, Agr (Ty.mtL ts m ps).2 F → ps.map (Ty.bind F) = ts := by
        intro ps
        induction ps with
        | nil =>
          intro ts _ hl m _
          have : ts = [] := by simpa using hl.symm
          subst this
          simp only [Ty.mtL]
          exact ⟨fun _ _ h => h, fun _ _ => rfl⟩
        | cons q r ihr =>
          intro ts hq hl m h
          cases ts with
          | nil => simp at hl
          | cons u us =>
            simp only [Ty.mtL] at h ⊢
            by_cases e1 : (Ty.mt u m q).1 = true
            · rw [if_pos e1] at h ⊢
              obtain ⟨a1, a2⟩ := ih q (hq q (by simp)) e1
              obtain ⟨b1, b2⟩ := ihr us (fun z hz => hq z (by simp [hz])) (by simpa using hl) _ h
              refine ⟨a1.trans b1, fun F hF => ?_⟩
              rw [List.map_cons, b2 F hF, a2 F (fun i x hx => hF i x (b1 i x hx))]
            · rw [if_neg e1] at h; simp at h
      obtain ⟨k1, k2⟩ := key p.args t.args (fun _ h => h) e5 m h
      refine ⟨k1, fun F hF => ?_⟩
      rw [Ty.bind_eq, if_neg e, k2 F hF, e1, e2, e3, e4]
      exact Ty.eta t
    · rw [if_neg eh] at h; simp at h

/-- General: some replacement does it. -/
theorem genP_iff {a b : Sc} : genP a b = true ↔ ∃ F, a.ty.bind F = b.ty := by
  unfold genP
  constructor
  · intro h
    exact ⟨fun i => (fndM (Ty.mt b.ty [] a.ty).2 i).getD zTy, (of_mt h).2 _ (fun i x hx => by rw [hx]; rfl)⟩
  · rintro ⟨F, h⟩
    rw [← h]
    exact (mt_of (F := F) (p := a.ty) (m := []) (fun i x h => by cases h)).1
theorem bind_bind {F G : Int → Ty} {p : Ty} : (p.bind F).bind G = p.bind (fun i => (F i).bind G) := by
  refine Ty.rec1 (p := fun p => (p.bind F).bind G = p.bind (fun i => (F i).bind G)) ?_ p
  intro p ih
  rw [Ty.bind_eq F p, Ty.bind_eq _ p]
  by_cases e : p.kind = 2
  · rw [if_pos e, if_pos e]
  · rw [if_neg e, if_neg e, Ty.bind_eq]
    simp only [if_neg e, List.map_map]
    congr 1
    exact List.map_congr_left (fun x hx => ih x hx)
/-- The quantified variables are plain. -/
def Bd (p : Ty) : Prop := ∀ v ∈ p.nodes, v.kind = 2 → v = tyBound v.id
theorem Bd.kid {p : Ty} (h : Bd p) : ∀ y ∈ p.args, Bd y := by
  intro y hy v hv
  refine h v ?_
  rw [Ty.nodes_eq p]
  simp only [List.mem_cons, List.mem_flatMap]
  exact .inr ⟨y, hy, hv⟩
theorem bind_self {p : Ty} (h : Bd p) : p.bind tyBound = p := by
  revert h
  refine Ty.rec1 (p := fun p => Bd p → p.bind tyBound = p) ?_ p
  intro p ih h
  rw [Ty.bind_eq]
  by_cases e : p.kind = 2
  · rw [if_pos e]; exact (h p self_node e).symm
  · rw [if_neg e]
    have : p.args.map (Ty.bind tyBound) = p.args := by
      conv => rhs; rw [← List.map_id p.args]
      exact List.map_congr_left (fun x hx => ih x hx (h.kid x hx))
    rw [this]; exact Ty.eta p
theorem genP_refl {a : Sc} (h : Bd a.ty) : genP a a = true := genP_iff.2 ⟨_, bind_self h⟩
theorem genP_trans {a b c : Sc} (h : genP a b = true) (h' : genP b c = true) : genP a c = true := by
  obtain ⟨F, hF⟩ := genP_iff.1 h
  obtain ⟨G, hG⟩ := genP_iff.1 h'
  exact genP_iff.2 ⟨_, by rw [← bind_bind, hF, hG]⟩
end Go.Ab.Lw
namespace Go.Ab.Lw
open Ev
set_option maxRecDepth 10000
set_option linter.unusedSimpArgs false
/-- Whether a type is a place that an argument fills, and with what. -/
def plc (l : List Ty) (t : Ty) : Option Ty := if t.kind = 2 ∧ 0 ≤ t.id ∧ t.id < l.length then l[t.id.toNat]? else none
theorem plc_some {l : List Ty} {t u : Ty} (h : plc l t = some u) : t.kind = 2 ∧ 0 ≤ t.id ∧ t.id < l.length ∧ l[t.id.toNat]? = some u := by
  unfold plc at h
  split at h
  · rename_i c; exact ⟨c.1, c.2.1, c.2.2, h⟩
  · cases h
theorem plc_none {l : List Ty} {t : Ty} (h : plc l t = none) : ¬ (t.kind = 2 ∧ 0 ≤ t.id ∧ t.id < l.length) := by
  intro c
  unfold plc at h
  rw [if_pos c] at h
  rw [List.getElem?_eq_none_iff] at h
  omega
mutual
def Ty.opn (l : List Ty) : Ty → Ty
  | ⟨k, n, i, h, as⟩ => (plc l ⟨k, n, i, h, as⟩).getD ⟨k, n, i, h, Ty.opns l as⟩
def Ty.opns (l : List Ty) : List Ty → List Ty
  | [] => []
  | a :: r => a.opn l :: Ty.opns l r
end
theorem Ty.opns_map (l : List Ty) : ∀ as : List Ty, Ty.opns l as = as.map (Ty.opn l)
  | [] => by simp [Ty.opns]
  | a :: r => by simp [Ty.opns, Ty.opns_map l r]
theorem Ty.opn_eq (l : List Ty) (t : Ty) : t.opn l = (plc l t).getD ⟨t.kind, t.name, t.id, t.home, t.args.map (Ty.opn l)⟩ := by
  cases t; simp only [Ty.opn, Ty.opns_map]

theorem L48 {s : List Ty} {t : Ty} (hS : Sm t.args) (h : ∀ x ∈ t.args, (orcL AP).p 48 [x.pv, .lst (s.map Ty.pv)] = some [(x.opn s).pv]) : ∀ (n i : Nat), t.args.length - i = n → i ≤ t.args.length → ∀ acc : List Ty, acc = (t.args.take i).map (Ty.opn s) →
    cl AP g48L0 ⟨[(1, .pv (.lst (s.map Ty.pv))), (2, .lptr 2 0), (4, .lptr 4 0), (5, .lptr 5 0), (6, .pv (vI i))],
      [(2, [.pv (vI t.kind), .pv (.str t.name), .pv (vI t.id), .pv (vI t.home), .pv (.lst (t.args.map Ty.pv))]), (4, [.pv (vI 0), .pv (.str []), .pv (vI 0), .pv (vI 0), .own [] 0]),
        (5, [.pv (vI t.kind), .pv (.str t.name), .pv (vI t.id), .pv (vI t.home), .own (acc.map Ty.pv) 1])], [], [0, acc.length]⟩ =
      some (.exit 0, ⟨[(1, .pv (.lst (s.map Ty.pv))), (2, .lptr 2 0), (4, .lptr 4 0), (5, .lptr 5 0), (6, .pv (vI t.args.length)), (33, .pv (.bool false))],
      [(2, [.pv (vI t.kind), .pv (.str t.name), .pv (vI t.id), .pv (vI t.home), .pv (.lst (t.args.map Ty.pv))]), (4, [.pv (vI 0), .pv (.str []), .pv (vI 0), .pv (vI 0), .own [] 0]),
        (5, [.pv (vI t.kind), .pv (.str t.name), .pv (vI t.id), .pv (vI t.home), .own ((t.args.map (Ty.opn s)).map Ty.pv) 1])], [], [0, t.args.length]⟩)
  | 0, i, hn, hi, acc, ha => by
    have : i = t.args.length := by omega
    subst this
    subst ha
    rw [g48L0_eq]
    simp [g48B0]
  | n + 1, i, hn, hi, acc, ha => by
    have hi : i < t.args.length := by omega
    obtain ⟨x, hx⟩ := getO hi
    unfold Sm at hS
    have hb : (acc.length + 1) * 64 ≤ 140737488355328 := by subst ha; simp; omega
    have hc := h x (memO hx)
    have ih := L48 hS h n (i + 1) (by omega) (by omega) (acc ++ [x.opn s]) (by rw [List.take_add_one, hx, ha]; simp)
    rw [g48L0_eq] at ih ⊢
    simp at ih hc
    simp (disch := omega) [-getElem?_pos, g48B0, hx, hi, hc, hb, wrap_id]
    rw [g48L0_eq]
    simp [ih]

theorem c48 {s : List Ty} (hs : Sm s) {t : Ty} (hO : t.Ok) : (orcL AP).p 48 [t.pv, .lst (s.map Ty.pv)] = some [(t.opn s).pv] := by
  revert hO
  refine Ty.rec1 (p := fun t => t.Ok → (orcL AP).p 48 [t.pv, .lst (s.map Ty.pv)] = some [(t.opn s).pv]) ?_ t
  intro t ih hO
  rw [callP_body (af := g48) rfl rfl (by decide)]
  unfold Sm at hs
  have h := L48 (s := s) hO.sm (fun x hx => ih x hx (hO.kid x hx)) _ 0 rfl (by omega) [] (by simp)
  rw [g48L0_eq] at h
  simp at h
  cases hp : plc s t with
  | some u =>
    obtain ⟨a, b, c, d⟩ := plc_some hp
    have b1 : ¬ t.id < 0 := by omega
    simp (disch := omega) [-getElem?_pos, g48, a, b, b1, c, d, Ty.opn_eq s t, hp]
  | none =>
    have q := plc_none hp
    by_cases a : t.kind = 2
    · by_cases b : 0 ≤ t.id
      · have c : ¬ t.id < s.length := fun c => q ⟨a, b, c⟩
        simp [a] at h
        simp (disch := omega) [-getElem?_pos, g48, a, b, c, g48L0_eq, h, Ty.opn_eq s t, hp]
      · simp [a] at h
        simp (disch := omega) [-getElem?_pos, g48, a, b, g48L0_eq, h, Ty.opn_eq s t, hp]
    · simp (disch := omega) [-getElem?_pos, g48, a, g48L0_eq, h, Ty.opn_eq s t, hp]

/-- Types where places have no parts. -/
inductive Ty.Wb : Ty → Prop
  | mk {t : Ty} : (t.kind = 2 → t.args = []) → (∀ x ∈ t.args, Ty.Wb x) → Ty.Wb t
theorem Ty.Wb.var {t : Ty} (h : t.Wb) : t.kind = 2 → t.args = [] := by cases h; assumption
theorem Ty.Wb.kid {t : Ty} (h : t.Wb) : ∀ x ∈ t.args, x.Wb := by cases h; assumption
theorem opn_ok {s : List Ty} (hs : ∀ a ∈ s, a.Ok) {t : Ty} (h : t.Ok) : (t.opn s).Ok := by
  revert h
  refine Ty.rec1 (p := fun t => t.Ok → (t.opn s).Ok) ?_ t
  intro t ih h
  rw [Ty.opn_eq]
  cases hp : plc s t with
  | some u => exact hs u (memO (plc_some hp).2.2.2)
  | none =>
    refine ⟨?_, ?_⟩
    · have := h.sm; unfold Sm at this ⊢; simpa using this
    · intro x hx; simp at hx
      obtain ⟨y, hy, rfl⟩ := hx
      exact ih y hy (h.kid y hy)

/-! ### What the law makes -/
end Go.Ab.Lw
namespace Go.Ab.Lw
open Ev
set_option maxRecDepth 10000
set_option linter.unusedSimpArgs false
def scC (c : Sc) : List AV := [.pv (vI c.id), .pv (vI c.ty.kind), .pv (.str c.ty.name), .pv (vI c.ty.id), .pv (vI c.ty.home), .pv (.lst (c.ty.args.map Ty.pv))]
end Go.Ab.Lw
namespace Go.Ab.Lw
open Ev
set_option maxRecDepth 10000
set_option linter.unusedSimpArgs false
def abcL : List UInt8 := [97, 98, 99, 100, 101, 102, 103, 104, 105, 106, 107, 108, 109, 110, 111, 112, 113, 114, 115, 116, 117, 118, 119, 120, 121, 122]
/-- The name of the n-th fresh type. -/
def nmN (i : Nat) : List UInt8 := [118] ++ (abcL.take (i + 1)).drop i ++ [97]
def frN (n : Nat) : List Ty := (List.range n).map fun i => tyNamed (nmN i)
theorem frN_len {n : Nat} : (frN n).length = n := by simp [frN]
theorem frN_succ {n : Nat} : frN (n + 1) = frN n ++ [tyNamed (nmN n)] := by simp [frN, List.range_succ]

theorem slS {s : List UInt8} {k k' : IntKind} {l h : Int} (h0 : 0 ≤ l) (h1 : l ≤ h) (h2 : h ≤ s.length) : evSlice true 0 true true false [.pv (.str s), .pv (.int k l), .pv (.int k' h)] = some (.pv (.str ((s.take h.toNat).drop l.toNat))) := by
  simp [evSlice, evBounds, h0, h1, h2]

theorem L230 {a b : Sc} {N : Nat} (hN : N ≤ 26) (hb : b.id = N) : ∀ (n i : Nat), N - i = n → i ≤ N →
    cl AP g230L0 ⟨[(2, .lptr 2 0), (3, .lptr 3 0), (5, .own ((frN i).map Ty.pv) 0), (6, .pv (vI i))], [(2, scC a), (3, scC b)], [], [i]⟩ =
      some (.exit 0, ⟨[(2, .lptr 2 0), (3, .lptr 3 0), (5, .own ((frN N).map Ty.pv) 0), (6, .pv (vI N)), (12, .pv (.bool false))], [(2, scC a), (3, scC b)], [], [N]⟩)
  | 0, i, hn, hi => by
    have : i = N := by omega
    subst this
    have hl := frN_len (n := i)
    rw [g230L0_eq]
    simp [g230B0, scC, hb, hl]
  | n + 1, i, hn, hi => by
    have hi : i < N := by omega
    have hi2 : i < 26 := by omega
    have hl := frN_len (n := i)
    have hbd : (i + 1) * 64 ≤ 140737488355328 := by omega
    have ih := L230 (a := a) hN hb n (i + 1) (by omega) (by omega)
    have r1 : (i : Int).tmod 26 = i := by rw [Int.tmod_eq_emod_of_nonneg (by omega)]; omega
    have r2 : (i : Int).tdiv 26 = 0 := by rw [Int.tdiv_eq_ediv_of_nonneg (by omega)]; omega
    have r3 : (i + 1 : Int).toNat = i + 1 := by omega
    have s1 := slS (s := abcL) (k := .i64) (k' := .i64) (l := i) (h := i + 1) (by omega) (by omega) (by simp [abcL]; omega)
    have s2 := slS (s := abcL) (k := .i64) (k' := .i64) (l := 0) (h := 1) (by omega) (by omega) (by simp [abcL])
    have hs2 : (abcL.take (1 : Int).toNat).drop (0 : Int).toNat = [97] := by decide
    rw [hs2] at s2
    have hsl : ((abcL.take (i + 1)).drop i).length = 1 := by simp [abcL]; omega
    have q := c106 (s := nmN i)
    rw [r3, Int.toNat_natCast] at s1
    rw [frN_succ] at ih
    unfold nmN at q ih
    generalize (abcL.take (i + 1)).drop i = w at s1 q ih hsl
    have hw1 : ((w.length : Nat) : Int) + 1 ≤ 9223372036854775807 := by omega
    rw [g230L0_eq] at ih ⊢
    simp [abcL] at s1 s2
    simp [tyNamed, hl] at q ih
    simp [scC, hb] at ih
    simp (disch := omega) [-getElem?_pos, g230B0, scC, hb, hi, r1, r2, s1, s2, hsl, q, hl, hbd, wrap_id]
    rw [g230L0_eq]
    simp [ih, hl]

/-- General by the reference. -/
noncomputable def genR (a b : Sc) (N M : Nat) : Bool := (Ty.rt (b.ty.opn (frN M)) [] a.ty).1
theorem c230 {a b : Sc} {N M : Nat} (ha : a.id = N) (hN : N < 1000000) (hR : Rng N a.ty) (hb : b.id = M) (hM : M ≤ 26) (hO : b.ty.Ok) : (orcL AP).p 230 [a.pv, b.pv] = some [.bool (genR a b N M)] := by
  have h := L230 (a := a) (b := b) hM hb _ 0 rfl (by omega)
  have hfo : ∀ x ∈ frN M, x.Ok := by
    intro x hx
    simp only [frN, List.mem_map] at hx
    obtain ⟨i, _, rfl⟩ := hx
    exact bare_ok rfl
  have k1 := c48 (s := frN M) (by unfold Sm; rw [frN_len]; omega) hO
  have k2 := c238 hN (p := a.ty) (t := b.ty.opn (frN M)) (opn_ok hfo hO) hR
  rw [callP_body (af := g230) rfl rfl (by decide)]
  unfold genR
  unfold instR at k2
  rw [← ha] at k2
  have hl := frN_len (n := M)
  generalize b.ty.opn (frN M) = u at k1 k2 ⊢
  generalize frN M = fr at h k1 hl
  rw [g230L0_eq] at h
  simp [scC, frN] at h
  cases e : (Ty.rt u [] a.ty).1 with
  | true =>
    simp [e, rI] at k1 k2
    simp [g230, g230L0_eq, h, k1, k2]
  | false =>
    simp [e, rI] at k1 k2
    simp [g230, g230L0_eq, h, k1, k2]

end Go.Ab.Lw
namespace Go.Ab.Lw
open Ev
set_option maxRecDepth 10000
set_option linter.unusedSimpArgs false
/-- A closed type whose quantified variables are in order. -/
structure Cl (a : Sc) (n : Nat) : Prop where
  num : a.id = n
  few : n ≤ 26
  ok : a.ty.Ok
  small : a.ty.nodes.length < 1000000
  bd : Bd a.ty
  no5 : ∀ v ∈ a.ty.nodes, v.kind ≠ 5
  ord : bndU a.ty = iR n

theorem kid_node {t : Ty} : ∀ y ∈ t.args, ∀ v ∈ y.nodes, v ∈ t.nodes := by
  intro y hy v hv
  rw [Ty.nodes_eq t]
  simp only [List.mem_cons, List.mem_flatMap]
  exact .inr ⟨y, hy, hv⟩
theorem mem_seqB {t : Ty} {i : Int} : i ∈ seqB t ↔ ∃ v ∈ t.nodes, v.kind = 2 ∧ v.id = i := by
  unfold seqB
  simp only [List.mem_flatMap, Go.Ab.Lw.bnd]
  constructor
  · rintro ⟨v, hv, h⟩
    split at h
    · rename_i e; simp at h; exact ⟨v, hv, e, h.symm⟩
    · simp at h
  · rintro ⟨v, hv, e, rfl⟩
    exact ⟨v, hv, by simp [e]⟩
theorem Cl.rng {a : Sc} {n : Nat} (h : Cl a n) : Rng n a.ty := by
  intro x hx hk
  have hm : x.id ∈ seqB a.ty := mem_seqB.2 ⟨x, hx, hk, rfl⟩
  have : x.id ∈ bndU a.ty := mem_foldU.2 (.inr hm)
  rw [h.ord, mem_iR] at this
  exact this

/-! ### Opening is replacing -/
theorem opn_bind {l : List Ty} {t : Ty} (hR : Rng l.length t) : t.opn l = t.bind (fun i => (l[i.toNat]?).getD zTy) := by
  revert hR
  refine Ty.rec1 (p := fun t => Rng l.length t → t.opn l = t.bind (fun i => (l[i.toNat]?).getD zTy)) ?_ t
  intro t ih hR
  rw [Ty.opn_eq, Ty.bind_eq]
  by_cases e : t.kind = 2
  · obtain ⟨h0, h1⟩ := hR t self_node e
    have hlt : t.id.toNat < l.length := by omega
    obtain ⟨x, hx⟩ := getO hlt
    rw [if_pos e]
    unfold plc
    rw [if_pos ⟨e, h0, h1⟩, hx]
    rfl
  · rw [if_neg e]
    have : plc l t = none := by unfold plc; rw [if_neg (fun h => e h.1)]
    rw [this]
    simp only [Option.getD_none]
    congr 1
    exact List.map_congr_left (fun x hx => ih x hx (hR.kid x hx))

/-- Names back to quantified variables. -/
def unN (s : List UInt8) : Ty := match (List.range 26).find? (fun j => decide (nmN j = s)) with
  | some j => tyBound j
  | none => zTy
mutual
def Ty.unn : Ty → Ty
  | ⟨k, n, i, h, as⟩ => if k = 5 then unN n else ⟨k, n, i, h, Ty.unns as⟩
def Ty.unns : List Ty → List Ty
  | [] => []
  | a :: r => a.unn :: Ty.unns r
end
theorem Ty.unns_map : ∀ l : List Ty, Ty.unns l = l.map Ty.unn
  | [] => by simp [Ty.unns]
  | a :: r => by simp [Ty.unns, Ty.unns_map r]
theorem Ty.unn_eq (t : Ty) : t.unn = if t.kind = 5 then unN t.name else ⟨t.kind, t.name, t.id, t.home, t.args.map Ty.unn⟩ := by
  cases t; simp only [Ty.unn, Ty.unns_map]
theorem nm_inj : ∀ j, j < 26 → (List.range 26).find? (fun i => decide (nmN i = nmN j)) = some j := by decide +kernel
theorem unn_fr {j : Nat} (h : j < 26) : (tyNamed (nmN j)).unn = tyBound j := by
  rw [Ty.unn_eq, if_pos (by rfl)]
  unfold unN
  have : (tyNamed (nmN j)).name = nmN j := rfl
  rw [this, nm_inj j h]
theorem unn_bind {F : Int → Ty} {a : Ty} (h : ∀ v ∈ a.nodes, v.kind ≠ 5) : (a.bind F).unn = a.bind (fun i => (F i).unn) := by
  revert h
  refine Ty.rec1 (p := fun a => (∀ v ∈ a.nodes, v.kind ≠ 5) → (a.bind F).unn = a.bind (fun i => (F i).unn)) ?_ a
  intro a ih h
  rw [Ty.bind_eq F a, Ty.bind_eq _ a]
  by_cases e : a.kind = 2
  · rw [if_pos e, if_pos e]
  · rw [if_neg e, if_neg e, Ty.unn_eq, if_neg (h a self_node)]
    simp only [List.map_map]
    congr 1
    exact List.map_congr_left (fun x hx => ih x hx (fun v hv => h v (kid_node x hx v hv)))
theorem bind_congr {F G : Int → Ty} {p : Ty} (h : ∀ i ∈ seqB p, F i = G i) : p.bind F = p.bind G := by
  revert h
  refine Ty.rec1 (p := fun p => (∀ i ∈ seqB p, F i = G i) → p.bind F = p.bind G) ?_ p
  intro p ih h
  rw [Ty.bind_eq F p, Ty.bind_eq G p]
  by_cases e : p.kind = 2
  · rw [if_pos e, if_pos e]
    exact h _ (mem_seqB.2 ⟨p, self_node, e, rfl⟩)
  · rw [if_neg e, if_neg e]
    congr 1
    exact List.map_congr_left (fun x hx => ih x hx (fun i hi => by
      obtain ⟨v, hv, e1, e2⟩ := mem_seqB.1 hi
      exact h i (mem_seqB.2 ⟨v, kid_node x hx v hv, e1, e2⟩)))

/-- **Both Generals are one.** -/
theorem genR_genP {a b : Sc} {N M : Nat} (ha : Cl a N) (hb : Cl b M) : genR a b N M = genP a b := by
  rw [Bool.eq_iff_iff]
  unfold genR
  rw [(rt_mt (p := a.ty) (t := b.ty.opn (frN M)) (m := []) (m' := []) (fun _ => rfl)).1]
  have e1 : b.ty.opn (frN M) = b.ty.bind (fun i => ((frN M)[i.toNat]?).getD zTy) := opn_bind (by rw [frN_len]; exact hb.rng)
  have hu : (b.ty.opn (frN M)).unn = b.ty := by
    rw [e1, unn_bind hb.no5]
    rw [bind_congr (G := tyBound)]
    · exact bind_self hb.bd
    · intro i hi
      obtain ⟨v, hv, k2, rfl⟩ := mem_seqB.1 hi
      obtain ⟨h0, h1⟩ := hb.rng v hv k2
      have hlt : v.id.toNat < M := by omega
      have hx : (frN M)[v.id.toNat]? = some (tyNamed (nmN v.id.toNat)) := by
        simp [frN, hlt]
      have hf := hb.few
      simp only [hx, Option.getD_some]
      rw [unn_fr (by omega), Int.toNat_of_nonneg h0]
  have g1 : (Ty.mt (b.ty.opn (frN M)) [] a.ty).1 = true ↔ ∃ F, a.ty.bind F = b.ty.opn (frN M) := genP_iff (a := a) (b := ⟨0, b.ty.opn (frN M)⟩)
  rw [g1, genP_iff]
  constructor
  · rintro ⟨F, h⟩
    refine ⟨fun i => (F i).unn, ?_⟩
    rw [← unn_bind ha.no5, h, hu]
  · rintro ⟨F, h⟩
    rw [e1, ← h, bind_bind]
    exact ⟨_, rfl⟩

/-! ### General both ways -/
theorem Bd.leaf {p : Ty} (h : Bd p) (e : p.kind = 2) : p.args = [] := by
  have := congrArg Ty.args (h p self_node e)
  exact this
end Go.Ab.Lw
namespace Go.Ab.Lw
open Ev
set_option maxRecDepth 10000
set_option linter.unusedSimpArgs false
/-- A type without quantified or written variables. -/
def NoK (t : Ty) : Prop := ∀ v ∈ t.nodes, v.kind ≠ 2 ∧ v.kind ≠ 5
theorem NoK.kid {t : Ty} (h : NoK t) : ∀ y ∈ t.args, NoK y := fun y hy v hv => h v (kid_node y hy v hv)
theorem NoK.mk {t : Ty} (h : t.kind ≠ 2 ∧ t.kind ≠ 5) (ha : ∀ y ∈ t.args, NoK y) : NoK t := by
  intro v hv
  rw [Ty.nodes_eq] at hv
  simp only [List.mem_cons, List.mem_flatMap] at hv
  rcases hv with rfl | ⟨y, hy, hv⟩
  · exact h
  · exact ha y hy v hv
theorem Made.noK {lv : Ty → Prop} (h : ∀ t, lv t → t.args = [] ∧ t.kind ≠ 2 ∧ t.kind ≠ 5) {t : Ty} (m : Made lv t) : NoK t := by
  induction m with
  | leaf hl => exact NoK.mk (h _ hl).2 (by rw [(h _ hl).1]; simp)
  | int => exact NoK.mk (by simp [tyInt]) (by simp [tyInt])
  | con _ _ _ ih => exact NoK.mk (by simp) ih
  | arrow _ _ ha hb => exact NoK.mk (by simp) (by intro y hy; simp at hy; rcases hy with rfl | rfl <;> assumption)
theorem noK_seqB {t : Ty} (h : NoK t) : seqB t = [] := by
  rw [List.eq_nil_iff_forall_not_mem]
  intro i hi
  obtain ⟨v, hv, e, _⟩ := mem_seqB.1 hi
  exact (h v hv).1 e

/-- What closing a plain type makes. -/
def Qn (v : Ty) : Prop := v.kind ≠ 5 ∧ (v.kind = 2 → v = tyBound v.id)
theorem sub_Q {s : List As} (hs : ∀ a ∈ s, ∀ v ∈ a.ty.nodes, Qn v) {t : Ty} (h : NoK t) : ∀ v ∈ (t.sub s).nodes, Qn v := by
  revert h
  refine Ty.rec1 (p := fun t => NoK t → ∀ v ∈ (t.sub s).nodes, Qn v) ?_ t
  intro t ih h
  rw [Ty.sub_eq]
  split
  · cases hf : fnd s t.id with
    | none => intro v hv; exact ⟨(h v hv).2, fun e => absurd e (h v hv).1⟩
    | some u => obtain ⟨a, ha, rfl⟩ := fnd_mem hf; intro v hv; exact hs a ha v hv
  · intro v hv
    rw [Ty.nodes_eq] at hv
    simp only [List.mem_cons, List.mem_flatMap, List.mem_map] at hv
    rcases hv with rfl | ⟨_, ⟨y, hy, rfl⟩, hv⟩
    · exact ⟨(h t self_node).2, fun e => absurd e (h t self_node).1⟩
    · exact ih y hy (h.kid y hy) v hv

structure Src (t : Ty) : Prop where
  good : Good (leavesK ++ leavesS) t
  noK : NoK t
  small : t.nodes.length ≤ 100000
theorem lKS_few : (leavesK ++ leavesS).length = 11 := by simp [leavesK, leavesS]
theorem Src.vars {t : Ty} (h : Src t) : (Lw.vars [t]).length ≤ 11 := by
  have c0 : Coll ((leavesK ++ leavesS).map Ty.id) [] := coll_nil (by simp [leavesK, leavesS])
  have c1 := c0.fold (l := [t].flatMap Ty.nodes) (by
    intro x hx hk
    simp at hx
    exact List.mem_map_of_mem (h.good.sub x (nodes_var h.good.wf x hx hk)))
  have := nodup_len c1.nodup c1.sub
  rw [List.length_map, lKS_few] at this
  exact this
theorem Src.cl {t : Ty} (h : Src t) (ids : List Int) : ∃ n, Cl (closeSc ids t (Lw.vars [t])) n := by
  obtain ⟨b1, b2⟩ := bndU_close (ids := ids) h.good.wf (noK_seqB h.noK)
  have hv := h.vars
  have hl := closeS_len (ids := ids) (Lw.vars [t]) []
  have es : closeS ids (Lw.vars [t]) [] = enumK 0 ((Lw.vars [t]).filter fun v => decide (v ∈ ids)) := by simp [closeS_enum]
  have hq : ∀ v ∈ (closeSc ids t (Lw.vars [t])).ty.nodes, Qn v := by
    unfold closeSc
    rw [es]
    refine sub_Q ?_ h.noK
    exact enumK_all (P := fun u => ∀ v ∈ u.nodes, Qn v) (fun i _ v hv => by
      rw [Ty.nodes_eq] at hv
      simp [tyBound] at hv
      subst hv
      exact ⟨by simp, fun _ => rfl⟩)
  have hsm : (closeSc ids t (Lw.vars [t])).ty.nodes.length < 1000000 := by
    unfold closeSc
    rw [es, sub_nodes_len (enumK_all (P := fun t => t.args = []) (fun _ _ => rfl)) h.good.wf]
    have := h.small
    omega
  have hid : (closeSc ids t (Lw.vars [t])).id = (closeS ids (Lw.vars [t]) []).length := rfl
  refine ⟨(closeSc ids t (Lw.vars [t])).id.toNat, ?_⟩
  exact { num := by omega, few := by simp at hl; omega, ok := closeSc_ok h.good.ok, small := hsm, bd := fun v hv => (hq v hv).2, no5 := fun v hv => (hq v hv).1, ord := b1 }
end Go.Ab.Lw
namespace Go.Ab.Lw
open Ev
set_option maxRecDepth 10000
set_option linter.unusedSimpArgs false
theorem kindsK : ∀ t, t ∈ leavesK → t.args = [] ∧ t.kind ≠ 2 ∧ t.kind ≠ 5 := by
  intro t ht
  simp [leavesK] at ht
  rcases ht with rfl | rfl | rfl | rfl | rfl <;> simp [tyVar, tyRigid]
theorem src_K {t : Ty} (m : Made (· ∈ leavesK) t) (h : t.nodes.length ≤ 729) : Src t :=
  ⟨(m.good leavesK_bare).mono (fun _ h => List.mem_append_left _ h), m.noK kindsK, by omega⟩
/-- A made scheme. -/
def Mk (a : Sc) : Prop := ∃ n, Cl a n
end Go.Ab.Lw
namespace Go.Ab.Lw
open Ev
set_option maxRecDepth 10000
set_option linter.unusedSimpArgs false
def tq (L : List Int) (i : Int) : Sh := [some [.pv (.lst (L.map vI)), .pv (vI i)], none]
@[simp] theorem tq_eq (L : List Int) (i : Int) : tq L i = [some [.pv (.lst (L.map vI)), .pv (vI i)], none] := rfl
theorem calm_tq {L : List Int} {i : Int} : Calm (tq L i) := fun _ _ => rfl

theorem c68q {L : List Int} (hL : Sm L) {i : Nat} (hi : i ≤ L.length) {n : Int} (h1 : 1 ≤ n) (h2 : n < 4611686018427387904) :
    ∃ (r : Int) (j : Nat), (orcL AP).i 68 [.sptr 0 0, .pv (vI n)] (tq L i) [] = some ([.pv (vI r)], tq L j, []) ∧ 0 ≤ r ∧ r < n ∧ j ≤ L.length := by
  unfold Sm at hL
  rw [callI_body (af := g68) rfl (by simp [g68])]
  by_cases h : i < L.length
  · obtain ⟨x, hx⟩ := getO h
    obtain ⟨r, e, e1, e2⟩ := c26 (n := x) h1 h2
    refine ⟨r, i + 1, ?_, e1, e2, h⟩
    have h' : ¬ L.length ≤ i := by omega
    simp (disch := omega) [-getElem?_pos, g68, h', wrap_id, hx, e]
  · have h' : L.length ≤ i := by omega
    refine ⟨0, i, ?_, by omega, by omega, hi⟩
    simp [g68, h']

/-- What the maker of types gives at a depth. -/
def GivesGq (L : List Int) (ds : List Dt) (lv : List Ty) (dep : Nat) : Prop := ∀ i : Nat, i ≤ L.length → ∃ (t : Ty) (j : Nat),
  (orcL AP).i 27 [.sptr 0 0, .pv (.lst (ds.map Dt.pv)), .pv (.lst (lv.map Ty.pv)), .pv (vI dep)] (tq L i) [] = some ([t.av], tq L j, []) ∧ MadeG (· ∈ ds) lv dep t ∧ j ≤ L.length

theorem L27gq {L : List Int} {ds : List Dt} {lv : List Ty} {dep : Nat} (hdep : dep < 1000) (hg : GivesGq L ds lv dep) {d : Dt} (hS : Sm d.params) : ∀ (n k : Nat), d.params.length - k = n → k ≤ d.params.length → ∀ (acc : List Ty) (i : Nat), acc.length = k → (∀ x ∈ acc, MadeG (· ∈ ds) lv dep x) → i ≤ L.length →
    ∃ (r : List Ty) (j : Nat), cl AP g27L0 ⟨[(0, .sptr 0 0), (1, .pv (.lst (ds.map Dt.pv))), (2, .pv (.lst (lv.map Ty.pv))), (3, .pv (vI (dep + 1))), (8, .lptr 8 0), (10, .lptr 10 0), (11, .own (acc.map Ty.pv) 0), (12, .pv (vI k))],
      [(8, [.pv (vI 0), .pv (.str []), .pv (vI 0), .pv (vI 0), .own [] 1]), (10, [.pv (vI d.pos), .pv (.str d.name), .pv (.lst (d.params.map .str)), .pv (.lst (d.cons.map Con.pv))])], tq L i, [acc.length, 0]⟩ =
      some (.exit 1, ⟨[(0, .sptr 0 0), (1, .pv (.lst (ds.map Dt.pv))), (2, .pv (.lst (lv.map Ty.pv))), (3, .pv (vI (dep + 1))), (8, .lptr 8 0), (10, .lptr 10 0), (11, .own (r.map Ty.pv) 0), (12, .pv (vI d.params.length)), (65, .pv (.bool false))],
      [(8, [.pv (vI 0), .pv (.str []), .pv (vI 0), .pv (vI 0), .own [] 1]), (10, [.pv (vI d.pos), .pv (.str d.name), .pv (.lst (d.params.map .str)), .pv (.lst (d.cons.map Con.pv))])], tq L j, [r.length, 0]⟩) ∧
      r.length = d.params.length ∧ (∀ x ∈ r, MadeG (· ∈ ds) lv dep x) ∧ j ≤ L.length
  | 0, k, hn, hk, acc, i, ha, hm, hi => by
    have : k = d.params.length := by omega
    subst this
    refine ⟨acc, i, ?_, ha, hm, hi⟩
    rw [g27L0_eq]
    simp [g27B0]
  | n + 1, k, hn, hk, acc, i, ha, hm, hi => by
    unfold Sm at hS
    have hk : k < d.params.length := by omega
    have hb : (acc.length + 1) * 64 ≤ 140737488355328 := by omega
    obtain ⟨t, j, e, mt, hj⟩ := hg i hi
    simp at e
    obtain ⟨r, j', e', hr, hm', hj'⟩ := L27gq hdep hg hS n (k + 1) (by omega) (by omega) (acc ++ [t]) j (by simp; omega) (by
      intro x hx; simp at hx; rcases hx with hx | rfl
      · exact hm x hx
      · exact mt) hj
    simp at e'
    refine ⟨r, j', ?_, hr, hm', hj'⟩
    rw [g27L0_eq]
    have h1 : (dep : Int) + 1 - 1 = dep := by omega
    simp (disch := omega) [-getElem?_pos, g27B0, hk, wrap_id, h1, e, hb]
    rw [e']

theorem g27_0q {L : List Int} (hL : Sm L) {ds : List Dt} {lv : List Ty} (hlv : Sm lv) : GivesGq L ds lv 0 := by
  intro i hi
  obtain ⟨k, j1, e1, k0, k7, hj1⟩ := c68q hL hi (n := 7) (by omega) (by omega)
  simp at e1
  unfold Sm at hlv
  by_cases h1 : k < 3
  · by_cases h2 : lv = []
    · subst h2
      refine ⟨tyInt, j1, ?_, .int, hj1⟩
      have c := c34
      simp at c
      rw [callI_body (af := g27) rfl (by simp [g27])]
      simp [-getElem?_pos, g27, e1, h1, c, tyInt]
    · have hp : 0 < lv.length := List.length_pos_iff.2 h2
      obtain ⟨r, j2, e2, r0, r1, hj2⟩ := c68q hL hj1 (n := lv.length) (by omega) (by omega)
      obtain ⟨m, rfl, hm⟩ := natI r0 r1
      obtain ⟨x, hx⟩ := getO hm
      simp at e2
      refine ⟨x, j2, ?_, .leaf (memO hx), hj2⟩
      rw [callI_body (af := g27) rfl (by simp [g27])]
      simp [-getElem?_pos, g27, e1, h1, hp, e2, hx]
  · refine ⟨tyInt, j1, ?_, .int, hj1⟩
    have c := c34
    simp at c
    rw [callI_body (af := g27) rfl (by simp [g27])]
    simp [-getElem?_pos, g27, e1, h1, c, tyInt]

theorem g27_sq {L : List Int} (hL : Sm L) {ds : List Dt} (hds : ds.length ≤ 20) (hda : ∀ d ∈ ds, d.params.length ≤ 8) {lv : List Ty} (hlv : Sm lv) {dep : Nat} (hdep : dep < 1000) (hg : GivesGq L ds lv dep) : GivesGq L ds lv (dep + 1) := by
  intro i hi
  obtain ⟨k, j1, e1, k0, k7, hj1⟩ := c68q hL hi (n := 7) (by omega) (by omega)
  simp at e1
  unfold Sm at hlv
  have hd1 : ¬ ((dep : Int) + 1 < 1) := by omega
  have hd2 : (dep : Int) + 1 - 1 = dep := by omega
  have leafCase : ∀ h1 : k < 3, ∀ h2 : ¬ lv = [], ∃ (t : Ty) (j : Nat), (orcL AP).i 27 [.sptr 0 0, .pv (.lst (ds.map Dt.pv)), .pv (.lst (lv.map Ty.pv)), .pv (vI ((dep + 1 : Nat) : Int))] (tq L i) [] = some ([t.av], tq L j, []) ∧ MadeG (· ∈ ds) lv (dep + 1) t ∧ j ≤ L.length := by
    intro h1 h2
    have hp : 0 < lv.length := List.length_pos_iff.2 h2
    obtain ⟨r, j2, e2, r0, r1, hj2⟩ := c68q hL hj1 (n := lv.length) (by omega) (by omega)
    obtain ⟨m, rfl, hm⟩ := natI r0 r1
    obtain ⟨x, hx⟩ := getO hm
    simp at e2
    refine ⟨x, j2, ?_, .leaf (memO hx), hj2⟩
    rw [callI_body (af := g27) rfl (by simp [g27])]
    simp [-getElem?_pos, g27, e1, h1, hp, e2, hx]
  by_cases h1 : k < 3 ∧ ¬ lv = []
  · exact leafCase h1.1 h1.2
  · have h1' : ¬ k < 3 ∨ lv = [] := by
      by_cases h : k < 3
      · right; by_cases h' : lv = []
        · exact h'
        · exact absurd ⟨h, h'⟩ h1
      · exact .inl h
    by_cases h2 : k < 4
    · refine ⟨tyInt, j1, ?_, .int, hj1⟩
      have c := c34
      simp at c
      rw [callI_body (af := g27) rfl (by simp [g27])]
      rcases h1' with h | h
      · simp [-getElem?_pos, g27, e1, h, h2, c, tyInt]
      · subst h
        simp [-getElem?_pos, g27, e1, h2, c, tyInt]
    · have h3 : ¬ k < 3 := by omega
      by_cases h4 : (k = 4 ∨ k = 5) ∧ ¬ ds = []
      · obtain ⟨h4, h5⟩ := h4
        have hp : 0 < ds.length := List.length_pos_iff.2 h5
        obtain ⟨r, j2, e2, r0, r1, hj2⟩ := c68q hL hj1 (n := ds.length) (by omega) (by omega)
        obtain ⟨m, rfl, hm⟩ := natI r0 r1
        obtain ⟨d, hx⟩ := getO hm
        simp at e2
        have hdm := memO hx
        have hps : Sm d.params := by
          unfold Sm
          have := hda d hdm
          omega
        obtain ⟨as, j3, e3, ha, hm3, hj3⟩ := L27gq hdep hg hps d.params.length 0 rfl (by omega) [] j2 rfl (by simp) hj2
        rw [g27L0_eq] at e3
        simp at e3
        have hsa : Sm as := by unfold Sm at hps ⊢; omega
        have c := c62 (s := d.name) (l := as) hsa
        simp at c
        refine ⟨⟨4, d.name, 0, 0, as⟩, j3, ?_, .con hdm ha hm3, hj3⟩
        rw [callI_body (af := g27) rfl (by simp [g27])]
        rcases h4 with rfl | rfl
        · simp [-getElem?_pos, g27, e1, hp, hd1, e2, hx, g27L0_eq, e3, c]
        · simp [-getElem?_pos, g27, e1, hp, hd1, e2, hx, g27L0_eq, e3, c]
      · obtain ⟨a, j2, ea, ma, hj2⟩ := hg j1 hj1
        obtain ⟨b, j3, eb, mb, hj3⟩ := hg j2 hj2
        simp at ea eb
        have c := c69 (a := a) (b := b)
        simp at c
        refine ⟨⟨4, [45, 62], 0, 0, [a, b]⟩, j3, ?_, .arrow ma mb, hj3⟩
        rw [callI_body (af := g27) rfl (by simp [g27])]
        by_cases h5 : ds = []
        · subst h5
          simp at ea eb
          simp (disch := omega) [-getElem?_pos, g27, e1, h2, h3, hd1, hd2, wrap_id, ea, eb, c]
        · have h6 : ¬ k = 4 ∧ ¬ k = 5 := by
            constructor
            · intro h; exact h4 ⟨.inl h, h5⟩
            · intro h; exact h4 ⟨.inr h, h5⟩
          simp (disch := omega) [-getElem?_pos, g27, e1, h2, h3, h6.1, h6.2, hd1, hd2, wrap_id, ea, eb, c]
theorem mk27q {L : List Int} (hL : Sm L) {ds : List Dt} (hds : ds.length ≤ 20) (hda : ∀ d ∈ ds, d.params.length ≤ 8) {lv : List Ty} (hlv : Sm lv) : ∀ dep : Nat, dep < 1000 → GivesGq L ds lv dep
  | 0, _ => g27_0q hL hlv
  | dep + 1, h => g27_sq hL hds hda hlv (by omega) (mk27q hL hds hda hlv dep (by omega))

theorem c175q {L : List Int} (hL : Sm L) {i : Nat} (hi : i ≤ L.length) : ∃ (s : List UInt8) (j : Nat), (orcL AP).i 175 [.sptr 0 0] (tq L i) [] = some ([.pv (.str s)], tq L j, []) ∧ s ∈ varNames ∧ j ≤ L.length := by
  obtain ⟨k, j, e, k0, k8, hj⟩ := c68q hL hi (n := 8) (by omega) (by omega)
  obtain ⟨m, rfl, hm⟩ := natI (n := varNames.length) k0 (by simpa [varNames] using k8)
  obtain ⟨s, hs⟩ := getO hm
  refine ⟨s, j, ?_, memO hs, hj⟩
  simp at e
  rw [callI_body (af := g175) rfl (by simp [g175])]
  have hs' : ([PV.str [120], .str [121], .str [122], .str [102], .str [103], .str [118, 49], .str [118, 50], .str [105, 100]] : List PV)[m]? = some (.str s) := by
    have : ([PV.str [120], .str [121], .str [122], .str [102], .str [103], .str [118, 49], .str [118, 50], .str [105, 100]] : List PV) = varNames.map PV.str := rfl
    rw [this]; simp [hs]
  simp [-getElem?_pos, g175, e, hs']

theorem leavesE_K : ∀ t, t ∈ leavesE → t ∈ leavesK := by
  intro t ht
  simp [leavesE] at ht
  rcases ht with rfl | rfl | rfl | rfl <;> simp [leavesK]
theorem src_E {t : Ty} (m : Made (· ∈ leavesE) t) (h : t.nodes.length ≤ 81) : Src t := src_K (m.mono leavesE_K) (by omega)
theorem mk_close {t : Ty} (m : Made (· ∈ leavesE) t) (h : t.nodes.length ≤ 81) {ids : List Int} : Mk (closeSc ids t (vars [t])) := (src_E m h).cl ids
theorem cl_noK {t : Ty} (hO : t.Ok) (hs : t.nodes.length < 1000000) (hK : NoK t) : Cl ⟨0, t⟩ 0 :=
  { num := rfl, few := by omega, ok := hO, small := hs, bd := fun v hv e => absurd e (hK v hv).1, no5 := fun v hv => (hK v hv).2, ord := by unfold bndU; rw [noK_seqB hK]; rfl }
theorem mk_mono {t : Ty} (m : Made (· ∈ leavesE) t) (h : t.nodes.length ≤ 81) : Mk ⟨0, t⟩ :=
  have s := src_E m h
  ⟨0, cl_noK s.good.ok (by have := s.small; omega) s.noK⟩

theorem L174k {L : List Int} (hL : Sm L) (bits : Int) : ∀ (n : Nat), n ≤ 6 → ∀ (acc : List En) (i : Nat), acc.length + n ≤ 6 → (∀ x ∈ acc, Mk x.sc) → i ≤ L.length → ∃ (r : List En) (j : Nat),
    cl AP g174L0 ⟨[(0, .sptr 0 0), (1, .pv (vI bits)), (5, .own (acc.map En.pv) 0), (6, .pv (vI n))], [], tp L i, [acc.length]⟩ =
      some (.exit 0, ⟨[(0, .sptr 0 0), (1, .pv (vI bits)), (5, .own (r.map En.pv) 0), (6, .pv (vI 0)), (12, .pv (.bool false))], [], tp L j, [r.length]⟩) ∧ r.length ≤ 6 ∧ (∀ x ∈ r, Mk x.sc) ∧ j ≤ L.length
  | 0, _, acc, i, ha, hm, hi => by
    refine ⟨acc, i, ?_, by omega, hm, hi⟩
    rw [g174L0_eq]
    simp [g174B0]
  | n + 1, hn, acc, i, ha, hm, hi => by
    obtain ⟨ds, ed, hda, hds⟩ := c32 bits
    have v3 := c70_3 (sh := tp L i) calm_tp
    have r0 := c71 (n := 0) (m := 0)
    obtain ⟨t, j1, e1, mt, hj1⟩ := mk27 hL (by omega) (fun d hd => params_few d (hda d hd)) (lv := leavesE) (by simp [Sm, leavesE]) 2 (by omega) i hi
    have hsm := mt.small (fun d hd => params_few d (hda d hd)) leavesE_bare
    have mt := mt.made hda
    have cm := c176 (t := t)
    obtain ⟨q, j2, e2, q0, q2, hj2⟩ := c68 hL hj1 (n := 2) (by omega) (by omega)
    have hb : (acc.length + 1) * 88 ≤ 140737488355328 := by omega
    have hn1 : ((n : Int) + 1 - 1) = n := by omega
    have hn2 : (0 : Int) < (n : Int) + 1 := by omega
    by_cases hq : q = 0
    · obtain ⟨p, j3, e3, _, _, hj3⟩ := c68 hL hj2 (n := 3) (by omega) (by omega)
      obtain ⟨s, j4, e4, hs, hj4⟩ := c175 hL hj3
      have cc := c208 (mt.few (by simp [leavesE]) leavesE_bare) (ids := [p, 1]) (by simp [Sm])
      obtain ⟨r, j, e, hr, hmr, hj⟩ := L174k hL bits n (by omega) (acc ++ [⟨s, closeSc [p, 1] t (vars [t])⟩]) j4 (by simp; omega) (by
        intro x hx
        simp at hx
        rcases hx with hx | rfl
        · exact hm x hx
        · exact mk_close mt (by simpa using hsm)) hj4
      refine ⟨r, j, ?_, hr, hmr, hj⟩
      subst hq
      rw [g174L0_eq] at e ⊢
      simp [leavesE, tyVar, tyRigid] at ed v3 r0 e1 cm e2 e3 e4 cc e
      simp (disch := omega) [-getElem?_pos, g174B0, hn1, hn2, ed, v3, r0, tyVar, e1, cm, e2, e3, cc, e4, hb, wrap_id]
      rw [g174L0_eq]
      simp [e]
    · obtain ⟨s, j4, e4, hs, hj4⟩ := c175 hL hj2
      obtain ⟨r, j, e, hr, hmr, hj⟩ := L174k hL bits n (by omega) (acc ++ [⟨s, ⟨0, t⟩⟩]) j4 (by simp; omega) (by
        intro x hx
        simp at hx
        rcases hx with hx | rfl
        · exact hm x hx
        · exact mk_mono mt (by simpa using hsm)) hj4
      refine ⟨r, j, ?_, hr, hmr, hj⟩
      rw [g174L0_eq] at e ⊢
      simp [leavesE, tyVar, tyRigid] at ed v3 r0 e1 cm e2 e4 e
      simp (disch := omega) [-getElem?_pos, g174B0, hn1, hn2, ed, v3, r0, tyVar, e1, cm, e2, hq, e4, hb, wrap_id]
      rw [g174L0_eq]
      simp [e]

theorem c174k {L : List Int} (hL : Sm L) (bits : Int) {i : Nat} (hi : i ≤ L.length) : ∃ (r : List En) (j : Nat),
    (orcL AP).i 174 [.sptr 0 0, .pv (vI bits)] (tp L i) [] = some ([.own (r.map En.pv) 0], tp L j, [r.length]) ∧ r.length ≤ 6 ∧ (∀ x ∈ r, Mk x.sc) ∧ j ≤ L.length := by
  obtain ⟨k, j1, e1, k0, k6, hj1⟩ := c68 hL hi (n := 6) (by omega) (by omega)
  obtain ⟨m, rfl, hm⟩ := natI (n := 6) k0 (by simpa using k6)
  obtain ⟨r, j, e, hr, hmr, hj⟩ := L174k hL bits m (by omega) [] j1 (by simp; omega) (by simp) hj1
  refine ⟨r, j, ?_, hr, hmr, hj⟩
  rw [g174L0_eq] at e
  simp at e e1
  rw [callI_body (af := g174) rfl (by simp [g174])]
  simp [-getElem?_pos, g174, e1, g174L0_eq, e]

theorem L174q {L : List Int} (hL : Sm L) (bits : Int) : ∀ (n : Nat), n ≤ 6 → ∀ (acc : List En) (i : Nat), acc.length + n ≤ 6 → (∀ x ∈ acc, Mk x.sc) → i ≤ L.length → ∃ (r : List En) (j : Nat),
    cl AP g174L0 ⟨[(0, .sptr 0 0), (1, .pv (vI bits)), (5, .own (acc.map En.pv) 0), (6, .pv (vI n))], [], tq L i, [acc.length]⟩ =
      some (.exit 0, ⟨[(0, .sptr 0 0), (1, .pv (vI bits)), (5, .own (r.map En.pv) 0), (6, .pv (vI 0)), (12, .pv (.bool false))], [], tq L j, [r.length]⟩) ∧ r.length ≤ 6 ∧ (∀ x ∈ r, Mk x.sc) ∧ j ≤ L.length
  | 0, _, acc, i, ha, hm, hi => by
    refine ⟨acc, i, ?_, by omega, hm, hi⟩
    rw [g174L0_eq]
    simp [g174B0]
  | n + 1, hn, acc, i, ha, hm, hi => by
    obtain ⟨ds, ed, hda, hds⟩ := c32 bits
    have v3 := c70_3 (sh := tq L i) calm_tq
    have r0 := c71 (n := 0) (m := 0)
    obtain ⟨t, j1, e1, mt, hj1⟩ := mk27q hL (by omega) (fun d hd => params_few d (hda d hd)) (lv := leavesE) (by simp [Sm, leavesE]) 2 (by omega) i hi
    have hsm := mt.small (fun d hd => params_few d (hda d hd)) leavesE_bare
    have mt := mt.made hda
    have cm := c176 (t := t)
    obtain ⟨q, j2, e2, q0, q2, hj2⟩ := c68q hL hj1 (n := 2) (by omega) (by omega)
    have hb : (acc.length + 1) * 88 ≤ 140737488355328 := by omega
    have hn1 : ((n : Int) + 1 - 1) = n := by omega
    have hn2 : (0 : Int) < (n : Int) + 1 := by omega
    by_cases hq : q = 0
    · obtain ⟨p, j3, e3, _, _, hj3⟩ := c68q hL hj2 (n := 3) (by omega) (by omega)
      obtain ⟨s, j4, e4, hs, hj4⟩ := c175q hL hj3
      have cc := c208 (mt.few (by simp [leavesE]) leavesE_bare) (ids := [p, 1]) (by simp [Sm])
      obtain ⟨r, j, e, hr, hmr, hj⟩ := L174q hL bits n (by omega) (acc ++ [⟨s, closeSc [p, 1] t (vars [t])⟩]) j4 (by simp; omega) (by
        intro x hx
        simp at hx
        rcases hx with hx | rfl
        · exact hm x hx
        · exact mk_close mt (by simpa using hsm)) hj4
      refine ⟨r, j, ?_, hr, hmr, hj⟩
      subst hq
      rw [g174L0_eq] at e ⊢
      simp [leavesE, tyVar, tyRigid] at ed v3 r0 e1 cm e2 e3 e4 cc e
      simp (disch := omega) [-getElem?_pos, g174B0, hn1, hn2, ed, v3, r0, tyVar, e1, cm, e2, e3, cc, e4, hb, wrap_id]
      rw [g174L0_eq]
      simp [e]
    · obtain ⟨s, j4, e4, hs, hj4⟩ := c175q hL hj2
      obtain ⟨r, j, e, hr, hmr, hj⟩ := L174q hL bits n (by omega) (acc ++ [⟨s, ⟨0, t⟩⟩]) j4 (by simp; omega) (by
        intro x hx
        simp at hx
        rcases hx with hx | rfl
        · exact hm x hx
        · exact mk_mono mt (by simpa using hsm)) hj4
      refine ⟨r, j, ?_, hr, hmr, hj⟩
      rw [g174L0_eq] at e ⊢
      simp [leavesE, tyVar, tyRigid] at ed v3 r0 e1 cm e2 e4 e
      simp (disch := omega) [-getElem?_pos, g174B0, hn1, hn2, ed, v3, r0, tyVar, e1, cm, e2, hq, e4, hb, wrap_id]
      rw [g174L0_eq]
      simp [e]

theorem c174q {L : List Int} (hL : Sm L) (bits : Int) {i : Nat} (hi : i ≤ L.length) : ∃ (r : List En) (j : Nat),
    (orcL AP).i 174 [.sptr 0 0, .pv (vI bits)] (tq L i) [] = some ([.own (r.map En.pv) 0], tq L j, [r.length]) ∧ r.length ≤ 6 ∧ (∀ x ∈ r, Mk x.sc) ∧ j ≤ L.length := by
  obtain ⟨k, j1, e1, k0, k6, hj1⟩ := c68q hL hi (n := 6) (by omega) (by omega)
  obtain ⟨m, rfl, hm⟩ := natI (n := 6) k0 (by simpa using k6)
  obtain ⟨r, j, e, hr, hmr, hj⟩ := L174q hL bits m (by omega) [] j1 (by simp; omega) (by simp) hj1
  refine ⟨r, j, ?_, hr, hmr, hj⟩
  rw [g174L0_eq] at e
  simp at e e1
  rw [callI_body (af := g174) rfl (by simp [g174])]
  simp [-getElem?_pos, g174, e1, g174L0_eq, e]

end Go.Ab.Lw
namespace Go.Ab.Lw
open Ev
set_option maxRecDepth 10000
set_option linter.unusedSimpArgs false
theorem c202 {c : Sc} (hO : c.ty.Ok) {l : List Ty} (hl : Sm l) : (orcL AP).p 202 [c.pv, .lst (l.map Ty.pv)] = some (if c.id = l.length then [(c.ty.opn l).pv, .bool true] else [zTy.pv, .bool false]) := by
  have k := c48 hl hO
  unfold Sm at hl
  rw [callP_body (af := g202) rfl rfl (by decide)]
  generalize c.ty.opn l = u at k ⊢
  simp at k
  by_cases e : c.id = l.length
  · simp [g202, k, e]
  · have e' : ¬ (l.length : Int) = c.id := fun h => e h.symm
    simp [g202, k, e, e', zTy]

/-- The cells of an entry. -/
def enP (x : En) : List PV := [.str x.name, vI x.sc.id, vI x.sc.ty.kind, .str x.sc.ty.name, vI x.sc.ty.id, vI x.sc.ty.home, .lst (x.sc.ty.args.map Ty.pv)]
noncomputable def pG (x y : En) : Bool := decide (x.name = y.name) && genP x.sc y.sc
noncomputable def pQ (x y : En) : Bool := decide (x.name = y.name) && decide (x.sc = y.sc)

theorem c228 {a b : En} (ha : Mk a.sc) (hb : Mk b.sc) : (orcL AP).i 228 [.pv a.pv, .pv b.pv] [] [] = some ([.pv (.bool (pG a b))], [], []) := by
  obtain ⟨n, ha⟩ := ha
  obtain ⟨m, hb⟩ := hb
  have k := c229 ha.ok ha.small hb.ok
  unfold pG
  rw [callI_body (af := g228) rfl (by simp [g228])]
  simp at k
  by_cases e : a.name = b.name
  · simp [g228, k, e]
  · simp [g228, k, e]
theorem c231 {a b : En} (ha : Mk a.sc) : (orcL AP).i 231 [.pv a.pv, .pv b.pv] [] [] = some ([.pv (.bool (pQ a b))], [], []) := by
  obtain ⟨n, ha⟩ := ha
  have k := c232 (b := b.sc) ha.ok
  unfold pQ
  rw [callI_body (af := g231) rfl (by simp [g231])]
  simp at k
  by_cases e : a.name = b.name
  · simp [g231, k, e]
  · simp [g231, k, e]

abbrev MEn := {y : En // Mk y.sc}
theorem to_sub : ∀ {l : List En}, (∀ x ∈ l, Mk x.sc) → ∃ l' : List MEn, l'.map Subtype.val = l
  | [], _ => ⟨[], rfl⟩
  | x :: r, h => by
    obtain ⟨l', e⟩ := to_sub (l := r) (fun y hy => h y (by simp [hy]))
    exact ⟨⟨x, h x (by simp)⟩ :: l', by simp [e]⟩
theorem all2_map {p : En → En → Bool} : ∀ {a b : List MEn}, all2 (fun x y : MEn => p x.1 y.1) a b = all2 p (a.map Subtype.val) (b.map Subtype.val)
  | [], [] => rfl
  | x :: r, y :: t => by simp only [all2, List.map_cons]; rw [all2_map]
  | [], _ :: _ => rfl
  | _ :: _, [] => rfl
theorem els_m : Els (fun y : MEn => y.1.pv) (fun y => enP y.1) 7 := ⟨fun _ => rfl, fun _ => rfl, fun x => by simp [enP]⟩

theorem c227 {a b : List En} (ha : ∀ x ∈ a, Mk x.sc) (hb : ∀ x ∈ b, Mk x.sc) (hS : Sm a) {g : Nat} {p : En → En → Bool}
    (hp : ∀ x y, Mk x.sc → Mk y.sc → (orcL AP).i g [.pv x.pv, .pv y.pv] [] [] = some ([.pv (.bool (p x y))], [], [])) :
    (orcL AP).i 227 [.pv (.lst (a.map En.pv)), .pv (.lst (b.map En.pv)), .fn g []] [] [] = some ([.pv (.bool (all2 p a b))], [], []) := by
  obtain ⟨a', ea⟩ := to_sub ha
  obtain ⟨b', eb⟩ := to_sub hb
  have hs' : Sm a' := by unfold Sm at *; rw [← ea] at hS; simpa using hS
  have k := cEq (f := fun y : MEn => y.1.pv) (g := fun y : MEn => y.1.pv) els_m els_m (z1 := [.str [], vI 0, vI 0, .str [], vI 0, vI 0, .lst []]) (z2 := [.str [], vI 0, vI 0, .str [], vI 0, vI 0, .lst []]) rfl rfl (m := 227) rfl (a := a') (b := b') hs'
    (sh := []) (fun cs hc => by simp at hc) (k := g) (cap := []) (p := fun x y => p x.1 y.1) (by simp) (by
      intro x _ y
      have := hp x.1 y.1 x.2 y.2
      simp at this
      simp [enP, this])
  have e : ∀ l : List MEn, l.map (fun y => y.1.pv) = (l.map Subtype.val).map En.pv := fun l => by rw [List.map_map]; rfl
  rw [all2_map, e, e, ea, eb] at k
  exact k

/-- General of contexts, by the program. -/
noncomputable def genE (a b : List En) : Bool := all2 pG (seenE a) (seenE b)
theorem mk_seen {l : List En} (h : ∀ x ∈ l, Mk x.sc) : ∀ x ∈ seenE l, Mk x.sc := fun x hx => h x (seen_sub l x hx)
theorem c203 {a b : List En} (hS : Sm a) (hT : Sm b) (ha : ∀ x ∈ a, Mk x.sc) (hb : ∀ x ∈ b, Mk x.sc) : (orcL AP).p 203 [.lst (a.map En.pv), .lst (b.map En.pv)] = some [.bool (genE a b)] := by
  have k1 := c182 hS
  have k2 := c182 hT
  have hl := seen_len a
  have k3 := c227 (mk_seen ha) (mk_seen hb) (by unfold Sm at *; omega) (g := 228) (fun x y => c228)
  unfold genE
  rw [callP_body (af := g203) rfl rfl (by decide)]
  simp [g203, k1, k2, k3]
theorem c205 {a b : List En} (hS : Sm a) (ha : ∀ x ∈ a, Mk x.sc) (hb : ∀ x ∈ b, Mk x.sc) : (orcL AP).p 205 [.lst (a.map En.pv), .lst (b.map En.pv)] = some [.bool (all2 pQ a b)] := by
  have k3 := c227 ha hb hS (g := 231) (fun x y h _ => c231 h)
  rw [callP_body (af := g205) rfl rfl (by decide)]
  simp [g205, k3]
theorem all2_eq : ∀ {a b : List En}, all2 pQ a b = decide (a = b)
  | [], [] => by simp [all2]
  | x :: r, y :: t => by
    simp only [all2, all2_eq (a := r) (b := t), pQ]
    rw [Bool.eq_iff_iff]
    simp [en_ext]
  | [], _ :: _ => by simp [all2]
  | _ :: _, [] => by simp [all2]

/-! ### General by the reference -/
theorem L204 {a b : List En} (hS : Sm a) (hl : a.length = b.length) (ha : ∀ x ∈ a, Mk x.sc) (hb : ∀ x ∈ b, Mk x.sc) : ∀ (n i : Nat), a.length - i = n → i ≤ a.length →
    cl AP g204L0 ⟨[(5, .pv (.lst (a.map En.pv))), (6, .pv (.lst (b.map En.pv))), (7, .pv (vI i))], [], [], []⟩ =
      if all2 pG (a.drop i) (b.drop i) = true then some (.exit 0, ⟨[(5, .pv (.lst (a.map En.pv))), (6, .pv (.lst (b.map En.pv))), (7, .pv (vI a.length)), (20, .pv (.bool false))], [], [], []⟩)
      else some (.ret, ⟨[(4, .pv (.bool false))], [], [], []⟩)
  | 0, i, hn, hi => by
    have : i = a.length := by omega
    subst this
    rw [g204L0_eq, dropN (l := b) (by omega), dropN (l := a) (by omega)]
    simp [g204B0, all2]
  | n + 1, i, hn, hi => by
    have hi : i < a.length := by omega
    obtain ⟨x, hx⟩ := getO hi
    obtain ⟨y, hy⟩ := getO (hl ▸ hi)
    obtain ⟨N, cx⟩ := ha x (memO hx)
    obtain ⟨M, cy⟩ := hb y (memO hy)
    have hc := c230 cx.num (by have := cx.few; omega) cx.rng cy.num cy.few cy.ok
    rw [genR_genP cx cy] at hc
    simp at hc
    rw [g204L0_eq, dropC hx, dropC hy]
    unfold Sm at hS
    have ih := L204 hS hl ha hb n (i + 1) (by omega) (by omega)
    simp at ih
    by_cases e1 : x.name = y.name
    · cases e2 : genP x.sc y.sc with
      | true =>
        rw [e2] at hc
        simp (disch := omega) [-getElem?_pos, g204B0, hx, hy, hi, hc, wrap_id, ih, all2, pG, e1, e2]
      | false =>
        rw [e2] at hc
        simp (disch := omega) [-getElem?_pos, g204B0, hx, hy, hi, hc, wrap_id, all2, pG, e1, e2]
    · simp (disch := omega) [-getElem?_pos, g204B0, hx, hy, hi, wrap_id, all2, pG, e1]
theorem c204 {a b : List En} (hS : Sm a) (hT : Sm b) (ha : ∀ x ∈ a, Mk x.sc) (hb : ∀ x ∈ b, Mk x.sc) : (orcL AP).p 204 [.lst (a.map En.pv), .lst (b.map En.pv)] = some [.bool (genE a b)] := by
  have k1 := c201 hS
  have k2 := c201 hT
  have hl := seen_len a
  rw [callP_body (af := g204) rfl rfl (by decide)]
  unfold genE
  have ma := mk_seen ha
  have mb := mk_seen hb
  have hs : Sm (seenE a) := by unfold Sm at *; omega
  generalize seenE a = u at k1 ma hs ⊢
  generalize seenE b = v at k2 mb ⊢
  by_cases e : u.length = v.length
  · have h := L204 hs e ma mb _ 0 rfl (by omega)
    simp at h
    simp [g204, k1, k2, e, h]
    cases all2 pG u v <;> simp
  · have e2 : all2 pG u v = false := by
      cases e2 : all2 pG u v with
      | true => exact absurd (all2_len e2) e
      | false => rfl
    have e3 : ¬ (u.length : Int) = v.length := by omega
    simp [g204, k1, k2, e, e2, e3]
end Go.Ab.Lw
namespace Go.Ab.Lw
open Ev
set_option maxRecDepth 10000
set_option linter.unusedSimpArgs false
theorem pG_refl {x : En} (h : Mk x.sc) : pG x x = true := by
  obtain ⟨n, h⟩ := h
  simp [pG, genP_refl h.bd]
theorem pG_trans {x y z : En} (h : pG x y = true) (h' : pG y z = true) : pG x z = true := by
  simp only [pG, Bool.and_eq_true, decide_eq_true_eq] at h h' ⊢
  exact ⟨h.1.trans h'.1, genP_trans h.2 h'.2⟩
theorem all2_refl : ∀ {a : List En}, (∀ x ∈ a, Mk x.sc) → all2 pG a a = true
  | [], _ => rfl
  | x :: r, h => by simp only [all2, pG_refl (h x (by simp)), Bool.true_and]; exact all2_refl fun y hy => h y (by simp [hy])
theorem all2_trans : ∀ {a b c : List En}, all2 pG a b = true → all2 pG b c = true → all2 pG a c = true
  | [], [], [], _, _ => rfl
  | x :: r, y :: t, z :: u, h, h' => by
    simp only [all2, Bool.and_eq_true] at h h' ⊢
    exact ⟨pG_trans h.1 h'.1, all2_trans h.2 h'.2⟩
  | [], [], _ :: _, _, h => by simp [all2] at h
  | [], _ :: _, _, h, _ => by simp [all2] at h
  | _ :: _, [], _, h, _ => by simp [all2] at h
  | _ :: _, _ :: _, [], _, h => by simp [all2] at h
theorem genE_refl {a : List En} (h : ∀ x ∈ a, Mk x.sc) : genE a a = true := all2_refl (mk_seen h)
theorem genE_trans {a b c : List En} (h : genE a b = true) (h' : genE b c = true) : genE a c = true := all2_trans h h'
theorem any_all2 {n : List UInt8} : ∀ {a b : List En}, all2 pG a b = true → (a.any fun x => decide (x.name = n)) = b.any fun x => decide (x.name = n)
  | [], [], _ => rfl
  | x :: r, y :: t, h => by
    simp only [all2, Bool.and_eq_true, pG, decide_eq_true_eq] at h
    simp only [List.any_cons, any_all2 h.2, h.1.1]
  | [], _ :: _, h => by simp [all2] at h
  | _ :: _, [], h => by simp [all2] at h
theorem seen_all2 : ∀ {a b : List En}, all2 pG a b = true → all2 pG (seenE a) (seenE b) = true
  | [], [], _ => rfl
  | x :: r, y :: t, h => by
    have h' := h
    simp only [all2, Bool.and_eq_true] at h
    have hn : x.name = y.name := by have := h.1; simp only [pG, Bool.and_eq_true, decide_eq_true_eq] at this; exact this.1
    simp only [seenE, any_all2 h.2, hn]
    split
    · exact seen_all2 h.2
    · simp only [all2, h.1, Bool.true_and]; exact seen_all2 h.2
  | [], _ :: _, h => by simp [all2] at h
  | _ :: _, [], h => by simp [all2] at h

def leE (e : List En) : PV := .lst (e.map En.pv)
/-- A context that was made. -/
structure MkL (e : List En) : Prop where
  few : Sm e
  ent : ∀ x ∈ e, Mk x.sc

theorem L171d {u : List PV} {p7 : PV} {S : Sh} (hS : Calm S) {s : List (List En)} (hl : s.length = 4) (hm : ∀ a ∈ s, MkL a) {i k : Nat} {a b : List En} (hi : s[i]? = some a) (hk : s[k]? = some b) : ∀ (n j : Nat), 4 - j = n → j ≤ 4 →
    cl AP g171L3 ⟨[(6, .own u 0), (7, .pv p7), (12, .own (s.map leE) 1), (13, .pv (vI i)), (14, .pv (vI k)), (15, .pv (.bool (genE a b))), (16, .pv (vI j))], [], S, [u.length, 4]⟩ =
      some (.exit 6, ⟨[(6, .own u 0), (7, .pv p7), (12, .own (s.map leE) 1), (13, .pv (vI i)), (14, .pv (vI k)), (15, .pv (.bool (genE a b))), (16, .pv (vI 4)), (139, .pv (.bool false))], [], S, [u.length, 4]⟩)
  | 0, j, hn, hj => by
    have : j = 4 := by omega
    subst this
    have hS' := hS
    unfold Calm at hS'
    rw [g171L3_eq]
    simp [g171B3, hl, hS']
  | n + 1, j, hn, hj => by
    have hS' := hS
    unfold Calm at hS'
    have hj : j < 4 := by omega
    have hj' : (j : Int) < 4 := by omega
    obtain ⟨c, hc⟩ := getO (l := s) (i := j) (by omega)
    have ca := hm a (memO hi)
    have cb := hm b (memO hk)
    have cc := hm c (memO hc)
    have q1 := c203 cb.few cc.few cb.ent cc.ent
    have q2 := c203 ca.few cc.few ca.ent cc.ent
    have ht : genE a b = true → genE b c = true → genE a c = true := genE_trans
    have ih := L171d (u := u) (p7 := p7) hS hl hm hi hk n (j + 1) (by omega) (by omega)
    generalize genE a b = g at ht ih ⊢
    generalize genE b c = g1 at q1 ht
    generalize genE a c = g2 at q2 ht
    rw [g171L3_eq] at ih ⊢
    simp [hl, hS'] at ih
    cases g with
    | false =>
      simp (disch := omega) [-getElem?_pos, g171B3, hl, hS', hj', wrap_id]
      rw [g171L3_eq]
      simp [ih, hl, hS']
    | true =>
      cases g1 with
      | false =>
        simp (disch := omega) [-getElem?_pos, g171B3, hl, hS', hi, hk, hc, hj', q1, wrap_id, leE]
        rw [g171L3_eq]
        simp [ih, hl, hS']
      | true =>
        have hg2 : g2 = true := ht rfl rfl
        subst hg2
        simp (disch := omega) [-getElem?_pos, g171B3, hl, hS', hi, hk, hc, hj', q1, q2, wrap_id, leE]
        rw [g171L3_eq]
        simp [ih, hl, hS']

theorem L171c {u : List PV} {p7 : PV} {S : Sh} (hS : Calm S) {s : List (List En)} (hl : s.length = 4) (hm : ∀ a ∈ s, MkL a) {i : Nat} {a : List En} (hi : s[i]? = some a) : ∀ (n k : Nat), 4 - k = n → k ≤ 4 →
    cl AP g171L2 ⟨[(6, .own u 0), (7, .pv p7), (12, .own (s.map leE) 1), (13, .pv (vI i)), (14, .pv (vI k))], [], S, [u.length, 4]⟩ =
      some (.exit 4, ⟨[(6, .own u 0), (7, .pv p7), (12, .own (s.map leE) 1), (13, .pv (vI i)), (14, .pv (vI 4)), (83, .pv (.bool false))], [], S, [u.length, 4]⟩)
  | 0, k, hn, hk => by
    have : k = 4 := by omega
    subst this
    have hS' := hS
    unfold Calm at hS'
    rw [g171L2_eq]
    simp [g171B2, hl, hS']
  | n + 1, k, hn, hk => by
    have hS' := hS
    unfold Calm at hS'
    have hk : k < 4 := by omega
    have hk' : (k : Int) < 4 := by omega
    obtain ⟨b, hb⟩ := getO (l := s) (i := k) (by omega)
    have ca := hm a (memO hi)
    have cb := hm b (memO hb)
    have q1 := c203 ca.few cb.few ca.ent cb.ent
    have q2 := c204 ca.few cb.few ca.ent cb.ent
    have q3 := c205 ca.few ca.ent cb.ent
    have q4 := c178 (b := b) ca.few (fun x hx => by obtain ⟨n, h⟩ := ca.ent x hx; exact h.ok)
    rw [all2_eq] at q3
    have hd := L171d (u := u) (p7 := p7) hS hl hm hi hb 4 0 rfl (by omega)
    have ih := L171c (u := u) (p7 := p7) hS hl hm hi n (k + 1) (by omega) (by omega)
    have hg : i = k → genE a b = true := by
      rintro rfl
      rw [hi] at hb
      cases hb
      exact genE_refl ca.ent
    generalize genE a b = g at q1 q2 hd hg
    generalize decide (a = b) = d at q3 q4
    rw [g171L2_eq] at ih ⊢
    rw [g171L3_eq] at hd
    simp [hl, hS'] at ih hd
    by_cases e : i = k
    · have hg' := hg e
      subst hg'
      subst e
      rw [hi] at hb
      cases hb
      simp (disch := omega) [-getElem?_pos, g171B2, hl, hS', hi, hk', q1, q2, q3, q4, wrap_id, leE]
      rw [g171L3_eq]
      simp (disch := omega) [hd, hl, hS', wrap_id]
      rw [g171L2_eq]
      simp [ih, hl, hS']
    · have e' : ¬ (i : Int) = k := by omega
      simp (disch := omega) [-getElem?_pos, g171B2, hl, hS', hi, hb, hk', q1, q2, q3, q4, e', wrap_id, leE]
      rw [g171L3_eq]
      simp (disch := omega) [hd, hl, hS', wrap_id]
      rw [g171L2_eq]
      simp [ih, hl, hS']

theorem L171b {u : List PV} {p7 : PV} {S : Sh} (hS : Calm S) {s : List (List En)} (hl : s.length = 4) (hm : ∀ a ∈ s, MkL a) : ∀ (n i : Nat), 4 - i = n → i ≤ 4 →
    cl AP g171L1 ⟨[(6, .own u 0), (7, .pv p7), (12, .own (s.map leE) 1), (13, .pv (vI i))], [], S, [u.length, 4]⟩ =
      some (.exit 2, ⟨[(6, .own u 0), (7, .pv p7), (12, .own (s.map leE) 1), (13, .pv (vI 4)), (77, .pv (.bool false))], [], S, [u.length, 4]⟩)
  | 0, i, hn, hi => by
    have : i = 4 := by omega
    subst this
    have hS' := hS
    unfold Calm at hS'
    rw [g171L1_eq]
    simp [g171B1, hl, hS']
  | n + 1, i, hn, hi => by
    have hS' := hS
    unfold Calm at hS'
    have hi : i < 4 := by omega
    have hi' : (i : Int) < 4 := by omega
    obtain ⟨a, ha⟩ := getO (l := s) (i := i) (by omega)
    have hc := L171c (u := u) (p7 := p7) hS hl hm ha 4 0 rfl (by omega)
    have ih := L171b (u := u) (p7 := p7) hS hl hm n (i + 1) (by omega) (by omega)
    rw [g171L1_eq] at ih ⊢
    rw [g171L2_eq] at hc
    simp [hl, hS'] at ih hc
    simp (disch := omega) [-getElem?_pos, g171B1, hl, hS', hi', wrap_id]
    rw [g171L2_eq]
    simp (disch := omega) [hc, hl, hS', wrap_id]
    rw [g171L1_eq]
    simp [ih, hl, hS']
end Go.Ab.Lw
namespace Go.Ab.Lw
open Ev
set_option maxRecDepth 10000
set_option linter.unusedSimpArgs false
/-- A choice off the tape, beside an array. -/
theorem c68x {L : List Int} (hL : Sm L) {i : Nat} (hi : i ≤ L.length) {n : Int} (h1 : 1 ≤ n) (h2 : n < 4611686018427387904) {cs : List AV} (hq : ∀ v ∈ cs, ∃ p, v = AV.pv p) :
    ∃ (r : Int) (j : Nat), (orcL AP).i 68 [.sptr 0 0, .pv (vI n)] [some [.pv (.lst (L.map vI)), .pv (vI i)], some cs] [] = some ([.pv (vI r)], [some [.pv (.lst (L.map vI)), .pv (vI j)], some cs], []) ∧ 0 ≤ r ∧ r < n ∧ j ≤ L.length := by
  unfold Sm at hL
  have hQ : ∀ old ts, normL old ts cs = (cs, old, ts) := fun old ts => normL_pv hq
  rw [callI_body (af := g68) rfl (by simp [g68])]
  by_cases h : i < L.length
  · obtain ⟨x, hx⟩ := getO h
    obtain ⟨r, e, e1, e2⟩ := c26 (n := x) h1 h2
    refine ⟨r, i + 1, ?_, e1, e2, h⟩
    have h' : ¬ L.length ≤ i := by omega
    simp (disch := omega) [-getElem?_pos, g68, h', wrap_id, hx, e, hQ]
  · have h' : L.length ≤ i := by omega
    refine ⟨0, i, ?_, by omega, by omega, hi⟩
    simp [g68, h', hQ]

/-! ### The cells of a context -/
theorem enC_len {x : En} : (enC x).length = 7 := rfl
theorem enA_len : ∀ {m : List En}, (m.flatMap enC).length = m.length * 7
  | [] => rfl
  | x :: r => by simp only [List.flatMap_cons, List.length_append, enC_len, enA_len (m := r), List.length_cons, Nat.add_mul]; omega
theorem enA_drop : ∀ {m : List En} {i : Nat} {x : En}, m[i]? = some x → (m.flatMap enC).drop (i * 7) = enC x ++ (m.drop (i + 1)).flatMap enC
  | x :: r, 0, y, h => by simp at h; subst h; simp
  | x :: r, i + 1, y, h => by
    have ih := enA_drop (m := r) (i := i) (x := y) (by simpa using h)
    rw [List.flatMap_cons, List.drop_append, List.drop_eq_nil_of_le (by rw [enC_len]; omega), enC_len, show (i + 1) * 7 - 7 = i * 7 from by omega, ih]
    simp
  | [], _, _, h => by simp at h
theorem enA_take : ∀ {m : List En} {i : Nat}, i ≤ m.length → (m.flatMap enC).take (i * 7) = (m.take i).flatMap enC
  | m, 0, _ => by simp
  | x :: r, i + 1, h => by
    have ih := enA_take (m := r) (i := i) (by simpa using h)
    rw [List.flatMap_cons, List.take_append, List.take_of_length_le (by rw [enC_len]; omega), enC_len, show (i + 1) * 7 - 7 = i * 7 from by omega, ih]
    simp
  | [], i + 1, h => by simp at h
theorem enA_get {m : List En} {i : Nat} {x : En} (h : m[i]? = some x) : (m.flatMap enC)[i * 7 + 1]? = some (.pv (vI x.sc.id)) := by
  have e := enA_drop h
  rw [← List.getElem?_drop, e]
  rfl
theorem enA_sc {m : List En} {i : Nat} {x : En} (h : m[i]? = some x) : ((m.flatMap enC).drop (i * 7 + 1)).take 6 = scC x.sc := by
  have e := enA_drop h
  rw [← List.drop_drop, e]
  rfl
theorem enA_set {m : List En} {i : Nat} {x : En} (h : m[i]? = some x) {c : Sc} : setRange (m.flatMap enC) (i * 7 + 1) (scC c) = (m.set i ⟨x.name, c⟩).flatMap enC := by
  have hi : i < m.length := (List.getElem?_eq_some_iff.1 h).1
  have e := enA_drop h
  have e2 := enA_take (m := m) (i := i) (by omega)
  have e3 : (m.set i ⟨x.name, c⟩) = m.take i ++ ⟨x.name, c⟩ :: m.drop (i + 1) := by rw [List.set_eq_take_append_cons_drop, if_pos hi]
  rw [e3, setRange_eq, List.flatMap_append, List.flatMap_cons, ← e2]
  have e4 : (m.flatMap enC).drop (i * 7 + 1 + (scC c).length) = (m.drop (i + 1)).flatMap enC := by
    show (m.flatMap enC).drop (i * 7 + 1 + 6) = _
    rw [show i * 7 + 1 + 6 = i * 7 + 7 from rfl, ← List.drop_drop, e]
    rfl
  have e5 : (m.flatMap enC).take (i * 7 + 1) = (m.flatMap enC).take (i * 7) ++ [.pv (.str x.name)] := by
    rw [List.take_add, e]
    rfl
  rw [e4, e5]
  simp [enC, scC]
theorem enA_pv {m : List En} : ∀ v ∈ m.flatMap enC, ∃ p, v = AV.pv p := by
  intro v hv
  simp only [List.mem_flatMap] at hv
  obtain ⟨x, _, hv⟩ := hv
  simp [enC] at hv
  rcases hv with rfl | rfl | rfl | rfl | rfl | rfl | rfl <;> exact ⟨_, rfl⟩
theorem enA_frz : ∀ {d : List En}, ((frzL (d.flatMap enC)).bind (arrEls 7 true d.length)).map PV.lst = some (.lst (d.map En.pv)) := by
  have key : ∀ d : List En, ∃ ps, frzL (d.flatMap enC) = some ps ∧ (chunk 7 d.length ps).map PV.agg = d.map En.pv := by
    intro d
    induction d with
    | nil => exact ⟨[], rfl, rfl⟩
    | cons t r ih =>
      obtain ⟨ps, h1, h2⟩ := ih
      refine ⟨enP t ++ ps, ?_, ?_⟩
      · rw [List.flatMap_cons]
        exact frzL_app (by simp [enC, enP]) h1
      · simp only [List.length_cons, chunk]
        simp [enP, h2]
  intro d
  obtain ⟨ps, h1, h2⟩ := key d
  rw [h1]
  simp only [Option.bind_some, arrEls, if_true, Option.map_some, h2]

/-! ### Opening a scheme of one variable -/
theorem bind_noK {F : Int → Ty} (hF : ∀ i, NoK (F i)) {p : Ty} (h5 : ∀ v ∈ p.nodes, v.kind ≠ 5) : NoK (p.bind F) := by
  revert h5
  refine Ty.rec1 (p := fun p => (∀ v ∈ p.nodes, v.kind ≠ 5) → NoK (p.bind F)) ?_ p
  intro p ih h5
  rw [Ty.bind_eq]
  split
  · exact hF _
  · rename_i hk
    refine NoK.mk ⟨hk, h5 p self_node⟩ fun y hy => ?_
    simp only [List.mem_map] at hy
    obtain ⟨z, hz, rfl⟩ := hy
    exact ih z hz fun v hv => h5 v (kid_node z hz v hv)
theorem bind_len {F : Int → Ty} (hF : ∀ i, (F i).nodes.length = 1) {p : Ty} : (p.bind F).nodes.length ≤ p.nodes.length := by
  refine Ty.rec1 (p := fun p => (p.bind F).nodes.length ≤ p.nodes.length) ?_ p
  intro p ih
  rw [Ty.bind_eq, Ty.nodes_eq p]
  split
  · rw [hF]; simp
  · rw [Ty.nodes_eq]
    simp only [List.length_cons, List.flatMap_map]
    have key : ∀ l : List Ty, (∀ x ∈ l, (x.bind F).nodes.length ≤ x.nodes.length) → (l.flatMap fun x => (x.bind F).nodes).length ≤ (l.flatMap Ty.nodes).length := by
      intro l hl
      induction l with
      | nil => simp
      | cons a r ihr =>
        simp only [List.flatMap_cons, List.length_append]
        have h1 := hl a (by simp)
        have h2 := ihr fun x hx => hl x (by simp [hx])
        omega
    have := key p.args ih
    omega
theorem int_noK : NoK tyInt := by intro v hv; rw [Ty.nodes_eq] at hv; simp [tyInt] at hv; subst hv; simp
theorem mk_open {c : Sc} (h : Mk c) (e : c.id = 1) : Mk ⟨0, c.ty.opn [tyInt]⟩ ∧ genP c ⟨0, c.ty.opn [tyInt]⟩ = true := by
  obtain ⟨n, h⟩ := h
  have hn : n = 1 := by have := h.num; omega
  subst hn
  have eb : c.ty.opn [tyInt] = c.ty.bind (fun i => (([tyInt] : List Ty)[i.toNat]?).getD zTy) := opn_bind h.rng
  refine ⟨⟨0, cl_noK (opn_ok (by intro x hx; simp at hx; subst hx; exact bare_ok rfl) h.ok) ?_ ?_⟩, genP_iff.2 ⟨_, eb.symm⟩⟩
  · rw [eb]
    refine Nat.lt_of_le_of_lt (bind_len fun i => ?_) h.small
    by_cases hi : i.toNat = 0
    · simp [hi, Ty.nodes_eq, tyInt]
    · rw [List.getElem?_eq_none (by simp; omega)]; simp [Ty.nodes_eq, zTy]
  · rw [eb]
    refine bind_noK (fun i => ?_) h.no5
    by_cases hi : i.toNat = 0
    · simp [hi]; exact int_noK
    · rw [List.getElem?_eq_none (by simp; omega)]
      intro v hv; simp [Ty.nodes_eq, zTy] at hv; subst hv; simp
theorem all2_get {p : En → En → Bool} : ∀ {a b : List En}, all2 p a b = true → ∀ {i : Nat} {x y : En}, a[i]? = some x → b[i]? = some y → p x y = true
  | x :: r, y :: t, h, 0, _, _, e, e' => by simp at e e'; subst e; subst e'; simp only [all2, Bool.and_eq_true] at h; exact h.1
  | x :: r, y :: t, h, i + 1, _, _, e, e' => by simp only [all2, Bool.and_eq_true] at h; exact all2_get h.2 (by simpa using e) (by simpa using e')
  | [], _, _, _, _, _, e, _ => by simp at e
  | _ :: _, [], h, _, _, _, _, _ => by simp [all2] at h
theorem all2_set {p : En → En → Bool} : ∀ {a b : List En}, all2 p a b = true → ∀ {i : Nat} {x y : En}, a[i]? = some x → p x y = true → all2 p a (b.set i y) = true
  | x :: r, y :: t, h, 0, _, _, e, e' => by simp at e; subst e; simp only [all2, Bool.and_eq_true] at h; simp [all2, e', h.2]
  | x :: r, y :: t, h, i + 1, _, _, e, e' => by
    simp only [all2, Bool.and_eq_true] at h
    have := all2_set h.2 (i := i) (by simpa using e) e'
    simp [all2, h.1, this]
  | [], _, _, _, _, _, e, _ => by simp at e
  | _ :: _, [], h, _, _, _, _, _ => by simp [all2] at h
end Go.Ab.Lw
namespace Go.Ab.Lw
open Ev
set_option maxRecDepth 10000
set_option linter.unusedSimpArgs false
/-- As a context that was made, but for schemes that became types. -/
structure Lk (l m : List En) : Prop where
  ent : ∀ x ∈ m, Mk x.sc
  gen : all2 pG l m = true

theorem L171a {L : List Int} (hL : Sm L) {bits : Int} {u : List PV} {l : List En} (h6 : l.length ≤ 6) (h0 : 0 < l.length) : ∀ (n i : Nat), l.length - i = n → i ≤ l.length → ∀ (m : List En) (j : Nat), Lk l m → j ≤ L.length →
    ∃ (r : List En) (j' : Nat), cl AP g171L0 ⟨[(0, .pv (vI bits)), (5, .sptr 0 0), (6, .own u 0), (7, .sarr 1 7 l.length true), (8, .pv (vI i))], [], [some [.pv (.lst (L.map vI)), .pv (vI j)], some (m.flatMap enC)], [u.length]⟩ =
      some (.exit 0, ⟨[(0, .pv (vI bits)), (5, .sptr 0 0), (6, .own u 0), (7, .sarr 1 7 l.length true), (8, .pv (vI l.length)), (33, .pv (.bool false))], [], [some [.pv (.lst (L.map vI)), .pv (vI j')], some (r.flatMap enC)], [u.length]⟩) ∧
      Lk l r ∧ j' ≤ L.length
  | 0, i, hn, hi, m, j, hm, hj => by
    have : i = l.length := by omega
    subst this
    refine ⟨m, j, ?_, hm, hj⟩
    have hQ : ∀ old ts, normL old ts (m.flatMap enC) = (m.flatMap enC, old, ts) := fun old ts => normL_pv enA_pv
    generalize m.flatMap enC = CS at hQ ⊢
    rw [g171L0_eq]
    simp [g171B0, hQ]
  | n + 1, i, hn, hi, m, j, hm, hj => by
    have hi : i < l.length := by omega
    have hml : m.length = l.length := (all2_len hm.gen).symm
    obtain ⟨x0, hx0⟩ := getO hi
    obtain ⟨x, hx⟩ := getO (l := m) (i := i) (by omega)
    have hkx := hm.ent x (memO hx)
    have hok : x.sc.ty.Ok := by obtain ⟨_, h⟩ := hkx; exact h.ok
    have hpx := all2_get hm.gen hx0 hx
    have q1 := c34
    have q2 := c202 (c := x.sc) hok (l := [tyInt]) (by simp [Sm])
    have q3 := c176 (t := x.sc.ty.opn [tyInt])
    have hid := enA_get hx
    have hsc := enA_sc hx
    have hlen : (m.flatMap enC).length = l.length * 7 := by rw [enA_len, hml]
    have hle : i * 7 + 1 + 6 ≤ (m.flatMap enC).length := by rw [hlen]; omega
    have hle1 : i * 7 + 1 + 1 ≤ (m.flatMap enC).length := by rw [hlen]; omega
    have hbt : i * 7 + 1 + 6 ≤ l.length * 7 := by omega
    have hbt1 : i * 7 + 1 + 1 ≤ l.length * 7 := by omega
    have hQ : ∀ old ts, normL old ts (m.flatMap enC) = (m.flatMap enC, old, ts) := fun old ts => normL_pv enA_pv
    have hB : mapB (m.flatMap enC) = false := mapB_pvs enA_pv
    have hsh : ∀ k, (m.flatMap enC).map (shiftV k) = m.flatMap enC := fun k => shiftL_pv enA_pv
    by_cases e : x.sc.id = 1
    · obtain ⟨r, j1, e1, r0, r2, hj1⟩ := c68x hL hj (n := 2) (by omega) (by omega) (cs := m.flatMap enC) enA_pv
      obtain ⟨o1, o2⟩ := mk_open hkx e
      by_cases er : r = 0
      · have hset := enA_set hx (c := ⟨0, x.sc.ty.opn [tyInt]⟩)
        have hm' : Lk l (m.set i ⟨x.name, ⟨0, x.sc.ty.opn [tyInt]⟩⟩) := by
          refine ⟨fun y hy => ?_, all2_set hm.gen hx0 (pG_trans hpx (by simp [pG, o2]))⟩
          rcases List.mem_or_eq_of_mem_set hy with hy | rfl
          · exact hm.ent y hy
          · exact o1
        obtain ⟨r', j', e', hr', hj'⟩ := L171a hL (bits := bits) (u := u) h6 h0 n (i + 1) (by omega) (by omega) _ j1 hm' hj1
        refine ⟨r', j', ?_, hr', hj'⟩
        have hQ' : ∀ old ts, normL old ts ((m.set i ⟨x.name, ⟨0, x.sc.ty.opn [tyInt]⟩⟩).flatMap enC) = ((m.set i ⟨x.name, ⟨0, x.sc.ty.opn [tyInt]⟩⟩).flatMap enC, old, ts) := fun old ts => normL_pv enA_pv
        generalize (m.set i ⟨x.name, ⟨0, x.sc.ty.opn [tyInt]⟩⟩).flatMap enC = CS' at hset e' hQ'
        generalize m.flatMap enC = CS at hid hsc hlen hle hle1 hQ hB hset e1 hsh ⊢
        generalize r'.flatMap enC = CR at e' ⊢
        generalize x.sc.ty.opn [tyInt] = y at q2 q3 hset
        subst er
        rw [g171L0_eq] at e' ⊢
        simp [scC, hQ'] at e' hset hsc
        simp [e, tyInt] at q1 q2 q3 e1
        simp (disch := omega) [-getElem?_pos, g171B0, hi, hQ, hB, hid, hsc, hbt, hbt1, q1, q2, q3, e1, e, wrap_id, hsh, hset, hlen, tyInt]
        rw [g171L0_eq]
        simp [e', hQ']
      · obtain ⟨r', j', e', hr', hj'⟩ := L171a hL (bits := bits) (u := u) h6 h0 n (i + 1) (by omega) (by omega) m j1 hm hj1
        refine ⟨r', j', ?_, hr', hj'⟩
        generalize m.flatMap enC = CS at hid hsc hlen hle hle1 hQ hB e1 hsh e' ⊢
        generalize r'.flatMap enC = CR at e' ⊢
        generalize x.sc.ty.opn [tyInt] = y at q2 q3
        rw [g171L0_eq] at e' ⊢
        simp [scC, hQ] at e' hsc
        simp [e, tyInt] at q1 q2 q3 e1
        simp (disch := omega) [-getElem?_pos, g171B0, hi, hQ, hB, hid, hsc, hbt, hbt1, q1, q2, q3, e1, e, er, wrap_id, hsh, hlen, tyInt]
        rw [g171L0_eq]
        simp [e', hQ]
    · obtain ⟨r', j', e', hr', hj'⟩ := L171a hL (bits := bits) (u := u) h6 h0 n (i + 1) (by omega) (by omega) m j hm hj
      refine ⟨r', j', ?_, hr', hj'⟩
      generalize m.flatMap enC = CS at hid hsc hlen hle hle1 hQ hB hsh e' ⊢
      generalize r'.flatMap enC = CR at e' ⊢
      generalize x.sc.ty.opn [tyInt] = y at q2 q3
      rw [g171L0_eq] at e' ⊢
      simp [scC, hQ] at e' hsc
      simp [e, tyInt, zTy] at q1 q2 q3
      simp (disch := omega) [-getElem?_pos, g171B0, hi, hQ, hB, hid, hsc, hbt, hbt1, q1, q2, q3, e, wrap_id, hsh, hlen, tyInt, zTy]
      rw [g171L0_eq]
      simp [e', hQ]
end Go.Ab.Lw
namespace Go.Ab.Lw
open Ev
set_option maxRecDepth 10000
set_option linter.unusedSimpArgs false
theorem enA_cells {l : List En} : ((l.map En.pv).flatMap cellsP).map AV.pv = l.flatMap enC := by
  rw [List.flatMap_map, List.map_flatMap]
  rfl

/-- **The law EnvironGeneral.** -/
theorem law171 (bits : Int) (L : List Int) : (orcL AP).p 171 [vI bits, .lst (L.map vI)] = some [.bool true] := by
  have c0 := c173
  have c1 := c15 (l := L)
  rw [callP_body (af := g171) rfl rfl (by decide)]
  by_cases hL : L.length ≤ 60
  · simp [hL] at c1
    have hLs : Sm L := by unfold Sm; omega
    obtain ⟨l, j1, e1, h6, hml, hj1⟩ := c174k hLs bits (i := 0) (by omega)
    have sl : Sm l := by unfold Sm; omega
    have k1 := c201 sl
    have hse := seen_len l
    have sse : Sm (seenE l) := by unfold Sm; omega
    have mse := mk_seen hml
    have own : ∀ r k : List En, Sm r → Sm k → (∀ x ∈ r, Mk x.sc) → (∀ x ∈ k, Mk x.sc) → ∀ a ∈ [l, r, k, seenE l], MkL a := by
      intro r k sr sk mr mk a ha
      simp at ha
      rcases ha with rfl | rfl | rfl | rfl
      · exact ⟨sl, hml⟩
      · exact ⟨sr, mr⟩
      · exact ⟨sk, mk⟩
      · exact ⟨sse, mse⟩
    rcases Nat.eq_zero_or_pos l.length with h0 | h0
    · have hnil : l = [] := List.eq_nil_of_length_eq_zero h0
      subst hnil
      obtain ⟨k, j2, e2, hk6, hmk, hj2⟩ := c174k hLs bits hj1
      have sk : Sm k := by unfold Sm; omega
      have h2 := L171b (u := []) (p7 := .lst []) (S := tp L j2) calm_tp (s := [[], [], k, seenE []]) rfl (own [] k sl sk (by simp) hmk) 4 0 rfl (by omega)
      have k2 := c203 (a := []) (b := []) sl sl (by simp) (by simp)
      rw [show genE [] [] = true from rfl] at k2
      rw [g171L1_eq] at h2
      have es : seenE [] = [] := rfl
      rw [es] at h2 k1
      simp [leE] at h2
      simp at e1 e2 k1 k2
      simp (disch := omega) [g171, c0, c1, e1, g171L0_eq, g171B0, e2, k1, g171L1_eq, h2, k2]
    · have lk0 : Lk l l := ⟨hml, all2_refl hml⟩
      obtain ⟨r, j2, h1, lk, hj2⟩ := L171a hLs (bits := bits) (u := l.map En.pv) h6 h0 l.length 0 rfl (by omega) l j1 lk0 hj1
      obtain ⟨k, j3, e3, hk6, hmk, hj3⟩ := c174q hLs bits hj2
      have hrl : r.length = l.length := (all2_len lk.gen).symm
      have sr : Sm r := by unfold Sm; omega
      have sk : Sm k := by unfold Sm; omega
      have h2 := L171b (u := l.map En.pv) (p7 := .lst (r.map En.pv)) (S := tq L j3) calm_tq (s := [l, r, k, seenE l]) rfl (own r k sr sk lk.ent hmk) 4 0 rfl (by omega)
      have k2 := c203 sl sr hml lk.ent
      rw [show genE l r = true from seen_all2 lk.gen] at k2
      have hc := enA_cells (l := l)
      have hfr := enA_frz (d := r)
      have hlen := enA_len (m := r)
      rw [hrl] at hfr hlen
      have hQ : ∀ old ts, normL old ts (l.flatMap enC) = (l.flatMap enC, old, ts) := fun old ts => normL_pv enA_pv
      have hb : l.length * 88 ≤ 140737488355328 := by omega
      have hne : l ≠ [] := by intro e; rw [e] at h0; simp at h0
      generalize l.flatMap enC = CS at hc h1 hQ
      generalize r.flatMap enC = CR at h1 hfr hlen
      rw [g171L0_eq] at h1
      rw [g171L1_eq] at h2
      simp [leE] at h2
      simp [hQ] at h1
      simp at e1 e3 k1 k2
      simp (disch := omega) [g171, c0, c1, e1, hb, hne, hc, hQ, g171L0_eq, h1, hlen, hfr, e3, k1, g171L1_eq, h2, k2]
  · simp [hL] at c1
    simp [g171, c0, c1]
end Go.Ab.Lw
