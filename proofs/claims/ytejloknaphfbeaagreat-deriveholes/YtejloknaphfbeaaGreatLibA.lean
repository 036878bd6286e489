import Derived.Test.YtejloknaphfbeaaGreatCodeB
import Derived.Test.YtejloknaphfbeaaGreatAbBridge
import Derived.Test.YtejloknaphfbeaaGreatAbForce
import Derived.KernelRfl
/-
  The program's data.
  The makers: what their functions give.
  The makers: what their functions give.
  The data declarations that programs are made of: what the reader makes of their text.
  The makers: data declarations, chosen by bits.
  The makers: types and substitutions off the tape.
  The makers: substitutions off the tape; what law 13 makes.
  Types and substitutions: what replaces variables.
  Types: rebuilding with new leaves.
  Types and substitutions: the program's replacing, finding, composing.
  Substitutions: composing; equality of types and of substitutions.
  The order of types.
  Chapter 13: the plain laws, and the law that composition composes.
  Chapter 13: equality of substitutions; the laws SubstAssociates and SubstEqual.
  Functions of package slices over any elements.
  Ranges over a slice backward.
  Names, and which types are valid.
  Names of the program, and which types are valid.
  Which types are valid.
  Contexts: their entries; looking names up.
  slices.EqualFunc and slices.Clip over any elements.
  What the pure data of a parameter looks like.
  Chapter 3: what its laws make; the laws TypesValid and TypesEqual.
  The variables of types, by the program and by the reference.
  The reference's variables of types; they are the program's.
  Contexts: schemes, adding, hidden entries; what law 19 makes.
  Law 19 makes contexts; the law EnvironLooks.
  The maker of types over any list of data types.
  Correct types in declarations.
  Chapter 3: opening.
  Chapter 9: the names of written type variables.
  Expressions.
  Raw expressions: what the maker gives.
  The maker of raw expressions.
  Chapter 9: what its laws make.
  Chapter 9: declarations off the tape.
  Chapter 9: the scheme of a constructor.
  Chapter 9: the first error of a list of declarations, by the program.
  The laws DeclareFormed and DeclareCheck.
  Contexts: their free variables; the law EnvironSeen.
  types.Vars, scheme.Free and environ.Free as they go in a program: their results may grow.
  The law EnvironSeen.
  What law 14 makes; the law SchemeFree.
  Which schemes are valid, by the program and by the reference.
  Valid schemes: the program's and the reference's answers are one.
  Closing and mono, by the program.
  The law SchemeValid.
  The law DeriveSignature.
  Matching, by the program.
  Matching, by the reference.
  When a closed type is general.
  The law SchemeClosesGeneral.
  When matching succeeds.
  Both Generals are one; general both ways is equal.
  What SchemeGeneral makes: closed types.
  Derivations with holes: what is closed, plain types.
  Derivations with holes: formed, hole, vars, generalizes.
  Derivations with holes: fits, let, check, Expr.
  Derivations with holes: the whole check; the law DeriveHoles.
  The law DeriveHoles.
-/
set_option linter.unusedVariables false
set_option linter.unusedSimpArgs false
namespace Go.Ab.Lw
/-- A type. -/
structure Ty where
  kind : Int
  name : List UInt8
  id : Int
  home : Int
  args : List Ty
  deriving Inhabited

noncomputable instance : DecidableEq Ty := fun _ _ => Classical.propDecidable _

mutual
def Ty.pv : Ty → PV
  | ⟨k, n, i, h, as⟩ => .agg [.int .i64 k, .str n, .int .i64 i, .int .i64 h, .lst (Ty.pvs as)]
def Ty.pvs : List Ty → List PV
  | [] => []
  | a :: r => a.pv :: Ty.pvs r
end

theorem Ty.pvs_map : ∀ l : List Ty, Ty.pvs l = l.map Ty.pv
  | [] => by simp [Ty.pvs]
  | a :: r => by simp [Ty.pvs, Ty.pvs_map r]

@[simp] theorem Ty.pv_eq (t : Ty) : t.pv = .agg [.int .i64 t.kind, .str t.name, .int .i64 t.id, .int .i64 t.home, .lst (t.args.map Ty.pv)] := by
  cases t; simp only [Ty.pv, Ty.pvs_map]

/-- A property of all types that are parts. -/
theorem Ty.rec1 {p : Ty → Prop} (h : ∀ t : Ty, (∀ x ∈ t.args, p x) → p t) : ∀ t, p t
  | ⟨k, n, i, hm, as⟩ => h _ (fun x _hx => Ty.rec1 h x)
termination_by t => SizeOf.sizeOf t
decreasing_by have := _root_.List.sizeOf_lt_of_mem _hx; simp at *; omega

/-- A constructor, and a data declaration. -/
structure Con where
  pos : Int
  name : List UInt8
  fields : List Ty
  deriving Inhabited
structure Dt where
  pos : Int
  name : List UInt8
  params : List (List UInt8)
  cons : List Con
  deriving Inhabited
def Con.pv (c : Con) : PV := .agg [.int .i64 c.pos, .str c.name, .lst (c.fields.map Ty.pv)]
def Dt.pv (d : Dt) : PV := .agg [.int .i64 d.pos, .str d.name, .lst (d.params.map .str), .lst (d.cons.map Con.pv)]
@[simp] theorem Con.pv_eq (c : Con) : c.pv = .agg [.int .i64 c.pos, .str c.name, .lst (c.fields.map Ty.pv)] := rfl
@[simp] theorem Dt.pv_eq (d : Dt) : d.pv = .agg [.int .i64 d.pos, .str d.name, .lst (d.params.map .str), .lst (d.cons.map Con.pv)] := rfl

/-- An assignment. -/
structure As where
  id : Int
  ty : Ty
  deriving Inhabited
def As.pv (a : As) : PV := .agg [.int .i64 a.id, .int .i64 a.ty.kind, .str a.ty.name, .int .i64 a.ty.id, .int .i64 a.ty.home, .lst (a.ty.args.map Ty.pv)]
@[simp] theorem As.pv_eq (a : As) : a.pv = .agg [.int .i64 a.id, .int .i64 a.ty.kind, .str a.ty.name, .int .i64 a.ty.id, .int .i64 a.ty.home, .lst (a.ty.args.map Ty.pv)] := rfl

@[simp] theorem Ty.eta (t : Ty) : Ty.mk t.kind t.name t.id t.home t.args = t := by cases t; rfl
@[simp] theorem As.eta (t : As) : As.mk t.id t.ty = t := rfl

abbrev vI (n : Int) : PV := .int .i64 n
def tp (L : List Int) (i : Int) : Sh := [some [.pv (.lst (L.map vI)), .pv (vI i)]]
@[simp] theorem tp_eq (L : List Int) (i : Int) : tp L i = [some [.pv (.lst (L.map vI)), .pv (vI i)]] := rfl

/-- Lists that any memory holds. -/
def Sm {α : Type} (l : List α) : Prop := l.length < 1099511627776

/-- Texts that any memory holds. -/
def SmS {α : Type} (l : List α) : Prop := l.length ≤ 9223372036854775807

@[simp] theorem natNeg (n : Nat) : ((n : Int) < 0) ↔ False := by simp
@[simp] theorem natNeg1 (n : Nat) : ((n : Int) + 1 < 0) ↔ False := by simp; omega

theorem dropC {α : Type} {l : List α} {i : Nat} {x : α} (h : l[i]? = some x) : l.drop i = x :: l.drop (i + 1) := by
  obtain ⟨hi, rfl⟩ := List.getElem?_eq_some_iff.1 h
  exact List.drop_eq_getElem_cons hi
theorem getO {α : Type} {l : List α} {i : Nat} (h : i < l.length) : ∃ x, l[i]? = some x := ⟨_, List.getElem?_eq_getElem h⟩
theorem memO {α : Type} {l : List α} {i : Nat} {x : α} (h : l[i]? = some x) : x ∈ l := List.mem_of_getElem? h
theorem dropN {α : Type} {l : List α} {i : Nat} (h : l.length ≤ i) : l.drop i = [] := List.drop_eq_nil_of_le h

end Go.Ab.Lw
namespace Go.Ab.Lw
open Ev
set_option maxRecDepth 10000
set_option linter.unusedSimpArgs false
theorem c26 {n m : Int} (h1 : 1 ≤ m) (h2 : m < 4611686018427387904) : ∃ r, (orcL AP).p 26 [vI n, vI m] = some [vI r] ∧ 0 ≤ r ∧ r < m := by
  rw [callP_body (af := g26) rfl rfl (by decide)]
  have a1 := Int.tmod_lt_of_pos n (show 0 < m by omega)
  have a2 := Int.lt_tmod_of_pos n (show 0 < m by omega)
  have e1 : ¬ m < 1 := by omega
  have e2 : ¬ m = 0 := by omega
  by_cases h : n.tmod m < 0
  · refine ⟨n.tmod m + m, ?_, by omega, by omega⟩
    simp (disch := omega) [g26, e1, e2, h, wrap_id]
  · refine ⟨n.tmod m, ?_, by omega, by omega⟩
    simp [g26, e1, e2, h]

/-- A choice off the tape. -/
theorem c68 {L : List Int} (hL : Sm L) {i : Nat} (hi : i ≤ L.length) {n : Int} (h1 : 1 ≤ n) (h2 : n < 4611686018427387904) :
    ∃ (r : Int) (j : Nat), (orcL AP).i 68 [.sptr 0 0, .pv (vI n)] (tp L i) [] = some ([.pv (vI r)], tp L j, []) ∧ 0 ≤ r ∧ r < n ∧ j ≤ L.length := by
  unfold Sm at hL
  rw [callI_body (af := g68) rfl (by simp [g68])]
  by_cases h : i < L.length
  · obtain ⟨x, hx⟩ := getO h
    obtain ⟨r, e, e1, e2⟩ := c26 (n := x) h1 h2
    refine ⟨r, i + 1, ?_, e1, e2, h⟩
    have h' : ¬ L.length ≤ i := by omega
    simp (disch := omega) [-getElem?_pos, g68, h', wrap_id, hx, e]
  · have h' : L.length ≤ i := by omega
    refine ⟨0, i, ?_, by omega, by omega, hi⟩
    simp [g68, h']

theorem c63 {n : Int} : (orcL AP).p 63 [vI n] = some [(Ty.mk 1 [] n 0 []).pv] := by
  rw [callP_body (af := g63) rfl rfl (by decide)]
  simp [g63]
theorem c71 {n m : Int} : (orcL AP).p 71 [vI n, vI m] = some [(Ty.mk 3 [] m n []).pv] := by
  rw [callP_body (af := g71) rfl rfl (by decide)]
  simp [g71]
theorem c62 {s : List UInt8} {l : List Ty} (h : Sm l) : (orcL AP).p 62 [.str s, .lst (l.map Ty.pv)] = some [(Ty.mk 4 s 0 0 l).pv] := by
  unfold Sm at h
  rw [callP_body (af := g62) rfl rfl (by decide)]
  cases l with
  | nil => simp [g62]
  | cons a r =>
    have : (r.length + 1) * 64 ≤ 140737488355328 := by simp at h; omega
    simp [g62, this]
theorem c34 : (orcL AP).p 34 [] = some [(Ty.mk 4 [73, 110, 116] 0 0 []).pv] := by
  rw [callP_body (af := g34) rfl rfl (by decide)]
  have h := c62 (s := [73, 110, 116]) (l := []) (by simp [Sm])
  simp at h
  simp [g34, h]
theorem c69 {a b : Ty} : (orcL AP).p 69 [a.pv, b.pv] = some [(Ty.mk 4 [45, 62] 0 0 [a, b]).pv] := by
  rw [callP_body (af := g69) rfl rfl (by decide)]
  have h := c62 (s := [45, 62]) (l := [a, b]) (by simp [Sm])
  simp at h
  simp [g69, h]
theorem c15 {l : List Int} : (orcL AP).p 15 [.lst (l.map vI)] = some [.bool (decide (l.length ≤ 60))] := by
  rw [callP_body (af := g15) rfl rfl (by decide)]
  simp [g15]
  omega

end Go.Ab.Lw
namespace Go.Ab.Lw
open Ev
set_option maxRecDepth 10000
set_option linter.unusedSimpArgs false
/-- Shared memory without tokens. -/
def Calm (sh : Sh) : Prop := ∀ old ts, normS old ts sh = (sh, old, ts)
def tyVar (n : Int) : Ty := ⟨1, [], n, 0, []⟩
def tyRigid (h n : Int) : Ty := ⟨3, [], n, h, []⟩
def tyBound (n : Int) : Ty := ⟨2, [], n, 0, []⟩
def tyInt : Ty := ⟨4, [73, 110, 116], 0, 0, []⟩

end Go.Ab.Lw
namespace Go.Ab.Lw
set_option maxRecDepth 100000
set_option linter.unusedVariables false
def srcD : List UInt8 := [100, 97, 116, 97, 32, 66, 111, 111, 108, 32, 61, 32, 84, 114, 117, 101, 32, 124, 32, 70, 97, 108, 115, 101, 59, 32, 100, 97, 116, 97, 32, 79, 112, 116, 105, 111, 110, 32, 97, 32, 61, 32, 78, 111, 110, 101, 32, 124, 32, 83, 111, 109, 101, 32, 97, 59, 32, 100, 97, 116, 97, 32, 76, 105, 115, 116, 32, 97, 32, 61, 32, 78, 105, 108, 32, 124, 32, 67, 111, 110, 115, 32, 97, 32, 40, 76, 105, 115, 116, 32, 97, 41, 59, 100, 97, 116, 97, 32, 80, 97, 105, 114, 32, 97, 32, 98, 32, 61, 32, 80, 97, 105, 114, 32, 97, 32, 98, 59, 32, 100, 97, 116, 97, 32, 78, 97, 116, 32, 61, 32, 90, 101, 114, 111, 32, 124, 32, 83, 117, 99, 99, 32, 78, 97, 116, 59, 32, 100, 97, 116, 97, 32, 70, 117, 110, 32, 97, 32, 98, 32, 61, 32, 70, 117, 110, 32, 40, 97, 32, 45, 62, 32, 98, 41, 59, 32, 100, 97, 116, 97, 32, 84, 119, 111, 32, 97, 32, 61, 32, 66, 111, 116, 104, 32, 97, 32, 97, 32, 124, 32, 79, 110, 101, 32, 40, 79, 112, 116, 105, 111, 110, 32, 97, 41, 59]
def toksD : List PV := [.lst [.agg [.int .i64 4, .str [100, 97, 116, 97], .int .i64 0], .agg [.int .i64 2, .str [66, 111, 111, 108], .int .i64 5], .agg [.int .i64 5, .str [61], .int .i64 10], .agg [.int .i64 2, .str [84, 114, 117, 101], .int .i64 12], .agg [.int .i64 5, .str [124], .int .i64 17], .agg [.int .i64 2, .str [70, 97, 108, 115, 101], .int .i64 19], .agg [.int .i64 5, .str [59], .int .i64 24], .agg [.int .i64 4, .str [100, 97, 116, 97], .int .i64 26], .agg [.int .i64 2, .str [79, 112, 116, 105, 111, 110], .int .i64 31], .agg [.int .i64 1, .str [97], .int .i64 38], .agg [.int .i64 5, .str [61], .int .i64 40], .agg [.int .i64 2, .str [78, 111, 110, 101], .int .i64 42], .agg [.int .i64 5, .str [124], .int .i64 47], .agg [.int .i64 2, .str [83, 111, 109, 101], .int .i64 49], .agg [.int .i64 1, .str [97], .int .i64 54], .agg [.int .i64 5, .str [59], .int .i64 55], .agg [.int .i64 4, .str [100, 97, 116, 97], .int .i64 57], .agg [.int .i64 2, .str [76, 105, 115, 116], .int .i64 62], .agg [.int .i64 1, .str [97], .int .i64 67], .agg [.int .i64 5, .str [61], .int .i64 69], .agg [.int .i64 2, .str [78, 105, 108], .int .i64 71], .agg [.int .i64 5, .str [124], .int .i64 75], .agg [.int .i64 2, .str [67, 111, 110, 115], .int .i64 77], .agg [.int .i64 1, .str [97], .int .i64 82], .agg [.int .i64 5, .str [40], .int .i64 84], .agg [.int .i64 2, .str [76, 105, 115, 116], .int .i64 85], .agg [.int .i64 1, .str [97], .int .i64 90], .agg [.int .i64 5, .str [41], .int .i64 91], .agg [.int .i64 5, .str [59], .int .i64 92], .agg [.int .i64 4, .str [100, 97, 116, 97], .int .i64 93], .agg [.int .i64 2, .str [80, 97, 105, 114], .int .i64 98], .agg [.int .i64 1, .str [97], .int .i64 103], .agg [.int .i64 1, .str [98], .int .i64 105], .agg [.int .i64 5, .str [61], .int .i64 107], .agg [.int .i64 2, .str [80, 97, 105, 114], .int .i64 109], .agg [.int .i64 1, .str [97], .int .i64 114], .agg [.int .i64 1, .str [98], .int .i64 116], .agg [.int .i64 5, .str [59], .int .i64 117], .agg [.int .i64 4, .str [100, 97, 116, 97], .int .i64 119], .agg [.int .i64 2, .str [78, 97, 116], .int .i64 124], .agg [.int .i64 5, .str [61], .int .i64 128], .agg [.int .i64 2, .str [90, 101, 114, 111], .int .i64 130], .agg [.int .i64 5, .str [124], .int .i64 135], .agg [.int .i64 2, .str [83, 117, 99, 99], .int .i64 137], .agg [.int .i64 2, .str [78, 97, 116], .int .i64 142], .agg [.int .i64 5, .str [59], .int .i64 145], .agg [.int .i64 4, .str [100, 97, 116, 97], .int .i64 147], .agg [.int .i64 2, .str [70, 117, 110], .int .i64 152], .agg [.int .i64 1, .str [97], .int .i64 156], .agg [.int .i64 1, .str [98], .int .i64 158], .agg [.int .i64 5, .str [61], .int .i64 160], .agg [.int .i64 2, .str [70, 117, 110], .int .i64 162], .agg [.int .i64 5, .str [40], .int .i64 166], .agg [.int .i64 1, .str [97], .int .i64 167], .agg [.int .i64 5, .str [45, 62], .int .i64 169], .agg [.int .i64 1, .str [98], .int .i64 172], .agg [.int .i64 5, .str [41], .int .i64 173], .agg [.int .i64 5, .str [59], .int .i64 174], .agg [.int .i64 4, .str [100, 97, 116, 97], .int .i64 176], .agg [.int .i64 2, .str [84, 119, 111], .int .i64 181], .agg [.int .i64 1, .str [97], .int .i64 185], .agg [.int .i64 5, .str [61], .int .i64 187], .agg [.int .i64 2, .str [66, 111, 116, 104], .int .i64 189], .agg [.int .i64 1, .str [97], .int .i64 194], .agg [.int .i64 1, .str [97], .int .i64 196], .agg [.int .i64 5, .str [124], .int .i64 198], .agg [.int .i64 2, .str [79, 110, 101], .int .i64 200], .agg [.int .i64 5, .str [40], .int .i64 204], .agg [.int .i64 2, .str [79, 112, 116, 105, 111, 110], .int .i64 205], .agg [.int .i64 1, .str [97], .int .i64 212], .agg [.int .i64 5, .str [41], .int .i64 213], .agg [.int .i64 5, .str [59], .int .i64 214]], .agg [.int .i64 0, .int .i64 0]]

/-- All data declarations. -/
def allDatas : List Dt := [⟨0, [66, 111, 111, 108], [], [⟨12, [84, 114, 117, 101], []⟩, ⟨19, [70, 97, 108, 115, 101], []⟩]⟩,
  ⟨26, [79, 112, 116, 105, 111, 110], [[97]], [⟨42, [78, 111, 110, 101], []⟩, ⟨49, [83, 111, 109, 101], [⟨5, [97], 0, 0, []⟩]⟩]⟩,
  ⟨57, [76, 105, 115, 116], [[97]], [⟨71, [78, 105, 108], []⟩, ⟨77, [67, 111, 110, 115], [⟨5, [97], 0, 0, []⟩,⟨4, [76, 105, 115, 116], 0, 0, [⟨5, [97], 0, 0, []⟩]⟩]⟩]⟩,
  ⟨93, [80, 97, 105, 114], [[97], [98]], [⟨109, [80, 97, 105, 114], [⟨5, [97], 0, 0, []⟩,⟨5, [98], 0, 0, []⟩]⟩]⟩,
  ⟨119, [78, 97, 116], [], [⟨130, [90, 101, 114, 111], []⟩, ⟨137, [83, 117, 99, 99], [⟨4, [78, 97, 116], 0, 0, []⟩]⟩]⟩,
  ⟨147, [70, 117, 110], [[97], [98]], [⟨162, [70, 117, 110], [⟨4, [45, 62], 0, 0, [⟨5, [97], 0, 0, []⟩, ⟨5, [98], 0, 0, []⟩]⟩]⟩]⟩,
  ⟨176, [84, 119, 111], [[97]], [⟨189, [66, 111, 116, 104], [⟨5, [97], 0, 0, []⟩,⟨5, [97], 0, 0, []⟩]⟩, ⟨200, [79, 110, 101], [⟨4, [79, 112, 116, 105, 111, 110], 0, 0, [⟨5, [97], 0, 0, []⟩]⟩]⟩]⟩]

theorem scanD : (orcL AP).p 118 [.str srcD] = some toksD := Fc.p_of (k := 400) (n := 20) (by kernel_rfl)

def ovD (g : Nat) (x : List PV) : Option (List PV) := match g, x with
  | 118, [.str s] => if s = srcD then some toksD else none
  | _, _ => none
theorem ovD_ok : ∀ g x r, ovD g x = some r → (orcL AP).p g x = some r := by
  intro g x r h
  unfold ovD at h
  split at h
  · split at h
    · rename_i e; subst e; cases h; exact scanD
    · cases h
  · cases h

theorem c79 : (orcL AP).p 79 [] = some [.lst (allDatas.map Dt.pv)] := Fc.p_ofX (k := 400) (n := 40) ovD_ok (by kernel_rfl)
end Go.Ab.Lw
namespace Go.Ab.Lw
open Ev
set_option maxRecDepth 10000
set_option linter.unusedSimpArgs false
@[simp] theorem headSz_Dt {l : List Dt} : headSz 4 (l.map Dt.pv) = true := by cases l <;> simp
@[simp] theorem headSz_Ty {l : List Ty} : headSz 5 (l.map Ty.pv) = true := by cases l <;> simp
@[simp] theorem headSz_As {l : List As} : headSz 6 (l.map As.pv) = true := by cases l <;> simp

theorem wrapU_id {n : Int} (h1 : 0 ≤ n) (h2 : n < 18446744073709551616) : IntKind.u64.wrap n = n := by
  simp [IntKind.wrap, IntKind.bits, IntKind.signed]
  omega

def R32 (bits : Int) (ds : List Dt) : Option (AExit × St) :=
  some (.exit 0, ⟨[(0, .pv (vI bits)), (3, .pv (.lst (allDatas.map Dt.pv))), (4, .own (ds.map Dt.pv) 0), (5, .pv (vI 7)), (24, .pv (.bool false))], [], [], [ds.length]⟩)
theorem L32 (bits : Int) : ∀ (n i : Nat), 7 - i = n → i ≤ 7 → ∀ acc : List Dt, (∀ d ∈ acc, d ∈ allDatas) → acc.length ≤ 1 + i →
    ∃ ds : List Dt, cl AP g32L0 ⟨[(0, .pv (vI bits)), (3, .pv (.lst (allDatas.map Dt.pv))), (4, .own (acc.map Dt.pv) 0), (5, .pv (vI i))], [], [], [acc.length]⟩ = R32 bits ds ∧
      (∀ d ∈ ds, d ∈ allDatas) ∧ ds.length ≤ 8
  | 0, i, hn, hi, acc, ha, hl => by
    have : i = 7 := by omega
    subst this
    refine ⟨acc, ?_, ha, by omega⟩
    rw [g32L0_eq]
    have h7 : allDatas.length = 7 := rfl
    simp [g32B0, h7, R32]
  | n + 1, i, hn, hi, acc, ha, hl => by
    have h7 : allDatas.length = 7 := rfl
    have hi : i < 7 := by omega
    obtain ⟨x, hx⟩ := getO (l := allDatas) (i := i) (by omega)
    have hb : (acc.length + 1) * 72 ≤ 140737488355328 := by omega
    obtain ⟨d1, e1, m1, l1⟩ := L32 bits n (i + 1) (by omega) (by omega) (acc ++ [x]) (by
      intro d hd; simp at hd; rcases hd with hd | rfl
      · exact ha d hd
      · exact memO hx) (by simp; omega)
    obtain ⟨d2, e2, m2, l2⟩ := L32 bits n (i + 1) (by omega) (by omega) acc ha (by omega)
    simp at e1 e2
    have hi' : (i : Int) < 7 := by omega
    have key : ∀ S, S = cl AP g32L0 ⟨[(0, .pv (vI bits)), (3, .pv (.lst (allDatas.map Dt.pv))), (4, .own (acc.map Dt.pv) 0), (5, .pv (vI i))], [], [], [acc.length]⟩ → S = R32 bits d1 ∨ S = R32 bits d2 := by
      intro S hS
      rw [g32L0_eq] at hS
      simp (disch := omega) [-getElem?_pos, g32B0, h7, hi', hx, wrap_id, wrapU_id, hb, e1, e2] at hS
      subst hS
      (repeat' split) <;> simp
    rcases key _ rfl with h | h
    · exact ⟨d1, h, m1, l1⟩
    · exact ⟨d2, h, m2, l2⟩

theorem c32 (bits : Int) : ∃ ds : List Dt, (orcL AP).p 32 [vI bits] = some [.lst (ds.map Dt.pv)] ∧ (∀ d ∈ ds, d ∈ allDatas) ∧ ds.length ≤ 8 := by
  have hp := c79
  have h7 : allDatas.length = 7 := rfl
  obtain ⟨x, hx⟩ := getO (l := allDatas) (i := 1) (by decide)
  obtain ⟨d1, e1, m1, l1⟩ := L32 bits 7 0 rfl (by omega) [x] (by intro d hd; simp at hd; subst hd; exact memO hx) (by simp)
  obtain ⟨d2, e2, m2, l2⟩ := L32 bits 7 0 rfl (by omega) [] (by simp) (by simp)
  rw [g32L0_eq] at e1 e2
  simp at e1 e2
  have key : ∀ S, S = (orcL AP).p 32 [vI bits] → S = some [.lst (d1.map Dt.pv)] ∨ S = some [.lst (d2.map Dt.pv)] := by
    intro S hS
    rw [callP_body (af := g32) rfl rfl (by decide)] at hS
    simp [-getElem?_pos, g32, hp, g32L0_eq, hx, e1, e2, R32] at hS
    subst hS
    (repeat' split) <;> simp
  rcases key _ rfl with h | h
  · exact ⟨d1, h, m1, l1⟩
  · exact ⟨d2, h, m2, l2⟩
end Go.Ab.Lw
namespace Go.Ab.Lw
open Ev
set_option maxRecDepth 10000
set_option linter.unusedSimpArgs false
/-- A made type over leaves. -/
inductive Made (lv : Ty → Prop) : Ty → Prop
  | leaf {t : Ty} : lv t → Made lv t
  | int : Made lv tyInt
  | con {d : Dt} {args : List Ty} : d ∈ allDatas → args.length = d.params.length → (∀ x ∈ args, Made lv x) → Made lv ⟨4, d.name, 0, 0, args⟩
  | arrow {a b : Ty} : Made lv a → Made lv b → Made lv ⟨4, [45, 62], 0, 0, [a, b]⟩

theorem Made.mono {lv lv' : Ty → Prop} (h : ∀ t, lv t → lv' t) {t : Ty} (m : Made lv t) : Made lv' t := by
  induction m with
  | leaf h' => exact .leaf (h _ h')
  | int => exact .int
  | con hd hl _ ih => exact .con hd hl ih
  | arrow _ _ ha hb => exact .arrow ha hb

/-- A type in its cells. -/
def Ty.av (t : Ty) : AV := .agg [.pv (vI t.kind), .pv (.str t.name), .pv (vI t.id), .pv (vI t.home), .pv (.lst (t.args.map Ty.pv))]
@[simp] theorem Ty.av_eq (t : Ty) : t.av = .agg [.pv (vI t.kind), .pv (.str t.name), .pv (vI t.id), .pv (vI t.home), .pv (.lst (t.args.map Ty.pv))] := rfl

theorem natI {r : Int} {n : Nat} (h0 : 0 ≤ r) (h1 : r < n) : ∃ m : Nat, r = m ∧ m < n := ⟨r.toNat, by omega, by omega⟩

end Go.Ab.Lw
namespace Go.Ab.Lw
open Ev
set_option maxRecDepth 10000
set_option linter.unusedSimpArgs false
def leavesS : List Ty := [tyVar 0, tyVar 1, tyVar 2, tyVar 3, tyVar 4, tyRigid (-1) 0]

end Go.Ab.Lw
namespace Go.Ab.Lw
open Ev
set_option maxRecDepth 10000
set_option linter.unusedSimpArgs false
/-- No list within is long. -/
inductive Ty.Ok : Ty → Prop
  | mk {t : Ty} : Sm t.args → (∀ x ∈ t.args, Ty.Ok x) → Ty.Ok t
theorem Ty.Ok.sm {t : Ty} (h : t.Ok) : Sm t.args := by cases h; assumption
theorem Ty.Ok.kid {t : Ty} (h : t.Ok) : ∀ x ∈ t.args, x.Ok := by cases h; assumption
/-- Variables have no parts. -/
inductive Ty.Wf : Ty → Prop
  | mk {t : Ty} : (t.kind = 1 → t.args = []) → (∀ x ∈ t.args, Ty.Wf x) → Ty.Wf t
theorem Ty.Wf.var {t : Ty} (h : t.Wf) : t.kind = 1 → t.args = [] := by cases h; assumption
theorem Ty.Wf.kid {t : Ty} (h : t.Wf) : ∀ x ∈ t.args, x.Wf := by cases h; assumption

/-- The first assignment of a variable. -/
def fnd : List As → Int → Option Ty
  | [], _ => none
  | a :: r, id => if a.id = id then some a.ty else fnd r id

mutual
def Ty.sub (s : List As) : Ty → Ty
  | ⟨k, n, i, h, as⟩ => if k = 1 then (fnd s i).getD ⟨k, n, i, h, as⟩ else ⟨k, n, i, h, Ty.subs s as⟩
def Ty.subs (s : List As) : List Ty → List Ty
  | [] => []
  | a :: r => a.sub s :: Ty.subs s r
end
theorem Ty.subs_map (s : List As) : ∀ l : List Ty, Ty.subs s l = l.map (Ty.sub s)
  | [] => by simp [Ty.subs]
  | a :: r => by simp [Ty.subs, Ty.subs_map s r]
theorem Ty.sub_eq (s : List As) (t : Ty) : t.sub s = if t.kind = 1 then (fnd s t.id).getD t else ⟨t.kind, t.name, t.id, t.home, t.args.map (Ty.sub s)⟩ := by
  cases t; simp only [Ty.sub, Ty.subs_map]

end Go.Ab.Lw
namespace Go.Ab.Lw
open Ev
set_option maxRecDepth 10000
set_option linter.unusedSimpArgs false
/-- Shared memory that holds plain data alone. -/
def Quiet (sh : Sh) : Prop := ∀ cs, some cs ∈ sh → ∀ v ∈ cs, ∃ p, v = AV.pv p

theorem normL_pv {old ts : Toks} : ∀ {cs : List AV}, (∀ v ∈ cs, ∃ p, v = AV.pv p) → normL old ts cs = (cs, old, ts)
  | [], _ => rfl
  | v :: r, h => by
    obtain ⟨p, rfl⟩ := h v (by simp)
    simp only [normL_cons, normV_pv, normL_pv (cs := r) (fun v hv => h v (by simp [hv]))]
theorem Quiet.norm : ∀ {sh : Sh}, Quiet sh → ∀ old ts, normS old ts sh = (sh, old, ts)
  | [], _, _, _ => rfl
  | none :: sh, h, old, ts => by
    simp only [normS_none, Quiet.norm (sh := sh) (fun cs hc => h cs (by simp [hc]))]
  | some cs :: sh, h, old, ts => by
    simp only [normS_some, normL_pv (h cs (by simp)), Quiet.norm (sh := sh) (fun cs hc => h cs (by simp [hc]))]
theorem shiftL_pv {n : Nat} : ∀ {cs : List AV}, (∀ v ∈ cs, ∃ p, v = AV.pv p) → cs.map (shiftV n) = cs
  | [], _ => rfl
  | v :: r, h => by
    obtain ⟨p, rfl⟩ := h v (by simp)
    simp only [List.map_cons, shiftV_pv, shiftL_pv (cs := r) (fun v hv => h v (by simp [hv]))]
theorem Quiet.shift : ∀ {sh : Sh}, Quiet sh → ∀ n, shiftS n sh = sh
  | [], _, _ => rfl
  | none :: sh, h, n => by
    simp only [shiftS_none, Quiet.shift (sh := sh) (fun cs hc => h cs (by simp [hc]))]
  | some cs :: sh, h, n => by
    simp only [shiftS_some, shiftL_pv (h cs (by simp)), Quiet.shift (sh := sh) (fun cs hc => h cs (by simp [hc]))]
theorem Quiet.app {a b : Sh} (ha : Quiet a) (hb : Quiet b) : Quiet (a ++ b) := by
  intro cs hc
  simp only [List.mem_append] at hc
  rcases hc with hc | hc
  · exact ha cs hc
  · exact hb cs hc
theorem Quiet.one {cs : List AV} (h : ∀ v ∈ cs, ∃ p, v = AV.pv p) : Quiet [some cs] := by
  intro cs' hc
  simp at hc
  subst hc
  exact h

@[simp] theorem getEnd {α : Type} {l : List α} {x : α} : (l ++ [x])[l.length]? = some x := by simp
@[simp] theorem setEnd {α : Type} {l : List α} {x y : α} : (l ++ [x]).set l.length y = l ++ [y] := by simp [List.set_append]
@[simp] theorem takeEnd {α : Type} {l : List α} {x : α} : (l ++ [x]).take l.length = l := by simp

/-! ### An array of types under way -/

def Ty.cl (t : Ty) : List AV := [.pv (vI t.kind), .pv (.str t.name), .pv (vI t.id), .pv (vI t.home), .pv (.lst (t.args.map Ty.pv))]
def zcl : List AV := [.pv (vI 0), .pv (.str []), .pv (vI 0), .pv (vI 0), .pv (.lst [])]
def arrC (d : List Ty) (m : Nat) : List AV := d.flatMap Ty.cl ++ (List.replicate m zcl).flatten
theorem flat_len {d : List Ty} : (d.flatMap Ty.cl).length = d.length * 5 := by
  induction d with
  | nil => rfl
  | cons a r ih => simp [ih, Ty.cl, Nat.add_mul]
theorem rep_len {m : Nat} : ((List.replicate m zcl).flatten).length = m * 5 := by
  simp [zcl]
theorem arrC_len {d : List Ty} {m : Nat} : (arrC d m).length = (d.length + m) * 5 := by
  simp only [arrC, List.length_append, flat_len, rep_len, Nat.add_mul]
theorem arrC_set {d : List Ty} {m : Nat} {t : Ty} : setRange (arrC d (m + 1)) (d.length * 5) t.cl = arrC (d ++ [t]) m := by
  have e : arrC d (m + 1) = d.flatMap Ty.cl ++ (zcl ++ (List.replicate m zcl).flatten) := by simp [arrC, List.replicate_succ]
  have hl : (d.flatMap Ty.cl).length = d.length * 5 := flat_len
  rw [setRange_eq, e, ← hl, List.take_left, List.drop_append, List.drop_eq_nil_of_le (by omega)]
  have : (d.flatMap Ty.cl).length + t.cl.length - (d.flatMap Ty.cl).length = 5 := by simp [Ty.cl]
  rw [this]
  simp [arrC, zcl]
theorem arrC_pv {d : List Ty} {m : Nat} : ∀ v ∈ arrC d m, ∃ p, v = AV.pv p := by
  intro v hv
  simp only [arrC, List.mem_append, List.mem_flatMap, List.mem_flatten, List.mem_replicate] at hv
  rcases hv with ⟨t, _, hv⟩ | ⟨l, ⟨_, rfl⟩, hv⟩
  · simp [Ty.cl] at hv
    rcases hv with rfl | rfl | rfl | rfl | rfl <;> exact ⟨_, rfl⟩
  · simp [zcl] at hv
    rcases hv with rfl | rfl | rfl | rfl | rfl <;> exact ⟨_, rfl⟩
theorem mapB_pvs {l : List AV} (h : ∀ v ∈ l, ∃ p, v = .pv p) : mapB l = false := by
  cases l with
  | nil => rfl
  | cons c r => obtain ⟨p, rfl⟩ := h c (by simp); rfl
@[simp] theorem arrC_mapB {d : List Ty} {m : Nat} : mapB (arrC d m) = false := mapB_pvs arrC_pv

theorem frzL_app {a b : List AV} {x y : List PV} (ha : frzL a = some x) (hb : frzL b = some y) : frzL (a ++ b) = some (x ++ y) := by
  induction a generalizing x with
  | nil => simp at ha; subst ha; exact hb
  | cons v r ih =>
    simp only [frzL_cons] at ha
    simp only [List.cons_append, frzL_cons]
    cases h1 : frz0 v with
    | none => rw [h1] at ha; cases ha
    | some p =>
      cases h2 : frzL r with
      | none => rw [h1, h2] at ha; cases ha
      | some q =>
        rw [h1, h2] at ha
        simp at ha
        subst ha
        rw [ih h2]; rfl
theorem arrC_frz : ∀ {d : List Ty}, ((frzL (arrC d 0)).bind (arrEls 5 true d.length)).map PV.lst = some (.lst (d.map Ty.pv)) := by
  have key : ∀ d : List Ty, ∃ ps, frzL (d.flatMap Ty.cl) = some ps ∧ (chunk 5 d.length ps).map PV.agg = d.map Ty.pv := by
    intro d
    induction d with
    | nil => exact ⟨[], rfl, rfl⟩
    | cons t r ih =>
      obtain ⟨ps, h1, h2⟩ := ih
      refine ⟨[vI t.kind, .str t.name, vI t.id, vI t.home, .lst (t.args.map Ty.pv)] ++ ps, ?_, ?_⟩
      · rw [List.flatMap_cons]
        exact frzL_app (by simp [Ty.cl]) h1
      · simp only [List.length_cons, chunk]
        simp [h2]
  intro d
  obtain ⟨ps, h1, h2⟩ := key d
  have : arrC d 0 = d.flatMap Ty.cl := by simp [arrC]
  rw [this, h1]
  simp only [Option.bind_some, arrEls, if_true, Option.map_some, h2]

/-! ### Rebuilding -/

mutual
def Ty.rbl (f : Ty → Ty) : Ty → Ty
  | ⟨k, n, i, h, as⟩ => match as with
    | [] => f ⟨k, n, i, h, []⟩
    | a :: r => ⟨k, n, i, h, a.rbl f :: Ty.rbls f r⟩
def Ty.rbls (f : Ty → Ty) : List Ty → List Ty
  | [] => []
  | a :: r => a.rbl f :: Ty.rbls f r
end
theorem Ty.rbls_map (f : Ty → Ty) : ∀ l : List Ty, Ty.rbls f l = l.map (Ty.rbl f)
  | [] => by simp [Ty.rbls]
  | a :: r => by simp [Ty.rbls, Ty.rbls_map f r]
theorem Ty.rbl_nil {f : Ty → Ty} {t : Ty} (h : t.args = []) : t.rbl f = f t := by
  obtain ⟨k, n, i, hm, as⟩ := t
  simp at h
  subst h
  simp [Ty.rbl]
theorem Ty.rbl_cons {f : Ty → Ty} {t : Ty} (h : ¬ t.args = []) : t.rbl f = ⟨t.kind, t.name, t.id, t.home, t.args.map (Ty.rbl f)⟩ := by
  obtain ⟨k, n, i, hm, as⟩ := t
  cases as with
  | nil => simp at h
  | cons a r => simp [Ty.rbl, Ty.rbls_map]

/-- What a function value makes of leaves, whatever arrays are under way. -/
def LeafF (g : Nat) (cap : List AV) (c0 : List AV) (f : Ty → Ty) : Prop := ∀ (sh : Sh) (x : Ty), Quiet sh → sh[0]? = some (some c0) → x.args = [] → (orcL AP).i g (.pv x.pv :: cap) sh [] = some ([(f x).av], sh, [])

def R91 (F : AV) (t : Ty) (f : Ty → Ty) (sh0 : Sh) : Option (AExit × St) :=
  some (.exit 0, ⟨[(1, F), (2, .lptr 2 0), (4, .lptr 4 0), (5, .sarr sh0.length 5 t.args.length true), (20, .pv (.lst (t.args.map Ty.pv))), (21, .pv (vI t.args.length)), (22, .pv (vI t.args.length)), (23, .pv (.bool false))],
    [(2, t.cl), (4, [.pv (vI 0), .pv (.str []), .pv (vI 0), .pv (vI 0), .own [] 0])], sh0 ++ [some (arrC (t.args.map (Ty.rbl f)) 0)], [0]⟩)

theorem L91 {g : Nat} {cap : List AV} {c0 : List AV} {f : Ty → Ty} {t : Ty} {sh0 : Sh} (hq : Quiet sh0) (h0 : sh0[0]? = some (some c0)) (hcap : flatB.flatL cap = true) (hpass : passB.passL cap = true) (hS : Sm t.args)
    (h : ∀ x ∈ t.args, ∀ sh, Quiet sh → sh[0]? = some (some c0) → (orcL AP).i 91 [.pv x.pv, .fn g cap] sh [] = some ([(x.rbl f).av], sh, [])) : ∀ (n i : Nat), t.args.length - i = n → i ≤ t.args.length → ∀ d : List Ty, d = (t.args.take i).map (Ty.rbl f) →
    cl AP g91L0 ⟨[(1, .fn g cap), (2, .lptr 2 0), (4, .lptr 4 0), (5, .sarr sh0.length 5 t.args.length true), (20, .pv (.lst (t.args.map Ty.pv))), (21, .pv (vI t.args.length)), (22, .pv (vI i))],
      [(2, t.cl), (4, [.pv (vI 0), .pv (.str []), .pv (vI 0), .pv (vI 0), .own [] 0])], sh0 ++ [some (arrC d n)], [0]⟩ = R91 (.fn g cap) t f sh0
  | 0, i, hn, hi, d, hd => by
    have : i = t.args.length := by omega
    subst this
    have hd' : d = t.args.map (Ty.rbl f) := by simpa using hd
    subst hd'
    have hQ := hq.app (Quiet.one (arrC_pv (d := t.args.map (Ty.rbl f)) (m := 0)))
    rw [g91L0_eq]
    simp [g91B0, R91, hcap, hQ.norm, Ty.cl]
  | n + 1, i, hn, hi, d, hd => by
    have hi : i < t.args.length := by omega
    obtain ⟨x, hx⟩ := getO hi
    unfold Sm at hS
    have hdl : d.length = i := by rw [hd]; simp; omega
    have hQ := hq.app (Quiet.one (arrC_pv (d := d) (m := n + 1)))
    have h0' : (sh0 ++ [some (arrC d (n + 1))])[0]? = some (some c0) := by
      rw [List.getElem?_append_left]; exact h0; exact (List.getElem?_eq_some_iff.1 h0).1
    have hc := h x (memO hx) _ hQ h0'
    have ih := L91 hq h0 hcap hpass hS h n (i + 1) (by omega) (by omega) (d ++ [x.rbl f]) (by rw [List.take_add_one, hx, hd]; simp)
    have hset : setRange (arrC d (n + 1)) (i * 5) (x.rbl f).cl = arrC (d ++ [x.rbl f]) n := by rw [← hdl]; exact arrC_set
    have hlen : i * 5 + 5 ≤ (arrC d (n + 1)).length := by rw [arrC_len]; omega
    have hQ2 := hq.app (Quiet.one (arrC_pv (d := d ++ [x.rbl f]) (m := n)))
    rw [g91L0_eq] at ih ⊢
    simp [Ty.cl, hcap, hQ2.norm] at ih hset hc
    simp (disch := omega) [-getElem?_pos, g91B0, hx, hi, hcap, hpass, hQ.norm, hQ.shift, Ty.cl, hc, hset, hlen, wrap_id]
    rw [g91L0_eq]
    simp [ih, hcap, hQ2.norm]

theorem c91 {g : Nat} {cap : List AV} {c0 : List AV} {f : Ty → Ty} (hf : LeafF g cap c0 f) (hcap : flatB.flatL cap = true) (hpass : passB.passL cap = true) (harg : argsOf [] 1 cap = cap) (hnrm : ∀ old ts, normL old ts cap = (cap, old, ts)) (hpo : cap.all passO = true) {t : Ty} (hO : t.Ok) :
    ∀ sh, Quiet sh → sh[0]? = some (some c0) → (orcL AP).i 91 [.pv t.pv, .fn g cap] sh [] = some ([(t.rbl f).av], sh, []) := by
  revert hO
  refine Ty.rec1 (p := fun t => t.Ok → ∀ sh, Quiet sh → sh[0]? = some (some c0) → (orcL AP).i 91 [.pv t.pv, .fn g cap] sh [] = some ([(t.rbl f).av], sh, [])) ?_ t
  intro t ih hO sh hq h0
  rw [callI_body (af := g91) rfl (by simp [g91])]
  by_cases hn : t.args = []
  · have h := hf sh t hq h0 hn
    simp [hn] at h
    simp [g91, hn, hcap, hpass, harg, hnrm, hpo, hq.norm, hq.shift, h, Ty.rbl_nil hn]
  · have hl : ¬ t.args.length = 0 := by simpa using hn
    have hS := hO.sm
    have h := L91 hq h0 hcap hpass hO.sm (fun x hx => ih x hx (hO.kid x hx)) t.args.length 0 (by omega) (by omega) [] (by simp)
    have hz : arrC [] t.args.length = (List.replicate t.args.length [.pv (vI 0), .pv (.str []), .pv (vI 0), .pv (vI 0), .pv (.lst [])]).flatten := by simp [arrC, zcl]
    have hQ := hq.app (Quiet.one (arrC_pv (d := []) (m := t.args.length)))
    rw [g91L0_eq] at h
    unfold Sm at hS
    have b1 : (t.args.length : Int) ≤ 9223372036854775807 := by omega
    have b2 : (t.args.length : Int) * 64 ≤ 140737488355328 := by omega
    rw [hz] at h hQ
    simp [hcap, hQ.norm, Ty.cl, R91] at h
    have hQ2 := hq.app (Quiet.one (arrC_pv (d := t.args.map (Ty.rbl f)) (m := 0)))
    have hfr := arrC_frz (d := t.args.map (Ty.rbl f))
    have hle := arrC_len (d := t.args.map (Ty.rbl f)) (m := 0)
    simp at hfr hle
    simp (disch := omega) [g91, hn, hl, hcap, hpass, hq.norm, hq.shift, b1, b2, g91L0_eq, hQ.norm, h, Ty.rbl_cons hn, hfr, hle]
end Go.Ab.Lw
namespace Go.Ab.Lw
open Ev
set_option maxRecDepth 10000
set_option linter.unusedSimpArgs false
def subLeaf (s : List As) (x : Ty) : Ty := if x.kind = 1 then (fnd s x.id).getD x else x

theorem rbl_sub {s : List As} {t : Ty} (h : t.Wf) : t.rbl (subLeaf s) = t.sub s := by
  revert h
  refine Ty.rec1 (p := fun t => t.Wf → t.rbl (subLeaf s) = t.sub s) ?_ t
  intro t ih h
  by_cases hn : t.args = []
  · rw [Ty.rbl_nil hn, Ty.sub_eq]
    unfold subLeaf
    split
    · rfl
    · cases t; simp at hn; simp [hn]
  · have hk : ¬ t.kind = 1 := fun e => hn (h.var e)
    rw [Ty.rbl_cons hn, Ty.sub_eq, if_neg hk]
    congr 1
    exact List.map_congr_left fun x hx => ih x hx (h.kid x hx)

def R92 (s : List As) (t : Ty) (sh : Sh) : Option Ty → Option (AExit × St)
  | some a => some (.ret, ⟨[(3, .lptr 3 0)], [(3, a.cl)], sh, [0]⟩)
  | none => some (.exit 0, ⟨[(2, .lptr 2 0), (3, .lptr 3 0), (9, .pv (.lst (s.map As.pv))), (10, .pv (vI s.length)), (11, .pv (vI s.length)), (12, .pv (.bool false))],
      [(2, t.cl), (3, [.pv (vI 0), .pv (.str []), .pv (vI 0), .pv (vI 0), .own [] 0])], sh, [0]⟩)
theorem L92 {s : List As} (hS : Sm s) (t : Ty) {sh : Sh} (hq : Quiet sh) : ∀ (n i : Nat), s.length - i = n → i ≤ s.length →
    cl AP g92L0 ⟨[(2, .lptr 2 0), (3, .lptr 3 0), (9, .pv (.lst (s.map As.pv))), (10, .pv (vI s.length)), (11, .pv (vI i))],
      [(2, t.cl), (3, [.pv (vI 0), .pv (.str []), .pv (vI 0), .pv (vI 0), .own [] 0])], sh, [0]⟩ = R92 s t sh (fnd (s.drop i) t.id)
  | 0, i, hn, hi => by
    have : i = s.length := by omega
    subst this
    rw [g92L0_eq]
    simp [g92B0, fnd, R92, Ty.cl, hq.norm]
  | n + 1, i, hn, hi => by
    have hi : i < s.length := by omega
    obtain ⟨x, hx⟩ := getO hi
    unfold Sm at hS
    have ih := L92 hS t hq n (i + 1) (by omega) (by omega)
    rw [g92L0_eq] at ih
    simp [Ty.cl, hq.norm] at ih
    rw [g92L0_eq, dropC hx]
    by_cases e : x.id = t.id
    · simp (disch := omega) [-getElem?_pos, g92B0, hx, hi, e, fnd, R92, Ty.cl, hq.norm]
    · simp (disch := omega) [-getElem?_pos, g92B0, hx, hi, e, fnd, wrap_id, Ty.cl, hq.norm]
      rw [g92L0_eq]
      simp [ih, hq.norm]

theorem c92 {s : List As} (hS : Sm s) : LeafF 92 [.sptr 0 0] [.pv (.lst (s.map As.pv))] (subLeaf s) := by
  intro sh x hq h0 hx
  rw [callI_body (af := g92) rfl (by simp [g92])]
  by_cases hk : x.kind = 1
  · have h := L92 hS x hq _ 0 rfl (by omega)
    rw [g92L0_eq] at h
    simp [Ty.cl, hq.norm] at h
    cases hf : fnd s x.id with
    | none =>
      rw [hf] at h
      simp [R92, Ty.cl, hx, hk] at h
      simp [g92, hk, h0, g92L0_eq, hq.norm, h, subLeaf, hf, hx, hq.shift]
    | some a =>
      rw [hf] at h
      simp [R92, Ty.cl, hx, hk] at h
      simp [g92, hk, h0, g92L0_eq, hq.norm, h, subLeaf, hf, hx, hq.shift]
  · simp [g92, hk, h0, hq.norm, subLeaf, hx, hq.shift]

theorem c45 {s : List As} (hS : Sm s) {t : Ty} (hO : t.Ok) (hW : t.Wf) : (orcL AP).p 45 [t.pv, .lst (s.map As.pv)] = some [(t.sub s).pv] := by
  have h := c91 (c92 hS) rfl rfl rfl (fun _ _ => rfl) rfl hO [some [.pv (.lst (s.map As.pv))]] (by intro cs hc v hv; simp at hc; subst hc; simp at hv; exact ⟨_, hv⟩) rfl
  rw [rbl_sub hW] at h
  simp at h
  rw [callP_body (af := g45) rfl rfl (by decide)]
  simp [g45, h]

/-! ### Apply -/
end Go.Ab.Lw
namespace Go.Ab.Lw
open Ev
set_option maxRecDepth 10000
set_option linter.unusedSimpArgs false
noncomputable instance : DecidableEq As := fun _ _ => Classical.propDecidable _

/-! ### Equal -/
theorem L57 {as bs : List Ty} (hS : Sm as) (hl : as.length = bs.length) (h : ∀ x ∈ as, ∀ y, (orcL AP).p 20 [x.pv, y.pv] = some [.bool (decide (x = y))]) : ∀ (n i : Nat), as.length - i = n → i ≤ as.length →
    cl AP g57L0 ⟨[(0, .pv (.lst (as.map Ty.pv))), (1, .pv (.lst (bs.map Ty.pv))), (5, .pv (.int .i64 i))], [], [], []⟩ =
      if as.drop i = bs.drop i then some (.exit 0, ⟨[(0, .pv (.lst (as.map Ty.pv))), (1, .pv (.lst (bs.map Ty.pv))), (5, .pv (.int .i64 as.length)), (14, .pv (.bool false))], [], [], []⟩)
      else some (.ret, ⟨[(4, .pv (.bool false))], [], [], []⟩)
  | 0, i, hn, hi => by
    have : i = as.length := by omega
    subst this
    rw [g57L0_eq]
    simp [g57B0, hl]
  | n + 1, i, hn, hi => by
    have hi : i < as.length := by omega
    obtain ⟨x, hx⟩ := getO hi
    obtain ⟨y, hy⟩ := getO (hl ▸ hi)
    have hc := h x (memO hx) y
    simp at hc
    rw [g57L0_eq, dropC hx, dropC hy]
    unfold Sm at hS
    have ih := L57 hS hl h n (i + 1) (by omega) (by omega)
    simp at ih
    simp (disch := omega) [-getElem?_pos, g57B0, hx, hy, hi, hc, wrap_id, ih]
    by_cases e : x = y <;> simp [e]

theorem c57 {as bs : List Ty} (hS : Sm as) (h : ∀ x ∈ as, ∀ y, (orcL AP).p 20 [x.pv, y.pv] = some [.bool (decide (x = y))]) :
    (orcL AP).p 57 [.lst (as.map Ty.pv), .lst (bs.map Ty.pv)] = some [.bool (decide (as = bs))] := by
  rw [callP_body (af := g57) rfl rfl (by decide)]
  by_cases hl : as.length = bs.length
  · have hL := L57 hS hl h _ 0 rfl (by omega)
    simp at hL
    simp [g57, hl, hL]
    by_cases e : as = bs <;> simp [e]
  · have : ¬ as = bs := fun e => hl (by rw [e])
    simp [g57, hl, this]
    omega

theorem c20 {a b : Ty} (hO : a.Ok) : (orcL AP).p 20 [a.pv, b.pv] = some [.bool (decide (a = b))] := by
  revert b hO
  refine Ty.rec1 (p := fun a => ∀ {b : Ty}, a.Ok → (orcL AP).p 20 [a.pv, b.pv] = some [.bool (decide (a = b))]) ?_ a
  intro a ih b hO
  have h := c57 (bs := b.args) hO.sm (fun x hx y => ih x hx (hO.kid x hx))
  rw [callP_body (af := g20) rfl rfl (by decide)]
  simp [g20, h]
  cases a; cases b
  simp
  (repeat' split) <;> simp_all

/-! ### Compose -/
end Go.Ab.Lw
namespace Go.Ab.Lw
open Ev
set_option maxRecDepth 10000
set_option linter.unusedSimpArgs false
def ordI (a b : Int) : Int := if a < b then -1 else if b < a then 1 else 0
def ordS (a b : List UInt8) : Int := if evBin.bytesLt a b = true then -1 else if a = b then 0 else 1

/-- The first that is not 0. -/
def orI : List Int → Int
  | [] => 0
  | x :: r => if x = 0 then orI r else x

mutual
def cmpT : Ty → Ty → Int
  | ⟨k, n, i, h, as⟩, b => if orI [ordI k b.kind, ordS n b.name, ordI i b.id, ordI h b.home, ordI as.length b.args.length] = 0 then cmpL as b.args
      else orI [ordI k b.kind, ordS n b.name, ordI i b.id, ordI h b.home, ordI as.length b.args.length]
def cmpL : List Ty → List Ty → Int
  | [], [] => 0
  | [], _ :: _ => -1
  | _ :: _, [] => 1
  | a :: r, b :: s => if cmpT a b = 0 then cmpL r s else cmpT a b
end
/-- The heads' order. -/
def cmpH (a b : Ty) : Int := orI [ordI a.kind b.kind, ordS a.name b.name, ordI a.id b.id, ordI a.home b.home, ordI a.args.length b.args.length]
theorem cmpT_eq (a b : Ty) : cmpT a b = if cmpH a b = 0 then cmpL a.args b.args else cmpH a b := by
  cases a; simp only [cmpT, cmpH]; rfl

theorem c113 {n : Int} : (orcL AP).p 113 [vI n] = some [.bool false] := by
  rw [callP_body (af := g113) rfl rfl (by decide)]
  simp [g113]
theorem c114 {n : List UInt8} : (orcL AP).p 114 [.str n] = some [.bool false] := by
  rw [callP_body (af := g114) rfl rfl (by decide)]
  simp [g114]
theorem c81 {a b : Int} : (orcL AP).p 81 [vI a, vI b] = some [vI (ordI a b)] := by
  have h1 := c113 (n := a)
  have h2 := c113 (n := b)
  rw [callP_body (af := g81) rfl rfl (by decide)]
  simp [g81, h1, h2, ordI]
  (repeat' split) <;> rfl
theorem c82 {a b : List UInt8} : (orcL AP).p 82 [.str a, .str b] = some [vI (ordS a b)] := by
  have h1 := c114 (n := a)
  have h2 := c114 (n := b)
  rw [callP_body (af := g82) rfl rfl (by decide)]
  by_cases e1 : evBin.bytesLt a b = true
  · simp [g82, h1, h2, ordS, e1]
  · have e1 : evBin.bytesLt a b = false := by simpa using e1
    by_cases e2 : a = b
    · subst e2
      simp [g82, h1, h2, ordS, e1]
    · simp [g82, h1, h2, ordS, e1, e2]
theorem c80 {a b c d e : Int} : (orcL AP).p 80 [.lst [vI a, vI b, vI c, vI d, vI e]] = some [vI (orI [a, b, c, d, e])] := by
  rw [callP_body (af := g80) rfl rfl (by decide)]
  by_cases h1 : a = 0
  · by_cases h2 : b = 0
    · by_cases h3 : c = 0
      · by_cases h4 : d = 0
        · by_cases h5 : e = 0
          · simp (disch := omega) [-getElem?_pos, g80, g80L0_eq, g80B0, wrap_id, orI, h1, h2, h3, h4, h5]
          · simp (disch := omega) [-getElem?_pos, g80, g80L0_eq, g80B0, wrap_id, orI, h1, h2, h3, h4, h5]
        · simp (disch := omega) [-getElem?_pos, g80, g80L0_eq, g80B0, wrap_id, orI, h1, h2, h3, h4]
      · simp (disch := omega) [-getElem?_pos, g80, g80L0_eq, g80B0, wrap_id, orI, h1, h2, h3]
    · simp (disch := omega) [-getElem?_pos, g80, g80L0_eq, g80B0, wrap_id, orI, h1, h2]
  · simp (disch := omega) [-getElem?_pos, g80, g80L0_eq, g80B0, wrap_id, orI, h1]

def R83 (as bs : List Ty) (sh : Sh) (l : Int) (c : Int) (eq : Bool) : Option (AExit × St) :=
  if eq = true then some (.exit 0, ⟨[(0, .pv (.lst (as.map Ty.pv))), (1, .pv (.lst (bs.map Ty.pv))), (2, .fn 35 []), (11, .pv (.lst (as.map Ty.pv))), (12, .pv (vI l)), (13, .pv (vI l)), (14, .pv (.bool false))], [], sh, []⟩)
  else some (.ret, ⟨[(6, .pv (vI c))], [], sh, []⟩)
theorem L83 {as bs : List Ty} (hS : Sm as) (hl : as.length = bs.length) (h : ∀ x ∈ as, ∀ y, (orcL AP).i 35 [.pv x.pv, .pv y.pv] [] [] = some ([.pv (vI (cmpT x y))], [], [])) : ∀ (n i : Nat), as.length - i = n → i ≤ as.length →
    cl AP g83L0 ⟨[(0, .pv (.lst (as.map Ty.pv))), (1, .pv (.lst (bs.map Ty.pv))), (2, .fn 35 []), (11, .pv (.lst (as.map Ty.pv))), (12, .pv (vI as.length)), (13, .pv (vI i))], [], [], []⟩ =
      R83 as bs [] as.length (cmpL (as.drop i) (bs.drop i)) (decide (cmpL (as.drop i) (bs.drop i) = 0))
  | 0, i, hn, hi => by
    have : i = as.length := by omega
    subst this
    rw [g83L0_eq, dropN (l := bs) (by omega)]
    simp [g83B0, R83, cmpL]
  | n + 1, i, hn, hi => by
    have hi : i < as.length := by omega
    obtain ⟨x, hx⟩ := getO hi
    obtain ⟨y, hy⟩ := getO (hl ▸ hi)
    have hc := h x (memO hx) y
    have ih := L83 hS hl h n (i + 1) (by omega) (by omega)
    unfold Sm at hS
    have hb : ¬ bs.length ≤ i := by omega
    rw [g83L0_eq] at ih ⊢
    rw [dropC hx, dropC hy]
    simp at ih hc
    by_cases e : cmpT x y = 0
    · rw [e] at hc
      simp (disch := omega) [-getElem?_pos, g83B0, hx, hy, hi, hb, hc, wrap_id]
      rw [g83L0_eq]
      simp [ih, cmpL, e]
    · simp (disch := omega) [-getElem?_pos, g83B0, hx, hy, hi, hb, hc, wrap_id, e, R83, cmpL]

theorem cmpH_len {a b : Ty} (h : cmpH a b = 0) : a.args.length = b.args.length := by
  simp only [cmpH, orI] at h
  have : ordI a.args.length b.args.length = 0 := by
    split at h
    · split at h
      · split at h
        · split at h
          · split at h
            · assumption
            · contradiction
          · contradiction
        · contradiction
      · contradiction
    · contradiction
  unfold ordI at this
  split at this
  · cases this
  · split at this
    · cases this
    · omega

theorem c35_both {a : Ty} (hO : a.Ok) : ∀ b : Ty, (orcL AP).p 35 [a.pv, b.pv] = some [vI (cmpT a b)] ∧ (orcL AP).i 35 [.pv a.pv, .pv b.pv] [] [] = some ([.pv (vI (cmpT a b))], [], []) := by
  revert hO
  refine Ty.rec1 (p := fun a => a.Ok → ∀ b : Ty, (orcL AP).p 35 [a.pv, b.pv] = some [vI (cmpT a b)] ∧ (orcL AP).i 35 [.pv a.pv, .pv b.pv] [] [] = some ([.pv (vI (cmpT a b))], [], [])) ?_ a
  intro a ih hO b
  have k1 := c81 (a := a.kind) (b := b.kind)
  have k2 := c82 (a := a.name) (b := b.name)
  have k3 := c81 (a := a.id) (b := b.id)
  have k4 := c81 (a := a.home) (b := b.home)
  have k5 := c81 (a := a.args.length) (b := b.args.length)
  have k6 := c80 (a := ordI a.kind b.kind) (b := ordS a.name b.name) (c := ordI a.id b.id) (d := ordI a.home b.home) (e := ordI a.args.length b.args.length)
  have eH : orI [ordI a.kind b.kind, ordS a.name b.name, ordI a.id b.id, ordI a.home b.home, ordI a.args.length b.args.length] = cmpH a b := rfl
  rw [eH] at k6
  have hS := hO.sm
  by_cases e : cmpH a b = 0
  · have hl := cmpH_len e
    have h := L83 hS hl (fun x hx y => (ih x hx (hO.kid x hx) y).2) _ 0 rfl (by omega)
    rw [g83L0_eq] at h
    simp at h
    have c83 : (orcL AP).i 83 [.pv (.lst (a.args.map Ty.pv)), .pv (.lst (b.args.map Ty.pv)), .fn 35 []] [] [] = some ([.pv (vI (cmpL a.args b.args))], [], []) := by
      rw [callI_body (af := g83) rfl (by simp [g83])]
      by_cases e2 : cmpL a.args b.args = 0
      · simp [R83, e2] at h
        have hlt : ¬ a.args.length < b.args.length := by omega
        simp [g83, g83L0_eq, h, hlt, e2]
      · simp [R83, e2] at h
        simp [g83, g83L0_eq, h]
    rw [e] at k6
    rw [cmpT_eq, if_pos e]
    constructor
    · rw [callP_body (af := g35) rfl rfl (by decide)]
      simp [g35, k1, k2, k3, k4, k5, k6, c83]
    · rw [callI_body (af := g35) rfl (by simp [g35])]
      simp [g35, k1, k2, k3, k4, k5, k6, c83]
  · rw [cmpT_eq, if_neg e]
    constructor
    · rw [callP_body (af := g35) rfl rfl (by decide)]
      simp [g35, k1, k2, k3, k4, k5, k6, e]
    · rw [callI_body (af := g35) rfl (by simp [g35])]
      simp [g35, k1, k2, k3, k4, k5, k6, e]

theorem c35 {a b : Ty} (hO : a.Ok) : (orcL AP).p 35 [a.pv, b.pv] = some [vI (cmpT a b)] := (c35_both hO b).1
theorem c33 {a b : Ty} (hO : a.Ok) : (orcL AP).p 33 [a.pv, b.pv] = some [.bool (cmpT a b == 0)] := by
  have h := c35 (b := b) hO
  simp at h
  rw [callP_body (af := g33) rfl rfl (by decide)]
  simp [g33, h]
end Go.Ab.Lw
namespace Go.Ab.Lw
open Ev
set_option maxRecDepth 10000
set_option linter.unusedSimpArgs false
theorem params_few : ∀ d ∈ allDatas, d.params.length ≤ 8 := by decide +kernel

theorem Made.ok {lv : Ty → Prop} (h : ∀ t, lv t → t.args = []) {t : Ty} (m : Made lv t) : t.Ok := by
  induction m with
  | leaf hl => exact ⟨by rw [h _ hl]; simp [Sm], by rw [h _ hl]; simp⟩
  | int => exact ⟨by simp [tyInt, Sm], by simp [tyInt]⟩
  | con hd hl _ ih => exact ⟨by have := params_few _ hd; simp only [Sm]; omega, ih⟩
  | arrow _ _ ha hb => exact ⟨by simp [Sm], by intro x hx; simp at hx; rcases hx with rfl | rfl <;> assumption⟩
theorem Made.wf {lv : Ty → Prop} (h : ∀ t, lv t → t.args = []) {t : Ty} (m : Made lv t) : t.Wf := by
  induction m with
  | leaf hl => exact ⟨fun _ => h _ hl, by rw [h _ hl]; simp⟩
  | int => exact ⟨by simp [tyInt], by simp [tyInt]⟩
  | con hd hl _ ih => exact ⟨by simp, ih⟩
  | arrow _ _ ha hb => exact ⟨by simp, by intro x hx; simp at hx; rcases hx with rfl | rfl <;> assumption⟩
theorem fnd_mem : ∀ {s : List As} {id : Int} {t : Ty}, fnd s id = some t → ∃ a ∈ s, a.ty = t
  | a :: r, id, t, h => by
    simp only [fnd] at h
    split at h
    · cases h; exact ⟨a, by simp, rfl⟩
    · obtain ⟨b, hb, e⟩ := fnd_mem h; exact ⟨b, by simp [hb], e⟩

theorem sub_ok {s : List As} (hs : ∀ a ∈ s, a.ty.Ok) {t : Ty} (h : t.Ok) : (t.sub s).Ok := by
  revert h
  refine Ty.rec1 (p := fun t => t.Ok → (t.sub s).Ok) ?_ t
  intro t ih h
  rw [Ty.sub_eq]
  split
  · cases hf : fnd s t.id with
    | none => simpa using h
    | some a => obtain ⟨b, hb, rfl⟩ := fnd_mem hf; simpa using hs b hb
  · refine ⟨by have := h.sm; unfold Sm at *; simpa using this, ?_⟩
    intro x hx
    simp at hx
    obtain ⟨y, hy, rfl⟩ := hx
    exact ih y hy (h.kid y hy)
theorem sub_wf {s : List As} (hs : ∀ a ∈ s, a.ty.Wf) {t : Ty} (h : t.Wf) : (t.sub s).Wf := by
  revert h
  refine Ty.rec1 (p := fun t => t.Wf → (t.sub s).Wf) ?_ t
  intro t ih h
  rw [Ty.sub_eq]
  split
  · cases hf : fnd s t.id with
    | none => simpa using h
    | some a => obtain ⟨b, hb, rfl⟩ := fnd_mem hf; simpa using hs b hb
  · rename_i hk
    refine ⟨fun e => absurd e hk, ?_⟩
    intro x hx
    simp at hx
    obtain ⟨y, hy, rfl⟩ := hx
    exact ih y hy (h.kid y hy)

end Go.Ab.Lw
namespace Go.Ab.Lw
open Ev
set_option maxRecDepth 10000
set_option linter.unusedSimpArgs false
theorem bytesLt_irr : ∀ s : List UInt8, evBin.bytesLt s s = false
  | [] => rfl
  | a :: r => by simp [evBin.bytesLt, bytesLt_irr r]
theorem ordI_zero {a b : Int} : ordI a b = 0 ↔ a = b := by
  unfold ordI
  split
  · constructor
    · intro h; cases h
    · intro h; omega
  · split
    · constructor
      · intro h; cases h
      · intro h; omega
    · constructor
      · intro _; omega
      · intro _; rfl
theorem ordS_zero {a b : List UInt8} : ordS a b = 0 ↔ a = b := by
  unfold ordS
  split
  · rename_i h
    constructor
    · intro e; cases e
    · intro e; subst e; rw [bytesLt_irr] at h; cases h
  · split
    · rename_i h; simp [h]
    · rename_i h; simp [h]
theorem orI_zero : ∀ {l : List Int}, orI l = 0 ↔ ∀ x ∈ l, x = 0
  | [] => by simp [orI]
  | x :: r => by
    simp only [orI]
    split
    · rename_i h; rw [orI_zero]; simp [h]
    · rename_i h; constructor
      · intro e; exact absurd e h
      · intro e; exact e x (by simp)
theorem cmpH_zero {a b : Ty} : cmpH a b = 0 ↔ a.kind = b.kind ∧ a.name = b.name ∧ a.id = b.id ∧ a.home = b.home ∧ a.args.length = b.args.length := by
  unfold cmpH
  rw [orI_zero]
  simp [ordI_zero, ordS_zero]
  intros; omega
theorem cmpT_zero (a : Ty) : ∀ b, cmpT a b = 0 ↔ a = b := by
  refine Ty.rec1 (p := fun a => ∀ b, cmpT a b = 0 ↔ a = b) ?_ a
  intro a ih b
  have key : ∀ (as bs : List Ty), (∀ x ∈ as, ∀ b, cmpT x b = 0 ↔ x = b) → (cmpL as bs = 0 ↔ as = bs) := by
    intro as
    induction as with
    | nil => intro bs _; cases bs <;> simp [cmpL]
    | cons x r ih =>
      intro bs h
      cases bs with
      | nil => simp [cmpL]
      | cons y s =>
        simp only [cmpL]
        have hx := h x (by simp) y
        have hr := ih s (fun z hz => h z (by simp [hz]))
        split
        · rename_i e; rw [hr]; simp [hx.1 e]
        · rename_i e; constructor
          · intro e'; exact absurd e' e
          · intro e'; simp at e'; exact absurd (hx.2 e'.1) e
  rw [cmpT_eq]
  split
  · rename_i h
    rw [key _ _ ih]
    rw [cmpH_zero] at h
    cases a; cases b; simp at h ⊢; simp [h]
  · rename_i h
    constructor
    · intro e; exact absurd e h
    · intro e; subst e; exact absurd (cmpH_zero.2 ⟨rfl, rfl, rfl, rfl, rfl⟩) h
theorem cmpT_beq (a b : Ty) : (cmpT a b == 0) = decide (a = b) := by
  by_cases h : a = b
  · rw [decide_eq_true h, (cmpT_zero a b).2 h]; rfl
  · rw [decide_eq_false h]; simpa using fun e => h ((cmpT_zero a b).1 e)
theorem c33e {a b : Ty} (hO : a.Ok) : (orcL AP).p 33 [a.pv, b.pv] = some [.bool (decide (a = b))] := by rw [c33 hO, cmpT_beq]

/-- The first place where something holds. -/
def idxB {α : Type} (p : α → Bool) : List α → Option Nat
  | [] => none
  | a :: r => if p a = true then some 0 else (idxB p r).map (· + 1)
theorem idxB_none {α : Type} {p : α → Bool} : ∀ {l : List α}, idxB p l = none ↔ ∀ x ∈ l, p x = false
  | [] => by simp [idxB]
  | a :: r => by
    simp only [idxB]
    by_cases h : p a = true
    · simp [h]
    · have h : p a = false := by simpa using h
      simp [h, idxB_none]
theorem any_not {α : Type} {p : α → Bool} {l : List α} : (!(l.any fun x => !p x)) = l.all p := by
  induction l with
  | nil => rfl
  | cons a r ih => simp [← ih]
end Go.Ab.Lw
namespace Go.Ab.Lw
open Ev
set_option maxRecDepth 10000
set_option linter.unusedSimpArgs false
/-- Elements of that many cells. -/
structure El {α : Type} (f : α → PV) (sz : Nat) (ag : Bool) : Prop where
  len : ∀ x, (cellsP (f x)).length = sz
  of : ∀ x, ofCellsP ag sz (cellsP (f x)) = some (.pv (f x))

theorem El.head {α : Type} {f : α → PV} {sz : Nat} {ag : Bool} (h : El f sz ag) (l : List α) : headSz sz (l.map f) = true := by
  cases l with
  | nil => rfl
  | cons x r => simp [headSz, h.len x]

theorem el_int : El vI 1 false := ⟨fun _ => rfl, fun _ => rfl⟩
theorem el_str : El PV.str 1 false := ⟨fun _ => rfl, fun _ => rfl⟩
def IdxB (sz : Nat) (ag : Bool) : ACode :=
  (.seq
   (.reg [⟨some 9, none, [.t 8, .t 7], .v (.bin .lss)⟩] [0, 1, 7, 8, 9])
   (.seq
    (.cond (.t 9)
     .skip
     (.exit 0))
    (.seq
     (.block 1
      (.seq
       (.reg [⟨some 10, none, [.t 8], .v (.mv)⟩,
         ⟨some 5, none, [.t 10], .v (.mv)⟩] [0, 1, 5, 7, 8])
       (.seq
        (.reg [⟨some 11, none, [.t 1], .v (.mv)⟩,
          ⟨some 12, none, [.t 0], .v (.mv)⟩,
          ⟨some 13, none, [.t 5], .v (.mv)⟩,
          ⟨some 14, none, [.t 12, .t 13], .v (.iaddr sz)⟩,
          ⟨some 15, none, [.t 14], .loadS sz ag⟩,
          ⟨some 16, none, [.t 11, .t 15], .callV⟩] [0, 1, 5, 7, 8, 16])
        (.cond (.t 16)
         (.seq
          (.reg [⟨some 17, none, [.t 5], .v (.mv)⟩,
            ⟨some 4, none, [.t 17], .v (.mv)⟩] [4])
          .ret)
         .skip))))
     (.reg [⟨some 18, none, [.t 8, .c (.pv (.int .i64 1))], .v (.bin .add)⟩,
       ⟨some 8, none, [.t 18], .v (.mv)⟩] [0, 1, 7, 8]))))
def IdxL (sz : Nat) (ag : Bool) : ACode := .loop [0, 1, 7, 8] (IdxB sz ag)
theorem IdxL_eq {sz : Nat} {ag : Bool} {st : St} : cl AP (IdxL sz ag) st = after (cl AP (IdxL sz ag)) (cl AP (IdxB sz ag) (norm (restrict [0, 1, 7, 8] st))) := cl_loop
def IdxF (sz : Nat) (ag : Bool) : AFunc := ⟨2, 19, [.t 4],
  (.seq
   (.reg [⟨some 4, none, [.c (.pv (.int .i64 0))], .v (.mv)⟩] [0, 1])
   (.seq
    (.seq
     (.reg [⟨some 6, none, [.t 0], .v (.mv)⟩,
       ⟨some 7, none, [.t 6], .v (.len)⟩,
       ⟨some 8, none, [.c (.pv (.int .i64 0))], .v (.mv)⟩] [0, 1, 7, 8])
     (.block 0
      (IdxL sz ag)))
    (.seq
     (.reg [⟨some 4, none, [.c (.pv (.int .i64 (-1)))], .v (.mv)⟩] [4])
     .ret))), none, false⟩
/-- ContainsFunc over an IndexFunc. -/
def CntF (g : Nat) : AFunc := ⟨2, 9, [.t 4],
  (.seq
   (.reg [⟨some 4, none, [.c (.pv (.bool false))], .v (.mv)⟩] [0, 1])
   (.seq
    (.reg [⟨some 5, none, [.t 0], .v (.mv)⟩,
      ⟨some 6, none, [.t 1], .v (.mv)⟩,
      ⟨some 7, none, [.t 5, .t 6], .callI g []⟩,
      ⟨some 8, none, [.t 7, .c (.pv (.int .i64 0))], .v (.bin .geq)⟩,
      ⟨some 4, none, [.t 8], .v (.mv)⟩] [4])
    .ret)), none, false⟩

/-- A function value that asks something of each element. -/
def Asks {α : Type} (F : AV) (sh : Sh) (f : α → PV) (p : α → Bool) (s : List α) : Prop := ∀ x ∈ s, exec (orcL AP) .callV [F, .pv (f x)] none sh [] = some ⟨.pv (.bool (p x)), none, sh, []⟩

def RIdx {α : Type} (f : α → PV) (F : AV) (s : List α) (sh : Sh) (i : Nat) : Option Nat → Option (AExit × St)
  | some k => some (.ret, ⟨[(4, .pv (vI (i + k : Nat)))], [], sh, []⟩)
  | none => some (.exit 0, ⟨[(0, .pv (.lst (s.map f))), (1, F), (7, .pv (vI s.length)), (8, .pv (vI s.length)), (9, .pv (.bool false))], [], sh, []⟩)
theorem LIdx {α : Type} {f : α → PV} {sz : Nat} {ag : Bool} (he : El f sz ag) {s : List α} (hS : Sm s) {sh : Sh} (hq : Quiet sh) {g : Nat} {cap : List AV} {p : α → Bool} (hcap : flatB.flatL cap = true)
    (hf : Asks (.fn g cap) sh f p s) : ∀ (n i : Nat), s.length - i = n → i ≤ s.length →
    cl AP (IdxL sz ag) ⟨[(0, .pv (.lst (s.map f))), (1, .fn g cap), (7, .pv (vI s.length)), (8, .pv (vI i))], [], sh, []⟩ = RIdx f (.fn g cap) s sh i (idxB p (s.drop i))
  | 0, i, hn, hi => by
    have : i = s.length := by omega
    subst this
    rw [IdxL_eq]
    simp [IdxB, idxB, RIdx, hq.norm, hcap]
  | n + 1, i, hn, hi => by
    have hi : i < s.length := by omega
    obtain ⟨x, hx⟩ := getO hi
    unfold Sm at hS
    have ih := LIdx he hS hq hcap hf n (i + 1) (by omega) (by omega)
    simp at ih
    have hc := hf x (memO hx)
    rw [IdxL_eq, dropC hx]
    cases e : p x with
    | true =>
      rw [e] at hc
      simp (disch := omega) [-getElem?_pos, -exec_callV, IdxB, hx, hi, e, idxB, RIdx, hq.norm, hc, hcap, he.len, he.of]
    | false =>
      rw [e] at hc
      simp (disch := omega) [-getElem?_pos, -exec_callV, IdxB, hx, hi, e, idxB, wrap_id, hq.norm, hc, ih, hcap, he.len, he.of]
      cases idxB p (s.drop (i + 1)) with
      | none => rfl
      | some k => simp [RIdx]; omega

def idxI (o : Option Nat) : Int := match o with | some k => k | none => -1
theorem cIdx {α : Type} {f : α → PV} {sz : Nat} {ag : Bool} (he : El f sz ag) {k : Nat} (hk : AP k = some (IdxF sz ag)) {s : List α} (hS : Sm s) {sh : Sh} (hq : Quiet sh) {g : Nat} {cap : List AV} {p : α → Bool} (hcap : flatB.flatL cap = true)
    (hf : Asks (.fn g cap) sh f p s) : (orcL AP).i k [.pv (.lst (s.map f)), .fn g cap] sh [] = some ([.pv (vI (idxI (idxB p s)))], sh, []) := by
  have h := LIdx he hS hq hcap hf _ 0 rfl (by omega)
  simp at h
  rw [callI_body hk (by simp [IdxF])]
  cases hi : idxB p s with
  | none => rw [hi] at h; simp [RIdx] at h; simp [IdxF, h, hq.norm, hcap, idxI]
  | some k => rw [hi] at h; simp [RIdx] at h; simp [IdxF, h, hq.norm, hcap, idxI]

theorem idxB_any {α : Type} {p : α → Bool} {s : List α} : decide (0 ≤ idxI (idxB p s)) = s.any p := by
  cases hi : idxB p s with
  | none =>
    have : s.any p = false := by rw [List.any_eq_false]; intro x hx; rw [idxB_none.1 hi x hx]; simp
    rw [this]; rfl
  | some k =>
    have : s.any p = true := by
      cases e : s.any p with
      | true => rfl
      | false => rw [List.any_eq_false] at e; have := idxB_none.2 (fun x hx => by simpa using e x hx); rw [hi] at this; cases this
    rw [this]; simp [idxI]

theorem cCnt {α : Type} {f : α → PV} {sz : Nat} {ag : Bool} (he : El f sz ag) {m k : Nat} (hm : AP m = some (CntF k)) (hk : AP k = some (IdxF sz ag)) {s : List α} (hS : Sm s) {sh : Sh} (hq : Quiet sh) {g : Nat} {cap : List AV} {p : α → Bool} (hcap : flatB.flatL cap = true) (hpass : passB.passL cap = true) (hnrm : ∀ old ts, normL old ts cap = (cap, old, ts))
    (hf : Asks (.fn g cap) sh f p s) : (orcL AP).i m [.pv (.lst (s.map f)), .fn g cap] sh [] = some ([.pv (.bool (s.any p))], sh, []) := by
  have h := cIdx he hk hS hq hcap hf
  rw [callI_body hm (by simp [CntF])]
  rw [← idxB_any]
  simp [CntF, h, hq.norm, hq.shift, hcap, hpass, hnrm]

end Go.Ab.Lw
namespace Go.Ab.Lw
open Ev
set_option maxRecDepth 10000
set_option linter.unusedSimpArgs false
/-- Behind a round. -/
def backGo (f : St → Option (AExit × St)) (live : List Nat) (pi px sz : Nat) (ag : Bool) (env : List (Nat × AV)) (r : List (PV × Nat)) : Option (AExit × St) → Option (AExit × St)
  | some (.normal, st') => backN f live pi px sz ag env r st'
  | some (e, st') => some (e, { st' with env := env })
  | none => none
@[simp] theorem backGo_normal {f : St → Option (AExit × St)} {live : List Nat} {pi px sz : Nat} {ag : Bool} {env : List (Nat × AV)} {r : List (PV × Nat)} {st : St} : backGo f live pi px sz ag env r (some (.normal, st)) = backN f live pi px sz ag env r st := rfl
@[simp] theorem backGo_ret {f : St → Option (AExit × St)} {live : List Nat} {pi px sz : Nat} {ag : Bool} {env e : List (Nat × AV)} {r : List (PV × Nat)} {mem : List (Nat × List AV)} {sh : Sh} {toks : Toks} : backGo f live pi px sz ag env r (some (.ret, ⟨e, mem, sh, toks⟩)) = some (.ret, ⟨env, mem, sh, toks⟩) := rfl
@[simp] theorem backGo_exit {f : St → Option (AExit × St)} {live : List Nat} {pi px sz : Nat} {ag : Bool} {env e : List (Nat × AV)} {r : List (PV × Nat)} {mem : List (Nat × List AV)} {sh : Sh} {toks : Toks} {id : Nat} : backGo f live pi px sz ag env r (some (.exit id, ⟨e, mem, sh, toks⟩)) = some (.exit id, ⟨env, mem, sh, toks⟩) := rfl
@[simp] theorem backGo_ite {f : St → Option (AExit × St)} {live : List Nat} {pi px sz : Nat} {ag : Bool} {env : List (Nat × AV)} {r : List (PV × Nat)} {c : Prop} [Decidable c] {x y : Option (AExit × St)} : backGo f live pi px sz ag env r (if c then x else y) = if c then backGo f live pi px sz ag env r x else backGo f live pi px sz ag env r y := by split <;> rfl

@[simp] theorem backN_nil {f : St → Option (AExit × St)} {live : List Nat} {pi px sz : Nat} {ag : Bool} {env e : List (Nat × AV)} {mem : List (Nat × List AV)} {sh : Sh} {toks : Toks} : backN f live pi px sz ag env [] ⟨e, mem, sh, toks⟩ = some (.normal, ⟨env, mem, sh, toks⟩) := rfl
/-- Two parts of a round. -/
def andK (g : St → Option (AExit × St)) : Option (AExit × St) → Option (AExit × St)
  | some (.normal, st') => g st'
  | _ => none
@[simp] theorem andK_normal {g : St → Option (AExit × St)} {st : St} : andK g (some (.normal, st)) = g st := rfl

@[simp] theorem cl_backR {c : AOpd} {gb pi px sz : Nat} {ag : Bool} {live : List Nat} {x y : ACode} {env : List (Nat × AV)} {mem : List (Nat × List AV)} {sh : Sh} {toks : Toks} :
    cl AP (.back c gb pi px sz ag live x y) ⟨env, mem, sh, toks⟩ = backWith (andThen (cl AP x) (cl AP y)) (evOpd env c) gb pi px sz ag live ⟨env, mem, sh, toks⟩ := cl_back

end Go.Ab.Lw
namespace Go.Ab.Lw
open Ev
set_option maxRecDepth 10000
set_option linter.unusedSimpArgs false
abbrev vC (c : Int) : PV := .int .u8 c
def isLow (c : Int) : Bool := decide (97 ≤ c) && decide (c ≤ 122)
def isUp (c : Int) : Bool := decide (65 ≤ c) && decide (c ≤ 90)
def isDig (c : Int) : Bool := decide (48 ≤ c) && decide (c ≤ 57)
def isInn (c : Int) : Bool := isLow c || isUp c || isDig c || (c == 95)
def innAll (s : List UInt8) : Bool := s.all fun b => isInn b.toNat
def kws : List (List UInt8) := [[100, 97, 116, 97], [108, 101, 116], [114, 101, 99], [105, 110], [99, 97, 115, 101], [111, 102], [101, 110, 100]]
def isKw (s : List UInt8) : Bool := kws.contains s
/-- A name whose first letter lies between two. -/
def nameB (s : List UInt8) (lo hi : Int) : Bool := match s with
  | [] => false
  | b :: r => decide (lo ≤ b.toNat) && decide ((b.toNat : Int) ≤ hi) && decide ((b :: r).length ≤ 12) && innAll (b :: r) && !isKw (b :: r)

theorem innAll_cons {b : UInt8} {r : List UInt8} : innAll (b :: r) = (isInn b.toNat && innAll r) := rfl
theorem innAll_nil : innAll [] = true := rfl

theorem L73 {s : List UInt8} (hS : SmS s) : ∀ (n i : Nat), s.length - i = n → i ≤ s.length →
    cl AP g73L0 ⟨[(0, .pv (.str s)), (31, .pv (vI s.length)), (32, .pv (vI i))], [], [], []⟩ =
      if innAll (s.drop i) = true then some (.exit 0, ⟨[(0, .pv (.str s)), (31, .pv (vI s.length)), (32, .pv (vI s.length)), (33, .pv (.bool false))], [], [], []⟩)
      else some (.ret, ⟨[(6, .pv (.bool false))], [], [], []⟩)
  | 0, i, hn, hi => by
    have : i = s.length := by omega
    subst this
    rw [g73L0_eq]
    simp [g73B0, innAll_nil]
  | n + 1, i, hn, hi => by
    have hi : i < s.length := by omega
    obtain ⟨x, hx⟩ := getO hi
    unfold SmS at hS
    have ih := L73 hS n (i + 1) (by omega) (by omega)
    simp at ih
    rw [g73L0_eq, dropC hx, innAll_cons]
    have key : isInn x.toNat = ((decide (97 ≤ (x.toNat : Int)) && decide ((x.toNat : Int) ≤ 122)) || (decide (65 ≤ (x.toNat : Int)) && decide ((x.toNat : Int) ≤ 90)) || (decide (48 ≤ (x.toNat : Int)) && decide ((x.toNat : Int) ≤ 57)) || ((x.toNat : Int) == 95)) := rfl
    rw [key]
    have hc : ∃ c : Int, c = x.toNat := ⟨_, rfl⟩
    obtain ⟨c, hc⟩ := hc
    have e97 : (97 ≤ (x.toNat : Int)) = (97 ≤ c) := by rw [hc]
    rw [← hc]
    have goOn : ∀ b1 b2 b3 b4 b5 b6 b7 : Bool, decide (97 ≤ c) = b1 → decide (c ≤ 122) = b2 → decide (65 ≤ c) = b3 → decide (c ≤ 90) = b4 → decide (48 ≤ c) = b5 → decide (c ≤ 57) = b6 → (c == 95) = b7 →
        after (cl AP g73L0) (cl AP g73B0 (norm (restrict [0, 31, 32] ⟨[(0, .pv (.str s)), (31, .pv (vI s.length)), (32, .pv (vI i))], [], [], []⟩))) =
        if (((b1 && b2) || (b3 && b4) || (b5 && b6) || b7) && innAll (s.drop (i + 1))) = true then some (.exit 0, ⟨[(0, .pv (.str s)), (31, .pv (vI s.length)), (32, .pv (vI s.length)), (33, .pv (.bool false))], [], [], []⟩)
        else some (.ret, ⟨[(6, .pv (.bool false))], [], [], []⟩) := by
      intro b1 b2 b3 b4 b5 b6 b7 h1 h2 h3 h4 h5 h6 h7
      have g8 : decide (c < 48) = !b5 := by rw [← h5, ← decide_not]; simp [Int.not_le]
      have g9 : decide (57 < c) = !b6 := by rw [← h6, ← decide_not]; simp [Int.not_le]
      cases b1 <;> cases b3 <;> cases b5 <;> cases b2 <;> cases b4 <;> cases b6 <;> cases b7 <;>
        (have k1 := h1; have k2 := h2; have k3 := h3; have k4 := h4; have k5 := h5; have k6 := h6; have k7 := h7
         simp only [decide_eq_true_eq, decide_eq_false_iff_not, beq_iff_eq, beq_eq_false_iff_ne, ne_eq] at k1 k2 k3 k4 k5 k6 k7
         first
         | (exfalso; omega)
         | (simp (disch := omega) [-getElem?_pos, g73B0, hx, hi, ← hc, k1, k2, k3, k4, k5, k6, k7, g8, g9, wrap_id, ih]; done))
    exact goOn _ _ _ _ _ _ _ rfl rfl rfl rfl rfl rfl rfl
end Go.Ab.Lw
namespace Go.Ab.Lw
open Ev
set_option maxRecDepth 10000
set_option linter.unusedSimpArgs false
theorem c73 {s : List UInt8} (hS : SmS s) {lo hi : Int} : (orcL AP).p 73 [.str s, vC lo, vC hi] = some [.bool (nameB s lo hi)] := by
  have h := L73 hS _ 0 rfl (by omega)
  simp at h
  rw [callP_body (af := g73) rfl rfl (by decide)]
  cases s with
  | nil => simp [g73, nameB]
  | cons b r =>
    by_cases e3 : r.length + 1 ≤ 12
    · have e3' : ¬ ((12 : Int) < r.length + 1) := by omega
      have e0 : ¬ ((r.length : Int) + 1 < 1) := by omega
      by_cases e1 : (b.toNat : Int) < lo
      · have e1' : ¬ (lo ≤ (b.toNat : Int)) := by omega
        simp [g73, nameB, e0, e3', e1, e1']
      · have e1' : lo ≤ (b.toNat : Int) := by omega
        by_cases e2 : hi < (b.toNat : Int)
        · have e2' : ¬ ((b.toNat : Int) ≤ hi) := by omega
          simp [g73, nameB, e0, e3', e1, e2, e2']
        · have e2' : (b.toNat : Int) ≤ hi := by omega
          cases e4 : innAll (b :: r)
          · simp [e4] at h
            simp [g73, nameB, e0, e3', e1, e2, e1', e2', h, e4]
          · simp [e4] at h
            cases e5 : isKw (b :: r)
            · have k : ∀ k ∈ kws, ¬ (b :: r) = k := by
                intro k hk e
                rw [e] at e5
                simp only [isKw] at e5
                rw [List.contains_eq_mem] at e5
                simp at e5
                exact e5 hk
              have k1 := k [100, 97, 116, 97] (by simp [kws])
              have k2 := k [108, 101, 116] (by simp [kws])
              have k3 := k [114, 101, 99] (by simp [kws])
              have k4 := k [105, 110] (by simp [kws])
              have k5 := k [99, 97, 115, 101] (by simp [kws])
              have k6 := k [111, 102] (by simp [kws])
              have k7 := k [101, 110, 100] (by simp [kws])
              have b1 : ((b :: r) == [100, 97, 116, 97]) = false := by simpa using k1
              have b2 : ((b :: r) == [108, 101, 116]) = false := by simpa using k2
              have b3 : ((b :: r) == [114, 101, 99]) = false := by simpa using k3
              have b4 : ((b :: r) == [105, 110]) = false := by simpa using k4
              have b5 : ((b :: r) == [99, 97, 115, 101]) = false := by simpa using k5
              have b6 : ((b :: r) == [111, 102]) = false := by simpa using k6
              have b7 : ((b :: r) == [101, 110, 100]) = false := by simpa using k7
              simp [g73, nameB, e0, e3', e1, e2, e1', e2', h, e4, e5, e3, -List.cons_beq_cons, b1, b2, b3, b4, b5, b6, b7]
            · simp only [isKw, kws, List.contains_iff_mem, List.mem_cons, List.not_mem_nil, or_false] at e5
              rcases e5 with e | e | e | e | e | e | e <;> (simp only [List.cons.injEq] at e; obtain ⟨rfl, rfl⟩ := e) <;>
                simp [nameB, isKw, kws] <;> (simp at e1 e2 h e1' e2'; simp [g73, h, e1, e2])
    · have e3' : (12 : Int) < r.length + 1 := by omega
      simp [g73, nameB, e3', e3]
end Go.Ab.Lw
namespace Go.Ab.Lw
open Ev
set_option maxRecDepth 10000
set_option linter.unusedSimpArgs false
def conB (s : List UInt8) (n : Nat) : Bool := if s = [45, 62] then decide (n = 2) else if s = [73, 110, 116] then decide (n = 0) else nameB s 65 90 && decide (n ≤ 4)

theorem c74 {s : List UInt8} (hS : SmS s) {n : Nat} : (orcL AP).p 74 [.str s, vI n] = some [.bool (conB s n)] := by
  have h := c73 hS (lo := 65) (hi := 90)
  rw [callP_body (af := g74) rfl rfl (by decide)]
  by_cases e1 : s = [45, 62]
  · have : ((n : Int) == 2) = decide (n = 2) := by rw [Bool.eq_iff_iff]; simp; omega
    subst e1
    simp [g74, conB, this]
  · have b1 : (s == [45, 62]) = false := by simpa using e1
    by_cases e2 : s = [73, 110, 116]
    · have : ((n : Int) == 0) = decide (n = 0) := by rw [Bool.eq_iff_iff]; simp
      subst e2
      simp [g74, conB, this]
    · have b2 : (s == [73, 110, 116]) = false := by simpa using e2
      have : decide ((n : Int) ≤ 4) = decide (n ≤ 4) := by rw [Bool.eq_iff_iff]; simp; omega
      cases e3 : nameB s 65 90 <;> simp [e3] at h <;> simp [g74, conB, e1, e2, b1, b2, h, e3, this]

mutual
def validT : Ty → Bool
  | ⟨k, n, i, h, as⟩ =>
    if k = 1 ∨ k = 2 then decide (n = []) && decide (as = []) && decide (0 ≤ i) && decide (i ≤ 1000000) && (h == 0)
    else if k = 3 then decide (n = []) && decide (as = []) && decide (0 ≤ i) && decide (i ≤ 1000000) && decide (-1 ≤ h) && decide (h ≤ 1000000)
    else if k = 5 then decide (as = []) && (i == 0) && (h == 0) && nameB n 97 122
    else if k = 4 then (i == 0) && (h == 0) && conB n as.length && validL as
    else false
def validL : List Ty → Bool
  | [] => true
  | a :: r => validT a && validL r
end
theorem validL_all : ∀ l : List Ty, validL l = l.all validT
  | [] => by simp [validL]
  | a :: r => by simp [validL, validL_all r]
theorem validT_eq (t : Ty) : validT t = 
    if t.kind = 1 ∨ t.kind = 2 then decide (t.name = []) && decide (t.args = []) && decide (0 ≤ t.id) && decide (t.id ≤ 1000000) && (t.home == 0)
    else if t.kind = 3 then decide (t.name = []) && decide (t.args = []) && decide (0 ≤ t.id) && decide (t.id ≤ 1000000) && decide (-1 ≤ t.home) && decide (t.home ≤ 1000000)
    else if t.kind = 5 then decide (t.args = []) && (t.id == 0) && (t.home == 0) && nameB t.name 97 122
    else if t.kind = 4 then (t.id == 0) && (t.home == 0) && conB t.name t.args.length && t.args.all validT
    else false := by
  cases t; simp only [validT, validL_all]

/-! ### The first type where a function says so -/
def R107 (F : AV) (s : List Ty) (sh : Sh) (i : Nat) : Option Nat → Option (AExit × St)
  | some k => some (.ret, ⟨[(4, .pv (vI (i + k : Nat)))], [], sh, []⟩)
  | none => some (.exit 0, ⟨[(0, .pv (.lst (s.map Ty.pv))), (1, F), (7, .pv (vI s.length)), (8, .pv (vI s.length)), (9, .pv (.bool false))], [], sh, []⟩)
theorem L107 {s : List Ty} (hS : Sm s) {sh : Sh} (hq : Quiet sh) {g : Nat} {cap : List AV} {p : Ty → Bool} (hcap : flatB.flatL cap = true) (hpass : passB.passL cap = true) (harg : argsOf [] 1 cap = cap) (hnrm : ∀ old ts, normL old ts cap = (cap, old, ts)) (hpo : cap.all passO = true)
    (hf : ∀ x ∈ s, (orcL AP).i g (.pv x.pv :: cap) sh [] = some ([.pv (.bool (p x))], sh, [])) : ∀ (n i : Nat), s.length - i = n → i ≤ s.length →
    cl AP g107L0 ⟨[(0, .pv (.lst (s.map Ty.pv))), (1, .fn g cap), (7, .pv (vI s.length)), (8, .pv (vI i))], [], sh, []⟩ = R107 (.fn g cap) s sh i (idxB p (s.drop i))
  | 0, i, hn, hi => by
    have : i = s.length := by omega
    subst this
    rw [g107L0_eq]
    simp [g107B0, idxB, R107, hq.norm, hcap]
  | n + 1, i, hn, hi => by
    have hi : i < s.length := by omega
    obtain ⟨x, hx⟩ := getO hi
    unfold Sm at hS
    have ih := L107 hS hq hcap hpass harg hnrm hpo hf n (i + 1) (by omega) (by omega)
    simp at ih
    have hc := hf x (memO hx)
    simp at hc
    rw [g107L0_eq, dropC hx]
    cases e : p x with
    | true =>
      rw [e] at hc
      simp (disch := omega) [-getElem?_pos, g107B0, hx, hi, e, idxB, R107, hq.norm, hq.shift, hc, hcap, hpass, harg, hnrm, hpo]
    | false =>
      rw [e] at hc
      simp (disch := omega) [-getElem?_pos, g107B0, hx, hi, e, idxB, wrap_id, hq.norm, hq.shift, hc, ih, hcap, hpass, harg, hnrm, hpo]
      cases idxB p (s.drop (i + 1)) with
      | none => rfl
      | some k => simp [R107]; omega
theorem c75 {s : List Ty} (hS : Sm s) {sh : Sh} (hq : Quiet sh) {g : Nat} {cap : List AV} {p : Ty → Bool} (hcap : flatB.flatL cap = true) (hpass : passB.passL cap = true) (harg : argsOf [] 1 cap = cap) (hnrm : ∀ old ts, normL old ts cap = (cap, old, ts)) (hpo : cap.all passO = true)
    (hf : ∀ x ∈ s, (orcL AP).i g (.pv x.pv :: cap) sh [] = some ([.pv (.bool (p x))], sh, [])) : (orcL AP).i 75 [.pv (.lst (s.map Ty.pv)), .fn g cap] sh [] = some ([.pv (.bool (s.any p))], sh, []) := by
  have h := L107 hS hq hcap hpass harg hnrm hpo hf _ 0 rfl (by omega)
  simp at h
  have c107 : (orcL AP).i 107 [.pv (.lst (s.map Ty.pv)), .fn g cap] sh [] = some ([.pv (vI (match idxB p s with | some k => k | none => -1))], sh, []) := by
    rw [callI_body (af := g107) rfl (by simp [g107])]
    cases hi : idxB p s with
    | none => rw [hi] at h; simp [R107] at h; simp [g107, h, hq.norm, hcap]
    | some k => rw [hi] at h; simp [R107] at h; simp [g107, h, hq.norm, hcap]
  rw [callI_body (af := g75) rfl (by simp [g75])]
  cases hi : idxB p s with
  | none =>
    rw [hi] at c107
    have : s.any p = false := by rw [List.any_eq_false]; intro x hx; rw [idxB_none.1 hi x hx]; simp
    simp [g75, c107, hq.norm, hq.shift, hcap, hpass, hnrm, this]
  | some k =>
    rw [hi] at c107
    have : s.any p = true := by
      cases e : s.any p with
      | true => rfl
      | false => rw [List.any_eq_false] at e; have := idxB_none.2 (fun x hx => by simpa using e x hx); rw [hi] at this; cases this
    simp [g75, c107, hq.norm, hq.shift, hcap, hpass, hnrm, this]

/-- Names within are short, too. -/
inductive Ty.Nm : Ty → Prop
  | mk {t : Ty} : SmS t.name → (∀ x ∈ t.args, Ty.Nm x) → Ty.Nm t
theorem Ty.Nm.sm {t : Ty} (h : t.Nm) : SmS t.name := by cases h; assumption
theorem Ty.Nm.kid {t : Ty} (h : t.Nm) : ∀ x ∈ t.args, x.Nm := by cases h; assumption

theorem c29 {t : Ty} (hO : t.Ok) (hN : t.Nm) : (orcL AP).p 29 [t.pv] = some [.bool (validT t)] := by
  revert hO hN
  refine Ty.rec1 (p := fun t => t.Ok → t.Nm → (orcL AP).p 29 [t.pv] = some [.bool (validT t)]) ?_ t
  intro t ih hO hN
  have ht := c74 hN.sm (n := t.args.length)
  have hl := c73 hN.sm (lo := 97) (hi := 122)
  have hc := c75 hO.sm (sh := []) (by intro cs h; simp at h) (g := 76) (cap := []) (p := fun x => !validT x) rfl rfl rfl (fun _ _ => rfl) rfl (by
    intro x hx
    have hx' := ih x hx (hO.kid x hx) (hN.kid x hx)
    simp at hx'
    rw [callI_body (af := g76) rfl (by simp [g76])]
    simp [g76, hx'])
  have hany := any_not (p := validT) (l := t.args)
  rw [callP_body (af := g29) rfl rfl (by decide), validT_eq]
  have h0 : ((t.args.length : Int) == 0) = decide (t.args = []) := by rw [Bool.eq_iff_iff]; simp
  by_cases k1 : t.kind = 1
  · simp [g29, k1, h0]
    (repeat' split) <;> simp_all <;> omega
  · by_cases k2 : t.kind = 2
    · simp [g29, k2, h0]
      (repeat' split) <;> simp_all <;> omega
    · by_cases k3 : t.kind = 3
      · simp [g29, k3, h0]
        (repeat' split) <;> simp_all <;> omega
      · by_cases k5 : t.kind = 5
        · simp [g29, k5, h0, hl]
          (repeat' split) <;> simp_all <;> omega
        · by_cases k4 : t.kind = 4
          · simp [g29, k4, h0, ht, hc]
            (repeat' split) <;> simp_all <;> omega
          · simp [g29, k1, k2, k3, k4, k5, h0]
end Go.Ab.Lw
namespace Go.Ab.Lw
open Ev
set_option maxRecDepth 10000
set_option linter.unusedSimpArgs false
/-- A scheme: its number of quantified variables, and its type. -/
abbrev Sc := As
/-- An entry of a context. -/
structure En where
  name : List UInt8
  sc : Sc
  deriving Inhabited
def En.pv (a : En) : PV := .agg [.str a.name, .int .i64 a.sc.id, .int .i64 a.sc.ty.kind, .str a.sc.ty.name, .int .i64 a.sc.ty.id, .int .i64 a.sc.ty.home, .lst (a.sc.ty.args.map Ty.pv)]
@[simp] theorem En.pv_eq (a : En) : a.pv = .agg [.str a.name, .int .i64 a.sc.id, .int .i64 a.sc.ty.kind, .str a.sc.ty.name, .int .i64 a.sc.ty.id, .int .i64 a.sc.ty.home, .lst (a.sc.ty.args.map Ty.pv)] := rfl
@[simp] theorem En.eta (t : En) : En.mk t.name t.sc = t := rfl
theorem el_en : El En.pv 7 true := ⟨fun x => by simp, fun x => by simp⟩
noncomputable instance : DecidableEq En := fun _ _ => Classical.propDecidable _
@[simp] theorem headSz_En {l : List En} : headSz 7 (l.map En.pv) = true := el_en.head l

end Go.Ab.Lw
namespace Go.Ab.Lw
open Ev
set_option maxRecDepth 10000
set_option linter.unusedSimpArgs false
def ClipF (sz : Nat) : AFunc := ⟨1, 9, [.t 2],
  (.seq
   (.reg [⟨some 2, none, [.c (.clp [])], .v (.mv)⟩] [0])
   (.seq
    (.reg [⟨some 3, none, [.t 0], .v (.mv)⟩,
      ⟨some 4, none, [.t 0], .v (.mv)⟩,
      ⟨some 5, none, [.t 4], .v (.len)⟩,
      ⟨some 6, none, [.t 0], .v (.mv)⟩,
      ⟨some 7, none, [.t 6], .v (.len)⟩,
      ⟨some 8, none, [.t 3, .t 5, .t 7], .v (.slice false sz false true true)⟩,
      ⟨some 2, none, [.t 8], .v (.mv)⟩] [2])
    .ret)), none, false⟩
theorem slClip {sz : Nat} {l : List PV} : evSlice false sz false true true [.pv (.lst l), .pv (.int .i64 l.length), .pv (.int .i64 l.length)] = some (.clp l) := by
  simp [evSlice, elsOf, evBounds]
theorem cClip {m sz : Nat} (hm : AP m = some (ClipF sz)) {l : List PV} {sh : Sh} {ts : Toks} : (orcL AP).i m [.pv (.lst l)] sh ts = some ((giveN ts [.clp l] sh).1, (giveN ts [.clp l] sh).2.1, (giveN ts [.clp l] sh).2.2.2) := by
  rw [callI_body hm (by simp [ClipF])]
  simp [ClipF, slClip]
end Go.Ab.Lw
namespace Go.Ab.Lw

section
variable {P : Program} {n : Nat} {t e : TypeId} {p : PV}

theorem shp_int (hu : P.underlying t = some (.int .i64)) (h : Shp P n t p) : ∃ i, p = vI i := by
  cases n with
  | zero => simp [Shp] at h
  | succ n => simp only [Shp, hu] at h; obtain ⟨i, rfl, _⟩ := h; exact ⟨i, rfl⟩
theorem shp_bool (hu : P.underlying t = some .bool) (h : Shp P n t p) : ∃ b, p = .bool b := by
  cases n with
  | zero => simp [Shp] at h
  | succ n => simp only [Shp, hu] at h; exact h
theorem shp_str (hu : P.underlying t = some .string) (h : Shp P n t p) : ∃ s, p = .str s := by
  cases n with
  | zero => simp [Shp] at h
  | succ n => simp only [Shp, hu] at h; obtain ⟨s, rfl, _⟩ := h; exact ⟨s, rfl⟩
/-- A slice of what a function of pure data makes. -/
theorem shp_list {α : Type} {f : α → PV} (hu : P.underlying t = some (.slice e)) (he : ∀ (m : Nat) (q : PV), Shp P m e q → ∃ x, q = f x) (h : Shp P n t p) : ∃ l : List α, p = .lst (l.map f) := by
  cases n with
  | zero => simp [Shp] at h
  | succ n =>
    simp only [Shp, hu] at h
    obtain ⟨els, rfl, _, h⟩ := h
    have key : ∀ els : List PV, (∀ q ∈ els, Shp P n e q) → ∃ l : List α, els = l.map f := by
      intro els
      induction els with
      | nil => intro _; exact ⟨[], rfl⟩
      | cons q r ih =>
        intro h
        obtain ⟨x, rfl⟩ := he n q (h q (by simp))
        obtain ⟨l, rfl⟩ := ih (fun q hq => h q (by simp [hq]))
        exact ⟨x :: l, rfl⟩
    obtain ⟨l, rfl⟩ := key els h
    exact ⟨l, rfl⟩
theorem shp_ints (hu : P.underlying t = some (.slice e)) (he : P.underlying e = some (.int .i64)) (h : Shp P n t p) : ∃ L : List Int, p = .lst (L.map vI) :=
  shp_list hu (fun _ _ h => shp_int he h) h

/-- A type. -/
theorem shp_ty {ti ts tl tt : TypeId} {f0 f1 f2 f3 f4 : Field} (hi : P.underlying ti = some (.int .i64)) (hs : P.underlying ts = some .string) (hl : P.underlying tl = some (.slice tt))
    (ht : P.underlying tt = some (.struct #[f0, f1, f2, f3, f4])) (e0 : f0.type = ti) (e1 : f1.type = ts) (e2 : f2.type = ti) (e3 : f3.type = ti) (e4 : f4.type = tl) :
    ∀ (n : Nat) (p : PV), Shp P n tt p → ∃ x : Ty, p = x.pv
  | 0, p, h => by simp [Shp] at h
  | n + 1, p, h => by
    simp only [Shp, ht] at h
    obtain ⟨ps, rfl, h⟩ := h
    match ps, h with
    | [p0, p1, p2, p3, p4], ⟨h0, h1, h2, h3, h4, _⟩ =>
      rw [e0] at h0; rw [e1] at h1; rw [e2] at h2; rw [e3] at h3; rw [e4] at h4
      obtain ⟨k, rfl⟩ := shp_int hi h0
      obtain ⟨s, rfl⟩ := shp_str hs h1
      obtain ⟨i, rfl⟩ := shp_int hi h2
      obtain ⟨m, rfl⟩ := shp_int hi h3
      cases n with
      | zero => simp [Shp] at h4
      | succ n =>
        simp only [Shp, hl] at h4
        obtain ⟨els, rfl, _, h4⟩ := h4
        have key : ∀ els : List PV, (∀ q ∈ els, Shp P n tt q) → ∃ l : List Ty, els = l.map Ty.pv := by
          intro els
          induction els with
          | nil => intro _; exact ⟨[], rfl⟩
          | cons q r ih =>
            intro h
            obtain ⟨x, rfl⟩ := shp_ty hi hs hl ht e0 e1 e2 e3 e4 n q (h q (by simp))
            obtain ⟨l, rfl⟩ := ih (fun q hq => h q (by simp [hq]))
            exact ⟨x :: l, rfl⟩
        obtain ⟨l, rfl⟩ := key els h4
        exact ⟨⟨k, s, i, m, l⟩, by simp [cellsP]⟩
  termination_by n => n
end
end Go.Ab.Lw

namespace Go.Ab.Lw
open Ev
set_option maxRecDepth 10000
set_option linter.unusedSimpArgs false
def tyNamed (s : List UInt8) : Ty := ⟨5, s, 0, 0, []⟩
def namedL : List Ty := [tyNamed [97], tyNamed [98], tyNamed [99]]
theorem data_valid : ∀ d ∈ allDatas, conB d.name d.params.length = true := by decide +kernel
theorem Made.valid {lv : Ty → Prop} (h : ∀ t, lv t → validT t = true) {t : Ty} (m : Made lv t) : validT t = true := by
  induction m with
  | leaf hl => exact h _ hl
  | int => rw [validT_eq]; decide +kernel
  | con hd hl _ ih =>
    rw [validT_eq]
    have := data_valid _ hd
    simp [hl, this]
    exact ih
  | arrow _ _ ha hb => rw [validT_eq]; simp [conB, ha, hb]
theorem names_few : ∀ d ∈ allDatas, d.name.length ≤ 20 := by decide +kernel
theorem Made.nm {lv : Ty → Prop} (h : ∀ t, lv t → SmS t.name ∧ t.args = []) {t : Ty} (m : Made lv t) : t.Nm := by
  induction m with
  | leaf hl => exact ⟨(h _ hl).1, by rw [(h _ hl).2]; simp⟩
  | int => exact ⟨by simp [tyInt, SmS], by simp [tyInt]⟩
  | con hd hl _ ih => exact ⟨by have := names_few _ hd; simp only [SmS]; omega, ih⟩
  | arrow _ _ ha hb => exact ⟨by simp [SmS], by intro x hx; simp at hx; rcases hx with rfl | rfl <;> assumption⟩
end Go.Ab.Lw
namespace Go.Ab.Lw
open Ev
set_option maxRecDepth 10000
set_option linter.unusedSimpArgs false

/-! ### Index and Contains of plain elements -/
def IxB : ACode :=
  (.seq
   (.reg [⟨some 9, none, [.t 8, .t 7], .v (.bin .lss)⟩] [0, 1, 7, 8, 9])
   (.seq
    (.cond (.t 9)
     .skip
     (.exit 0))
    (.seq
     (.block 1
      (.seq
       (.reg [⟨some 10, none, [.t 8], .v (.mv)⟩,
         ⟨some 5, none, [.t 10], .v (.mv)⟩] [0, 1, 5, 7, 8])
       (.seq
        (.reg [⟨some 11, none, [.t 1], .v (.mv)⟩,
          ⟨some 12, none, [.t 0], .v (.mv)⟩,
          ⟨some 13, none, [.t 5], .v (.mv)⟩,
          ⟨some 14, none, [.t 12, .t 13], .v (.iaddr 1)⟩,
          ⟨some 15, none, [.t 14], .v (.loadE 1 false)⟩,
          ⟨some 16, none, [.t 11, .t 15], .v (.bin .eql)⟩] [0, 1, 5, 7, 8, 16])
        (.cond (.t 16)
         (.seq
          (.reg [⟨some 17, none, [.t 5], .v (.mv)⟩,
            ⟨some 4, none, [.t 17], .v (.mv)⟩] [4])
          .ret)
         .skip))))
     (.reg [⟨some 18, none, [.t 8, .c (.pv (.int .i64 1))], .v (.bin .add)⟩,
       ⟨some 8, none, [.t 18], .v (.mv)⟩] [0, 1, 7, 8]))))
def IxL : ACode := .loop [0, 1, 7, 8] IxB
theorem IxL_eq {st : St} : cl AP IxL st = after (cl AP IxL) (cl AP IxB (norm (restrict [0, 1, 7, 8] st))) := cl_loop
def IxF : AFunc := ⟨2, 19, [.t 4],
  (.seq
   (.reg [⟨some 4, none, [.c (.pv (.int .i64 0))], .v (.mv)⟩] [0, 1])
   (.seq
    (.seq
     (.reg [⟨some 6, none, [.t 0], .v (.mv)⟩,
       ⟨some 7, none, [.t 6], .v (.len)⟩,
       ⟨some 8, none, [.c (.pv (.int .i64 0))], .v (.mv)⟩] [0, 1, 7, 8])
     (.block 0
      IxL))
    (.seq
     (.reg [⟨some 4, none, [.c (.pv (.int .i64 (-1)))], .v (.mv)⟩] [4])
     .ret))), none, false⟩
def CoF (g : Nat) : AFunc := ⟨2, 9, [.t 4],
  (.seq
   (.reg [⟨some 4, none, [.c (.pv (.bool false))], .v (.mv)⟩] [0, 1])
   (.seq
    (.reg [⟨some 5, none, [.t 0], .v (.mv)⟩,
      ⟨some 6, none, [.t 1], .v (.mv)⟩,
      ⟨some 7, none, [.t 5, .t 6], .callP g⟩,
      ⟨some 8, none, [.t 7, .c (.pv (.int .i64 0))], .v (.bin .geq)⟩,
      ⟨some 4, none, [.t 8], .v (.mv)⟩] [4])
    .ret)), none, false⟩

/-- Elements that are one cell and compared by '=='. -/
structure Eqs {α : Type} [DecidableEq α] (f : α → PV) : Prop where
  el : El f 1 false
  eq : ∀ x y, evV (.bin .eql) [.pv (f x), .pv (f y)] = some (.pv (.bool (decide (x = y))))
theorem eqs_int : Eqs vI := ⟨el_int, fun x y => by simp; rw [Bool.eq_iff_iff]; simp⟩
def RIx {α : Type} (f : α → PV) (s : List α) (y : α) (i : Nat) : Option Nat → Option (AExit × St)
  | some k => some (.ret, ⟨[(4, .pv (vI (i + k : Nat)))], [], [], []⟩)
  | none => some (.exit 0, ⟨[(0, .pv (.lst (s.map f))), (1, .pv (f y)), (7, .pv (vI s.length)), (8, .pv (vI s.length)), (9, .pv (.bool false))], [], [], []⟩)
theorem LIx {α : Type} [DecidableEq α] {f : α → PV} (he : Eqs f) {s : List α} (hS : Sm s) (y : α) : ∀ (n i : Nat), s.length - i = n → i ≤ s.length →
    cl AP IxL ⟨[(0, .pv (.lst (s.map f))), (1, .pv (f y)), (7, .pv (vI s.length)), (8, .pv (vI i))], [], [], []⟩ = RIx f s y i (idxB (fun x => decide (y = x)) (s.drop i))
  | 0, i, hn, hi => by
    have : i = s.length := by omega
    subst this
    rw [IxL_eq]
    simp [IxB, idxB, RIx]
  | n + 1, i, hn, hi => by
    have hi : i < s.length := by omega
    obtain ⟨x, hx⟩ := getO hi
    unfold Sm at hS
    have ih := LIx he hS y n (i + 1) (by omega) (by omega)
    simp at ih
    have h1 := he.el.len x
    have h2 := he.el.of x
    have h3 := he.eq y x
    rw [IxL_eq, dropC hx]
    by_cases e : y = x
    · rw [decide_eq_true e] at h3
      simp (disch := omega) [-getElem?_pos, IxB, hx, hi, e, idxB, RIx, h1, h2]
      rw [← e] at h3 ⊢
      simp [h3]
    · rw [decide_eq_false e] at h3
      simp (disch := omega) [-getElem?_pos, IxB, hx, hi, e, idxB, wrap_id, ih, h1, h2, h3]
      cases idxB (fun x => decide (y = x)) (s.drop (i + 1)) with
      | none => rfl
      | some k => simp [RIx]; omega

theorem cIx {α : Type} [DecidableEq α] {f : α → PV} (he : Eqs f) {k : Nat} (hk : AP k = some IxF) {s : List α} (hS : Sm s) {y : α} : (orcL AP).p k [.lst (s.map f), f y] = some [vI (idxI (idxB (fun x => decide (y = x)) s))] := by
  have h := LIx he hS y _ 0 rfl (by omega)
  simp at h
  rw [callP_body hk rfl (by simp [IxF])]
  cases hi : idxB (fun x => decide (y = x)) s with
  | none => rw [hi] at h; simp [RIx] at h; simp [IxF, h, idxI]
  | some k => rw [hi] at h; simp [RIx] at h; simp [IxF, h, idxI]

theorem any_mem {α : Type} [DecidableEq α] {s : List α} {y : α} : (s.any fun x => decide (y = x)) = decide (y ∈ s) := by
  rw [Bool.eq_iff_iff]; simp
theorem cCo {α : Type} [DecidableEq α] {f : α → PV} (he : Eqs f) {m k : Nat} (hm : AP m = some (CoF k)) (hk : AP k = some IxF) {s : List α} (hS : Sm s) {y : α} : (orcL AP).p m [.lst (s.map f), f y] = some [.bool (decide (y ∈ s))] := by
  have h := cIx he hk hS (y := y)
  rw [callP_body hm rfl (by simp [CoF]), ← any_mem, ← idxB_any]
  simp [CoF, h]

theorem c98 {s : List Int} (hS : Sm s) {y : Int} : (orcL AP).p 98 [.lst (s.map vI), vI y] = some [.bool (decide (y ∈ s))] := cCo eqs_int (k := 116) rfl rfl hS

/-! ### The reference's Has -/
theorem L95 {s : List Int} (hS : Sm s) (y : Int) : ∀ (n i : Nat), s.length - i = n → i ≤ s.length →
    cl AP g95L0 ⟨[(0, .pv (.lst (s.map vI))), (1, .pv (vI y)), (5, .pv (vI i))], [], [], []⟩ =
      if y ∈ s.drop i then some (.ret, ⟨[(4, .pv (.bool true))], [], [], []⟩) else some (.exit 0, ⟨[(0, .pv (.lst (s.map vI))), (1, .pv (vI y)), (5, .pv (vI s.length)), (9, .pv (.bool false))], [], [], []⟩)
  | 0, i, hn, hi => by
    have : i = s.length := by omega
    subst this
    rw [g95L0_eq]
    simp [g95B0]
  | n + 1, i, hn, hi => by
    have hi : i < s.length := by omega
    obtain ⟨x, hx⟩ := getO hi
    unfold Sm at hS
    have ih := L95 hS y n (i + 1) (by omega) (by omega)
    simp at ih
    rw [g95L0_eq, dropC hx]
    by_cases e : x = y
    · simp (disch := omega) [-getElem?_pos, g95B0, hx, hi, e]
    · have e' : ¬ y = x := fun h => e h.symm
      simp (disch := omega) [-getElem?_pos, g95B0, hx, hi, e, e', wrap_id, ih]
theorem c95 {s : List Int} (hS : Sm s) {y : Int} : (orcL AP).p 95 [.lst (s.map vI), vI y] = some [.bool (decide (y ∈ s))] := by
  have h := L95 hS y _ 0 rfl (by omega)
  simp at h
  rw [callP_body (af := g95) rfl rfl (by decide)]
  by_cases e : y ∈ s <;> simp [g95, h, e]

/-! ### All nodes -/
mutual
def Ty.nodes : Ty → List Ty
  | ⟨k, n, i, h, as⟩ => ⟨k, n, i, h, as⟩ :: Ty.nodess as
def Ty.nodess : List Ty → List Ty
  | [] => []
  | a :: r => a.nodes ++ Ty.nodess r
end
theorem Ty.nodess_eq : ∀ l : List Ty, Ty.nodess l = l.flatMap Ty.nodes
  | [] => by simp [Ty.nodess]
  | a :: r => by simp [Ty.nodess, Ty.nodess_eq r]
theorem Ty.nodes_eq (t : Ty) : t.nodes = t :: t.args.flatMap Ty.nodes := by cases t; simp only [Ty.nodes, Ty.nodess_eq]

theorem nodup_len {α : Type} [DecidableEq α] : ∀ {l S : List α}, l.Nodup → (∀ x ∈ l, x ∈ S) → l.length ≤ S.length
  | [], _, _, _ => by simp
  | x :: r, S, hn, h => by
    have hx := h x (by simp)
    have hr := nodup_len (l := r) (S := S.erase x) (List.nodup_cons.1 hn).2 (fun y hy => by
      rw [List.mem_erase_of_ne]
      · exact h y (by simp [hy])
      · rintro rfl; exact (List.nodup_cons.1 hn).1 hy)
    have := List.length_erase_of_mem hx
    have : 0 < S.length := List.length_pos_of_mem hx
    simp; omega

/-- One more variable. -/
def addI (out : List Int) (x : Ty) : List Int := if x.kind = 1 ∧ x.id ∉ out then out ++ [x.id] else out

/-- What was collected: without doubles, among few. -/
structure Coll (S out : List Int) : Prop where
  nodup : out.Nodup
  sub : ∀ x ∈ out, x ∈ S
  few : S.length < 1099511627776
theorem Coll.len {S out : List Int} (h : Coll S out) : Sm out := by
  have := nodup_len h.nodup h.sub
  have := h.few
  unfold Sm; omega
theorem Coll.add {S out : List Int} (h : Coll S out) {x : Ty} (hx : x.kind = 1 → x.id ∈ S) : Coll S (addI out x) := by
  unfold addI
  split
  · rename_i e
    refine ⟨?_, ?_, h.few⟩
    · rw [List.nodup_append]
      refine ⟨h.nodup, by simp, ?_⟩
      intro a ha b hb
      simp at hb; subst hb
      rintro rfl; exact e.2 ha
    · intro y hy
      simp at hy
      rcases hy with hy | rfl
      · exact h.sub y hy
      · exact hx e.1
  · exact h
theorem Coll.fold {S : List Int} : ∀ {l : List Ty} {out : List Int}, Coll S out → (∀ x ∈ l, x.kind = 1 → x.id ∈ S) → Coll S (l.foldl addI out)
  | [], _, h, _ => h
  | x :: r, out, h, hx => by
    simp only [List.foldl_cons]
    exact Coll.fold (h.add (hx x (by simp))) (fun y hy => hx y (by simp [hy]))

def shO (out : List Int) : Sh := [some [.own (out.map vI) 0]]
theorem c97 {S out : List Int} (h : Coll S out) (x : Ty) : (orcL AP).i 97 [.pv x.pv, .sptr 0 0] (shO out) [out.length] = some ([], shO (addI out x), [(addI out x).length]) := by
  have hl := h.len
  have k := c98 hl (y := x.id)
  unfold Sm at hl
  have hb : (out.length + 1) * 8 ≤ 140737488355328 := by omega
  have hh : headSz 1 (out.map vI) = true := el_int.head out
  rw [callI_body (af := g97) rfl (by simp [g97])]
  by_cases e1 : x.kind = 1
  · by_cases e2 : x.id ∈ out
    · rw [decide_eq_true e2] at k
      simp [g97, shO, addI, e1, e2, k, hh]
    · rw [decide_eq_false e2] at k
      simp [g97, shO, addI, e1, e2, k, hb, hh]
  · simp [g97, shO, addI, e1]

theorem L96 {S : List Int} {t : Ty} (hS : Sm t.args) (h : ∀ x ∈ t.args, ∀ out, Coll S out → (orcL AP).i 96 [.pv x.pv, .fn 97 [.sptr 0 0]] (shO out) [out.length] = some ([], shO (x.nodes.foldl addI out), [(x.nodes.foldl addI out).length]))
    (hk : ∀ x ∈ t.args.flatMap Ty.nodes, x.kind = 1 → x.id ∈ S) : ∀ (n i : Nat), t.args.length - i = n → i ≤ t.args.length → ∀ out, Coll S out →
    cl AP g96L0 ⟨[(1, .fn 97 [.sptr 0 0]), (10, .pv (.lst (t.args.map Ty.pv))), (11, .pv (vI t.args.length)), (12, .pv (vI i))], [], shO out, [out.length]⟩ =
      some (.exit 0, ⟨[(1, .fn 97 [.sptr 0 0]), (10, .pv (.lst (t.args.map Ty.pv))), (11, .pv (vI t.args.length)), (12, .pv (vI t.args.length)), (13, .pv (.bool false))], [], shO (((t.args.drop i).flatMap Ty.nodes).foldl addI out), [(((t.args.drop i).flatMap Ty.nodes).foldl addI out).length]⟩)
  | 0, i, hn, hi, out, hc => by
    have : i = t.args.length := by omega
    subst this
    rw [g96L0_eq]
    simp [g96B0, shO]
  | n + 1, i, hn, hi, out, hc => by
    have hi : i < t.args.length := by omega
    obtain ⟨x, hx⟩ := getO hi
    unfold Sm at hS
    have hkx : ∀ y ∈ x.nodes, y.kind = 1 → y.id ∈ S := fun y hy => hk y (by simp only [List.mem_flatMap]; exact ⟨x, memO hx, hy⟩)
    have k := h x (memO hx) out hc
    have ih := L96 hS h hk n (i + 1) (by omega) (by omega) _ (hc.fold hkx)
    rw [g96L0_eq] at ih ⊢
    rw [dropC hx]
    simp [shO] at k ih
    simp (disch := omega) [-getElem?_pos, g96B0, shO, hx, hi, k, wrap_id]
    rw [g96L0_eq]
    simp [ih]

theorem c96 {S : List Int} {t : Ty} (hO : t.Ok) (hk : ∀ x ∈ t.nodes, x.kind = 1 → x.id ∈ S) : ∀ out, Coll S out →
    (orcL AP).i 96 [.pv t.pv, .fn 97 [.sptr 0 0]] (shO out) [out.length] = some ([], shO (t.nodes.foldl addI out), [(t.nodes.foldl addI out).length]) := by
  revert hO hk
  refine Ty.rec1 (p := fun t => t.Ok → (∀ x ∈ t.nodes, x.kind = 1 → x.id ∈ S) → ∀ out, Coll S out →
    (orcL AP).i 96 [.pv t.pv, .fn 97 [.sptr 0 0]] (shO out) [out.length] = some ([], shO (t.nodes.foldl addI out), [(t.nodes.foldl addI out).length])) ?_ t
  intro t ih hO hk out hc
  rw [Ty.nodes_eq] at hk ⊢
  have k := c97 hc t
  have h := L96 (S := S) hO.sm (fun x hx out hc => ih x hx (hO.kid x hx) (fun y hy => hk y (by simp only [List.mem_cons, List.mem_flatMap]; exact .inr ⟨x, hx, hy⟩)) out hc) (fun x hx => hk x (by simp only [List.mem_cons]; exact .inr hx)) _ 0 rfl (by omega) _ (hc.add (hk t (by simp)))
  rw [callI_body (af := g96) rfl (by simp [g96])]
  rw [g96L0_eq] at h
  simp [shO] at k h
  simp [g96, g96L0_eq, shO, k, h]

/-- The variables of types. -/
def vars (l : List Ty) : List Int := (l.flatMap Ty.nodes).foldl addI []

theorem L55 {S : List Int} {l : List Ty} (hS : Sm l) (hO : ∀ t ∈ l, t.Ok) (hk : ∀ x ∈ l.flatMap Ty.nodes, x.kind = 1 → x.id ∈ S) : ∀ (n i : Nat), l.length - i = n → i ≤ l.length → ∀ out, Coll S out →
    cl AP g55L0 ⟨[(3, .sptr 0 0), (6, .pv (.lst (l.map Ty.pv))), (7, .pv (vI l.length)), (8, .pv (vI i))], [], shO out, [out.length]⟩ =
      some (.exit 0, ⟨[(3, .sptr 0 0), (6, .pv (.lst (l.map Ty.pv))), (7, .pv (vI l.length)), (8, .pv (vI l.length)), (9, .pv (.bool false))], [], shO (((l.drop i).flatMap Ty.nodes).foldl addI out), [(((l.drop i).flatMap Ty.nodes).foldl addI out).length]⟩)
  | 0, i, hn, hi, out, hc => by
    have : i = l.length := by omega
    subst this
    rw [g55L0_eq]
    simp [g55B0, shO]
  | n + 1, i, hn, hi, out, hc => by
    have hi : i < l.length := by omega
    obtain ⟨x, hx⟩ := getO hi
    unfold Sm at hS
    have hkx : ∀ y ∈ x.nodes, y.kind = 1 → y.id ∈ S := fun y hy => hk y (by simp only [List.mem_flatMap]; exact ⟨x, memO hx, hy⟩)
    have k := c96 (hO x (memO hx)) hkx out hc
    have ih := L55 hS hO hk n (i + 1) (by omega) (by omega) _ (hc.fold hkx)
    rw [g55L0_eq] at ih ⊢
    rw [dropC hx]
    simp [shO] at k ih
    simp (disch := omega) [-getElem?_pos, g55B0, shO, hx, hi, k, wrap_id]
    rw [g55L0_eq]
    simp [ih]

theorem coll_nil {S : List Int} (h : S.length < 1099511627776) : Coll S [] := ⟨by simp, by simp, h⟩
theorem c55 {S : List Int} (hf : S.length < 1099511627776) {l : List Ty} (hS : Sm l) (hO : ∀ t ∈ l, t.Ok) (hk : ∀ x ∈ l.flatMap Ty.nodes, x.kind = 1 → x.id ∈ S) : (orcL AP).p 55 [.lst (l.map Ty.pv)] = some [.lst ((vars l).map vI)] := by
  have h := L55 hS hO hk _ 0 rfl (by omega) [] (coll_nil hf)
  rw [callP_body (af := g55) rfl rfl (by decide)]
  rw [g55L0_eq] at h
  simp [shO] at h
  simp [g55, g55L0_eq, h, vars]
end Go.Ab.Lw
namespace Go.Ab.Lw
open Ev
set_option maxRecDepth 10000
set_option linter.unusedSimpArgs false
mutual
/-- The leaves of a kind. -/
def Ty.lvs (k : Int) : Ty → List Ty
  | ⟨kd, n, i, h, as⟩ => if kd = k ∧ as.length = 0 then [⟨kd, n, i, h, as⟩] else Ty.lvss k as
def Ty.lvss (k : Int) : List Ty → List Ty
  | [] => []
  | a :: r => a.lvs k ++ Ty.lvss k r
end
theorem Ty.lvss_eq (k : Int) : ∀ l : List Ty, Ty.lvss k l = l.flatMap (Ty.lvs k)
  | [] => by simp [Ty.lvss]
  | a :: r => by simp [Ty.lvss, Ty.lvss_eq k r]
theorem Ty.lvs_eq (k : Int) (t : Ty) : t.lvs k = if t.kind = k ∧ t.args.length = 0 then [t] else t.args.flatMap (Ty.lvs k) := by cases t; simp only [Ty.lvs, Ty.lvss_eq]

noncomputable def addT (out : List Ty) (x : Ty) : List Ty := if x ∈ out then out else out ++ [x]

structure CollT (S out : List Ty) : Prop where
  nodup : out.Nodup
  sub : ∀ x ∈ out, x ∈ S
  few : S.length < 1099511627776
  ok : ∀ x ∈ S, x.Ok
theorem CollT.len {S out : List Ty} (h : CollT S out) : Sm out := by
  have := nodup_len h.nodup h.sub
  have := h.few
  unfold Sm; omega
theorem CollT.add {S out : List Ty} (h : CollT S out) {x : Ty} (hx : x ∈ S) : CollT S (addT out x) := by
  unfold addT
  split
  · exact h
  · rename_i e
    refine ⟨?_, ?_, h.few, h.ok⟩
    · rw [List.nodup_append]
      refine ⟨h.nodup, by simp, ?_⟩
      intro a ha b hb
      simp at hb; subst hb
      rintro rfl; exact e ha
    · intro y hy
      simp at hy
      rcases hy with hy | rfl
      · exact h.sub y hy
      · exact hx
theorem CollT.fold {S : List Ty} : ∀ {l : List Ty} {out : List Ty}, CollT S out → (∀ x ∈ l, x ∈ S) → CollT S (l.foldl addT out)
  | [], _, h, _ => h
  | x :: r, out, h, hx => by
    simp only [List.foldl_cons]
    exact CollT.fold (h.add (hx x (by simp))) (fun y hy => hx y (by simp [hy]))

theorem L99a {S out : List Ty} (h : CollT S out) (t : Ty) : ∀ (n i : Nat), out.length - i = n → i ≤ out.length →
    cl AP g99L0 ⟨[(0, .own (out.map Ty.pv) 0), (4, .lptr 4 0), (7, .pv (vI i))], [(4, [.pv (vI t.kind), .pv (.str t.name), .pv (vI t.id), .pv (vI t.home), .pv (.lst (t.args.map Ty.pv))])], [], [out.length]⟩ =
      if t ∈ out.drop i then some (.ret, ⟨[(6, .own (out.map Ty.pv) 0)], [], [], [out.length]⟩)
      else some (.exit 0, ⟨[(0, .own (out.map Ty.pv) 0), (4, .lptr 4 0), (7, .pv (vI out.length)), (22, .pv (.bool false))], [(4, [.pv (vI t.kind), .pv (.str t.name), .pv (vI t.id), .pv (vI t.home), .pv (.lst (t.args.map Ty.pv))])], [], [out.length]⟩)
  | 0, i, hn, hi => by
    have : i = out.length := by omega
    subst this
    rw [g99L0_eq]
    simp [g99B0]
  | n + 1, i, hn, hi => by
    have hi : i < out.length := by omega
    obtain ⟨x, hx⟩ := getO hi
    have hS := h.len
    unfold Sm at hS
    have k := c20 (b := t) (h.ok x (h.sub x (memO hx)))
    have ih := L99a h t n (i + 1) (by omega) (by omega)
    rw [g99L0_eq] at ih ⊢
    rw [dropC hx]
    simp at ih k
    by_cases e : x = t
    · subst e
      rw [decide_eq_true rfl] at k
      simp (disch := omega) [-getElem?_pos, g99B0, hx, hi, k]
    · have e' : ¬ t = x := fun h => e h.symm
      rw [decide_eq_false e] at k
      simp (disch := omega) [-getElem?_pos, g99B0, hx, hi, k, e', wrap_id]
      rw [g99L0_eq]
      simp [ih]

theorem L99b {S : List Ty} {kd : Int} {t : Ty} (hS : Sm t.args) (h : ∀ x ∈ t.args, ∀ out, CollT S out → (orcL AP).i 99 [.own (out.map Ty.pv) 0, .pv x.pv, .pv (vI kd)] [] [out.length] = some ([.own (((x.lvs kd).foldl addT out).map Ty.pv) 0], [], [((x.lvs kd).foldl addT out).length]))
    (hk : ∀ x ∈ t.args.flatMap (Ty.lvs kd), x ∈ S) : ∀ (n i : Nat), t.args.length - i = n → i ≤ t.args.length → ∀ out, CollT S out →
    cl AP g99L1 ⟨[(0, .own (out.map Ty.pv) 0), (2, .pv (vI kd)), (4, .lptr 4 0), (8, .pv (vI i))], [(4, [.pv (vI t.kind), .pv (.str t.name), .pv (vI t.id), .pv (vI t.home), .pv (.lst (t.args.map Ty.pv))])], [], [out.length]⟩ =
      some (.exit 2, ⟨[(0, .own ((((t.args.drop i).flatMap (Ty.lvs kd)).foldl addT out).map Ty.pv) 0), (2, .pv (vI kd)), (4, .lptr 4 0), (8, .pv (vI t.args.length)), (40, .pv (.bool false))], [(4, [.pv (vI t.kind), .pv (.str t.name), .pv (vI t.id), .pv (vI t.home), .pv (.lst (t.args.map Ty.pv))])], [], [(((t.args.drop i).flatMap (Ty.lvs kd)).foldl addT out).length]⟩)
  | 0, i, hn, hi, out, hc => by
    have : i = t.args.length := by omega
    subst this
    rw [g99L1_eq]
    simp [g99B1]
  | n + 1, i, hn, hi, out, hc => by
    have hi : i < t.args.length := by omega
    obtain ⟨x, hx⟩ := getO hi
    unfold Sm at hS
    have hkx : ∀ y ∈ x.lvs kd, y ∈ S := fun y hy => hk y (by simp only [List.mem_flatMap]; exact ⟨x, memO hx, hy⟩)
    have k := h x (memO hx) out hc
    have ih := L99b hS h hk n (i + 1) (by omega) (by omega) _ (hc.fold hkx)
    rw [g99L1_eq] at ih ⊢
    rw [dropC hx]
    simp at k ih
    simp (disch := omega) [-getElem?_pos, g99B1, hx, hi, k, wrap_id]
    rw [g99L1_eq]
    simp [ih]

theorem c99 {S : List Ty} {kd : Int} {t : Ty} (hO : t.Ok) (hk : ∀ x ∈ t.lvs kd, x ∈ S) : ∀ out, CollT S out →
    (orcL AP).i 99 [.own (out.map Ty.pv) 0, .pv t.pv, .pv (vI kd)] [] [out.length] = some ([.own (((t.lvs kd).foldl addT out).map Ty.pv) 0], [], [((t.lvs kd).foldl addT out).length]) := by
  revert hO hk
  refine Ty.rec1 (p := fun t => t.Ok → (∀ x ∈ t.lvs kd, x ∈ S) → ∀ out, CollT S out →
    (orcL AP).i 99 [.own (out.map Ty.pv) 0, .pv t.pv, .pv (vI kd)] [] [out.length] = some ([.own (((t.lvs kd).foldl addT out).map Ty.pv) 0], [], [((t.lvs kd).foldl addT out).length])) ?_ t
  intro t ih hO hk out hc
  rw [Ty.lvs_eq] at hk ⊢
  have hl := hc.len
  unfold Sm at hl
  have hb : (out.length + 1) * 64 ≤ 140737488355328 := by omega
  rw [callI_body (af := g99) rfl (by simp [g99])]
  by_cases e : t.kind = kd ∧ t.args.length = 0
  · rw [if_pos e] at hk ⊢
    obtain ⟨e1, e2⟩ := e
    subst e1
    have e3 : t.args = [] := by simpa using e2
    have h := L99a hc t _ 0 rfl (by omega)
    rw [g99L0_eq] at h
    simp [e3] at h
    by_cases em : t ∈ out
    · simp [em] at h
      have ea : addT out t = out := by simp [addT, em]
      simp [g99, e3, g99L0_eq, h, ea]
    · simp [em] at h
      have ea : addT out t = out ++ [t] := by simp [addT, em]
      simp [g99, e3, g99L0_eq, h, ea, hb]
  · rw [if_neg e] at hk ⊢
    have h := L99b (S := S) (kd := kd) hO.sm (fun x hx out hc => ih x hx (hO.kid x hx) (fun y hy => hk y (by simp only [List.mem_flatMap]; exact ⟨x, hx, hy⟩)) out hc) hk _ 0 rfl (by omega) out hc
    rw [g99L1_eq] at h
    simp at h
    by_cases e1 : t.kind = kd
    · have e2 : ¬ t.args.length = 0 := fun h => e ⟨e1, h⟩
      have e3 : ¬ t.args = [] := by simpa using e2
      subst e1
      simp [g99, e2, e3, g99L1_eq, h]
    · simp [g99, e1, g99L1_eq, h]

/-- One more number. -/
def addN (out : List Int) (x : Ty) : List Int := if x.id ∈ out then out else out ++ [x.id]

noncomputable def refVars (l : List Ty) : List Int := ((l.flatMap (Ty.lvs 1)).foldl addT []).foldl addN []

theorem L56a {S : List Ty} {l : List Ty} (hS : Sm l) (hO : ∀ t ∈ l, t.Ok) (hk : ∀ x ∈ l.flatMap (Ty.lvs 1), x ∈ S) : ∀ (n i : Nat), l.length - i = n → i ≤ l.length → ∀ out, CollT S out →
    cl AP g56L0 ⟨[(0, .pv (.lst (l.map Ty.pv))), (3, .own (out.map Ty.pv) 0), (4, .pv (vI i))], [], [], [out.length]⟩ =
      some (.exit 0, ⟨[(0, .pv (.lst (l.map Ty.pv))), (3, .own ((((l.drop i).flatMap (Ty.lvs 1)).foldl addT out).map Ty.pv) 0), (4, .pv (vI l.length)), (10, .pv (.bool false))], [], [], [(((l.drop i).flatMap (Ty.lvs 1)).foldl addT out).length]⟩)
  | 0, i, hn, hi, out, hc => by
    have : i = l.length := by omega
    subst this
    rw [g56L0_eq]
    simp [g56B0]
  | n + 1, i, hn, hi, out, hc => by
    have hi : i < l.length := by omega
    obtain ⟨x, hx⟩ := getO hi
    unfold Sm at hS
    have hkx : ∀ y ∈ x.lvs 1, y ∈ S := fun y hy => hk y (by simp only [List.mem_flatMap]; exact ⟨x, memO hx, hy⟩)
    have k := c99 (kd := 1) (hO x (memO hx)) hkx out hc
    have ih := L56a hS hO hk n (i + 1) (by omega) (by omega) _ (hc.fold hkx)
    rw [g56L0_eq] at ih ⊢
    rw [dropC hx]
    simp at k ih
    simp (disch := omega) [-getElem?_pos, g56B0, hx, hi, k, wrap_id]
    rw [g56L0_eq]
    simp [ih]

theorem L56b {S l : List Ty} (hc : CollT S l) : ∀ (n i : Nat), l.length - i = n → i ≤ l.length → ∀ out : List Int, out.length ≤ i →
    cl AP g56L1 ⟨[(3, .own (l.map Ty.pv) 0), (5, .own (out.map vI) 1), (6, .pv (vI i))], [], [], [l.length, out.length]⟩ =
      some (.exit 2, ⟨[(3, .own (l.map Ty.pv) 0), (5, .own (((l.drop i).foldl addN out).map vI) 1), (6, .pv (vI l.length)), (22, .pv (.bool false))], [], [], [l.length, ((l.drop i).foldl addN out).length]⟩)
  | 0, i, hn, hi, out, ho => by
    have : i = l.length := by omega
    subst this
    rw [g56L1_eq]
    simp [g56B1]
  | n + 1, i, hn, hi, out, ho => by
    have hi : i < l.length := by omega
    obtain ⟨x, hx⟩ := getO hi
    have hS := hc.len
    unfold Sm at hS
    have k := c95 (s := out) (by unfold Sm; omega) (y := x.id)
    have hb : (out.length + 1) * 8 ≤ 140737488355328 := by omega
    have hh : headSz 1 (out.map vI) = true := el_int.head out
    rw [dropC hx]
    by_cases e : x.id ∈ out
    · have ih := L56b hc n (i + 1) (by omega) (by omega) out (by omega)
      have ea : addN out x = out := by simp [addN, e]
      rw [g56L1_eq] at ih ⊢
      rw [decide_eq_true e] at k
      simp at ih
      simp (disch := omega) [-getElem?_pos, g56B1, hx, hi, k, wrap_id]
      rw [g56L1_eq]
      simp [ih, ea]
    · have ih := L56b hc n (i + 1) (by omega) (by omega) (out ++ [x.id]) (by simp; omega)
      have ea : addN out x = out ++ [x.id] := by simp [addN, e]
      rw [g56L1_eq] at ih ⊢
      rw [decide_eq_false e] at k
      simp at ih
      simp (disch := omega) [-getElem?_pos, g56B1, hx, hi, k, wrap_id, hb, hh]
      rw [g56L1_eq]
      simp [ih, ea]

theorem c56 {S : List Ty} (hf : S.length < 1099511627776) (hSo : ∀ x ∈ S, x.Ok) {l : List Ty} (hS : Sm l) (hO : ∀ t ∈ l, t.Ok) (hk : ∀ x ∈ l.flatMap (Ty.lvs 1), x ∈ S) : (orcL AP).p 56 [.lst (l.map Ty.pv)] = some [.lst ((refVars l).map vI)] := by
  have c0 : CollT S [] := ⟨by simp, by simp, hf, hSo⟩
  have h1 := L56a hS hO hk _ 0 rfl (by omega) [] c0
  have h2 := L56b (c0.fold (l := l.flatMap (Ty.lvs 1)) hk) _ 0 rfl (by omega) [] (by simp)
  rw [callP_body (af := g56) rfl rfl (by decide)]
  rw [g56L0_eq] at h1
  rw [g56L1_eq] at h2
  simp at h1 h2
  simp [g56, g56L0_eq, h1, g56L1_eq, h2, refVars]

/-! ### They are the same -/
theorem nodes_lvs {t : Ty} (hW : t.Wf) : ∀ out, t.nodes.foldl addI out = (t.lvs 1).foldl addI out := by
  revert hW
  refine Ty.rec1 (p := fun t => t.Wf → ∀ out, t.nodes.foldl addI out = (t.lvs 1).foldl addI out) ?_ t
  intro t ih hW out
  have flat : ∀ (as : List Ty), (∀ x ∈ as, x ∈ t.args) → ∀ out, (as.flatMap Ty.nodes).foldl addI out = (as.flatMap (Ty.lvs 1)).foldl addI out := by
    intro as
    induction as with
    | nil => intro _ _; rfl
    | cons a r ihr =>
      intro h out
      simp only [List.flatMap_cons, List.foldl_append]
      rw [ih a (h a (by simp)) (hW.kid a (h a (by simp))), ihr (fun x hx => h x (by simp [hx]))]
  rw [Ty.nodes_eq, Ty.lvs_eq]
  by_cases e : t.kind = 1
  · have ea := hW.var e
    simp [e, ea]
  · have : addI out t = out := by simp [addI, e]
    simp only [List.foldl_cons, this]
    rw [if_neg (fun h => e h.1)]
    exact flat t.args (fun _ h => h) out
theorem lvs_kind {k : Int} {t x : Ty} (h : x ∈ t.lvs k) : x.kind = k ∧ x.args = [] := by
  revert h
  refine Ty.rec1 (p := fun t => x ∈ t.lvs k → x.kind = k ∧ x.args = []) ?_ t
  intro t ih h
  rw [Ty.lvs_eq] at h
  split at h
  · rename_i e; simp at h; subst h; exact ⟨e.1, by simpa using e.2⟩
  · simp only [List.mem_flatMap] at h
    obtain ⟨y, hy, hx⟩ := h
    exact ih y hy hx
theorem addI_mem {l : List Ty} {out : List Int} {x : Ty} (hk : x.kind = 1) (h : x ∈ l) : x.id ∈ l.foldl addI out := by
  have mono : ∀ (l : List Ty) (out : List Int) (i : Int), i ∈ out → i ∈ l.foldl addI out := by
    intro l
    induction l with
    | nil => intro out i h; exact h
    | cons y r ih =>
      intro out i h
      simp only [List.foldl_cons]
      refine ih _ _ ?_
      unfold addI; split <;> simp [h]
  induction l generalizing out with
  | nil => simp at h
  | cons y r ih =>
    simp only [List.foldl_cons]
    simp at h
    rcases h with rfl | h
    · refine mono _ _ _ ?_
      unfold addI
      split
      · simp
      · rename_i e; simp [hk] at e; exact e
    · exact ih h
theorem fold_addT (l : List Ty) (hk : ∀ x ∈ l, x.kind = 1) : ∀ acc : List Ty, (l.foldl addT acc).foldl addI [] = l.foldl addI (acc.foldl addI []) := by
  induction l with
  | nil => intro acc; rfl
  | cons x r ih =>
    intro acc
    simp only [List.foldl_cons]
    rw [ih (fun y hy => hk y (by simp [hy]))]
    congr 1
    unfold addT
    split
    · rename_i e
      have := addI_mem (out := []) (hk x (by simp)) e
      simp [addI, this]
    · simp
theorem fold_addN (l : List Ty) (hk : ∀ x ∈ l, x.kind = 1) : ∀ out, l.foldl addN out = l.foldl addI out := by
  induction l with
  | nil => intro out; rfl
  | cons x r ih =>
    intro out
    simp only [List.foldl_cons]
    rw [ih (fun y hy => hk y (by simp [hy]))]
    congr 1
    unfold addN addI
    have := hk x (by simp)
    by_cases e : x.id ∈ out <;> simp [e, this]
theorem addT_sub {l acc : List Ty} {x : Ty} (h : x ∈ l.foldl addT acc) : x ∈ acc ∨ x ∈ l := by
  induction l generalizing acc with
  | nil => exact .inl h
  | cons y r ih =>
    simp only [List.foldl_cons] at h
    rcases ih h with h | h
    · unfold addT at h
      split at h
      · exact .inl h
      · simp at h
        rcases h with h | rfl
        · exact .inl h
        · right; simp
    · right; simp [h]
/-- **The reference's variables are the program's.** -/
theorem refVars_eq {l : List Ty} (hW : ∀ t ∈ l, t.Wf) : refVars l = vars l := by
  have hk : ∀ x ∈ l.flatMap (Ty.lvs 1), x.kind = 1 := fun x hx => by
    simp only [List.mem_flatMap] at hx; obtain ⟨t, _, h⟩ := hx; exact (lvs_kind h).1
  unfold refVars vars
  rw [fold_addN _ (fun x hx => by rcases addT_sub hx with h | h; simp at h; exact hk x h), fold_addT _ hk]
  have : ∀ (l : List Ty), (∀ t ∈ l, t.Wf) → ∀ out, (l.flatMap (Ty.lvs 1)).foldl addI out = (l.flatMap Ty.nodes).foldl addI out := by
    intro l
    induction l with
    | nil => intro _ _; rfl
    | cons a r ih =>
      intro h out
      simp only [List.flatMap_cons, List.foldl_append]
      rw [nodes_lvs (h a (by simp)), ih (fun t ht => h t (by simp [ht]))]
  exact this l hW []
end Go.Ab.Lw
namespace Go.Ab.Lw
open Ev
set_option maxRecDepth 10000
set_option linter.unusedSimpArgs false
theorem c177 {l : List En} (hS : Sm l) {n : List UInt8} {c : Sc} : (orcL AP).p 177 [.lst (l.map En.pv), .str n, c.pv] = some [.lst ((l ++ [En.mk n c]).map En.pv)] := by
  have k := cClip (m := 209) (sz := 7) rfl (l := l.map En.pv) (sh := []) (ts := [])
  unfold Sm at hS
  have hb : (l.length + 1) * 88 ≤ 140737488355328 := by omega
  rw [callP_body (af := g177) rfl rfl (by decide)]
  simp at k
  simp [g177, k, hb]
def seenE : List En → List En
  | [] => []
  | a :: r => if (r.any fun x => decide (x.name = a.name)) = true then seenE r else a :: seenE r

@[simp] theorem takeEnd1 {α : Type} {l : List α} {x : α} : (l ++ [x]).take (l.length + 1) = l ++ [x] := by rw [List.take_of_length_le]; simp

/-- The shared box of the entry that is looked at. -/
def enC (x : En) : List AV := [.pv (.str x.name), .pv (vI x.sc.id), .pv (vI x.sc.ty.kind), .pv (.str x.sc.ty.name), .pv (vI x.sc.ty.id), .pv (vI x.sc.ty.home), .pv (.lst (x.sc.ty.args.map Ty.pv))]
theorem c212 (sh : Sh) (hq : Quiet sh) (a x : En) : (orcL AP).i 212 [.pv x.pv, .sptr sh.length 0] (sh ++ [some (enC a)]) [] = some ([.pv (.bool (decide (x.name = a.name)))], sh ++ [some (enC a)], []) := by
  have hQ : Quiet (sh ++ [some (enC a)]) := hq.app (Quiet.one (by simp [enC]))
  rw [callI_body (af := g212) rfl (by simp [g212])]
  have := hQ.norm
  simp [enC] at this
  simp [g212, enC, this]
  by_cases e : x.name = a.name <;> simp [e]
theorem c211 {s : List En} (hS : Sm s) (sh : Sh) (hq : Quiet sh) (a : En) : (orcL AP).i 211 [.pv (.lst (s.map En.pv)), .fn 212 [.sptr sh.length 0]] (sh ++ [some (enC a)]) [] = some ([.pv (.bool (s.any fun x => decide (x.name = a.name)))], sh ++ [some (enC a)], []) := by
  have hQ : Quiet (sh ++ [some (enC a)]) := hq.app (Quiet.one (by simp [enC]))
  refine cCnt el_en (m := 211) (k := 234) rfl rfl hS hQ (by simp) (by simp) (by simp) ?_
  intro x _
  have k := c212 sh hq a x
  have h1 := hQ.norm
  have h2 := hQ.shift
  simp at k
  simp [h1, h2, k]

theorem slLo {sz : Nat} {l : List PV} {k : IntKind} {h : Int} (h0 : 0 ≤ h) (h1 : h ≤ l.length) (hs : headSz sz l = true) : evSlice false sz true false false [.pv (.lst l), .pv (.int k h)] = some (.pv (.lst (l.drop h.toNat))) := by
  simp [evSlice, elsOf, evBounds, h0, h1, hs]

theorem L182 {l : List En} (hS : Sm l) : ∀ (n i : Nat), l.length - i = n → i ≤ l.length → ∀ (acc : List En) (sh : Sh), acc.length ≤ i → Quiet sh → ∃ sh', Quiet sh' ∧
    cl AP g182L0 ⟨[(0, .pv (.lst (l.map En.pv))), (3, .own (acc.map En.pv) 0), (6, .pv (.lst (l.map En.pv))), (7, .pv (vI l.length)), (8, .pv (vI i))], [], sh, [acc.length]⟩ =
      some (.exit 0, ⟨[(0, .pv (.lst (l.map En.pv))), (3, .own ((acc ++ seenE (l.drop i)).map En.pv) 0), (6, .pv (.lst (l.map En.pv))), (7, .pv (vI l.length)), (8, .pv (vI l.length)), (9, .pv (.bool false))], [], sh', [(acc ++ seenE (l.drop i)).length]⟩)
  | 0, i, hn, hi, acc, sh, ha, hq => by
    have : i = l.length := by omega
    subst this
    refine ⟨sh, hq, ?_⟩
    rw [g182L0_eq]
    simp [g182B0, seenE, hq.norm]
  | n + 1, i, hn, hi, acc, sh, ha, hq => by
    have hi : i < l.length := by omega
    obtain ⟨x, hx⟩ := getO hi
    have hQ : Quiet (sh ++ [some (enC x)]) := hq.app (Quiet.one (by simp [enC]))
    have hSd : Sm (l.drop (i + 1)) := by unfold Sm at hS ⊢; simp; omega
    have k := c211 hSd sh hq x
    unfold Sm at hS
    have hb : (acc.length + 1) * 88 ≤ 140737488355328 := by omega
    have h1 := hQ.norm
    have h2 := hQ.shift
    have hsl := slLo (sz := 7) (l := l.map En.pv) (k := .i64) (h := (i : Int) + 1) (by omega) (by simp; omega) (by simp)
    have hd : ((i : Int) + 1).toNat = i + 1 := by omega
    rw [hd] at hsl
    rw [dropC hx]
    cases e : (l.drop (i + 1)).any fun y => decide (y.name = x.name) with
    | true =>
      obtain ⟨sh', hq', ih⟩ := L182 hS n (i + 1) (by omega) (by omega) acc (sh ++ [some (enC x)]) (by omega) hQ
      refine ⟨sh', hq', ?_⟩
      have es : seenE (x :: l.drop (i + 1)) = seenE (l.drop (i + 1)) := by simp only [seenE, e, if_true]
      rw [g182L0_eq] at ih ⊢
      rw [e] at k
      simp [enC] at k h1 h2
      simp [enC, h1] at ih
      simp (disch := omega) [-getElem?_pos, g182B0, hx, hi, wrap_id, hq.norm, hsl, k, h1, h2, es]
      rw [g182L0_eq]
      simp [ih, h1]
    | false =>
      obtain ⟨sh', hq', ih⟩ := L182 hS n (i + 1) (by omega) (by omega) (acc ++ [x]) (sh ++ [some (enC x)]) (by simp; omega) hQ
      refine ⟨sh', hq', ?_⟩
      have es : seenE (x :: l.drop (i + 1)) = x :: seenE (l.drop (i + 1)) := by simp only [seenE, e]; simp
      rw [g182L0_eq] at ih ⊢
      rw [e] at k
      simp [enC] at k h1 h2
      simp [enC, h1] at ih
      simp (disch := omega) [-getElem?_pos, g182B0, hx, hi, wrap_id, hq.norm, hsl, k, h1, h2, es, hb]
      rw [g182L0_eq]
      simp [ih, h1]

theorem c182 {l : List En} (hS : Sm l) : (orcL AP).p 182 [.lst (l.map En.pv)] = some [.lst ((seenE l).map En.pv)] := by
  obtain ⟨sh', hq, h⟩ := L182 hS _ 0 rfl (by omega) [] [] (by simp) (by intro cs hc; simp at hc)
  rw [callP_body (af := g182) rfl rfl (by decide)]
  rw [g182L0_eq] at h
  simp at h
  simp [g182, g182L0_eq, h]

/-! ### What a name means -/
theorem seen_sub (l : List En) : ∀ x ∈ seenE l, x ∈ l := by
  induction l with
  | nil => simp [seenE]
  | cons a r ih =>
    intro x hx
    simp only [seenE] at hx
    split at hx
    · simp [ih x hx]
    · simp at hx; rcases hx with rfl | hx
      · simp
      · simp [ih x hx]
theorem seen_len (l : List En) : (seenE l).length ≤ l.length := by
  induction l with
  | nil => simp [seenE]
  | cons a r ih =>
    simp only [seenE]
    split <;> simp <;> omega

/-! ### What law 19 makes -/
def varNames : List (List UInt8) := [[120], [121], [122], [102], [103], [118, 49], [118, 50], [105, 100]]
/-- Quantifying some variables. -/
def closeS (ids : List Int) : List Int → List As → List As
  | [], acc => acc
  | v :: r, acc => closeS ids r (if v ∈ ids then acc ++ [⟨v, tyBound acc.length⟩] else acc)
def closeSc (ids : List Int) (t : Ty) (vs : List Int) : Sc := ⟨(closeS ids vs []).length, t.sub (closeS ids vs [])⟩

theorem closeS_len {ids : List Int} : ∀ (vs : List Int) (acc : List As), (closeS ids vs acc).length ≤ acc.length + vs.length
  | [], acc => by simp [closeS]
  | v :: r, acc => by
    simp only [closeS]
    have := closeS_len (ids := ids) r (if v ∈ ids then acc ++ [⟨v, tyBound acc.length⟩] else acc)
    split at this <;> simp at this ⊢ <;> (split <;> simp_all <;> omega)

/-- Types whose variables are few. -/
structure FewV (t : Ty) : Prop where
  ok : t.Ok
  wf : t.Wf
  few : ∃ S : List Ty, S.length < 1099511627776 ∧ (∀ x ∈ S, x.Ok) ∧ ∀ x ∈ t.lvs 1, x ∈ S

end Go.Ab.Lw
namespace Go.Ab.Lw
open Ev
set_option maxRecDepth 10000
set_option linter.unusedSimpArgs false
theorem c70_3 {sh : Sh} (h : Calm sh) : (orcL AP).i 70 [.pv (vI 3)] sh [] = some ([.own ([tyVar 0, tyVar 1, tyVar 2].map Ty.pv) 0], sh, [3]) := by
  unfold Calm at h
  rw [callI_body (af := g70) rfl (by decide)]
  have c0 := c63 (n := 0); have c1 := c63 (n := 1); have c2 := c63 (n := 2)
  simp at c0 c1 c2
  simp (disch := omega) [-getElem?_pos, g70, g70L0_eq, g70B0, wrap_id, c0, c1, c2, h, tyVar]

/-- The leaves of a made type are among the leaves. -/
theorem Made.lvs {lv : Ty → Prop} (h : ∀ t, lv t → t.args = []) {t : Ty} (m : Made lv t) {k : Int} (hk : k ≠ 4) : ∀ x ∈ t.lvs k, lv x := by
  induction m with
  | leaf hl =>
    intro x hx
    rw [Ty.lvs_eq, h _ hl] at hx
    split at hx
    · simp at hx; subst hx; exact hl
    · simp at hx
  | int =>
    intro x hx
    rw [Ty.lvs_eq] at hx
    simp [tyInt] at hx
    exact absurd hx.1.symm hk
  | con hd hl _ ih =>
    intro x hx
    rw [Ty.lvs_eq] at hx
    split at hx
    · rename_i e; exact absurd e.1.symm hk
    · simp only [List.mem_flatMap] at hx
      obtain ⟨y, hy, hx⟩ := hx
      exact ih y hy x hx
  | arrow _ _ ha hb =>
    intro x hx
    rw [Ty.lvs_eq] at hx
    simp at hx
    rcases hx with hx | hx
    · exact ha x hx
    · exact hb x hx
theorem bare_ok {t : Ty} (h : t.args = []) : t.Ok := ⟨by rw [h]; simp [Sm], by rw [h]; simp⟩
theorem Made.few {lv : List Ty} (hl : lv.length < 1099511627776) (h : ∀ t, t ∈ lv → t.args = []) {t : Ty} (m : Made (· ∈ lv) t) : FewV t :=
  ⟨m.ok h, m.wf h, lv, hl, fun x hx => bare_ok (h x hx), m.lvs h (by decide)⟩

theorem closeS_ok {ids : List Int} : ∀ (vs : List Int) (acc : List As), (∀ a ∈ acc, a.ty.Ok) → ∀ a ∈ closeS ids vs acc, a.ty.Ok
  | [], acc, h => by simpa [closeS] using h
  | v :: r, acc, h => by
    simp only [closeS]
    refine closeS_ok r _ ?_
    split
    · intro a ha
      simp at ha
      rcases ha with ha | rfl
      · exact h a ha
      · exact bare_ok rfl
    · exact h
theorem closeSc_ok {ids vs : List Int} {t : Ty} (h : t.Ok) : (closeSc ids t vs).ty.Ok := sub_ok (closeS_ok vs [] (by simp)) h

/-- A made entry. -/
def MadeE (lv : List Ty) (x : En) : Prop := x.name ∈ varNames ∧ ∃ t, Made (· ∈ lv) t ∧ (x.sc = ⟨0, t⟩ ∨ ∃ ids : List Int, ids.length = 2 ∧ x.sc = closeSc ids t (vars [t]))
theorem MadeE.ok {lv : List Ty} (h : ∀ t, t ∈ lv → t.args = []) {x : En} (m : MadeE lv x) : x.sc.ty.Ok := by
  obtain ⟨_, t, mt, e | ⟨ids, _, e⟩⟩ := m
  · rw [e]; exact mt.ok h
  · rw [e]; exact closeSc_ok (mt.ok h)

end Go.Ab.Lw
namespace Go.Ab.Lw
open Ev
set_option maxRecDepth 10000
set_option linter.unusedSimpArgs false
/-- A made type over leaves and data types. -/
inductive MadeG (D : Dt → Prop) (lv : List Ty) : Nat → Ty → Prop
  | leaf {n : Nat} {t : Ty} : t ∈ lv → MadeG D lv n t
  | int {n : Nat} : MadeG D lv n tyInt
  | con {n : Nat} {d : Dt} {args : List Ty} : D d → args.length = d.params.length → (∀ x ∈ args, MadeG D lv n x) → MadeG D lv (n + 1) ⟨4, d.name, 0, 0, args⟩
  | arrow {n : Nat} {a b : Ty} : MadeG D lv n a → MadeG D lv n b → MadeG D lv (n + 1) ⟨4, [45, 62], 0, 0, [a, b]⟩

/-- What the maker of types gives at a depth. -/
def GivesG (L : List Int) (ds : List Dt) (lv : List Ty) (dep : Nat) : Prop := ∀ i : Nat, i ≤ L.length → ∃ (t : Ty) (j : Nat),
  (orcL AP).i 27 [.sptr 0 0, .pv (.lst (ds.map Dt.pv)), .pv (.lst (lv.map Ty.pv)), .pv (vI dep)] (tp L i) [] = some ([t.av], tp L j, []) ∧ MadeG (· ∈ ds) lv dep t ∧ j ≤ L.length

theorem L27g {L : List Int} {ds : List Dt} {lv : List Ty} {dep : Nat} (hdep : dep < 1000) (hg : GivesG L ds lv dep) {d : Dt} (hS : Sm d.params) : ∀ (n k : Nat), d.params.length - k = n → k ≤ d.params.length → ∀ (acc : List Ty) (i : Nat), acc.length = k → (∀ x ∈ acc, MadeG (· ∈ ds) lv dep x) → i ≤ L.length →
    ∃ (r : List Ty) (j : Nat), cl AP g27L0 ⟨[(0, .sptr 0 0), (1, .pv (.lst (ds.map Dt.pv))), (2, .pv (.lst (lv.map Ty.pv))), (3, .pv (vI (dep + 1))), (8, .lptr 8 0), (10, .lptr 10 0), (11, .own (acc.map Ty.pv) 0), (12, .pv (vI k))],
      [(8, [.pv (vI 0), .pv (.str []), .pv (vI 0), .pv (vI 0), .own [] 1]), (10, [.pv (vI d.pos), .pv (.str d.name), .pv (.lst (d.params.map .str)), .pv (.lst (d.cons.map Con.pv))])], tp L i, [acc.length, 0]⟩ =
      some (.exit 1, ⟨[(0, .sptr 0 0), (1, .pv (.lst (ds.map Dt.pv))), (2, .pv (.lst (lv.map Ty.pv))), (3, .pv (vI (dep + 1))), (8, .lptr 8 0), (10, .lptr 10 0), (11, .own (r.map Ty.pv) 0), (12, .pv (vI d.params.length)), (65, .pv (.bool false))],
      [(8, [.pv (vI 0), .pv (.str []), .pv (vI 0), .pv (vI 0), .own [] 1]), (10, [.pv (vI d.pos), .pv (.str d.name), .pv (.lst (d.params.map .str)), .pv (.lst (d.cons.map Con.pv))])], tp L j, [r.length, 0]⟩) ∧
      r.length = d.params.length ∧ (∀ x ∈ r, MadeG (· ∈ ds) lv dep x) ∧ j ≤ L.length
  | 0, k, hn, hk, acc, i, ha, hm, hi => by
    have : k = d.params.length := by omega
    subst this
    refine ⟨acc, i, ?_, ha, hm, hi⟩
    rw [g27L0_eq]
    simp [g27B0]
  | n + 1, k, hn, hk, acc, i, ha, hm, hi => by
    unfold Sm at hS
    have hk : k < d.params.length := by omega
    have hb : (acc.length + 1) * 64 ≤ 140737488355328 := by omega
    obtain ⟨t, j, e, mt, hj⟩ := hg i hi
    simp at e
    obtain ⟨r, j', e', hr, hm', hj'⟩ := L27g hdep hg hS n (k + 1) (by omega) (by omega) (acc ++ [t]) j (by simp; omega) (by
      intro x hx; simp at hx; rcases hx with hx | rfl
      · exact hm x hx
      · exact mt) hj
    simp at e'
    refine ⟨r, j', ?_, hr, hm', hj'⟩
    rw [g27L0_eq]
    have h1 : (dep : Int) + 1 - 1 = dep := by omega
    simp (disch := omega) [-getElem?_pos, g27B0, hk, wrap_id, h1, e, hb]
    rw [e']

theorem g27_0 {L : List Int} (hL : Sm L) {ds : List Dt} {lv : List Ty} (hlv : Sm lv) : GivesG L ds lv 0 := by
  intro i hi
  obtain ⟨k, j1, e1, k0, k7, hj1⟩ := c68 hL hi (n := 7) (by omega) (by omega)
  simp at e1
  unfold Sm at hlv
  by_cases h1 : k < 3
  · by_cases h2 : lv = []
    · subst h2
      refine ⟨tyInt, j1, ?_, .int, hj1⟩
      have c := c34
      simp at c
      rw [callI_body (af := g27) rfl (by simp [g27])]
      simp [-getElem?_pos, g27, e1, h1, c, tyInt]
    · have hp : 0 < lv.length := List.length_pos_iff.2 h2
      obtain ⟨r, j2, e2, r0, r1, hj2⟩ := c68 hL hj1 (n := lv.length) (by omega) (by omega)
      obtain ⟨m, rfl, hm⟩ := natI r0 r1
      obtain ⟨x, hx⟩ := getO hm
      simp at e2
      refine ⟨x, j2, ?_, .leaf (memO hx), hj2⟩
      rw [callI_body (af := g27) rfl (by simp [g27])]
      simp [-getElem?_pos, g27, e1, h1, hp, e2, hx]
  · refine ⟨tyInt, j1, ?_, .int, hj1⟩
    have c := c34
    simp at c
    rw [callI_body (af := g27) rfl (by simp [g27])]
    simp [-getElem?_pos, g27, e1, h1, c, tyInt]

theorem g27_s {L : List Int} (hL : Sm L) {ds : List Dt} (hds : ds.length ≤ 20) (hda : ∀ d ∈ ds, d.params.length ≤ 8) {lv : List Ty} (hlv : Sm lv) {dep : Nat} (hdep : dep < 1000) (hg : GivesG L ds lv dep) : GivesG L ds lv (dep + 1) := by
  intro i hi
  obtain ⟨k, j1, e1, k0, k7, hj1⟩ := c68 hL hi (n := 7) (by omega) (by omega)
  simp at e1
  unfold Sm at hlv
  have hd1 : ¬ ((dep : Int) + 1 < 1) := by omega
  have hd2 : (dep : Int) + 1 - 1 = dep := by omega
  have leafCase : ∀ h1 : k < 3, ∀ h2 : ¬ lv = [], ∃ (t : Ty) (j : Nat), (orcL AP).i 27 [.sptr 0 0, .pv (.lst (ds.map Dt.pv)), .pv (.lst (lv.map Ty.pv)), .pv (vI ((dep + 1 : Nat) : Int))] (tp L i) [] = some ([t.av], tp L j, []) ∧ MadeG (· ∈ ds) lv (dep + 1) t ∧ j ≤ L.length := by
    intro h1 h2
    have hp : 0 < lv.length := List.length_pos_iff.2 h2
    obtain ⟨r, j2, e2, r0, r1, hj2⟩ := c68 hL hj1 (n := lv.length) (by omega) (by omega)
    obtain ⟨m, rfl, hm⟩ := natI r0 r1
    obtain ⟨x, hx⟩ := getO hm
    simp at e2
    refine ⟨x, j2, ?_, .leaf (memO hx), hj2⟩
    rw [callI_body (af := g27) rfl (by simp [g27])]
    simp [-getElem?_pos, g27, e1, h1, hp, e2, hx]
  by_cases h1 : k < 3 ∧ ¬ lv = []
  · exact leafCase h1.1 h1.2
  · have h1' : ¬ k < 3 ∨ lv = [] := by
      by_cases h : k < 3
      · right; by_cases h' : lv = []
        · exact h'
        · exact absurd ⟨h, h'⟩ h1
      · exact .inl h
    by_cases h2 : k < 4
    · refine ⟨tyInt, j1, ?_, .int, hj1⟩
      have c := c34
      simp at c
      rw [callI_body (af := g27) rfl (by simp [g27])]
      rcases h1' with h | h
      · simp [-getElem?_pos, g27, e1, h, h2, c, tyInt]
      · subst h
        simp [-getElem?_pos, g27, e1, h2, c, tyInt]
    · have h3 : ¬ k < 3 := by omega
      by_cases h4 : (k = 4 ∨ k = 5) ∧ ¬ ds = []
      · obtain ⟨h4, h5⟩ := h4
        have hp : 0 < ds.length := List.length_pos_iff.2 h5
        obtain ⟨r, j2, e2, r0, r1, hj2⟩ := c68 hL hj1 (n := ds.length) (by omega) (by omega)
        obtain ⟨m, rfl, hm⟩ := natI r0 r1
        obtain ⟨d, hx⟩ := getO hm
        simp at e2
        have hdm := memO hx
        have hps : Sm d.params := by
          unfold Sm
          have := hda d hdm
          omega
        obtain ⟨as, j3, e3, ha, hm3, hj3⟩ := L27g hdep hg hps d.params.length 0 rfl (by omega) [] j2 rfl (by simp) hj2
        rw [g27L0_eq] at e3
        simp at e3
        have hsa : Sm as := by unfold Sm at hps ⊢; omega
        have c := c62 (s := d.name) (l := as) hsa
        simp at c
        refine ⟨⟨4, d.name, 0, 0, as⟩, j3, ?_, .con hdm ha hm3, hj3⟩
        rw [callI_body (af := g27) rfl (by simp [g27])]
        rcases h4 with rfl | rfl
        · simp [-getElem?_pos, g27, e1, hp, hd1, e2, hx, g27L0_eq, e3, c]
        · simp [-getElem?_pos, g27, e1, hp, hd1, e2, hx, g27L0_eq, e3, c]
      · obtain ⟨a, j2, ea, ma, hj2⟩ := hg j1 hj1
        obtain ⟨b, j3, eb, mb, hj3⟩ := hg j2 hj2
        simp at ea eb
        have c := c69 (a := a) (b := b)
        simp at c
        refine ⟨⟨4, [45, 62], 0, 0, [a, b]⟩, j3, ?_, .arrow ma mb, hj3⟩
        rw [callI_body (af := g27) rfl (by simp [g27])]
        by_cases h5 : ds = []
        · subst h5
          simp at ea eb
          simp (disch := omega) [-getElem?_pos, g27, e1, h2, h3, hd1, hd2, wrap_id, ea, eb, c]
        · have h6 : ¬ k = 4 ∧ ¬ k = 5 := by
            constructor
            · intro h; exact h4 ⟨.inl h, h5⟩
            · intro h; exact h4 ⟨.inr h, h5⟩
          simp (disch := omega) [-getElem?_pos, g27, e1, h2, h3, h6.1, h6.2, hd1, hd2, wrap_id, ea, eb, c]
theorem mk27 {L : List Int} (hL : Sm L) {ds : List Dt} (hds : ds.length ≤ 20) (hda : ∀ d ∈ ds, d.params.length ≤ 8) {lv : List Ty} (hlv : Sm lv) : ∀ dep : Nat, dep < 1000 → GivesG L ds lv dep
  | 0, _ => g27_0 hL hlv
  | dep + 1, h => g27_s hL hds hda hlv (by omega) (mk27 hL hds hda hlv dep (by omega))

theorem MadeG.ok {D : Dt → Prop} (hD : ∀ d, D d → d.params.length ≤ 8) {lv : List Ty} (h : ∀ t ∈ lv, t.args = []) {n : Nat} {t : Ty} (m : MadeG D lv n t) : t.Ok := by
  induction m with
  | leaf hl => exact bare_ok (h _ hl)
  | int => exact bare_ok rfl
  | con hd hl _ ih => exact ⟨by have := hD _ hd; unfold Sm; simp; omega, ih⟩
  | arrow _ _ ha hb => exact ⟨by simp [Sm], by intro x hx; simp at hx; rcases hx with rfl | rfl <;> assumption⟩
theorem sum_le {f : Ty → List Ty} {b : Nat} : ∀ {l : List Ty}, (∀ x ∈ l, (f x).length ≤ b) → (l.flatMap f).length ≤ l.length * b
  | [], _ => by simp
  | a :: r, h => by
    have h1 := h a (by simp)
    have h2 := sum_le (f := f) (b := b) (l := r) (fun x hx => h x (by simp [hx]))
    simp only [List.flatMap_cons, List.length_append, List.length_cons, Nat.add_mul]
    omega
/-- Made types are small. -/
theorem MadeG.small {D : Dt → Prop} (hD : ∀ d, D d → d.params.length ≤ 8) {lv : List Ty} (h : ∀ t ∈ lv, t.args = []) {n : Nat} {t : Ty} (m : MadeG D lv n t) : t.nodes.length ≤ 9 ^ n := by
  have one : ∀ n : Nat, 1 ≤ 9 ^ n := fun n => Nat.one_le_pow n 9 (by decide)
  induction m with
  | leaf hl => rw [Ty.nodes_eq, h _ hl]; simpa using one _
  | int => rw [Ty.nodes_eq]; simpa [tyInt] using one _
  | @con n d args hd hl _ ih =>
    rw [Ty.nodes_eq]
    have h1 := sum_le (f := Ty.nodes) (l := args) ih
    have h2 := hD _ hd
    have h3 := one n
    have h4 : args.length * 9 ^ n ≤ 8 * 9 ^ n := Nat.mul_le_mul_right _ (by omega)
    simp only [List.length_cons, Nat.pow_succ]
    omega
  | @arrow n a b _ _ ha hb =>
    rw [Ty.nodes_eq]
    have h3 := one n
    simp only [List.length_cons, List.flatMap_cons, List.flatMap_nil, List.append_nil, List.length_append, Nat.pow_succ]
    omega
theorem MadeG.made {D : Dt → Prop} (hD : ∀ d, D d → d ∈ allDatas) {lv : List Ty} {n : Nat} {t : Ty} (m : MadeG D lv n t) : Made (· ∈ lv) t := by
  induction m with
  | leaf hl => exact .leaf hl
  | int => exact .int
  | con hd hl _ ih => exact .con (hD _ hd) hl ih
  | arrow _ _ ha hb => exact .arrow ha hb
end Go.Ab.Lw
namespace Go.Ab.Lw
open Ev
set_option maxRecDepth 10000
set_option linter.unusedSimpArgs false
abbrev Txt := List UInt8
def tyC (t : Ty) : List AV := [.pv (vI t.kind), .pv (.str t.name), .pv (vI t.id), .pv (vI t.home), .pv (.lst (t.args.map Ty.pv))]
@[simp] theorem tyC_eq (t : Ty) : tyC t = [.pv (vI t.kind), .pv (.str t.name), .pv (vI t.id), .pv (vI t.home), .pv (.lst (t.args.map Ty.pv))] := rfl

/-- Only constructed types have parts. -/
inductive Ty.Cw : Ty → Prop
  | mk {t : Ty} : (t.kind ≠ 4 → t.args = []) → (∀ x ∈ t.args, Ty.Cw x) → Ty.Cw t
theorem Ty.Cw.kid {t : Ty} (h : t.Cw) : ∀ x ∈ t.args, x.Cw := by cases h; assumption
theorem MadeG.cw {D : Dt → Prop} {lv : List Ty} (h : ∀ t ∈ lv, t.args = []) {n : Nat} {t : Ty} (m : MadeG D lv n t) : t.Cw := by
  induction m with
  | leaf hl => exact ⟨fun _ => h _ hl, by rw [h _ hl]; simp⟩
  | int => exact ⟨by simp [tyInt], by simp [tyInt]⟩
  | con hd hl _ ih => exact ⟨by simp, ih⟩
  | arrow _ _ ha hb => exact ⟨by simp, by intro x hx; simp at hx; rcases hx with rfl | rfl <;> assumption⟩

end Go.Ab.Lw
namespace Go.Ab.Lw
open Ev
set_option maxRecDepth 10000
set_option linter.unusedSimpArgs false
/-- Types where places have no parts. -/
inductive Ty.Wb : Ty → Prop
  | mk {t : Ty} : (t.kind = 2 → t.args = []) → (∀ x ∈ t.args, Ty.Wb x) → Ty.Wb t
theorem Ty.Wb.var {t : Ty} (h : t.Wb) : t.kind = 2 → t.args = [] := by cases h; assumption
theorem Ty.Wb.kid {t : Ty} (h : t.Wb) : ∀ x ∈ t.args, x.Wb := by cases h; assumption
end Go.Ab.Lw
namespace Go.Ab.Lw
open Ev
set_option maxRecDepth 10000
set_option linter.unusedSimpArgs false
def addNm (out : List Txt) (x : Txt) : List Txt := if x ∈ out then out else out ++ [x]
structure CollN (S out : List Txt) : Prop where
  nodup : out.Nodup
  sub : ∀ x ∈ out, x ∈ S
  few : S.length < 1099511627776
theorem CollN.len {S out : List Txt} (h : CollN S out) : Sm out := by
  have := nodup_len h.nodup h.sub
  have := h.few
  unfold Sm; omega
theorem CollN.put {S out : List Txt} (h : CollN S out) {x : Txt} (hx : x ∈ S) : CollN S (addNm out x) := by
  unfold addNm
  split
  · exact h
  · rename_i e
    refine ⟨?_, ?_, h.few⟩
    · rw [List.nodup_append]
      refine ⟨h.nodup, by simp, ?_⟩
      intro a ha b hb
      simp at hb
      subst hb
      intro e'; subst e'; exact e ha
    · intro y hy
      simp at hy
      rcases hy with hy | rfl
      · exact h.sub y hy
      · exact hx
theorem CollN.fold {S : List Txt} : ∀ {l : List Txt} {out : List Txt}, CollN S out → (∀ x ∈ l, x ∈ S) → CollN S (l.foldl addNm out)
  | [], _, h, _ => h
  | x :: r, out, h, hx => by
    simp only [List.foldl_cons]
    exact CollN.fold (h.put (hx x (by simp))) (fun y hy => hx y (by simp [hy]))
end Go.Ab.Lw
namespace Go.Ab.Lw
/-- An arm over bodies. -/
structure ArmOf (E : Type) where
  pos : Int
  con : List UInt8
  vars : List (List UInt8)
  body : E

/-- An expression. -/
structure Ex where
  kind : Int
  pos : Int
  name : List UInt8
  num : Int
  kids : List Ex
  arms : List (ArmOf Ex)
  ty : Ty

abbrev Ar := ArmOf Ex

def tyZ : Ty := ⟨0, [], 0, 0, []⟩
instance : Inhabited Ex := ⟨⟨0, 0, [], 0, [], [], tyZ⟩⟩
instance : Inhabited Ar := ⟨⟨0, [], [], default⟩⟩

/-- The cells of a type. -/
def Ty.cells (t : Ty) : List PV := [.int .i64 t.kind, .str t.name, .int .i64 t.id, .int .i64 t.home, .lst (t.args.map Ty.pv)]

mutual
def Ex.cells : Ex → List PV
  | ⟨k, p, n, m, ks, as, t⟩ => .int .i64 k :: .int .i64 p :: .str n :: .int .i64 m :: .lst (Ex.pvs ks) :: .lst (Ex.avs as) :: t.cells
def Ex.pvs : List Ex → List PV
  | [] => []
  | e :: r => .agg (Ex.cells e) :: Ex.pvs r
def Ex.avs : List (ArmOf Ex) → List PV
  | [] => []
  | ⟨p, c, v, b⟩ :: r => .agg (.int .i64 p :: .str c :: .lst (v.map .str) :: Ex.cells b) :: Ex.avs r
end

def Ex.pv (e : Ex) : PV := .agg e.cells
def Ar.pv (a : Ar) : PV := .agg (.int .i64 a.pos :: .str a.con :: .lst (a.vars.map .str) :: a.body.cells)

theorem Ex.pvs_map : ∀ l : List Ex, Ex.pvs l = l.map Ex.pv
  | [] => by simp [Ex.pvs]
  | e :: r => by simp [Ex.pvs, Ex.pvs_map r, Ex.pv]
theorem Ex.avs_map : ∀ l : List Ar, Ex.avs l = l.map Ar.pv
  | [] => by simp [Ex.avs]
  | ⟨p, c, v, b⟩ :: r => by simp [Ex.avs, Ex.avs_map r, Ar.pv]
theorem Ex.cells_eq (e : Ex) : e.cells = [.int .i64 e.kind, .int .i64 e.pos, .str e.name, .int .i64 e.num, .lst (e.kids.map Ex.pv), .lst (e.arms.map Ar.pv), .int .i64 e.ty.kind, .str e.ty.name, .int .i64 e.ty.id, .int .i64 e.ty.home, .lst (e.ty.args.map Ty.pv)] := by
  cases e; simp only [Ex.cells, Ex.pvs_map, Ex.avs_map, Ty.cells]
@[simp] theorem Ex.pv_eq (e : Ex) : e.pv = .agg [.int .i64 e.kind, .int .i64 e.pos, .str e.name, .int .i64 e.num, .lst (e.kids.map Ex.pv), .lst (e.arms.map Ar.pv), .int .i64 e.ty.kind, .str e.ty.name, .int .i64 e.ty.id, .int .i64 e.ty.home, .lst (e.ty.args.map Ty.pv)] := by
  rw [Ex.pv, Ex.cells_eq]
@[simp] theorem Ar.pv_eq (a : Ar) : a.pv = .agg [.int .i64 a.pos, .str a.con, .lst (a.vars.map .str), .int .i64 a.body.kind, .int .i64 a.body.pos, .str a.body.name, .int .i64 a.body.num, .lst (a.body.kids.map Ex.pv), .lst (a.body.arms.map Ar.pv), .int .i64 a.body.ty.kind, .str a.body.ty.name, .int .i64 a.body.ty.id, .int .i64 a.body.ty.home, .lst (a.body.ty.args.map Ty.pv)] := by
  rw [Ar.pv, Ex.cells_eq]

/-- What a struct of an expression looks like out of pure cells. -/
def Ex.av (e : Ex) : AV := .agg [.pv (vI e.kind), .pv (vI e.pos), .pv (.str e.name), .pv (vI e.num), .pv (.lst (e.kids.map Ex.pv)), .pv (.lst (e.arms.map Ar.pv)), .pv (vI e.ty.kind), .pv (.str e.ty.name), .pv (vI e.ty.id), .pv (vI e.ty.home), .pv (.lst (e.ty.args.map Ty.pv))]

theorem el_ex : El Ex.pv 11 true := ⟨fun x => by simp, fun x => by simp⟩
theorem el_arm : El Ar.pv 14 true := ⟨fun x => by simp, fun x => by simp⟩
@[simp] theorem headSz_Ex {l : List Ex} : headSz 11 (l.map Ex.pv) = true := el_ex.head l
@[simp] theorem headSz_Ar {l : List Ar} : headSz 14 (l.map Ar.pv) = true := el_arm.head l

@[simp] theorem headSz_Str {l : List (List UInt8)} : headSz 1 (l.map PV.str) = true := el_str.head l
@[simp] theorem headSz_vI {l : List Int} : headSz 1 (l.map vI) = true := el_int.head l

@[simp] theorem Ex.eta (e : Ex) : Ex.mk e.kind e.pos e.name e.num e.kids e.arms e.ty = e := by cases e; rfl

theorem ArmOf.size_body (a : Ar) : SizeOf.sizeOf a.body < SizeOf.sizeOf a := by cases a; simp; omega

/-- A property of all expressions that are parts. -/
theorem Ex.rec1 {p : Ex → Prop} (h : ∀ e : Ex, (∀ x ∈ e.kids, p x) → (∀ a ∈ e.arms, p a.body) → p e) : ∀ e, p e
  | ⟨k, ps, n, m, ks, as, t⟩ => h _ (fun x _hx => Ex.rec1 h x) (fun a _ha => Ex.rec1 h a.body)
termination_by e => SizeOf.sizeOf e
decreasing_by
  · have := _root_.List.sizeOf_lt_of_mem _hx; simp at *; omega
  · have := _root_.List.sizeOf_lt_of_mem _ha; have := ArmOf.size_body a; simp at *; omega

end Go.Ab.Lw
namespace Go.Ab.Lw
open Ev
set_option maxRecDepth 10000
set_option linter.unusedSimpArgs false
abbrev names8 : List (List UInt8) := varNames

/-- A raw expression of a depth, over data types. -/
inductive RawE (ds : List Dt) : Nat → Ex → Prop
  | var {n : Nat} {s : List UInt8} : s ∈ names8 → RawE ds n ⟨1, 0, s, 0, [], [], tyZ⟩
  | int {n : Nat} {m : Int} : 0 ≤ m → m < 4 → RawE ds n ⟨3, 0, [], m, [], [], tyZ⟩
  | con {n : Nat} {d : Dt} {c : Con} : d ∈ ds → c ∈ d.cons → RawE ds n ⟨2, 0, c.name, 0, [], [], tyZ⟩
  | gone {n : Nat} : RawE ds n ⟨2, 0, [71, 111, 110, 101], 0, [], [], tyZ⟩
  | hole {n : Nat} : RawE ds n ⟨10, 0, [], 0, [], [], tyZ⟩
  | lam {n : Nat} {s : List UInt8} {a : Ex} : s ∈ names8 → RawE ds n a → RawE ds (n + 1) ⟨4, 0, s, 0, [a], [], tyZ⟩
  | app {n : Nat} {a b : Ex} : RawE ds n a → RawE ds n b → RawE ds (n + 1) ⟨5, 0, [], 0, [a, b], [], tyZ⟩
  | let_ {n : Nat} {k : Int} {s : List UInt8} {a b : Ex} : k = 6 ∨ k = 7 → s ∈ names8 → RawE ds n a → RawE ds n b → RawE ds (n + 1) ⟨k, 0, s, 0, [a, b], [], tyZ⟩
  | ann {n : Nat} {a : Ex} {t : Ty} : RawE ds n a → MadeG (· ∈ ds) [] 2 t → RawE ds (n + 1) ⟨9, 0, [], 0, [a], [], t⟩
  | held {n : Nat} {a : Ex} : RawE ds n a → RawE ds (n + 1) ⟨11, 0, [], 0, [a], [], tyZ⟩
  | up {n : Nat} {a : Ex} : RawE ds n a → RawE ds (n + 1) a
  | case_ {n : Nat} {d : Dt} {a : Ex} {as : List Ar} : d ∈ ds → RawE ds n a → as.length = d.cons.length → (∀ x ∈ as, RawE ds n x.body) → (∀ x ∈ as, x.pos = 0 ∧ ∀ v ∈ x.vars, v ∈ names8) →
      (∀ (i : Nat) (c : Con) (x : Ar), d.cons[i]? = some c → as[i]? = some x → x.con = c.name ∧ x.vars.length = c.fields.length) → RawE ds (n + 1) ⟨8, 0, [], 0, [a], as, tyZ⟩

end Go.Ab.Lw
namespace Go.Ab.Lw
open Ev
set_option maxRecDepth 10000
set_option linter.unusedSimpArgs false
/-- Data types of moderate size. -/
def D8 (d : Dt) : Prop := d.params.length ≤ 8 ∧ 0 < d.cons.length ∧ d.cons.length ≤ 8 ∧ ∀ c ∈ d.cons, c.fields.length ≤ 8
theorem all_D8 : ∀ d ∈ allDatas, D8 d := by
  intro d hd
  simp [allDatas] at hd
  rcases hd with rfl | rfl | rfl | rfl | rfl | rfl | rfl <;> simp [D8]

end Go.Ab.Lw
namespace Go.Ab.Lw
open Ev
set_option maxRecDepth 10000
set_option linter.unusedSimpArgs false
def listD : Dt := ⟨0, [76, 105, 115, 116], [[97]], [⟨14, [78, 105, 108], []⟩, ⟨20, [67, 111, 110, 115], [⟨5, [97], 0, 0, []⟩, ⟨4, [76, 105, 115, 116], 0, 0, [⟨5, [97], 0, 0, []⟩]⟩]⟩]⟩
def dT : Dt := ⟨0, [84], [[97]], []⟩
def dV : Dt := ⟨0, [86], [], []⟩
def ds9 : List Dt := [listD, dT, dV]
theorem namedL_bare : ∀ t, t ∈ namedL → t.args = [] := by
  intro t ht
  simp [namedL, tyNamed] at ht
  rcases ht with rfl | rfl | rfl <;> rfl

def nmT : List Txt := [[84], [85], [73, 110, 116], [76, 105, 115, 116], [86]]
def nmP : List Txt := [[97], [98], [99]]
/-- A made type of chapter 9. -/
abbrev Md9 (t : Ty) : Prop := MadeG (· ∈ ds9) namedL 2 t
structure COk (c : Con) : Prop where
  len : c.fields.length ≤ 2
  md : ∀ t ∈ c.fields, Md9 t
structure DOk (d : Dt) : Prop where
  name : d.name ∈ nmT
  plen : d.params.length ≤ 2
  par : ∀ p ∈ d.params, p ∈ nmP
  clen : d.cons.length ≤ 3
  con : ∀ c ∈ d.cons, COk c

def dcC (pos : Int) (name : Txt) (ps : List Txt) (cs : List Con) : List AV := [.pv (vI pos), .pv (.str name), .own (ps.map .str) 1, .own (cs.map Con.pv) 2]
@[simp] theorem dcC_eq (pos : Int) (name : Txt) (ps : List Txt) (cs : List Con) : dcC pos name ps cs = [.pv (vI pos), .pv (.str name), .own (ps.map .str) 1, .own (cs.map Con.pv) 2] := rfl

end Go.Ab.Lw
namespace Go.Ab.Lw
open Ev
set_option maxRecDepth 10000
set_option linter.unusedSimpArgs false
@[simp] theorem headSz_Con {l : List Con} : headSz 3 (l.map Con.pv) = true := by cases l <;> simp

theorem ds9_small : ∀ d : Dt, d ∈ ds9 → d.params.length ≤ 8 := by decide +kernel
theorem Md9.ok {t : Ty} (m : Md9 t) : t.Ok := MadeG.ok (D := (· ∈ ds9)) ds9_small namedL_bare m
theorem Md9.cw {t : Ty} (m : Md9 t) : t.Cw := MadeG.cw namedL_bare m
structure Small (ds : List Dt) : Prop where
  num : Sm ds
  par : ∀ d ∈ ds, Sm d.params
  con : ∀ d ∈ ds, Sm d.cons
  tot : Sm (ds.flatMap Dt.cons)
  fld : ∀ d ∈ ds, ∀ c ∈ d.cons, Sm c.fields ∧ (∀ x ∈ c.fields, x.Ok) ∧ ∀ x ∈ c.fields, x.Cw
theorem flat_le {l : List Dt} {b : Nat} (h : ∀ d ∈ l, d.cons.length ≤ b) : (l.flatMap Dt.cons).length ≤ l.length * b := by
  induction l with
  | nil => simp
  | cons a r ih =>
    have h1 := h a (by simp)
    have h2 := ih (fun x hx => h x (by simp [hx]))
    simp only [List.flatMap_cons, List.length_append, List.length_cons, Nat.add_mul]
    omega
theorem Small.of {ds : List Dt} (hl : ds.length ≤ 100) (h : ∀ d ∈ ds, d.params.length ≤ 100 ∧ d.cons.length ≤ 100 ∧ ∀ c ∈ d.cons, c.fields.length ≤ 100 ∧ (∀ x ∈ c.fields, x.Ok) ∧ ∀ x ∈ c.fields, x.Cw) : Small ds := by
  refine ⟨by unfold Sm; omega, fun d hd => by have := (h d hd).1; unfold Sm; omega, fun d hd => by have := (h d hd).2.1; unfold Sm; omega, ?_, ?_⟩
  · have := flat_le (l := ds) (b := 100) (fun d hd => (h d hd).2.1)
    unfold Sm; omega
  · intro d hd c hc
    obtain ⟨h1, h2, h3⟩ := (h d hd).2.2 c hc
    exact ⟨by unfold Sm; omega, h2, h3⟩
theorem DOk.small {d : Dt} (h : DOk d) : d.params.length ≤ 100 ∧ d.cons.length ≤ 100 ∧ ∀ c ∈ d.cons, c.fields.length ≤ 100 ∧ (∀ x ∈ c.fields, x.Ok) ∧ ∀ x ∈ c.fields, x.Cw := by
  have h1 := h.plen
  have h2 := h.clen
  refine ⟨by omega, by omega, fun c hc => ?_⟩
  have h3 := (h.con c hc).len
  exact ⟨by omega, fun x hx => Md9.ok ((h.con c hc).md x hx), fun x hx => Md9.cw ((h.con c hc).md x hx)⟩
end Go.Ab.Lw
namespace Go.Ab.Lw
open Ev
set_option maxRecDepth 10000
set_option linter.unusedSimpArgs false
def dtC (d : Dt) : List AV := [.pv (vI d.pos), .pv (.str d.name), .pv (.lst (d.params.map .str)), .pv (.lst (d.cons.map Con.pv))]
@[simp] theorem dtC_eq (d : Dt) : dtC d = [.pv (vI d.pos), .pv (.str d.name), .pv (.lst (d.params.map .str)), .pv (.lst (d.cons.map Con.pv))] := rfl
end Go.Ab.Lw
namespace Go.Ab.Lw
open Ev
set_option maxRecDepth 10000
set_option linter.unusedSimpArgs false
def mps (a b : List (PV × PV)) : Sh := [some [.mapc a], some [.mapc b]]
@[simp] theorem mps_eq (a b : List (PV × PV)) : mps a b = [some [.mapc a], some [.mapc b]] := rfl
def conC (c : Con) : List AV := [.pv (vI c.pos), .pv (.str c.name), .pv (.lst (c.fields.map Ty.pv))]
@[simp] theorem conC_eq (c : Con) : conC c = [.pv (vI c.pos), .pv (.str c.name), .pv (.lst (c.fields.map Ty.pv))] := rfl

end Go.Ab.Lw
namespace Go.Ab.Lw
open Ev
set_option maxRecDepth 10000
set_option linter.unusedSimpArgs false
theorem Small.app {a b : List Dt} (ha : Small a) (hb : Small b) (h : a.length + b.length ≤ 100) (ht : (a.flatMap Dt.cons).length + (b.flatMap Dt.cons).length < 1099511627776) : Small (a ++ b) := by
  refine ⟨by unfold Sm; simp; omega, ?_, ?_, by unfold Sm; rw [List.flatMap_append, List.length_append]; exact ht, ?_⟩
  · intro d hd; rcases List.mem_append.1 hd with h | h
    · exact ha.par d h
    · exact hb.par d h
  · intro d hd; rcases List.mem_append.1 hd with h | h
    · exact ha.con d h
    · exact hb.con d h
  · intro d hd; rcases List.mem_append.1 hd with h | h
    · exact ha.fld d h
    · exact hb.fld d h
end Go.Ab.Lw
namespace Go.Ab.Lw
open Ev
set_option maxRecDepth 10000
set_option linter.unusedSimpArgs false
/-- A type whose variables are among few. -/
structure Good (S : List Ty) (t : Ty) : Prop where
  ok : t.Ok
  wf : t.Wf
  sub : ∀ x ∈ t.lvs 1, x ∈ S

theorem nodes_var {t : Ty} (hW : t.Wf) : ∀ x ∈ t.nodes, x.kind = 1 → x ∈ t.lvs 1 := by
  revert hW
  refine Ty.rec1 (p := fun t => t.Wf → ∀ x ∈ t.nodes, x.kind = 1 → x ∈ t.lvs 1) ?_ t
  intro t ih hW x hx hk
  rw [Ty.nodes_eq] at hx
  rw [Ty.lvs_eq]
  simp only [List.mem_cons, List.mem_flatMap] at hx
  rcases hx with rfl | ⟨y, hy, hx⟩
  · have ea := hW.var hk
    simp [hk, ea]
  · have : ¬ (t.kind = 1 ∧ t.args.length = 0) := by
      rintro ⟨_, h⟩
      have : t.args = [] := by simpa using h
      rw [this] at hy; simp at hy
    rw [if_neg this]
    simp only [List.mem_flatMap]
    exact ⟨y, hy, ih y hy (hW.kid y hy) x hx hk⟩

theorem sub_lvs {s : List As} (hs : ∀ a ∈ s, a.ty.lvs 1 = []) {t : Ty} (hW : t.Wf) : ∀ x ∈ (t.sub s).lvs 1, x ∈ t.lvs 1 := by
  revert hW
  refine Ty.rec1 (p := fun t => t.Wf → ∀ x ∈ (t.sub s).lvs 1, x ∈ t.lvs 1) ?_ t
  intro t ih hW x hx
  rw [Ty.sub_eq] at hx
  split at hx
  · rename_i hk
    cases hf : fnd s t.id with
    | none => rw [hf] at hx; exact hx
    | some a =>
      rw [hf] at hx
      obtain ⟨b, hb, rfl⟩ := fnd_mem hf
      rw [Option.getD_some, hs b hb] at hx
      simp at hx
  · rename_i hk
    rw [Ty.lvs_eq] at hx
    rw [if_neg (fun h => hk h.1)] at hx
    rw [Ty.lvs_eq, if_neg (fun h => hk h.1)]
    simp only [List.mem_flatMap, List.mem_map] at hx ⊢
    obtain ⟨_, ⟨y, hy, rfl⟩, hx⟩ := hx
    exact ⟨y, hy, ih y hy (hW.kid y hy) x hx⟩
theorem closeS_all {P : Ty → Prop} (hP : ∀ n : Int, P (tyBound n)) {ids : List Int} : ∀ (vs : List Int) (acc : List As), (∀ a ∈ acc, P a.ty) → ∀ a ∈ closeS ids vs acc, P a.ty
  | [], acc, h => by simpa [closeS] using h
  | v :: r, acc, h => by
    simp only [closeS]
    refine closeS_all hP r _ ?_
    split
    · intro a ha
      simp at ha
      rcases ha with ha | rfl
      · exact h a ha
      · exact hP _
    · exact h
theorem tyBound_wf {n : Int} : (tyBound n).Wf := ⟨by simp [tyBound], by simp [tyBound]⟩
theorem tyBound_lvs {n : Int} : (tyBound n).lvs 1 = [] := by rw [Ty.lvs_eq]; simp [tyBound]
theorem Good.close {S : List Ty} {t : Ty} (h : Good S t) (ids vs : List Int) : Good S (closeSc ids t vs).ty where
  ok := closeSc_ok h.ok
  wf := sub_wf (closeS_all (P := Ty.Wf) (fun _ => tyBound_wf) vs [] (by simp)) h.wf
  sub := fun x hx => h.sub x (sub_lvs (closeS_all (P := fun t => t.lvs 1 = []) (fun _ => tyBound_lvs) vs [] (by simp)) h.wf x hx)
theorem Made.good {lv : List Ty} (h : ∀ t, t ∈ lv → t.args = []) {t : Ty} (m : Made (· ∈ lv) t) : Good lv t := ⟨m.ok h, m.wf h, m.lvs h (by decide)⟩
theorem MadeE.good {lv : List Ty} (h : ∀ t, t ∈ lv → t.args = []) {x : En} (m : MadeE lv x) : Good lv x.sc.ty := by
  obtain ⟨_, t, mt, e | ⟨ids, _, e⟩⟩ := m
  · rw [e]; exact mt.good h
  · rw [e]; exact (mt.good h).close _ _

theorem g55 {S : List Ty} (hf : S.length < 1099511627776) {l : List Ty} (hS : Sm l) (hG : ∀ t ∈ l, Good S t) : (orcL AP).p 55 [.lst (l.map Ty.pv)] = some [.lst ((vars l).map vI)] := by
  refine c55 (S := S.map Ty.id) (by simpa using hf) hS (fun t ht => (hG t ht).ok) ?_
  intro x hx hk
  simp only [List.mem_flatMap] at hx
  obtain ⟨t, ht, hx⟩ := hx
  exact List.mem_map_of_mem ((hG t ht).sub x (nodes_var (hG t ht).wf x hx hk))
theorem g56 {S : List Ty} (hf : S.length < 1099511627776) (hO : ∀ x ∈ S, x.Ok) {l : List Ty} (hS : Sm l) (hG : ∀ t ∈ l, Good S t) : (orcL AP).p 56 [.lst (l.map Ty.pv)] = some [.lst ((vars l).map vI)] := by
  rw [← refVars_eq (fun t ht => (hG t ht).wf)]
  refine c56 hf hO hS (fun t ht => (hG t ht).ok) ?_
  intro x hx
  simp only [List.mem_flatMap] at hx
  obtain ⟨t, ht, hx⟩ := hx
  exact (hG t ht).sub x hx

/-! ### The reference's -/
/-- The free variables of a context. -/
def freeE (l : List En) : List Int := vars ((seenE l).map fun x => x.sc.ty)
end Go.Ab.Lw
namespace Go.Ab.Lw
open Ev
set_option maxRecDepth 10000
set_option linter.unusedSimpArgs false
def shN (out : List Int) : Sh := [none, some [.own (out.map vI) 0]]
theorem c97n {S out : List Int} (h : Coll S out) (x : Ty) : (orcL AP).i 97 [.pv x.pv, .sptr 1 0] (shN out) [out.length] = some ([], shN (addI out x), [(addI out x).length]) := by
  have hl := h.len
  have k := c98 hl (y := x.id)
  unfold Sm at hl
  have hb : (out.length + 1) * 8 ≤ 140737488355328 := by omega
  have hh : headSz 1 (out.map vI) = true := el_int.head out
  rw [callI_body (af := g97) rfl (by simp [g97])]
  by_cases e1 : x.kind = 1
  · by_cases e2 : x.id ∈ out
    · rw [decide_eq_true e2] at k
      simp [g97, shN, addI, e1, e2, k, hh]
    · rw [decide_eq_false e2] at k
      simp [g97, shN, addI, e1, e2, k, hb, hh]
  · simp [g97, shN, addI, e1]

theorem L96n {S : List Int} {t : Ty} (hS : Sm t.args) (h : ∀ x ∈ t.args, ∀ out, Coll S out → (orcL AP).i 96 [.pv x.pv, .fn 97 [.sptr 1 0]] (shN out) [out.length] = some ([], shN (x.nodes.foldl addI out), [(x.nodes.foldl addI out).length]))
    (hk : ∀ x ∈ t.args.flatMap Ty.nodes, x.kind = 1 → x.id ∈ S) : ∀ (n i : Nat), t.args.length - i = n → i ≤ t.args.length → ∀ out, Coll S out →
    cl AP g96L0 ⟨[(1, .fn 97 [.sptr 1 0]), (10, .pv (.lst (t.args.map Ty.pv))), (11, .pv (vI t.args.length)), (12, .pv (vI i))], [], shN out, [out.length]⟩ =
      some (.exit 0, ⟨[(1, .fn 97 [.sptr 1 0]), (10, .pv (.lst (t.args.map Ty.pv))), (11, .pv (vI t.args.length)), (12, .pv (vI t.args.length)), (13, .pv (.bool false))], [], shN (((t.args.drop i).flatMap Ty.nodes).foldl addI out), [(((t.args.drop i).flatMap Ty.nodes).foldl addI out).length]⟩)
  | 0, i, hn, hi, out, hc => by
    have : i = t.args.length := by omega
    subst this
    rw [g96L0_eq]
    simp [g96B0, shN]
  | n + 1, i, hn, hi, out, hc => by
    have hi : i < t.args.length := by omega
    obtain ⟨x, hx⟩ := getO hi
    unfold Sm at hS
    have hkx : ∀ y ∈ x.nodes, y.kind = 1 → y.id ∈ S := fun y hy => hk y (by simp only [List.mem_flatMap]; exact ⟨x, memO hx, hy⟩)
    have k := h x (memO hx) out hc
    have ih := L96n hS h hk n (i + 1) (by omega) (by omega) _ (hc.fold hkx)
    rw [g96L0_eq] at ih ⊢
    rw [dropC hx]
    simp [shN] at k ih
    simp (disch := omega) [-getElem?_pos, g96B0, shN, hx, hi, k, wrap_id]
    rw [g96L0_eq]
    simp [ih]

theorem c96n {S : List Int} {t : Ty} (hO : t.Ok) (hk : ∀ x ∈ t.nodes, x.kind = 1 → x.id ∈ S) : ∀ out, Coll S out →
    (orcL AP).i 96 [.pv t.pv, .fn 97 [.sptr 1 0]] (shN out) [out.length] = some ([], shN (t.nodes.foldl addI out), [(t.nodes.foldl addI out).length]) := by
  revert hO hk
  refine Ty.rec1 (p := fun t => t.Ok → (∀ x ∈ t.nodes, x.kind = 1 → x.id ∈ S) → ∀ out, Coll S out →
    (orcL AP).i 96 [.pv t.pv, .fn 97 [.sptr 1 0]] (shN out) [out.length] = some ([], shN (t.nodes.foldl addI out), [(t.nodes.foldl addI out).length])) ?_ t
  intro t ih hO hk out hc
  rw [Ty.nodes_eq] at hk ⊢
  have k := c97n hc t
  have h := L96n (S := S) hO.sm (fun x hx out hc => ih x hx (hO.kid x hx) (fun y hy => hk y (by simp only [List.mem_cons, List.mem_flatMap]; exact .inr ⟨x, hx, hy⟩)) out hc) (fun x hx => hk x (by simp only [List.mem_cons]; exact .inr hx)) _ 0 rfl (by omega) _ (hc.add (hk t (by simp)))
  rw [callI_body (af := g96) rfl (by simp [g96])]
  rw [g96L0_eq] at h
  simp [shN] at k h
  simp [g96, g96L0_eq, shN, k, h]

theorem L55n {S : List Int} {l : List Ty} (hS : Sm l) (hO : ∀ t ∈ l, t.Ok) (hk : ∀ x ∈ l.flatMap Ty.nodes, x.kind = 1 → x.id ∈ S) : ∀ (n i : Nat), l.length - i = n → i ≤ l.length → ∀ out, Coll S out →
    cl AP g55L0 ⟨[(3, .sptr 1 0), (6, .pv (.lst (l.map Ty.pv))), (7, .pv (vI l.length)), (8, .pv (vI i))], [], shN out, [out.length]⟩ =
      some (.exit 0, ⟨[(3, .sptr 1 0), (6, .pv (.lst (l.map Ty.pv))), (7, .pv (vI l.length)), (8, .pv (vI l.length)), (9, .pv (.bool false))], [], shN (((l.drop i).flatMap Ty.nodes).foldl addI out), [(((l.drop i).flatMap Ty.nodes).foldl addI out).length]⟩)
  | 0, i, hn, hi, out, hc => by
    have : i = l.length := by omega
    subst this
    rw [g55L0_eq]
    simp [g55B0, shN]
  | n + 1, i, hn, hi, out, hc => by
    have hi : i < l.length := by omega
    obtain ⟨x, hx⟩ := getO hi
    unfold Sm at hS
    have hkx : ∀ y ∈ x.nodes, y.kind = 1 → y.id ∈ S := fun y hy => hk y (by simp only [List.mem_flatMap]; exact ⟨x, memO hx, hy⟩)
    have k := c96n (hO x (memO hx)) hkx out hc
    have ih := L55n hS hO hk n (i + 1) (by omega) (by omega) _ (hc.fold hkx)
    rw [g55L0_eq] at ih ⊢
    rw [dropC hx]
    simp [shN] at k ih
    simp (disch := omega) [-getElem?_pos, g55B0, shN, hx, hi, k, wrap_id]
    rw [g55L0_eq]
    simp [ih]


theorem c55i {S : List Int} (hf : S.length < 1099511627776) {l : List Ty} (hS : Sm l) (hO : ∀ t ∈ l, t.Ok) (hk : ∀ x ∈ l.flatMap Ty.nodes, x.kind = 1 → x.id ∈ S) : (orcL AP).i 55 [.pv (.lst (l.map Ty.pv))] [none] [] = some ([.own ((vars l).map vI) 0], [none], [(vars l).length]) := by
  have h := L55n hS hO hk _ 0 rfl (by omega) [] (coll_nil hf)
  rw [callI_body (af := Go.Ab.g55) rfl (by simp [Go.Ab.g55])]
  rw [g55L0_eq] at h
  simp [shN] at h
  simp [Go.Ab.g55, g55L0_eq, h, vars]
theorem g55i {S : List Ty} (hf : S.length < 1099511627776) {l : List Ty} (hS : Sm l) (hG : ∀ t ∈ l, Good S t) : (orcL AP).i 55 [.pv (.lst (l.map Ty.pv))] [none] [] = some ([.own ((vars l).map vI) 0], [none], [(vars l).length]) := by
  refine c55i (S := S.map Ty.id) (by simpa using hf) hS (fun t ht => (hG t ht).ok) ?_
  intro x hx hk
  simp only [List.mem_flatMap] at hx
  obtain ⟨t, ht, hx⟩ := hx
  exact List.mem_map_of_mem ((hG t ht).sub x (nodes_var (hG t ht).wf x hx hk))
end Go.Ab.Lw
namespace Go.Ab.Lw
open Ev
set_option maxRecDepth 10000
set_option linter.unusedSimpArgs false
theorem L224 {l : List Sc} (hS : Sm l) : ∀ (n i : Nat), l.length - i = n → i ≤ l.length → ∀ d : List Ty, d = (l.take i).map As.ty →
    cl AP g224L0 ⟨[(3, .sarr 0 5 l.length true), (9, .pv (.lst (l.map As.pv))), (10, .pv (vI l.length)), (11, .pv (vI i))], [], [some (arrC d n)], []⟩ =
      some (.exit 0, ⟨[(3, .sarr 0 5 l.length true), (9, .pv (.lst (l.map As.pv))), (10, .pv (vI l.length)), (11, .pv (vI l.length)), (12, .pv (.bool false))], [], [some (arrC (l.map As.ty) 0)], []⟩)
  | 0, i, hn, hi, d, hd => by
    have : i = l.length := by omega
    subst this
    have hd' : d = l.map As.ty := by simpa using hd
    subst hd'
    have hQ : Quiet [some (arrC (l.map As.ty) 0)] := Quiet.one arrC_pv
    have h1 := hQ.norm
    simp at h1
    rw [g224L0_eq]
    simp [g224B0, h1]
  | n + 1, i, hn, hi, d, hd => by
    have hi : i < l.length := by omega
    obtain ⟨x, hx⟩ := getO hi
    unfold Sm at hS
    have hdl : d.length = i := by rw [hd]; simp; omega
    have hQ : Quiet [some (arrC d (n + 1))] := Quiet.one arrC_pv
    have hQ2 : Quiet [some (arrC (d ++ [x.ty]) n)] := Quiet.one arrC_pv
    have ih := L224 hS n (i + 1) (by omega) (by omega) (d ++ [x.ty]) (by rw [List.take_add_one, hx, hd]; simp)
    have hset : setRange (arrC d (n + 1)) (i * 5) x.ty.cl = arrC (d ++ [x.ty]) n := by rw [← hdl]; exact arrC_set
    have hlen : i * 5 + 5 ≤ (arrC d (n + 1)).length := by rw [arrC_len]; omega
    have h1 := hQ.norm
    have h2 := hQ2.norm
    simp at h1 h2
    rw [g224L0_eq] at ih ⊢
    simp [Ty.cl, h2] at ih hset
    simp (disch := omega) [-getElem?_pos, g224B0, hx, hi, h1, Ty.cl, hset, hlen, wrap_id]
    rw [g224L0_eq]
    simp [ih, h2]

theorem c224i {S : List Ty} (hf : S.length < 1099511627776) {l : List Sc} (hS : Sm l) (hG : ∀ c ∈ l, Good S c.ty) : (orcL AP).i 224 [.pv (.lst (l.map As.pv))] [] [] = some ([.own ((vars (l.map As.ty)).map vI) 0], [], [(vars (l.map As.ty)).length]) := by
  have h := L224 hS l.length 0 (by omega) (by omega) [] (by simp)
  have k := g55i hf (l := l.map As.ty) (by unfold Sm at *; simpa using hS) (by intro t ht; simp at ht; obtain ⟨c, hc, rfl⟩ := ht; exact hG c hc)
  have hz : arrC [] l.length = (List.replicate l.length [.pv (vI 0), .pv (.str []), .pv (vI 0), .pv (vI 0), .pv (.lst [])]).flatten := by simp [arrC, zcl]
  have hQ : Quiet [some (arrC [] l.length)] := Quiet.one arrC_pv
  have h1 := hQ.norm
  have hfr := arrC_frz (d := l.map As.ty)
  have hle := arrC_len (d := l.map As.ty) (m := 0)
  rw [hz] at h h1
  rw [g224L0_eq] at h
  unfold Sm at hS
  have b1 : (l.length : Int) ≤ 9223372036854775807 := by omega
  have b2 : (l.length : Int) * 64 ≤ 140737488355328 := by omega
  simp at h1
  simp [h1] at h
  simp at hfr hle k
  rw [callI_body (af := g224) rfl (by simp [g224])]
  simp (disch := omega) [g224, b1, b2, g224L0_eq, h1, h, hfr, hle, k]

theorem L199 {l : List En} (hS : Sm l) : ∀ (n i : Nat), l.length - i = n → i ≤ l.length → ∀ acc : List Sc, acc.length ≤ i →
    cl AP g199L0 ⟨[(3, .own (acc.map As.pv) 0), (7, .pv (.lst (l.map En.pv))), (8, .pv (vI l.length)), (9, .pv (vI i))], [], [], [acc.length]⟩ =
      some (.exit 0, ⟨[(3, .own ((acc ++ (l.drop i).map En.sc).map As.pv) 0), (7, .pv (.lst (l.map En.pv))), (8, .pv (vI l.length)), (9, .pv (vI l.length)), (10, .pv (.bool false))], [], [], [(acc ++ (l.drop i).map En.sc).length]⟩)
  | 0, i, hn, hi, acc, ha => by
    have : i = l.length := by omega
    subst this
    rw [g199L0_eq]
    simp [g199B0]
  | n + 1, i, hn, hi, acc, ha => by
    have hi : i < l.length := by omega
    obtain ⟨x, hx⟩ := getO hi
    unfold Sm at hS
    have hb : (acc.length + 1) * 72 ≤ 140737488355328 := by omega
    have ih := L199 hS n (i + 1) (by omega) (by omega) (acc ++ [x.sc]) (by simp; omega)
    rw [g199L0_eq] at ih ⊢
    rw [dropC hx]
    simp at ih
    simp (disch := omega) [-getElem?_pos, g199B0, hx, hi, wrap_id, hb]
    rw [g199L0_eq]
    simp [ih]
theorem c199i {S : List Ty} (hf : S.length < 1099511627776) {l : List En} (hS : Sm l) (hG : ∀ x ∈ l, Good S x.sc.ty) : (orcL AP).i 199 [.pv (.lst (l.map En.pv))] [] [] = some ([.own ((freeE l).map vI) 0], [], [(freeE l).length]) := by
  have k1 := c182 hS
  have hl := seen_len l
  have hs : Sm (seenE l) := by unfold Sm at *; omega
  have h := L199 hs _ 0 rfl (by omega) [] (by simp)
  have k3 := c224i hf (l := (seenE l).map En.sc) (by unfold Sm at *; simpa using hs) (by intro c hc; simp at hc; obtain ⟨x, hx, rfl⟩ := hc; exact hG x (seen_sub l x hx))
  have e : ((seenE l).map En.sc).map As.ty = (seenE l).map fun x => x.sc.ty := by simp
  rw [e] at k3
  rw [g199L0_eq] at h
  rw [callI_body (af := g199) rfl (by simp [g199])]
  simp at k1 k3 h
  simp [g199, k1, g199L0_eq, h, k3, freeE]

theorem vars_len {S : List Ty} (hf : S.length < 1099511627776) {l : List Ty} (hG : ∀ t ∈ l, Good S t) : Sm (vars l) := by
  have c0 : Coll (S.map Ty.id) [] := coll_nil (by simpa using hf)
  refine (c0.fold (l := l.flatMap Ty.nodes) ?_).len
  intro x hx hk
  simp only [List.mem_flatMap] at hx
  obtain ⟨t, ht, hx⟩ := hx
  exact List.mem_map_of_mem ((hG t ht).sub x (nodes_var (hG t ht).wf x hx hk))

end Go.Ab.Lw
namespace Go.Ab.Lw
open Ev
set_option maxRecDepth 10000
set_option linter.unusedSimpArgs false
def leavesK : List Ty := [tyVar 0, tyVar 1, tyVar 2, tyVar 3, tyRigid 0 0]
end Go.Ab.Lw
namespace Go.Ab.Lw
open Ev
set_option maxRecDepth 10000
set_option linter.unusedSimpArgs false
/-- One more number. -/
def addU (out : List Int) (x : Int) : List Int := if x ∈ out then out else out ++ [x]
/-- The numbers of the nodes of kind 2. -/
def bnd (x : Ty) : List Int := if x.kind = 2 then [x.id] else []
def seqB (t : Ty) : List Int := t.nodes.flatMap bnd
theorem seqB_eq (t : Ty) : seqB t = bnd t ++ t.args.flatMap seqB := by
  unfold seqB
  rw [Ty.nodes_eq, List.flatMap_cons, List.flatMap_assoc]

/-! ### The reference's -/
end Go.Ab.Lw
namespace Go.Ab.Lw
open Ev
set_option maxRecDepth 10000
set_option linter.unusedSimpArgs false
mutual
def Ty.hasK (k : Int) : Ty → Bool
  | ⟨q, _, _, _, as⟩ => decide (q = k) || Ty.hasKs k as
def Ty.hasKs (k : Int) : List Ty → Bool
  | [] => false
  | a :: r => a.hasK k || Ty.hasKs k r
end
theorem Ty.hasKs_any (k : Int) : ∀ l : List Ty, Ty.hasKs k l = l.any (Ty.hasK k)
  | [] => by simp [Ty.hasKs]
  | a :: r => by simp [Ty.hasKs, Ty.hasKs_any k r]
theorem Ty.hasK_eq (k : Int) (t : Ty) : t.hasK k = (decide (t.kind = k) || t.args.any (Ty.hasK k)) := by
  cases t; simp only [Ty.hasK, Ty.hasKs_any]

/-- The quantified variables of a type in order. -/
def bndU (t : Ty) : List Int := (seqB t).foldl addU []
end Go.Ab.Lw
namespace Go.Ab.Lw
open Ev
set_option maxRecDepth 10000
set_option linter.unusedSimpArgs false
theorem L437 {t : Ty} {ids vs : List Int} (hS : Sm vs) (hi : Sm ids) : ∀ (n i : Nat), vs.length - i = n → i ≤ vs.length → ∀ acc : List As, acc.length ≤ i →
    cl AP g437L0 ⟨[(1, .pv (.lst (ids.map vI))), (2, .lptr 2 0), (4, .lptr 4 0), (5, .own (acc.map As.pv) 0), (10, .pv (.lst (vs.map vI))), (11, .pv (vI vs.length)), (12, .pv (vI i))], [(2, [.pv (vI t.kind), .pv (.str t.name), .pv (vI t.id), .pv (vI t.home), .pv (.lst (t.args.map Ty.pv))]), (4, [.pv (vI 0), .pv (vI 0), .pv (.str []), .pv (vI 0), .pv (vI 0), .own [] 1])], [], [acc.length, 0]⟩ =
      some (.exit 0, ⟨[(1, .pv (.lst (ids.map vI))), (2, .lptr 2 0), (4, .lptr 4 0), (5, .own ((closeS ids (vs.drop i) acc).map As.pv) 0), (10, .pv (.lst (vs.map vI))), (11, .pv (vI vs.length)), (12, .pv (vI vs.length)), (13, .pv (.bool false))], [(2, [.pv (vI t.kind), .pv (.str t.name), .pv (vI t.id), .pv (vI t.home), .pv (.lst (t.args.map Ty.pv))]), (4, [.pv (vI 0), .pv (vI 0), .pv (.str []), .pv (vI 0), .pv (vI 0), .own [] 1])], [], [(closeS ids (vs.drop i) acc).length, 0]⟩)
  | 0, i, hn, hi', acc, ha => by
    have : i = vs.length := by omega
    subst this
    rw [g437L0_eq]
    simp [g437B0, closeS]
  | n + 1, i, hn, hi', acc, ha => by
    have hi' : i < vs.length := by omega
    obtain ⟨x, hx⟩ := getO hi'
    unfold Sm at hS
    have k := c98 hi (y := x)
    have hb : (acc.length + 1) * 72 ≤ 140737488355328 := by omega
    rw [dropC hx]
    by_cases e : x ∈ ids
    · have ih := L437 (t := t) hS hi n (i + 1) (by omega) (by omega) (acc ++ [⟨x, tyBound acc.length⟩]) (by simp; omega)
      have ea : closeS ids (x :: vs.drop (i + 1)) acc = closeS ids (vs.drop (i + 1)) (acc ++ [⟨x, tyBound acc.length⟩]) := by simp [closeS, e]
      rw [ea]
      rw [g437L0_eq] at ih ⊢
      rw [decide_eq_true e] at k
      simp [tyBound] at ih
      simp (disch := omega) [-getElem?_pos, g437B0, hx, hi', k, wrap_id, hb, tyBound]
      rw [g437L0_eq]
      simp [ih, tyBound]
    · have ih := L437 (t := t) hS hi n (i + 1) (by omega) (by omega) acc (by omega)
      have ea : closeS ids (x :: vs.drop (i + 1)) acc = closeS ids (vs.drop (i + 1)) acc := by simp [closeS, e]
      rw [ea]
      rw [g437L0_eq] at ih ⊢
      rw [decide_eq_false e] at k
      simp at ih
      simp (disch := omega) [-getElem?_pos, g437B0, hx, hi', k, wrap_id]
      rw [g437L0_eq]
      simp [ih]

theorem c437 {S : List Ty} (hf : S.length < 1099511627776) {t : Ty} (hG : Good S t) {ids : List Int} (hi : Sm ids) : (orcL AP).p 437 [t.pv, .lst (ids.map vI)] = some [(closeSc ids t (vars [t])).pv] := by
  have hG1 : ∀ x ∈ [t], Good S x := by simpa using hG
  have k1 := g55 hf (l := [t]) (by simp [Sm]) hG1
  have hv := vars_len hf hG1
  have k2 := L437 (t := t) hv hi _ 0 rfl (by omega) [] (by simp)
  have hl := closeS_len (ids := ids) (vars [t]) []
  have k3 := c45 (s := closeS ids (vars [t]) []) (by unfold Sm at hv ⊢; simp at hl; omega) hG.ok hG.wf
  rw [callP_body (af := g437) rfl rfl (by decide)]
  rw [g437L0_eq] at k2
  simp at k1 k2 k3
  simp [g437, k1, g437L0_eq, k2, k3, closeSc]

def gS (s : List As) (v : Int) : List Int := match fnd s v with | some u => seqB u | none => []
/-- The numbers of the variables in order. -/
def vr (x : Ty) : List Int := if x.kind = 1 then [x.id] else []
def seqV (t : Ty) : List Int := t.nodes.flatMap vr
theorem seqV_eq (t : Ty) : seqV t = vr t ++ t.args.flatMap seqV := by
  unfold seqV
  rw [Ty.nodes_eq, List.flatMap_cons, List.flatMap_assoc]
theorem flat_congr {α β : Type} {f g : α → List β} : ∀ {l : List α}, (∀ x ∈ l, f x = g x) → l.flatMap f = l.flatMap g
  | [], _ => rfl
  | x :: l, h => by simp only [List.flatMap_cons]; rw [h x (by simp), flat_congr (l := l) (fun y hy => h y (by simp [hy]))]
theorem seqB_sub {s : List As} {t : Ty} (hW : t.Wf) (hB : seqB t = []) : seqB (t.sub s) = (seqV t).flatMap (gS s) := by
  revert hW hB
  refine Ty.rec1 (p := fun t => t.Wf → seqB t = [] → seqB (t.sub s) = (seqV t).flatMap (gS s)) ?_ t
  intro t ih hW hB
  rw [seqB_eq] at hB
  have hb : bnd t = [] := (List.append_eq_nil_iff.1 hB).1
  have ha : ∀ x ∈ t.args, seqB x = [] := by
    have := (List.append_eq_nil_iff.1 hB).2
    simpa [List.flatMap_eq_nil_iff] using this
  rw [Ty.sub_eq, seqV_eq]
  by_cases e : t.kind = 1
  · have ea := hW.var e
    rw [if_pos e]
    simp [vr, e, ea, gS]
    cases hf : fnd s t.id with
    | none => simp [seqB_eq, hb, ea]
    | some u => simp
  · rw [if_neg e]
    have hb' : bnd ⟨t.kind, t.name, t.id, t.home, t.args.map (Ty.sub s)⟩ = [] := by simpa [bnd] using hb
    rw [seqB_eq, hb']
    simp [vr, e]
    rw [List.flatMap_assoc, List.flatMap_map]
    exact flat_congr (fun x hx => ih x hx (hW.kid x hx) (ha x hx))

theorem vars1 {t : Ty} : vars [t] = (seqV t).foldl addU [] := by
  unfold vars seqV
  simp only [List.flatMap_cons, List.flatMap_nil, List.append_nil]
  generalize ([] : List Int) = out
  generalize t.nodes = l
  induction l generalizing out with
  | nil => rfl
  | cons x l ih =>
    simp only [List.foldl_cons, List.flatMap_cons, List.foldl_append]
    rw [ih]
    congr 1
    by_cases e : x.kind = 1
    · by_cases e2 : x.id ∈ out <;> simp [addI, vr, e, addU, e2]
    · simp [addI, vr, e]

def enumK : Nat → List Int → List As
  | _, [] => []
  | n, v :: r => ⟨v, tyBound n⟩ :: enumK (n + 1) r
theorem enumK_len : ∀ {l : List Int} {n : Nat}, (enumK n l).length = l.length
  | [], _ => rfl
  | v :: r, n => by simp [enumK, enumK_len]
theorem closeS_enum {ids : List Int} : ∀ (vs : List Int) (acc : List As), closeS ids vs acc = acc ++ enumK acc.length (vs.filter (fun v => decide (v ∈ ids)))
  | [], acc => by simp [closeS, enumK]
  | v :: r, acc => by
    simp only [closeS]
    by_cases e : v ∈ ids
    · rw [if_pos e, closeS_enum r]
      simp [e, enumK]
    · rw [if_neg e, closeS_enum r]
      simp [e]
theorem fnd_new {v : Int} : ∀ {A B : List Int} {n : Nat}, v ∉ A → fnd (enumK n (A ++ v :: B)) v = some (tyBound (n + A.length : Nat))
  | [], B, n, _ => by simp [enumK, fnd]
  | a :: A, B, n, h => by
    simp at h
    have h1 : ¬ a = v := fun e => h.1 e.symm
    have ih := fnd_new (v := v) (A := A) (B := B) (n := n + 1) h.2
    rw [show n + (a :: A).length = n + 1 + A.length from by simp only [List.length_cons]; omega]
    simp [enumK, fnd, h1, ih]
theorem fnd_old {v : Int} : ∀ {A B : List Int} {n : Nat}, v ∈ A → ∃ i : Nat, i < A.length ∧ fnd (enumK n (A ++ B)) v = some (tyBound (n + i : Nat))
  | a :: A, B, n, h => by
    by_cases e : a = v
    · exact ⟨0, by simp, by simp [enumK, fnd, e]⟩
    · have e' : ¬ v = a := fun h => e h.symm
      simp [e'] at h
      obtain ⟨i, hi, ih⟩ := fnd_old (v := v) (A := A) (B := B) (n := n + 1) h
      refine ⟨i + 1, by simp; omega, ?_⟩
      rw [show n + (i + 1) = n + 1 + i from by omega]
      simp [enumK, fnd, e, ih]
theorem fnd_no {v : Int} : ∀ {A : List Int} {n : Nat}, v ∉ A → fnd (enumK n A) v = none
  | [], _, _ => rfl
  | a :: A, n, h => by
    simp at h
    have h1 : ¬ a = v := fun e => h.1 e.symm
    simp [enumK, fnd, h1, fnd_no h.2]
theorem seqB_bound {n : Int} : seqB (tyBound n) = [n] := by rw [seqB_eq]; simp [tyBound, bnd]

/-- 0, 1, .. -/
def iR : Nat → List Int
  | 0 => []
  | n + 1 => iR n ++ [(n : Int)]
theorem mem_iR {x : Int} : ∀ {n : Nat}, x ∈ iR n ↔ 0 ≤ x ∧ x < n
  | 0 => by simp [iR]
  | n + 1 => by simp [iR, mem_iR (n := n)]; omega
theorem pre_foldU : ∀ {q D : List Int}, ∃ e, q.foldl addU D = D ++ e
  | [], D => ⟨[], by simp⟩
  | v :: r, D => by
    obtain ⟨e, h⟩ := pre_foldU (q := r) (D := addU D v)
    simp only [List.foldl_cons, h]
    unfold addU
    split
    · exact ⟨e, rfl⟩
    · exact ⟨v :: e, by simp⟩

theorem order {ids vs : List Int} : ∀ {q D : List Int}, vs = q.foldl addU D →
    (q.flatMap (gS (enumK 0 (vs.filter fun v => decide (v ∈ ids))))).foldl addU (iR (D.filter fun v => decide (v ∈ ids)).length) = iR (vs.filter fun v => decide (v ∈ ids)).length
  | [], D, h => by simp at h; subst h; simp
  | v :: r, D, h => by
    simp only [List.foldl_cons] at h
    have ih := order (ids := ids) (q := r) (D := addU D v) h
    rw [← ih, List.flatMap_cons, List.foldl_append]
    congr 1
    obtain ⟨e, he⟩ := pre_foldU (q := r) (D := addU D v)
    rw [he] at h
    by_cases hd : v ∈ D
    · have ed : addU D v = D := by simp [addU, hd]
      rw [ed] at h ⊢
      by_cases hi : v ∈ ids
      · obtain ⟨i, hil, hf⟩ := fnd_old (v := v) (A := D.filter fun v => decide (v ∈ ids)) (B := e.filter fun v => decide (v ∈ ids)) (n := 0) (by simp [hd, hi])
        rw [← List.filter_append, ← h] at hf
        have hg : gS (enumK 0 (vs.filter fun v => decide (v ∈ ids))) v = [(i : Int)] := by simp [gS, hf, seqB_bound]
        rw [hg]
        have : (i : Int) ∈ iR (D.filter fun v => decide (v ∈ ids)).length := mem_iR.2 ⟨by omega, by omega⟩
        simp [addU, this]
      · have hg : gS (enumK 0 (vs.filter fun v => decide (v ∈ ids))) v = [] := by
          have : v ∉ vs.filter fun v => decide (v ∈ ids) := by simp [hi]
          simp [gS, fnd_no this]
        rw [hg]
        rfl
    · have ed : addU D v = D ++ [v] := by simp [addU, hd]
      rw [ed] at h ⊢
      by_cases hi : v ∈ ids
      · have hf := fnd_new (v := v) (A := D.filter fun v => decide (v ∈ ids)) (B := e.filter fun v => decide (v ∈ ids)) (n := 0) (by simp [hd])
        have ef : (D.filter fun v => decide (v ∈ ids)) ++ v :: (e.filter fun v => decide (v ∈ ids)) = vs.filter fun v => decide (v ∈ ids) := by rw [h]; simp [hi]
        rw [ef] at hf
        have hg : gS (enumK 0 (vs.filter fun v => decide (v ∈ ids))) v = [((D.filter fun v => decide (v ∈ ids)).length : Int)] := by simp [gS, hf, seqB_bound]
        rw [hg]
        have : ((D.filter fun v => decide (v ∈ ids)).length : Int) ∉ iR (D.filter fun v => decide (v ∈ ids)).length := by rw [mem_iR]; omega
        simp [addU, this, hi, iR]
      · have hg : gS (enumK 0 (vs.filter fun v => decide (v ∈ ids))) v = [] := by
          have : v ∉ vs.filter fun v => decide (v ∈ ids) := by simp [hi]
          simp [gS, fnd_no this]
        rw [hg]
        simp [hi]

theorem bndU_close {t : Ty} {ids : List Int} (hW : t.Wf) (hB : seqB t = []) : bndU (closeSc ids t (vars [t])).ty = iR (closeSc ids t (vars [t])).id.toNat ∧ 0 ≤ (closeSc ids t (vars [t])).id := by
  unfold closeSc bndU
  simp only [closeS_enum, List.nil_append, List.length_nil, enumK_len]
  refine ⟨?_, by omega⟩
  rw [seqB_sub hW hB, vars1]
  have := order (ids := ids) (q := seqV t) (D := []) rfl
  simpa [iR] using this
end Go.Ab.Lw
namespace Go.Ab.Lw
open Ev
set_option maxRecDepth 10000
set_option linter.unusedSimpArgs false
theorem enumK_all {P : Ty → Prop} : ∀ {l : List Int} {n : Nat}, (∀ i : Nat, i < n + l.length → P (tyBound i)) → ∀ a ∈ enumK n l, P a.ty
  | [], _, _ => by simp [enumK]
  | v :: r, n, h => by
    intro a ha
    simp [enumK] at ha
    rcases ha with rfl | ha
    · exact h n (by simp)
    · exact enumK_all (l := r) (n := n + 1) (fun i hi => h i (by simp; omega)) a ha
theorem Made.none {lv : Ty → Prop} {k : Int} (hk : k ≠ 4) (h : ∀ t, lv t → t.hasK k = false) {t : Ty} (m : Made lv t) : t.hasK k = false := by
  have hk' : ¬ (4 : Int) = k := fun e => hk e.symm
  induction m with
  | leaf hl => exact h _ hl
  | int => rw [Ty.hasK_eq]; simp [tyInt, hk']
  | con hd hl _ ih =>
    rw [Ty.hasK_eq]
    simp only [Bool.or_eq_false_iff, List.any_eq_false]
    exact ⟨by simp [hk'], fun x hx => by simp [ih x hx]⟩
  | arrow _ _ ha hb => rw [Ty.hasK_eq]; simp [ha, hb, hk']
theorem Made.seqB {lv : Ty → Prop} {S : List Int} (h : ∀ t, lv t → ∀ z ∈ Go.Ab.Lw.seqB t, z ∈ S) {t : Ty} (m : Made lv t) : ∀ z ∈ Go.Ab.Lw.seqB t, z ∈ S := by
  induction m with
  | leaf hl => exact h _ hl
  | int => rw [seqB_eq]; simp [tyInt, bnd]
  | con hd hl _ ih =>
    rw [seqB_eq]
    intro z hz
    simp [bnd] at hz
    obtain ⟨x, hx, hz⟩ := hz
    exact ih x hx z hz
  | arrow _ _ ha hb =>
    rw [seqB_eq]
    intro z hz
    simp [bnd] at hz
    rcases hz with hz | hz
    · exact ha z hz
    · exact hb z hz

end Go.Ab.Lw
namespace Go.Ab.Lw
open Ev
set_option maxRecDepth 100000
set_option linter.unusedSimpArgs false
theorem c448 : (orcL AP).p 448 [] = some [.bool true] := Fc.p_of (k := 100) (n := 40) (by kernel_rfl)

end Go.Ab.Lw
namespace Go.Ab.Lw
open Ev
set_option maxRecDepth 10000
set_option linter.unusedSimpArgs false
/-- What a map from numbers to types holds. -/
abbrev Mt := List (Int × Ty)
def fndM : Mt → Int → Option Ty
  | [], _ => none
  | (j, x) :: r, i => if i = j then some x else fndM r i
def putT : Mt → Int → Ty → Mt
  | [], i, t => [(i, t)]
  | (j, x) :: r, i, t => if i = j then (i, t) :: r else (j, x) :: putT r i t
theorem fnd_put {i j : Int} {t : Ty} : ∀ {m : Mt}, fndM (putT m i t) j = if j = i then some t else fndM m j
  | [] => by simp [putT, fndM]
  | (k, x) :: r => by
    have ih := fnd_put (i := i) (j := j) (t := t) (m := r)
    simp only [putT, fndM]
    by_cases e : i = k
    · subst e
      by_cases e2 : j = i <;> simp [fndM, e2]
    · by_cases e2 : j = i
      · subst e2; simp [fndM, e, ih]
      · have e' : ¬ k = i := fun h => e h.symm
        by_cases e3 : j = k <;> simp [fndM, e, e', e2, e3, ih]

def MOk (m : Mt) : Prop := ∀ i x, fndM m i = some x → x.Ok
theorem MOk.put {m : Mt} (h : MOk m) {t : Ty} (ht : t.Ok) {i : Int} : MOk (putT m i t) := by
  intro j x hx
  rw [fnd_put] at hx
  split at hx
  · cases hx; exact ht
  · exact h j x hx

/-- The heads of two types agree. -/
def hdB (p t : Ty) : Bool := decide (p.kind = t.kind) && decide (p.name = t.name) && decide (p.id = t.id) && decide (p.home = t.home) && decide (p.args.length = t.args.length)
/-- The match of a quantified variable. -/
noncomputable def mtV (m : Mt) (i : Int) (t : Ty) : Bool := match fndM m i with | none => true | some x => decide (x = t)

mutual
noncomputable def Ty.mt (t : Ty) (m : Mt) : Ty → Bool × Mt
  | ⟨k, n, i, h, as⟩ => if k = 2 then (mtV m i t, putT m i t) else if hdB ⟨k, n, i, h, as⟩ t = true then Ty.mtL t.args m as else (false, m)
noncomputable def Ty.mtL (ts : List Ty) (m : Mt) : List Ty → Bool × Mt
  | [] => (true, m)
  | p :: ps => match ts with
    | [] => (true, m)
    | t :: ts => if (Ty.mt t m p).1 = true then Ty.mtL ts (Ty.mt t m p).2 ps else (false, (Ty.mt t m p).2)
end
end Go.Ab.Lw
namespace Go.Ab.Lw
open Ev
set_option maxRecDepth 10000
set_option linter.unusedSimpArgs false
/-- The variables of a pattern are within the arrays. -/
def Rng (n : Nat) (p : Ty) : Prop := ∀ x ∈ p.nodes, x.kind = 2 → 0 ≤ x.id ∧ x.id < n
theorem Rng.kid {n : Nat} {p : Ty} (h : Rng n p) : ∀ y ∈ p.args, Rng n y := by
  intro y hy x hx
  refine h x ?_
  rw [Ty.nodes_eq p]
  simp only [List.mem_cons, List.mem_flatMap]
  exact .inr ⟨y, hy, hx⟩

end Go.Ab.Lw
namespace Go.Ab.Lw
open Ev
set_option maxRecDepth 10000
set_option linter.unusedSimpArgs false
structure Plain (s : List As) (x : Ty) : Prop where
  var : ∀ v ∈ x.nodes, v.kind = 1 → v = tyVar v.id ∧ ∃ i, fnd s v.id = some (tyBound i)
  bnd : ∀ v ∈ x.nodes, v.kind ≠ 2
theorem Plain.kid {s : List As} {x : Ty} (h : Plain s x) : ∀ y ∈ x.args, Plain s y := by
  intro y hy
  have hn : ∀ v ∈ y.nodes, v ∈ x.nodes := by
    intro v hv
    rw [Ty.nodes_eq x]
    simp only [List.mem_cons, List.mem_flatMap]
    exact .inr ⟨y, hy, hv⟩
  exact ⟨fun v hv => h.var v (hn v hv), fun v hv => h.bnd v (hn v hv)⟩
theorem self_node {x : Ty} : x ∈ x.nodes := by rw [Ty.nodes_eq]; simp

theorem sub_nodes_len {s : List As} (hs : ∀ a ∈ s, a.ty.args = []) {t : Ty} (hW : t.Wf) : (t.sub s).nodes.length = t.nodes.length := by
  revert hW
  refine Ty.rec1 (p := fun t => t.Wf → (t.sub s).nodes.length = t.nodes.length) ?_ t
  intro t ih hW
  rw [Ty.sub_eq]
  by_cases e : t.kind = 1
  · rw [if_pos e]
    have ea := hW.var e
    cases hf : fnd s t.id with
    | none => rfl
    | some u =>
      obtain ⟨a, ha, rfl⟩ := fnd_mem hf
      rw [Option.getD_some, Ty.nodes_eq, Ty.nodes_eq t, hs a ha, ea]; simp
  · rw [if_neg e, Ty.nodes_eq, Ty.nodes_eq t]
    simp only [List.length_cons, List.flatMap_map]
    have key : ∀ (l : List Ty), (∀ y ∈ l, y ∈ t.args) → (l.flatMap fun y => (y.sub s).nodes).length = (l.flatMap Ty.nodes).length := by
      intro l
      induction l with
      | nil => intro _; rfl
      | cons a r ihr =>
        intro hl
        simp only [List.flatMap_cons, List.length_append]
        rw [ih a (hl a (by simp)) (hW.kid a (hl a (by simp))), ihr (fun y hy => hl y (by simp [hy]))]
    rw [key t.args (fun _ h => h)]

end Go.Ab.Lw
namespace Go.Ab.Lw
open Ev
set_option maxRecDepth 10000
set_option linter.unusedSimpArgs false
theorem Good.mono {S S' : List Ty} (h : ∀ x ∈ S, x ∈ S') {t : Ty} (g : Good S t) : Good S' t := ⟨g.ok, g.wf, fun x hx => h x (g.sub x hx)⟩

end Go.Ab.Lw
namespace Go.Ab.Lw
open Ev
set_option maxRecDepth 10000
set_option linter.unusedSimpArgs false
mutual
/-- The quantified variables replaced. -/
def Ty.bind (F : Int → Ty) : Ty → Ty
  | ⟨k, n, i, h, as⟩ => if k = 2 then F i else ⟨k, n, i, h, Ty.binds F as⟩
def Ty.binds (F : Int → Ty) : List Ty → List Ty
  | [] => []
  | a :: r => a.bind F :: Ty.binds F r
end
/-- The quantified variables are plain. -/
def Bd (p : Ty) : Prop := ∀ v ∈ p.nodes, v.kind = 2 → v = tyBound v.id
theorem Bd.kid {p : Ty} (h : Bd p) : ∀ y ∈ p.args, Bd y := by
  intro y hy v hv
  refine h v ?_
  rw [Ty.nodes_eq p]
  simp only [List.mem_cons, List.mem_flatMap]
  exact .inr ⟨y, hy, hv⟩
end Go.Ab.Lw
namespace Go.Ab.Lw
open Ev
set_option maxRecDepth 10000
set_option linter.unusedSimpArgs false
/-- A closed type whose quantified variables are in order. -/
structure Cl (a : Sc) (n : Nat) : Prop where
  num : a.id = n
  few : n ≤ 26
  ok : a.ty.Ok
  small : a.ty.nodes.length < 1000000
  bd : Bd a.ty
  no5 : ∀ v ∈ a.ty.nodes, v.kind ≠ 5
  ord : bndU a.ty = iR n

theorem kid_node {t : Ty} : ∀ y ∈ t.args, ∀ v ∈ y.nodes, v ∈ t.nodes := by
  intro y hy v hv
  rw [Ty.nodes_eq t]
  simp only [List.mem_cons, List.mem_flatMap]
  exact .inr ⟨y, hy, hv⟩
theorem mem_seqB {t : Ty} {i : Int} : i ∈ seqB t ↔ ∃ v ∈ t.nodes, v.kind = 2 ∧ v.id = i := by
  unfold seqB
  simp only [List.mem_flatMap, Go.Ab.Lw.bnd]
  constructor
  · rintro ⟨v, hv, h⟩
    split at h
    · rename_i e; simp at h; exact ⟨v, hv, e, h.symm⟩
    · simp at h
  · rintro ⟨v, hv, e, rfl⟩
    exact ⟨v, hv, by simp [e]⟩
theorem Bd.leaf {p : Ty} (h : Bd p) (e : p.kind = 2) : p.args = [] := by
  have := congrArg Ty.args (h p self_node e)
  exact this
end Go.Ab.Lw
namespace Go.Ab.Lw
open Ev
set_option maxRecDepth 10000
set_option linter.unusedSimpArgs false
/-- A type without quantified or written variables. -/
def NoK (t : Ty) : Prop := ∀ v ∈ t.nodes, v.kind ≠ 2 ∧ v.kind ≠ 5
theorem NoK.kid {t : Ty} (h : NoK t) : ∀ y ∈ t.args, NoK y := fun y hy v hv => h v (kid_node y hy v hv)
theorem NoK.mk {t : Ty} (h : t.kind ≠ 2 ∧ t.kind ≠ 5) (ha : ∀ y ∈ t.args, NoK y) : NoK t := by
  intro v hv
  rw [Ty.nodes_eq] at hv
  simp only [List.mem_cons, List.mem_flatMap] at hv
  rcases hv with rfl | ⟨y, hy, hv⟩
  · exact h
  · exact ha y hy v hv
theorem Made.noK {lv : Ty → Prop} (h : ∀ t, lv t → t.args = [] ∧ t.kind ≠ 2 ∧ t.kind ≠ 5) {t : Ty} (m : Made lv t) : NoK t := by
  induction m with
  | leaf hl => exact NoK.mk (h _ hl).2 (by rw [(h _ hl).1]; simp)
  | int => exact NoK.mk (by simp [tyInt]) (by simp [tyInt])
  | con _ _ _ ih => exact NoK.mk (by simp) ih
  | arrow _ _ ha hb => exact NoK.mk (by simp) (by intro y hy; simp at hy; rcases hy with rfl | rfl <;> assumption)
theorem noK_seqB {t : Ty} (h : NoK t) : seqB t = [] := by
  rw [List.eq_nil_iff_forall_not_mem]
  intro i hi
  obtain ⟨v, hv, e, _⟩ := mem_seqB.1 hi
  exact (h v hv).1 e

/-- What closing a plain type makes. -/
def Qn (v : Ty) : Prop := v.kind ≠ 5 ∧ (v.kind = 2 → v = tyBound v.id)
theorem sub_Q {s : List As} (hs : ∀ a ∈ s, ∀ v ∈ a.ty.nodes, Qn v) {t : Ty} (h : NoK t) : ∀ v ∈ (t.sub s).nodes, Qn v := by
  revert h
  refine Ty.rec1 (p := fun t => NoK t → ∀ v ∈ (t.sub s).nodes, Qn v) ?_ t
  intro t ih h
  rw [Ty.sub_eq]
  split
  · cases hf : fnd s t.id with
    | none => intro v hv; exact ⟨(h v hv).2, fun e => absurd e (h v hv).1⟩
    | some u => obtain ⟨a, ha, rfl⟩ := fnd_mem hf; intro v hv; exact hs a ha v hv
  · intro v hv
    rw [Ty.nodes_eq] at hv
    simp only [List.mem_cons, List.mem_flatMap, List.mem_map] at hv
    rcases hv with rfl | ⟨_, ⟨y, hy, rfl⟩, hv⟩
    · exact ⟨(h t self_node).2, fun e => absurd e (h t self_node).1⟩
    · exact ih y hy (h.kid y hy) v hv

structure Src (t : Ty) : Prop where
  good : Good (leavesK ++ leavesS) t
  noK : NoK t
  small : t.nodes.length ≤ 100000
theorem lKS_few : (leavesK ++ leavesS).length = 11 := by simp [leavesK, leavesS]
theorem Src.vars {t : Ty} (h : Src t) : (Lw.vars [t]).length ≤ 11 := by
  have c0 : Coll ((leavesK ++ leavesS).map Ty.id) [] := coll_nil (by simp [leavesK, leavesS])
  have c1 := c0.fold (l := [t].flatMap Ty.nodes) (by
    intro x hx hk
    simp at hx
    exact List.mem_map_of_mem (h.good.sub x (nodes_var h.good.wf x hx hk)))
  have := nodup_len c1.nodup c1.sub
  rw [List.length_map, lKS_few] at this
  exact this
theorem Src.cl {t : Ty} (h : Src t) (ids : List Int) : ∃ n, Cl (closeSc ids t (Lw.vars [t])) n := by
  obtain ⟨b1, b2⟩ := bndU_close (ids := ids) h.good.wf (noK_seqB h.noK)
  have hv := h.vars
  have hl := closeS_len (ids := ids) (Lw.vars [t]) []
  have es : closeS ids (Lw.vars [t]) [] = enumK 0 ((Lw.vars [t]).filter fun v => decide (v ∈ ids)) := by simp [closeS_enum]
  have hq : ∀ v ∈ (closeSc ids t (Lw.vars [t])).ty.nodes, Qn v := by
    unfold closeSc
    rw [es]
    refine sub_Q ?_ h.noK
    exact enumK_all (P := fun u => ∀ v ∈ u.nodes, Qn v) (fun i _ v hv => by
      rw [Ty.nodes_eq] at hv
      simp [tyBound] at hv
      subst hv
      exact ⟨by simp, fun _ => rfl⟩)
  have hsm : (closeSc ids t (Lw.vars [t])).ty.nodes.length < 1000000 := by
    unfold closeSc
    rw [es, sub_nodes_len (enumK_all (P := fun t => t.args = []) (fun _ _ => rfl)) h.good.wf]
    have := h.small
    omega
  have hid : (closeSc ids t (Lw.vars [t])).id = (closeS ids (Lw.vars [t]) []).length := rfl
  refine ⟨(closeSc ids t (Lw.vars [t])).id.toNat, ?_⟩
  exact { num := by omega, few := by simp at hl; omega, ok := closeSc_ok h.good.ok, small := hsm, bd := fun v hv => (hq v hv).2, no5 := fun v hv => (hq v hv).1, ord := b1 }
end Go.Ab.Lw
namespace Go.Ab.Lw
open Ev
set_option maxRecDepth 100000
set_option linter.unusedSimpArgs false
theorem c517 {t : Ty} (hO : t.Ok) (hN : NoK t) : (orcL AP).p 517 [t.pv] = some [.bool true] := by
  revert hO hN
  refine Ty.rec1 (p := fun t => t.Ok → NoK t → (orcL AP).p 517 [t.pv] = some [.bool true]) ?_ t
  intro t ih hO hN
  have hc := c75 hO.sm (sh := []) (by intro cs h; simp at h) (g := 520) (cap := []) (p := fun _ => false) rfl rfl rfl (fun _ _ => rfl) rfl (by
    intro x hx
    have hx' := ih x hx (hO.kid x hx) (hN.kid x hx)
    simp at hx'
    rw [callI_body (af := g520) rfl (by simp [g520])]
    simp [g520, hx'])
  have h0 : (t.args.any fun _ => false) = false := by simp
  rw [h0] at hc
  obtain ⟨h2, h5⟩ := hN t self_node
  rw [callP_body (af := g517) rfl rfl (by decide)]
  simp [g517, h2, h5, hc]
theorem c502 {t : Ty} (hO : t.Ok) (hN : NoK t) (hM : t.Nm) (hv : validT t = true) : (orcL AP).p 502 [t.pv] = some [.bool true] := by
  have k1 := c29 hO hM
  have k2 := c517 hO hN
  rw [hv] at k1
  simp at k1 k2
  rw [callP_body (af := g502) rfl rfl (by decide)]
  simp [g502, k1, k2]
theorem c505 : (orcL AP).p 505 [] = some [tyInt.pv] := Fc.p_of (k := 100) (n := 40) (by kernel_rfl)

/-! ### The law's expression and its derivation -/
def exL (k p : Int) (s : Txt) (n : Int) (kids : List PV) : List PV := [vI k, vI p, .str s, vI n, .lst kids, .lst [], vI 0, .str [], vI 0, vI 0, .lst []]
def deL (t : Ty) (g : List Int) (kids : List PV) : List PV := [vI t.kind, .str t.name, vI t.id, vI t.home, .lst (t.args.map Ty.pv), .lst [], .lst (g.map vI), .lst kids]
def hoE (p : Int) : List PV := exL 10 p [] 0 []
def inE : List PV := exL 3 0 [] 1 []
def bdE : Bool → List PV
  | true => exL 11 7 [] 0 [.agg (hoE 8)]
  | false => hoE 7
def leE (h : Bool) : List PV := exL 6 0 [104] 0 [.agg (bdE h), .agg inE]
def bdD (x : Ty) : Bool → List PV
  | true => deL x [] [.agg (deL x [] [])]
  | false => deL x [] []
def inD : List PV := deL tyInt [] []
def leD (h : Bool) (x : Ty) (g : List Int) : List PV := deL tyInt g [.agg (bdD x h), .agg inD]
def hoR (x : Ty) (p : Int) : List PV := [vI 3, vI p, .lst [], vI x.kind, .str x.name, vI x.id, vI x.home, .lst (x.args.map Ty.pv)]
def holesR (x : Ty) : Bool → List PV
  | true => [.agg (hoR x 8 ++ [.bool false]), .agg (hoR x 7 ++ [.bool true])]
  | false => [.agg (hoR x 7 ++ [.bool false])]

theorem c483 (h : Bool) : (orcL AP).p 483 [.agg (leE h)] = some [.bool true] := by
  cases h
  · exact Fc.p_of (k := 100) (n := 40) (by kernel_rfl)
  · exact Fc.p_of (k := 100) (n := 40) (by kernel_rfl)
theorem c486 : (orcL AP).p 486 [.lst []] = some [.lst []] := Fc.p_of (k := 100) (n := 40) (by kernel_rfl)
theorem c485 (h : Bool) : (orcL AP).p 485 [.lst [], .lst [], .agg (leE h)] = some [.bool true] := by
  cases h
  · exact Fc.p_of (k := 100) (n := 40) (by kernel_rfl)
  · exact Fc.p_of (k := 100) (n := 40) (by kernel_rfl)
theorem c484i : (orcL AP).p 484 [.agg inE, .agg inD] = some [.bool true] := Fc.p_of (k := 100) (n := 40) (by kernel_rfl)
theorem c414h7 : (orcL AP).p 414 [.agg (hoE 7)] = some [.lst []] := Fc.p_of (k := 100) (n := 40) (by kernel_rfl)
theorem c414h8 : (orcL AP).p 414 [.agg (hoE 8)] = some [.lst []] := Fc.p_of (k := 100) (n := 40) (by kernel_rfl)
theorem c414b : (orcL AP).p 414 [.agg (bdE true)] = some [.lst [.agg (hoE 8)]] := Fc.p_of (k := 100) (n := 40) (by kernel_rfl)
theorem c414l (h : Bool) : (orcL AP).p 414 [.agg (leE h)] = some [.lst [.agg (bdE h), .agg inE]] := by
  cases h
  · exact Fc.p_of (k := 100) (n := 40) (by kernel_rfl)
  · exact Fc.p_of (k := 100) (n := 40) (by kernel_rfl)
end Go.Ab.Lw
namespace Go.Ab.Lw
open Ev
set_option maxRecDepth 100000
set_option linter.unusedSimpArgs false
/-- What the law needs of its type. -/
structure Hx (S : List Ty) (x : Ty) : Prop where
  few : S.length ≤ 1000
  ok : x.Ok
  nok : NoK x
  nm : x.Nm
  val : validT x = true
  good : Good S x
theorem Hx.few' {S : List Ty} {x : Ty} (h : Hx S x) : S.length < 1099511627776 := by have := h.few; omega
theorem Hx.vars {S : List Ty} {x : Ty} (h : Hx S x) : (Lw.vars [x]).length ≤ 1000 := by
  have c0 : Coll (S.map Ty.id) [] := coll_nil (by simpa using h.few')
  have c1 := c0.fold (l := [x].flatMap Ty.nodes) (by
    intro y hx hk
    simp at hx
    exact List.mem_map_of_mem (h.good.sub y (nodes_var h.good.wf y hx hk)))
  have := nodup_len c1.nodup c1.sub
  rw [List.length_map] at this
  have := h.few
  unfold Lw.vars
  omega

theorem c75n : (orcL AP).i 75 [.pv (.lst []), .fn 503 []] [] [] = some ([.pv (.bool false)], [], []) := by
  have h := c75 (s := []) (by simp [Sm]) (sh := []) (by intro cs h; simp at h) (g := 503) (cap := []) (p := fun _ => false) rfl rfl rfl (fun _ _ => rfl) rfl (by simp)
  simpa using h
theorem c502I : (orcL AP).p 502 [tyInt.pv] = some [.bool true] := Fc.p_of (k := 100) (n := 40) (by kernel_rfl)

theorem c484a {x : Ty} (hO : x.Ok) (hK : NoK x) (hM : x.Nm) (hv : validT x = true) (p : Int) (hp : (orcL AP).p 414 [.agg (hoE p)] = some [.lst []]) : (orcL AP).p 484 [.agg (hoE p), .agg (deL x [] [])] = some [.bool true] := by
  have k1 := c502 hO hK hM hv
  have k2 := c75n
  simp [hoE, exL] at hp
  simp at k1 k2
  rw [callP_body (af := g484) rfl rfl (by decide)]
  simp [g484, hoE, exL, deL, hp, k1, k2, g484L0_eq, g484B0]
theorem c484b {x : Ty} (hO : x.Ok) (hK : NoK x) (hM : x.Nm) (hv : validT x = true) (h : Bool) : (orcL AP).p 484 [.agg (bdE h), .agg (bdD x h)] = some [.bool true] := by
  cases h with
  | false => exact c484a hO hK hM hv 7 c414h7
  | true =>
    have k0 := c484a hO hK hM hv 8 c414h8
    have k1 := c502 hO hK hM hv
    have k2 := c75n
    have k3 := c414b
    simp [bdE, hoE, exL, deL] at k0 k3
    simp at k1 k2
    rw [callP_body (af := g484) rfl rfl (by decide)]
    simp [g484, bdE, bdD, hoE, exL, deL, k0, k1, k2, k3, g484L0_eq, g484B0, wrap_id]
theorem c484l {x : Ty} (hO : x.Ok) (hK : NoK x) (hM : x.Nm) (hv : validT x = true) (h : Bool) (g : List Int) : (orcL AP).p 484 [.agg (leE h), .agg (leD h x g)] = some [.bool true] := by
  have k0 := c484b hO hK hM hv h
  have ki := c484i
  have k1 := c502I
  have k2 := c75n
  have k3 := c414l h
  cases h
  · simp [bdE, bdD, inE, inD, leE, hoE, exL, deL, tyInt] at k0 ki k3 k1
    rw [callP_body (af := g484) rfl rfl (by decide)]
    simp [g484, bdE, bdD, inE, inD, leE, leD, hoE, exL, deL, tyInt, k0, ki, k1, k2, k3, g484L0_eq, g484B0, wrap_id]
  · simp [bdE, bdD, inE, inD, leE, hoE, exL, deL, tyInt] at k0 ki k3 k1
    rw [callP_body (af := g484) rfl rfl (by decide)]
    simp [g484, bdE, bdD, inE, inD, leE, leD, hoE, exL, deL, tyInt, k0, ki, k1, k2, k3, g484L0_eq, g484B0, wrap_id]

theorem c182n : (orcL AP).p 182 [.lst []] = some [.lst []] := Fc.p_of (k := 100) (n := 40) (by kernel_rfl)
theorem c506 {x : Ty} (k q p : Int) : (orcL AP).p 506 [.agg [.lst [], vI 3], .lst [], .agg (exL k p [] 0 (if q = 0 then [] else [.agg (hoE 8)])), .agg (deL x [] (if q = 0 then [] else [.agg (deL x [] [])]))] = some [.agg (hoR x p)] := by
  have k1 := c182n
  rw [callP_body (af := g506) rfl rfl (by decide)]
  by_cases e : q = 0
  · simp [g506, exL, deL, hoR, k1, e]
  · simp [g506, exL, deL, hoE, hoR, k1, e]
theorem c506h {x : Ty} (p : Int) : (orcL AP).p 506 [.agg [.lst [], vI 3], .lst [], .agg (hoE p), .agg (deL x [] [])] = some [.agg (hoR x p)] := by
  simpa [hoE] using c506 (x := x) 10 0 p
theorem c506b {x : Ty} : (orcL AP).p 506 [.agg [.lst [], vI 3], .lst [], .agg (bdE true), .agg (bdD x true)] = some [.agg (hoR x 7)] := by
  simpa [bdE, bdD] using c506 (x := x) 11 1 7

/-! ### Variables of holes -/
theorem c199n : (orcL AP).p 199 [.lst []] = some [.lst []] := Fc.p_of (k := 100) (n := 40) (by kernel_rfl)
theorem c199ni : (orcL AP).i 199 [.pv (.lst [])] [] [] = some ([.own [] 0], [], [0]) := by
  have h := c199i (S := []) (by simp) (l := []) (by simp [Sm]) (by simp)
  simpa [freeE, seenE, vars] using h
def varsR (v : List Int) : Bool → List Int
  | true => v ++ v
  | false => v
theorem c513 {S : List Ty} {x : Ty} (H : Hx S x) (h : Bool) : (orcL AP).p 513 [.lst (holesR x h)] = some [.lst ((varsR (vars [x]) h).map vI)] := by
  have k1 := g55 H.few' (l := [x]) (by simp [Sm]) (by simpa using H.good)
  have k2 := c199n
  have hl := H.vars
  generalize vars [x] = v at *
  simp at k1
  have b1 : v.length * 8 ≤ 140737488355328 := by omega
  have b2 : (v.length + v.length) * 8 ≤ 140737488355328 := by omega
  have h1 := el_int.head v
  have h2 := el_int.head (v ++ v)
  simp at h2
  rw [callP_body (af := g513) rfl rfl (by decide)]
  cases h
  · simp (disch := omega) [g513, holesR, hoR, varsR, k1, k2, g513L0_eq, g513B0, wrap_id, h1, b1]
  · simp (disch := omega) [g513, holesR, hoR, varsR, k1, k2, g513L0_eq, g513B0, wrap_id, h1, h2, b1, b2]

/-! ### What may be generalized -/
theorem c493n {S : List Ty} {x : Ty} (H : Hx S x) (h : Bool) : (orcL AP).p 493 [.lst [], x.pv, .lst [], .lst (holesR x h)] = some [.bool true] := by
  have k1 := g55 H.few' (l := [x]) (by simp [Sm]) (by simpa using H.good)
  have k2 := c199ni
  have k3 := c513 H h
  have hl := H.vars
  have hw : (varsR (vars [x]) h).length ≤ (vars [x]).length + (vars [x]).length := by cases h <;> simp [varsR]
  generalize varsR (vars [x]) h = w at *
  generalize vars [x] = v at *
  generalize holesR x h = R at *
  have b1 : w.length * 8 ≤ 140737488355328 := by omega
  have h1 := el_int.head w
  simp at k1
  rw [callP_body (af := g493) rfl rfl (by decide)]
  simp (disch := omega) [g493, k1, k2, k3, g493L0_eq, g493B0, wrap_id, h1, b1]
theorem c493v {S : List Ty} {x : Ty} (H : Hx S x) (h : Bool) {i : Int} (hi : i ∈ vars [x]) : (orcL AP).p 493 [.lst [vI i], x.pv, .lst [], .lst (holesR x h)] = some [.bool false] := by
  have k1 := g55 H.few' (l := [x]) (by simp [Sm]) (by simpa using H.good)
  have k2 := c199ni
  have k3 := c513 H h
  have hl := H.vars
  have hw : (varsR (vars [x]) h).length ≤ (vars [x]).length + (vars [x]).length := by cases h <;> simp [varsR]
  have hm : i ∈ varsR (vars [x]) h := by cases h <;> simp [varsR, hi]
  have k4 := c98 (s := []) (by simp [Sm]) (y := i)
  have k5 := c98 (s := vars [x]) (by unfold Sm; omega) (y := i)
  have k6 := c98 (s := varsR (vars [x]) h) (by unfold Sm; omega) (y := i)
  rw [decide_eq_true hi] at k5
  rw [decide_eq_true hm] at k6
  generalize varsR (vars [x]) h = w at *
  generalize vars [x] = v at *
  generalize holesR x h = R at *
  have b1 : w.length * 8 ≤ 140737488355328 := by omega
  have h1 := el_int.head w
  have hsl : evSlice false 1 false true false [.pv (.lst [vI i]), .pv (vI 0)] = some (.pv (.lst [])) := rfl
  simp at k1 k4 k5 k6
  rw [callP_body (af := g493) rfl rfl (by decide)]
  simp (disch := omega) [g493, k1, k2, k3, k4, k5, k6, hsl, g493L0_eq, g493B0, wrap_id, h1, b1]
end Go.Ab.Lw
namespace Go.Ab.Lw
open Ev
set_option maxRecDepth 100000
set_option linter.unusedSimpArgs false
def chP : PV := .agg [.lst [], vI 3]
def recR (x : Ty) (p : Int) (h : Bool) : PV := .agg (hoR x p ++ [.bool h])
theorem c487h {x : Ty} (p : Int) : (orcL AP).p 487 [chP, .lst [], .agg (hoE p), .agg (deL x [] [])] = some [.lst [recR x p false], .bool true] := by
  have k1 := c506h (x := x) p
  simp [hoE, exL, deL, hoR] at k1
  rw [callP_body (af := g487) rfl rfl (by decide)]
  simp [g487, chP, recR, hoE, exL, deL, hoR, k1]
theorem c487hi {x : Ty} (p : Int) : (orcL AP).i 487 [.pv chP, .pv (.lst []), .pv (.agg (hoE p)), .pv (.agg (deL x [] []))] [] [] = some ([.own [recR x p false] 0, .pv (.bool true)], [], [1]) := by
  have k1 := c506h (x := x) p
  simp [hoE, exL, deL, hoR] at k1
  rw [callI_body (af := g487) rfl (by simp [g487])]
  simp [g487, chP, recR, hoE, exL, deL, hoR, k1]
theorem c487bi {x : Ty} (hO : x.Ok) : (orcL AP).i 487 [.pv chP, .pv (.lst []), .pv (.agg (bdE true)), .pv (.agg (bdD x true))] [] [] = some ([.own [recR x 8 false, recR x 7 true] 0, .pv (.bool true)], [], [2]) := by
  have k1 := c506b (x := x)
  have k2 := c487h (x := x) 8
  have k3 := c33e (a := x) (b := x) hO
  simp [bdE, bdD, hoE, exL, deL, hoR] at k1
  simp [chP, hoE, exL, deL, hoR, recR] at k2
  simp at k3
  rw [callI_body (af := g487) rfl (by simp [g487])]
  simp [g487, chP, recR, bdE, bdD, hoE, exL, deL, hoR, k1, k2, k3, g487L0_eq, g487B0, wrap_id]
theorem c487ni {l : List PV} : (orcL AP).i 487 [.pv chP, .pv (.lst l), .pv (.agg inE), .pv (.agg inD)] [] [] = some ([.own [] 0, .pv (.bool true)], [], [0]) := by
  have k1 := c505
  have k2 : (orcL AP).p 33 [tyInt.pv, tyInt.pv] = some [.bool true] := by simpa using c33e (a := tyInt) (b := tyInt) (bare_ok rfl)
  simp [tyInt] at k1 k2
  rw [callI_body (af := g487) rfl (by simp [g487])]
  simp [g487, chP, inE, inD, exL, deL, tyInt, k1, k2]
def nH : Bool → Nat
  | true => 2
  | false => 1
theorem c487ki {x : Ty} (hO : x.Ok) (h : Bool) : (orcL AP).i 487 [.pv chP, .pv (.lst []), .pv (.agg (bdE h)), .pv (.agg (bdD x h))] [] [] = some ([.own (holesR x h) 0, .pv (.bool true)], [], [nH h]) := by
  cases h
  · exact c487hi 7
  · exact c487bi hO

theorem c508n {S : List Ty} {x : Ty} (H : Hx S x) (h : Bool) : (orcL AP).i 508 [.pv chP, .pv (.lst []), .pv (.lst []), .pv (.agg (leE h)), .pv (.agg (leD h x []))] [] [] = some ([.own (holesR x h) 0, .pv (.bool true)], [], [nH h]) := by
  have k1 := c487ki H.ok h
  have k2 := c493n H h
  have k3 := c437 H.few' H.good (ids := []) (by simp [Sm])
  have k4 := c177 (l := []) (by simp [Sm]) (n := [104]) (c := closeSc [] x (Lw.vars [x]))
  have k5 := c487ni (l := [En.mk [104] (closeSc [] x (Lw.vars [x]))].map En.pv)
  have k6 : (orcL AP).p 33 [tyInt.pv, tyInt.pv] = some [.bool true] := by simpa using c33e (a := tyInt) (b := tyInt) (bare_ok rfl)
  generalize closeSc [] x (Lw.vars [x]) = c at *
  have hh : (holesR x h).length = nH h := by cases h <;> rfl
  simp at k3 k4
  simp [chP, inE, inD, exL, deL, tyInt] at k1 k5 k6
  simp at k2
  rw [callI_body (af := g508) rfl (by simp [g508])]
  cases h
  · simp [holesR, bdE, bdD, hoE, hoR, exL, deL, nH] at k1 k2 ⊢
    simp [g508, chP, leE, leD, bdE, bdD, hoE, inE, inD, hoR, exL, deL, tyInt, k1, k2, k3, k4, k5, k6]
  · simp [holesR, bdE, bdD, hoE, hoR, exL, deL, nH] at k1 k2 ⊢
    simp [g508, chP, leE, leD, bdE, bdD, hoE, inE, inD, hoR, exL, deL, tyInt, k1, k2, k3, k4, k5, k6]
end Go.Ab.Lw
namespace Go.Ab.Lw
open Ev
set_option maxRecDepth 100000
set_option linter.unusedSimpArgs false
theorem c508v {S : List Ty} {x : Ty} (H : Hx S x) (h : Bool) {i : Int} (hi : i ∈ Lw.vars [x]) : (orcL AP).i 508 [.pv chP, .pv (.lst []), .pv (.lst []), .pv (.agg (leE h)), .pv (.agg (leD h x [i]))] [] [] = some ([.own [] 0, .pv (.bool false)], [], [0]) := by
  have k1 := c487ki H.ok h
  have k2 := c493v H h hi
  have hh : (holesR x h).length = nH h := by cases h <;> rfl
  simp [chP] at k1
  simp at k2
  rw [callI_body (af := g508) rfl (by simp [g508])]
  cases h
  · simp [holesR, bdE, bdD, hoE, hoR, exL, deL, nH] at k1 k2 ⊢
    simp [g508, chP, leE, leD, bdE, bdD, hoE, inE, inD, hoR, exL, deL, tyInt, k1, k2]
  · simp [holesR, bdE, bdD, hoE, hoR, exL, deL, nH] at k1 k2 ⊢
    simp [g508, chP, leE, leD, bdE, bdD, hoE, inE, inD, hoR, exL, deL, tyInt, k1, k2]

def outH (x : Ty) (h : Bool) : List Int → List PV
  | [] => [.lst (holesR x h), .bool true]
  | _ :: _ => [.lst [], .bool false]
theorem c487l {S : List Ty} {x : Ty} (H : Hx S x) (h : Bool) {g : List Int} (hg : g = [] ∨ ∃ i ∈ Lw.vars [x], g = [i]) : (orcL AP).p 487 [chP, .lst [], .agg (leE h), .agg (leD h x g)] = some (outH x h g) := by
  rcases hg with rfl | ⟨i, hi, rfl⟩
  · have k := c508n H h
    rw [callP_body (af := g487) rfl rfl (by decide)]
    simp [chP, leE, leD, exL, deL] at k
    simp [g487, chP, leE, leD, exL, deL, k, outH]
  · have k := c508v H h hi
    rw [callP_body (af := g487) rfl rfl (by decide)]
    simp [chP, leE, leD, exL, deL] at k
    simp [g487, chP, leE, leD, exL, deL, k, outH]

def chkH (x : Ty) (h : Bool) : List Int → List PV
  | [] => [.lst (holesR x h), vI 0]
  | _ :: _ => [.lst [], vI 18]
theorem c473 {S : List Ty} {x : Ty} (H : Hx S x) (h : Bool) {g : List Int} (hg : g = [] ∨ ∃ i ∈ Lw.vars [x], g = [i]) : (orcL AP).p 473 [.lst [], .lst [], vI 3, .agg (leE h), .agg (leD h x g)] = some (chkH x h g) := by
  have k1 := c483 h
  have k2 := c484l H.ok H.nok H.nm H.val h g
  have k3 := c485 h
  have k4 := c486
  have k5 := c487l H h hg
  rw [callP_body (af := g473) rfl rfl (by decide)]
  simp [leE, leD, exL, deL, chP] at k1 k2 k3 k5
  rcases hg with rfl | ⟨i, hi, rfl⟩
  · simp [outH] at k5
    simp at k2
    simp [g473, leE, leD, exL, deL, k1, k2, k3, k4, k5, chkH]
  · simp [outH] at k5
    simp at k2
    simp [g473, leE, leD, exL, deL, k1, k2, k3, k4, k5, chkH]

def hosR (x : Ty) : Bool → List PV
  | true => [.agg (hoR x 8), .agg (hoR x 7)]
  | false => [.agg (hoR x 7)]
def resH (x : Ty) (h : Bool) : List Int → List PV
  | [] => [.lst (hosR x h), vI 0]
  | _ :: _ => [.lst [], vI 18]
theorem c453 {S : List Ty} {x : Ty} (H : Hx S x) (h : Bool) {g : List Int} (hg : g = [] ∨ ∃ i ∈ Lw.vars [x], g = [i]) : (orcL AP).p 453 [.lst [], .lst [], vI 3, .agg (leE h), .agg (leD h x g)] = some (resH x h g) := by
  have k := c473 H h hg
  rw [callP_body (af := g453) rfl rfl (by decide)]
  simp [leE, leD, exL, deL] at k
  rcases hg with rfl | ⟨i, hi, rfl⟩
  · simp [chkH] at k
    cases h
    · simp [holesR, hoR] at k
      simp [g453, leE, leD, exL, deL, k, resH, hosR, hoR, g453L0_eq, g453B0, wrap_id]
    · simp [holesR, hoR] at k
      simp [g453, leE, leD, exL, deL, k, resH, hosR, hoR, g453L0_eq, g453B0, wrap_id]
  · simp [chkH] at k
    simp [g453, leE, leD, exL, deL, k, resH, g453L0_eq, g453B0]
end Go.Ab.Lw
namespace Go.Ab.Lw
open Ev
set_option maxRecDepth 100000
set_option linter.unusedSimpArgs false
def leavesH : List Ty := [tyVar 0, tyVar 1, tyVar 2, tyRigid 0 1]
theorem leavesH_bare : ∀ t, t ∈ leavesH → t.args = [] := by
  intro t ht
  simp [leavesH] at ht
  rcases ht with rfl | rfl | rfl | rfl <;> rfl
theorem leavesH_nm : ∀ t, t ∈ leavesH → SmS t.name ∧ t.args = [] := by
  intro t ht
  refine ⟨?_, leavesH_bare t ht⟩
  simp [leavesH] at ht
  rcases ht with rfl | rfl | rfl | rfl <;> simp [tyVar, tyRigid, SmS]
theorem leavesH_k : ∀ t, t ∈ leavesH → t.args = [] ∧ t.kind ≠ 2 ∧ t.kind ≠ 5 := by
  intro t ht
  refine ⟨leavesH_bare t ht, ?_⟩
  simp [leavesH] at ht
  rcases ht with rfl | rfl | rfl | rfl <;> simp [tyVar, tyRigid]
theorem leavesH_valid : ∀ t, t ∈ leavesH → validT t = true := by
  intro t ht
  simp [leavesH] at ht
  rcases ht with rfl | rfl | rfl | rfl <;> (rw [validT_eq]; decide +kernel)
theorem hx_made {x : Ty} (m : Made (· ∈ leavesH) x) : Hx leavesH x where
  few := by simp [leavesH]
  ok := m.ok leavesH_bare
  nok := m.noK leavesH_k
  nm := m.nm leavesH_nm
  val := m.valid leavesH_valid
  good := m.good leavesH_bare

theorem law446 (bits : Int) (L : List Int) (n0 : Int) (h : Bool) : (orcL AP).p 446 [vI bits, .lst (L.map vI), vI n0, .bool h] = some [.bool true] := by
  have c0 := c448
  have c1 := c15 (l := L)
  rw [callP_body (af := g446) rfl rfl (by decide)]
  by_cases hL : L.length ≤ 60
  · simp [hL] at c1
    have hLs : Sm L := by unfold Sm; omega
    obtain ⟨ds, e1, hda, hds⟩ := c32 bits
    have h8 : ∀ d ∈ ds, d.params.length ≤ 8 := fun d hd => (all_D8 d (hda d hd)).1
    obtain ⟨x, j, e2, mt, hj⟩ := mk27 hLs (ds := ds) (by omega) h8 (lv := leavesH) (by simp [Sm, leavesH]) 2 (by omega) 0 (by omega)
    have H := hx_made (MadeG.made (D := (· ∈ ds)) (fun d hd => hda d hd) mt)
    have k1 := c70_3 (sh := tp L 0) (by simp [Calm, tp])
    have k2 := c71 (n := 0) (m := 1)
    have k3 := c34
    have k4 := c453 H h (g := []) (.inl rfl)
    have k5 := g56 H.few' (fun y hy => bare_ok (leavesH_bare y hy)) (l := [x]) (by simp [Sm]) (by simpa using H.good)
    have k6 := c20 (a := x) (b := x) H.ok
    have k7 := fun i (hi : i ∈ Lw.vars [x]) => c453 H h (g := [i]) (.inr ⟨i, hi, rfl⟩)
    have hv := H.vars
    generalize Lw.vars [x] = v at *
    clear hj mt H
    simp [leavesH, tyVar, tyRigid] at e2 k1
    simp at e1 k2 k3 k5 k6
    simp [leE, leD, inD, inE, tyInt, exL, deL] at k4 k7
    by_cases hv0 : v = []
    · subst hv0
      cases h
      · simp [resH, bdE, bdD, hosR, hoE, exL, deL, hoR] at k4
        simp [g446, c0, c1, e1, e2, k1, k2, k3, k4, k5, k6]
      · simp [resH, bdE, bdD, hosR, hoE, exL, deL, hoR] at k4
        simp [g446, c0, c1, e1, e2, k1, k2, k3, k4, k5, k6]
    · have hl : 0 < v.length := by cases v with | nil => exact absurd rfl hv0 | cons a r => simp
      obtain ⟨q, k8, q1, q2⟩ := c26 (n := n0) (m := v.length) (by omega) (by omega)
      obtain ⟨p, rfl⟩ : ∃ p : Nat, q = p := ⟨q.toNat, by omega⟩
      have hp : p < v.length := by omega
      obtain ⟨i, hi⟩ := getO hp
      have k9 := k7 i (memO hi)
      have hne : ¬ (v.length : Int) = 0 := by omega
      cases h
      · simp [resH, bdE, bdD, hosR, hoE, exL, deL, hoR] at k4 k9
        simp (disch := omega) [-getElem?_pos, g446, c0, c1, e1, e2, k1, k2, k3, k4, k5, k6, k8, k9, hne, hv0, hi, hp]
      · simp [resH, bdE, bdD, hosR, hoE, exL, deL, hoR] at k4 k9
        simp (disch := omega) [-getElem?_pos, g446, c0, c1, e1, e2, k1, k2, k3, k4, k5, k6, k8, k9, hne, hv0, hi, hp]
  · simp [hL] at c1
    simp [g446, c0, c1]
end Go.Ab.Lw
