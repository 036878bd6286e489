import Derived.Test.YtejloknaphfbeaaGreatCodeB
import Derived.Test.YtejloknaphfbeaaGreatAbBridge
import Derived.Test.YtejloknaphfbeaaGreatAbForce
import Derived.KernelRfl
/-
  The program's data.
  The makers: what their functions give.
  The makers: what their functions give.
  The data declarations that programs are made of: what the reader makes of their text.
  The makers: data declarations, chosen by bits.
  The makers: types and substitutions off the tape.
  Types and substitutions: what replaces variables.
  Types: rebuilding with new leaves.
  Substitutions: composing; equality of types and of substitutions.
  Chapter 13: the plain laws, and the law that composition composes.
  Chapter 13: equality of substitutions; the laws SubstAssociates and SubstEqual.
  Functions of package slices over any elements.
  Ranges over a slice backward.
  Names, and which types are valid.
  Which types are valid.
  Contexts: their entries; looking names up.
  Valid types by the reference; small types.
  What the pure data of a parameter looks like.
  Chapter 3: what its laws make; the laws TypesValid and TypesEqual.
  The variables of types, by the program and by the reference.
  The reference's variables of types; they are the program's.
  Contexts: schemes, adding, hidden entries; what law 19 makes.
  Law 19 makes contexts; the law EnvironLooks.
  The maker of types over any list of data types.
  Correct types in declarations.
  Chapter 9: written type variables become quantified ones.
  Chapter 3: opening.
  Chapter 9: the names of written type variables.
  Expressions.
  Raw expressions: what the maker gives.
  The maker of raw expressions.
  Signatures: written type variables become rigid constants.
  Chapter 9: what its laws make.
  Chapter 9: declarations off the tape.
  Chapter 9: the scheme of a constructor.
  Chapter 9: the first error of a list of declarations, by the program.
  The laws DeclareFormed and DeclareCheck.
  The law DeclareFinds.
  Chapter 9: what a correct list of declarations is.
  The law DeclareBinds.
  Which schemes are valid, by the program and by the reference.
  Valid schemes: the program's and the reference's answers are one.
  Valid schemes, by the program; closing and mono.
  Closing and mono, by the program.
  The law SchemeValid.
  Signatures: both say the same, and the schemes are valid.
  Signatures: the schemes are valid.
  The law DeriveSignature.
-/
set_option linter.unusedVariables false
set_option linter.unusedSimpArgs false
namespace Go.Ab.Lw
/-- A type. -/
structure Ty where
  kind : Int
  name : List UInt8
  id : Int
  home : Int
  args : List Ty
  deriving Inhabited

noncomputable instance : DecidableEq Ty := fun _ _ => Classical.propDecidable _

mutual
def Ty.pv : Ty → PV
  | ⟨k, n, i, h, as⟩ => .agg [.int .i64 k, .str n, .int .i64 i, .int .i64 h, .lst (Ty.pvs as)]
def Ty.pvs : List Ty → List PV
  | [] => []
  | a :: r => a.pv :: Ty.pvs r
end

theorem Ty.pvs_map : ∀ l : List Ty, Ty.pvs l = l.map Ty.pv
  | [] => by simp [Ty.pvs]
  | a :: r => by simp [Ty.pvs, Ty.pvs_map r]

@[simp] theorem Ty.pv_eq (t : Ty) : t.pv = .agg [.int .i64 t.kind, .str t.name, .int .i64 t.id, .int .i64 t.home, .lst (t.args.map Ty.pv)] := by
  cases t; simp only [Ty.pv, Ty.pvs_map]

/-- A property of all types that are parts. -/
theorem Ty.rec1 {p : Ty → Prop} (h : ∀ t : Ty, (∀ x ∈ t.args, p x) → p t) : ∀ t, p t
  | ⟨k, n, i, hm, as⟩ => h _ (fun x _hx => Ty.rec1 h x)
termination_by t => SizeOf.sizeOf t
decreasing_by have := _root_.List.sizeOf_lt_of_mem _hx; simp at *; omega

/-- A constructor, and a data declaration. -/
structure Con where
  pos : Int
  name : List UInt8
  fields : List Ty
  deriving Inhabited
structure Dt where
  pos : Int
  name : List UInt8
  params : List (List UInt8)
  cons : List Con
  deriving Inhabited
def Con.pv (c : Con) : PV := .agg [.int .i64 c.pos, .str c.name, .lst (c.fields.map Ty.pv)]
def Dt.pv (d : Dt) : PV := .agg [.int .i64 d.pos, .str d.name, .lst (d.params.map .str), .lst (d.cons.map Con.pv)]
@[simp] theorem Con.pv_eq (c : Con) : c.pv = .agg [.int .i64 c.pos, .str c.name, .lst (c.fields.map Ty.pv)] := rfl
@[simp] theorem Dt.pv_eq (d : Dt) : d.pv = .agg [.int .i64 d.pos, .str d.name, .lst (d.params.map .str), .lst (d.cons.map Con.pv)] := rfl

/-- An assignment. -/
structure As where
  id : Int
  ty : Ty
  deriving Inhabited
def As.pv (a : As) : PV := .agg [.int .i64 a.id, .int .i64 a.ty.kind, .str a.ty.name, .int .i64 a.ty.id, .int .i64 a.ty.home, .lst (a.ty.args.map Ty.pv)]
@[simp] theorem As.pv_eq (a : As) : a.pv = .agg [.int .i64 a.id, .int .i64 a.ty.kind, .str a.ty.name, .int .i64 a.ty.id, .int .i64 a.ty.home, .lst (a.ty.args.map Ty.pv)] := rfl

@[simp] theorem Ty.eta (t : Ty) : Ty.mk t.kind t.name t.id t.home t.args = t := by cases t; rfl
@[simp] theorem As.eta (t : As) : As.mk t.id t.ty = t := rfl

abbrev vI (n : Int) : PV := .int .i64 n
def tp (L : List Int) (i : Int) : Sh := [some [.pv (.lst (L.map vI)), .pv (vI i)]]
@[simp] theorem tp_eq (L : List Int) (i : Int) : tp L i = [some [.pv (.lst (L.map vI)), .pv (vI i)]] := rfl

/-- Lists that any memory holds. -/
def Sm {α : Type} (l : List α) : Prop := l.length < 1099511627776

/-- Texts that any memory holds. -/
def SmS {α : Type} (l : List α) : Prop := l.length ≤ 9223372036854775807

@[simp] theorem natNeg (n : Nat) : ((n : Int) < 0) ↔ False := by simp
@[simp] theorem natNeg1 (n : Nat) : ((n : Int) + 1 < 0) ↔ False := by simp; omega

theorem dropC {α : Type} {l : List α} {i : Nat} {x : α} (h : l[i]? = some x) : l.drop i = x :: l.drop (i + 1) := by
  obtain ⟨hi, rfl⟩ := List.getElem?_eq_some_iff.1 h
  exact List.drop_eq_getElem_cons hi
theorem getO {α : Type} {l : List α} {i : Nat} (h : i < l.length) : ∃ x, l[i]? = some x := ⟨_, List.getElem?_eq_getElem h⟩
theorem memO {α : Type} {l : List α} {i : Nat} {x : α} (h : l[i]? = some x) : x ∈ l := List.mem_of_getElem? h
end Go.Ab.Lw
namespace Go.Ab.Lw
open Ev
set_option maxRecDepth 10000
set_option linter.unusedSimpArgs false
theorem c26 {n m : Int} (h1 : 1 ≤ m) (h2 : m < 4611686018427387904) : ∃ r, (orcL AP).p 26 [vI n, vI m] = some [vI r] ∧ 0 ≤ r ∧ r < m := by
  rw [callP_body (af := g26) rfl rfl (by decide)]
  have a1 := Int.tmod_lt_of_pos n (show 0 < m by omega)
  have a2 := Int.lt_tmod_of_pos n (show 0 < m by omega)
  have e1 : ¬ m < 1 := by omega
  have e2 : ¬ m = 0 := by omega
  by_cases h : n.tmod m < 0
  · refine ⟨n.tmod m + m, ?_, by omega, by omega⟩
    simp (disch := omega) [g26, e1, e2, h, wrap_id]
  · refine ⟨n.tmod m, ?_, by omega, by omega⟩
    simp [g26, e1, e2, h]

/-- A choice off the tape. -/
theorem c68 {L : List Int} (hL : Sm L) {i : Nat} (hi : i ≤ L.length) {n : Int} (h1 : 1 ≤ n) (h2 : n < 4611686018427387904) :
    ∃ (r : Int) (j : Nat), (orcL AP).i 68 [.sptr 0 0, .pv (vI n)] (tp L i) [] = some ([.pv (vI r)], tp L j, []) ∧ 0 ≤ r ∧ r < n ∧ j ≤ L.length := by
  unfold Sm at hL
  rw [callI_body (af := g68) rfl (by simp [g68])]
  by_cases h : i < L.length
  · obtain ⟨x, hx⟩ := getO h
    obtain ⟨r, e, e1, e2⟩ := c26 (n := x) h1 h2
    refine ⟨r, i + 1, ?_, e1, e2, h⟩
    have h' : ¬ L.length ≤ i := by omega
    simp (disch := omega) [-getElem?_pos, g68, h', wrap_id, hx, e]
  · have h' : L.length ≤ i := by omega
    refine ⟨0, i, ?_, by omega, by omega, hi⟩
    simp [g68, h']

theorem c71 {n m : Int} : (orcL AP).p 71 [vI n, vI m] = some [(Ty.mk 3 [] m n []).pv] := by
  rw [callP_body (af := g71) rfl rfl (by decide)]
  simp [g71]
theorem c72 {n : Int} : (orcL AP).p 72 [vI n] = some [(Ty.mk 2 [] n 0 []).pv] := by
  rw [callP_body (af := g72) rfl rfl (by decide)]
  simp [g72]
theorem c62 {s : List UInt8} {l : List Ty} (h : Sm l) : (orcL AP).p 62 [.str s, .lst (l.map Ty.pv)] = some [(Ty.mk 4 s 0 0 l).pv] := by
  unfold Sm at h
  rw [callP_body (af := g62) rfl rfl (by decide)]
  cases l with
  | nil => simp [g62]
  | cons a r =>
    have : (r.length + 1) * 64 ≤ 140737488355328 := by simp at h; omega
    simp [g62, this]
theorem c34 : (orcL AP).p 34 [] = some [(Ty.mk 4 [73, 110, 116] 0 0 []).pv] := by
  rw [callP_body (af := g34) rfl rfl (by decide)]
  have h := c62 (s := [73, 110, 116]) (l := []) (by simp [Sm])
  simp at h
  simp [g34, h]
theorem c69 {a b : Ty} : (orcL AP).p 69 [a.pv, b.pv] = some [(Ty.mk 4 [45, 62] 0 0 [a, b]).pv] := by
  rw [callP_body (af := g69) rfl rfl (by decide)]
  have h := c62 (s := [45, 62]) (l := [a, b]) (by simp [Sm])
  simp at h
  simp [g69, h]
theorem c15 {l : List Int} : (orcL AP).p 15 [.lst (l.map vI)] = some [.bool (decide (l.length ≤ 60))] := by
  rw [callP_body (af := g15) rfl rfl (by decide)]
  simp [g15]
  omega

end Go.Ab.Lw
namespace Go.Ab.Lw
open Ev
set_option maxRecDepth 10000
set_option linter.unusedSimpArgs false
def tyRigid (h n : Int) : Ty := ⟨3, [], n, h, []⟩
def tyBound (n : Int) : Ty := ⟨2, [], n, 0, []⟩
def tyInt : Ty := ⟨4, [73, 110, 116], 0, 0, []⟩

end Go.Ab.Lw
namespace Go.Ab.Lw
set_option maxRecDepth 100000
set_option linter.unusedVariables false
def srcD : List UInt8 := [100, 97, 116, 97, 32, 66, 111, 111, 108, 32, 61, 32, 84, 114, 117, 101, 32, 124, 32, 70, 97, 108, 115, 101, 59, 32, 100, 97, 116, 97, 32, 79, 112, 116, 105, 111, 110, 32, 97, 32, 61, 32, 78, 111, 110, 101, 32, 124, 32, 83, 111, 109, 101, 32, 97, 59, 32, 100, 97, 116, 97, 32, 76, 105, 115, 116, 32, 97, 32, 61, 32, 78, 105, 108, 32, 124, 32, 67, 111, 110, 115, 32, 97, 32, 40, 76, 105, 115, 116, 32, 97, 41, 59, 100, 97, 116, 97, 32, 80, 97, 105, 114, 32, 97, 32, 98, 32, 61, 32, 80, 97, 105, 114, 32, 97, 32, 98, 59, 32, 100, 97, 116, 97, 32, 78, 97, 116, 32, 61, 32, 90, 101, 114, 111, 32, 124, 32, 83, 117, 99, 99, 32, 78, 97, 116, 59, 32, 100, 97, 116, 97, 32, 70, 117, 110, 32, 97, 32, 98, 32, 61, 32, 70, 117, 110, 32, 40, 97, 32, 45, 62, 32, 98, 41, 59, 32, 100, 97, 116, 97, 32, 84, 119, 111, 32, 97, 32, 61, 32, 66, 111, 116, 104, 32, 97, 32, 97, 32, 124, 32, 79, 110, 101, 32, 40, 79, 112, 116, 105, 111, 110, 32, 97, 41, 59]
def toksD : List PV := [.lst [.agg [.int .i64 4, .str [100, 97, 116, 97], .int .i64 0], .agg [.int .i64 2, .str [66, 111, 111, 108], .int .i64 5], .agg [.int .i64 5, .str [61], .int .i64 10], .agg [.int .i64 2, .str [84, 114, 117, 101], .int .i64 12], .agg [.int .i64 5, .str [124], .int .i64 17], .agg [.int .i64 2, .str [70, 97, 108, 115, 101], .int .i64 19], .agg [.int .i64 5, .str [59], .int .i64 24], .agg [.int .i64 4, .str [100, 97, 116, 97], .int .i64 26], .agg [.int .i64 2, .str [79, 112, 116, 105, 111, 110], .int .i64 31], .agg [.int .i64 1, .str [97], .int .i64 38], .agg [.int .i64 5, .str [61], .int .i64 40], .agg [.int .i64 2, .str [78, 111, 110, 101], .int .i64 42], .agg [.int .i64 5, .str [124], .int .i64 47], .agg [.int .i64 2, .str [83, 111, 109, 101], .int .i64 49], .agg [.int .i64 1, .str [97], .int .i64 54], .agg [.int .i64 5, .str [59], .int .i64 55], .agg [.int .i64 4, .str [100, 97, 116, 97], .int .i64 57], .agg [.int .i64 2, .str [76, 105, 115, 116], .int .i64 62], .agg [.int .i64 1, .str [97], .int .i64 67], .agg [.int .i64 5, .str [61], .int .i64 69], .agg [.int .i64 2, .str [78, 105, 108], .int .i64 71], .agg [.int .i64 5, .str [124], .int .i64 75], .agg [.int .i64 2, .str [67, 111, 110, 115], .int .i64 77], .agg [.int .i64 1, .str [97], .int .i64 82], .agg [.int .i64 5, .str [40], .int .i64 84], .agg [.int .i64 2, .str [76, 105, 115, 116], .int .i64 85], .agg [.int .i64 1, .str [97], .int .i64 90], .agg [.int .i64 5, .str [41], .int .i64 91], .agg [.int .i64 5, .str [59], .int .i64 92], .agg [.int .i64 4, .str [100, 97, 116, 97], .int .i64 93], .agg [.int .i64 2, .str [80, 97, 105, 114], .int .i64 98], .agg [.int .i64 1, .str [97], .int .i64 103], .agg [.int .i64 1, .str [98], .int .i64 105], .agg [.int .i64 5, .str [61], .int .i64 107], .agg [.int .i64 2, .str [80, 97, 105, 114], .int .i64 109], .agg [.int .i64 1, .str [97], .int .i64 114], .agg [.int .i64 1, .str [98], .int .i64 116], .agg [.int .i64 5, .str [59], .int .i64 117], .agg [.int .i64 4, .str [100, 97, 116, 97], .int .i64 119], .agg [.int .i64 2, .str [78, 97, 116], .int .i64 124], .agg [.int .i64 5, .str [61], .int .i64 128], .agg [.int .i64 2, .str [90, 101, 114, 111], .int .i64 130], .agg [.int .i64 5, .str [124], .int .i64 135], .agg [.int .i64 2, .str [83, 117, 99, 99], .int .i64 137], .agg [.int .i64 2, .str [78, 97, 116], .int .i64 142], .agg [.int .i64 5, .str [59], .int .i64 145], .agg [.int .i64 4, .str [100, 97, 116, 97], .int .i64 147], .agg [.int .i64 2, .str [70, 117, 110], .int .i64 152], .agg [.int .i64 1, .str [97], .int .i64 156], .agg [.int .i64 1, .str [98], .int .i64 158], .agg [.int .i64 5, .str [61], .int .i64 160], .agg [.int .i64 2, .str [70, 117, 110], .int .i64 162], .agg [.int .i64 5, .str [40], .int .i64 166], .agg [.int .i64 1, .str [97], .int .i64 167], .agg [.int .i64 5, .str [45, 62], .int .i64 169], .agg [.int .i64 1, .str [98], .int .i64 172], .agg [.int .i64 5, .str [41], .int .i64 173], .agg [.int .i64 5, .str [59], .int .i64 174], .agg [.int .i64 4, .str [100, 97, 116, 97], .int .i64 176], .agg [.int .i64 2, .str [84, 119, 111], .int .i64 181], .agg [.int .i64 1, .str [97], .int .i64 185], .agg [.int .i64 5, .str [61], .int .i64 187], .agg [.int .i64 2, .str [66, 111, 116, 104], .int .i64 189], .agg [.int .i64 1, .str [97], .int .i64 194], .agg [.int .i64 1, .str [97], .int .i64 196], .agg [.int .i64 5, .str [124], .int .i64 198], .agg [.int .i64 2, .str [79, 110, 101], .int .i64 200], .agg [.int .i64 5, .str [40], .int .i64 204], .agg [.int .i64 2, .str [79, 112, 116, 105, 111, 110], .int .i64 205], .agg [.int .i64 1, .str [97], .int .i64 212], .agg [.int .i64 5, .str [41], .int .i64 213], .agg [.int .i64 5, .str [59], .int .i64 214]], .agg [.int .i64 0, .int .i64 0]]

/-- All data declarations. -/
def allDatas : List Dt := [⟨0, [66, 111, 111, 108], [], [⟨12, [84, 114, 117, 101], []⟩, ⟨19, [70, 97, 108, 115, 101], []⟩]⟩,
  ⟨26, [79, 112, 116, 105, 111, 110], [[97]], [⟨42, [78, 111, 110, 101], []⟩, ⟨49, [83, 111, 109, 101], [⟨5, [97], 0, 0, []⟩]⟩]⟩,
  ⟨57, [76, 105, 115, 116], [[97]], [⟨71, [78, 105, 108], []⟩, ⟨77, [67, 111, 110, 115], [⟨5, [97], 0, 0, []⟩,⟨4, [76, 105, 115, 116], 0, 0, [⟨5, [97], 0, 0, []⟩]⟩]⟩]⟩,
  ⟨93, [80, 97, 105, 114], [[97], [98]], [⟨109, [80, 97, 105, 114], [⟨5, [97], 0, 0, []⟩,⟨5, [98], 0, 0, []⟩]⟩]⟩,
  ⟨119, [78, 97, 116], [], [⟨130, [90, 101, 114, 111], []⟩, ⟨137, [83, 117, 99, 99], [⟨4, [78, 97, 116], 0, 0, []⟩]⟩]⟩,
  ⟨147, [70, 117, 110], [[97], [98]], [⟨162, [70, 117, 110], [⟨4, [45, 62], 0, 0, [⟨5, [97], 0, 0, []⟩, ⟨5, [98], 0, 0, []⟩]⟩]⟩]⟩,
  ⟨176, [84, 119, 111], [[97]], [⟨189, [66, 111, 116, 104], [⟨5, [97], 0, 0, []⟩,⟨5, [97], 0, 0, []⟩]⟩, ⟨200, [79, 110, 101], [⟨4, [79, 112, 116, 105, 111, 110], 0, 0, [⟨5, [97], 0, 0, []⟩]⟩]⟩]⟩]

theorem scanD : (orcL AP).p 118 [.str srcD] = some toksD := Fc.p_of (k := 400) (n := 20) (by kernel_rfl)

def ovD (g : Nat) (x : List PV) : Option (List PV) := match g, x with
  | 118, [.str s] => if s = srcD then some toksD else none
  | _, _ => none
theorem ovD_ok : ∀ g x r, ovD g x = some r → (orcL AP).p g x = some r := by
  intro g x r h
  unfold ovD at h
  split at h
  · split at h
    · rename_i e; subst e; cases h; exact scanD
    · cases h
  · cases h

theorem c79 : (orcL AP).p 79 [] = some [.lst (allDatas.map Dt.pv)] := Fc.p_ofX (k := 400) (n := 40) ovD_ok (by kernel_rfl)
end Go.Ab.Lw
namespace Go.Ab.Lw
open Ev
set_option maxRecDepth 10000
set_option linter.unusedSimpArgs false
@[simp] theorem headSz_Dt {l : List Dt} : headSz 4 (l.map Dt.pv) = true := by cases l <;> simp
@[simp] theorem headSz_Ty {l : List Ty} : headSz 5 (l.map Ty.pv) = true := by cases l <;> simp
@[simp] theorem headSz_As {l : List As} : headSz 6 (l.map As.pv) = true := by cases l <;> simp

theorem wrapU_id {n : Int} (h1 : 0 ≤ n) (h2 : n < 18446744073709551616) : IntKind.u64.wrap n = n := by
  simp [IntKind.wrap, IntKind.bits, IntKind.signed]
  omega

def R32 (bits : Int) (ds : List Dt) : Option (AExit × St) :=
  some (.exit 0, ⟨[(0, .pv (vI bits)), (3, .pv (.lst (allDatas.map Dt.pv))), (4, .own (ds.map Dt.pv) 0), (5, .pv (vI 7)), (24, .pv (.bool false))], [], [], [ds.length]⟩)
theorem L32 (bits : Int) : ∀ (n i : Nat), 7 - i = n → i ≤ 7 → ∀ acc : List Dt, (∀ d ∈ acc, d ∈ allDatas) → acc.length ≤ 1 + i →
    ∃ ds : List Dt, cl AP g32L0 ⟨[(0, .pv (vI bits)), (3, .pv (.lst (allDatas.map Dt.pv))), (4, .own (acc.map Dt.pv) 0), (5, .pv (vI i))], [], [], [acc.length]⟩ = R32 bits ds ∧
      (∀ d ∈ ds, d ∈ allDatas) ∧ ds.length ≤ 8
  | 0, i, hn, hi, acc, ha, hl => by
    have : i = 7 := by omega
    subst this
    refine ⟨acc, ?_, ha, by omega⟩
    rw [g32L0_eq]
    have h7 : allDatas.length = 7 := rfl
    simp [g32B0, h7, R32]
  | n + 1, i, hn, hi, acc, ha, hl => by
    have h7 : allDatas.length = 7 := rfl
    have hi : i < 7 := by omega
    obtain ⟨x, hx⟩ := getO (l := allDatas) (i := i) (by omega)
    have hb : (acc.length + 1) * 72 ≤ 140737488355328 := by omega
    obtain ⟨d1, e1, m1, l1⟩ := L32 bits n (i + 1) (by omega) (by omega) (acc ++ [x]) (by
      intro d hd; simp at hd; rcases hd with hd | rfl
      · exact ha d hd
      · exact memO hx) (by simp; omega)
    obtain ⟨d2, e2, m2, l2⟩ := L32 bits n (i + 1) (by omega) (by omega) acc ha (by omega)
    simp at e1 e2
    have hi' : (i : Int) < 7 := by omega
    have key : ∀ S, S = cl AP g32L0 ⟨[(0, .pv (vI bits)), (3, .pv (.lst (allDatas.map Dt.pv))), (4, .own (acc.map Dt.pv) 0), (5, .pv (vI i))], [], [], [acc.length]⟩ → S = R32 bits d1 ∨ S = R32 bits d2 := by
      intro S hS
      rw [g32L0_eq] at hS
      simp (disch := omega) [-getElem?_pos, g32B0, h7, hi', hx, wrap_id, wrapU_id, hb, e1, e2] at hS
      subst hS
      (repeat' split) <;> simp
    rcases key _ rfl with h | h
    · exact ⟨d1, h, m1, l1⟩
    · exact ⟨d2, h, m2, l2⟩

theorem c32 (bits : Int) : ∃ ds : List Dt, (orcL AP).p 32 [vI bits] = some [.lst (ds.map Dt.pv)] ∧ (∀ d ∈ ds, d ∈ allDatas) ∧ ds.length ≤ 8 := by
  have hp := c79
  have h7 : allDatas.length = 7 := rfl
  obtain ⟨x, hx⟩ := getO (l := allDatas) (i := 1) (by decide)
  obtain ⟨d1, e1, m1, l1⟩ := L32 bits 7 0 rfl (by omega) [x] (by intro d hd; simp at hd; subst hd; exact memO hx) (by simp)
  obtain ⟨d2, e2, m2, l2⟩ := L32 bits 7 0 rfl (by omega) [] (by simp) (by simp)
  rw [g32L0_eq] at e1 e2
  simp at e1 e2
  have key : ∀ S, S = (orcL AP).p 32 [vI bits] → S = some [.lst (d1.map Dt.pv)] ∨ S = some [.lst (d2.map Dt.pv)] := by
    intro S hS
    rw [callP_body (af := g32) rfl rfl (by decide)] at hS
    simp [-getElem?_pos, g32, hp, g32L0_eq, hx, e1, e2, R32] at hS
    subst hS
    (repeat' split) <;> simp
  rcases key _ rfl with h | h
  · exact ⟨d1, h, m1, l1⟩
  · exact ⟨d2, h, m2, l2⟩
end Go.Ab.Lw
namespace Go.Ab.Lw
open Ev
set_option maxRecDepth 10000
set_option linter.unusedSimpArgs false
/-- A made type over leaves. -/
inductive Made (lv : Ty → Prop) : Ty → Prop
  | leaf {t : Ty} : lv t → Made lv t
  | int : Made lv tyInt
  | con {d : Dt} {args : List Ty} : d ∈ allDatas → args.length = d.params.length → (∀ x ∈ args, Made lv x) → Made lv ⟨4, d.name, 0, 0, args⟩
  | arrow {a b : Ty} : Made lv a → Made lv b → Made lv ⟨4, [45, 62], 0, 0, [a, b]⟩

/-- A type in its cells. -/
def Ty.av (t : Ty) : AV := .agg [.pv (vI t.kind), .pv (.str t.name), .pv (vI t.id), .pv (vI t.home), .pv (.lst (t.args.map Ty.pv))]
@[simp] theorem Ty.av_eq (t : Ty) : t.av = .agg [.pv (vI t.kind), .pv (.str t.name), .pv (vI t.id), .pv (vI t.home), .pv (.lst (t.args.map Ty.pv))] := rfl

theorem natI {r : Int} {n : Nat} (h0 : 0 ≤ r) (h1 : r < n) : ∃ m : Nat, r = m ∧ m < n := ⟨r.toNat, by omega, by omega⟩

end Go.Ab.Lw
namespace Go.Ab.Lw
open Ev
set_option maxRecDepth 10000
set_option linter.unusedSimpArgs false
/-- No list within is long. -/
inductive Ty.Ok : Ty → Prop
  | mk {t : Ty} : Sm t.args → (∀ x ∈ t.args, Ty.Ok x) → Ty.Ok t
theorem Ty.Ok.sm {t : Ty} (h : t.Ok) : Sm t.args := by cases h; assumption
theorem Ty.Ok.kid {t : Ty} (h : t.Ok) : ∀ x ∈ t.args, x.Ok := by cases h; assumption
/-- Variables have no parts. -/
inductive Ty.Wf : Ty → Prop
  | mk {t : Ty} : (t.kind = 1 → t.args = []) → (∀ x ∈ t.args, Ty.Wf x) → Ty.Wf t
theorem Ty.Wf.var {t : Ty} (h : t.Wf) : t.kind = 1 → t.args = [] := by cases h; assumption
theorem Ty.Wf.kid {t : Ty} (h : t.Wf) : ∀ x ∈ t.args, x.Wf := by cases h; assumption

/-- The first assignment of a variable. -/
def fnd : List As → Int → Option Ty
  | [], _ => none
  | a :: r, id => if a.id = id then some a.ty else fnd r id

mutual
def Ty.sub (s : List As) : Ty → Ty
  | ⟨k, n, i, h, as⟩ => if k = 1 then (fnd s i).getD ⟨k, n, i, h, as⟩ else ⟨k, n, i, h, Ty.subs s as⟩
def Ty.subs (s : List As) : List Ty → List Ty
  | [] => []
  | a :: r => a.sub s :: Ty.subs s r
end
theorem Ty.subs_map (s : List As) : ∀ l : List Ty, Ty.subs s l = l.map (Ty.sub s)
  | [] => by simp [Ty.subs]
  | a :: r => by simp [Ty.subs, Ty.subs_map s r]
theorem Ty.sub_eq (s : List As) (t : Ty) : t.sub s = if t.kind = 1 then (fnd s t.id).getD t else ⟨t.kind, t.name, t.id, t.home, t.args.map (Ty.sub s)⟩ := by
  cases t; simp only [Ty.sub, Ty.subs_map]

end Go.Ab.Lw
namespace Go.Ab.Lw
open Ev
set_option maxRecDepth 10000
set_option linter.unusedSimpArgs false
/-- Shared memory that holds plain data alone. -/
def Quiet (sh : Sh) : Prop := ∀ cs, some cs ∈ sh → ∀ v ∈ cs, ∃ p, v = AV.pv p

theorem normL_pv {old ts : Toks} : ∀ {cs : List AV}, (∀ v ∈ cs, ∃ p, v = AV.pv p) → normL old ts cs = (cs, old, ts)
  | [], _ => rfl
  | v :: r, h => by
    obtain ⟨p, rfl⟩ := h v (by simp)
    simp only [normL_cons, normV_pv, normL_pv (cs := r) (fun v hv => h v (by simp [hv]))]
theorem Quiet.norm : ∀ {sh : Sh}, Quiet sh → ∀ old ts, normS old ts sh = (sh, old, ts)
  | [], _, _, _ => rfl
  | none :: sh, h, old, ts => by
    simp only [normS_none, Quiet.norm (sh := sh) (fun cs hc => h cs (by simp [hc]))]
  | some cs :: sh, h, old, ts => by
    simp only [normS_some, normL_pv (h cs (by simp)), Quiet.norm (sh := sh) (fun cs hc => h cs (by simp [hc]))]
theorem shiftL_pv {n : Nat} : ∀ {cs : List AV}, (∀ v ∈ cs, ∃ p, v = AV.pv p) → cs.map (shiftV n) = cs
  | [], _ => rfl
  | v :: r, h => by
    obtain ⟨p, rfl⟩ := h v (by simp)
    simp only [List.map_cons, shiftV_pv, shiftL_pv (cs := r) (fun v hv => h v (by simp [hv]))]
theorem Quiet.shift : ∀ {sh : Sh}, Quiet sh → ∀ n, shiftS n sh = sh
  | [], _, _ => rfl
  | none :: sh, h, n => by
    simp only [shiftS_none, Quiet.shift (sh := sh) (fun cs hc => h cs (by simp [hc]))]
  | some cs :: sh, h, n => by
    simp only [shiftS_some, shiftL_pv (h cs (by simp)), Quiet.shift (sh := sh) (fun cs hc => h cs (by simp [hc]))]
theorem Quiet.app {a b : Sh} (ha : Quiet a) (hb : Quiet b) : Quiet (a ++ b) := by
  intro cs hc
  simp only [List.mem_append] at hc
  rcases hc with hc | hc
  · exact ha cs hc
  · exact hb cs hc
theorem Quiet.one {cs : List AV} (h : ∀ v ∈ cs, ∃ p, v = AV.pv p) : Quiet [some cs] := by
  intro cs' hc
  simp at hc
  subst hc
  exact h

@[simp] theorem getEnd {α : Type} {l : List α} {x : α} : (l ++ [x])[l.length]? = some x := by simp
@[simp] theorem setEnd {α : Type} {l : List α} {x y : α} : (l ++ [x]).set l.length y = l ++ [y] := by simp [List.set_append]
@[simp] theorem takeEnd {α : Type} {l : List α} {x : α} : (l ++ [x]).take l.length = l := by simp

/-! ### An array of types under way -/

def Ty.cl (t : Ty) : List AV := [.pv (vI t.kind), .pv (.str t.name), .pv (vI t.id), .pv (vI t.home), .pv (.lst (t.args.map Ty.pv))]
def zcl : List AV := [.pv (vI 0), .pv (.str []), .pv (vI 0), .pv (vI 0), .pv (.lst [])]
def arrC (d : List Ty) (m : Nat) : List AV := d.flatMap Ty.cl ++ (List.replicate m zcl).flatten
theorem flat_len {d : List Ty} : (d.flatMap Ty.cl).length = d.length * 5 := by
  induction d with
  | nil => rfl
  | cons a r ih => simp [ih, Ty.cl, Nat.add_mul]
theorem rep_len {m : Nat} : ((List.replicate m zcl).flatten).length = m * 5 := by
  simp [zcl]
theorem arrC_len {d : List Ty} {m : Nat} : (arrC d m).length = (d.length + m) * 5 := by
  simp only [arrC, List.length_append, flat_len, rep_len, Nat.add_mul]
theorem arrC_set {d : List Ty} {m : Nat} {t : Ty} : setRange (arrC d (m + 1)) (d.length * 5) t.cl = arrC (d ++ [t]) m := by
  have e : arrC d (m + 1) = d.flatMap Ty.cl ++ (zcl ++ (List.replicate m zcl).flatten) := by simp [arrC, List.replicate_succ]
  have hl : (d.flatMap Ty.cl).length = d.length * 5 := flat_len
  rw [setRange_eq, e, ← hl, List.take_left, List.drop_append, List.drop_eq_nil_of_le (by omega)]
  have : (d.flatMap Ty.cl).length + t.cl.length - (d.flatMap Ty.cl).length = 5 := by simp [Ty.cl]
  rw [this]
  simp [arrC, zcl]
theorem arrC_pv {d : List Ty} {m : Nat} : ∀ v ∈ arrC d m, ∃ p, v = AV.pv p := by
  intro v hv
  simp only [arrC, List.mem_append, List.mem_flatMap, List.mem_flatten, List.mem_replicate] at hv
  rcases hv with ⟨t, _, hv⟩ | ⟨l, ⟨_, rfl⟩, hv⟩
  · simp [Ty.cl] at hv
    rcases hv with rfl | rfl | rfl | rfl | rfl <;> exact ⟨_, rfl⟩
  · simp [zcl] at hv
    rcases hv with rfl | rfl | rfl | rfl | rfl <;> exact ⟨_, rfl⟩
theorem mapB_pvs {l : List AV} (h : ∀ v ∈ l, ∃ p, v = .pv p) : mapB l = false := by
  cases l with
  | nil => rfl
  | cons c r => obtain ⟨p, rfl⟩ := h c (by simp); rfl
@[simp] theorem arrC_mapB {d : List Ty} {m : Nat} : mapB (arrC d m) = false := mapB_pvs arrC_pv

theorem frzL_app {a b : List AV} {x y : List PV} (ha : frzL a = some x) (hb : frzL b = some y) : frzL (a ++ b) = some (x ++ y) := by
  induction a generalizing x with
  | nil => simp at ha; subst ha; exact hb
  | cons v r ih =>
    simp only [frzL_cons] at ha
    simp only [List.cons_append, frzL_cons]
    cases h1 : frz0 v with
    | none => rw [h1] at ha; cases ha
    | some p =>
      cases h2 : frzL r with
      | none => rw [h1, h2] at ha; cases ha
      | some q =>
        rw [h1, h2] at ha
        simp at ha
        subst ha
        rw [ih h2]; rfl
theorem arrC_frz : ∀ {d : List Ty}, ((frzL (arrC d 0)).bind (arrEls 5 true d.length)).map PV.lst = some (.lst (d.map Ty.pv)) := by
  have key : ∀ d : List Ty, ∃ ps, frzL (d.flatMap Ty.cl) = some ps ∧ (chunk 5 d.length ps).map PV.agg = d.map Ty.pv := by
    intro d
    induction d with
    | nil => exact ⟨[], rfl, rfl⟩
    | cons t r ih =>
      obtain ⟨ps, h1, h2⟩ := ih
      refine ⟨[vI t.kind, .str t.name, vI t.id, vI t.home, .lst (t.args.map Ty.pv)] ++ ps, ?_, ?_⟩
      · rw [List.flatMap_cons]
        exact frzL_app (by simp [Ty.cl]) h1
      · simp only [List.length_cons, chunk]
        simp [h2]
  intro d
  obtain ⟨ps, h1, h2⟩ := key d
  have : arrC d 0 = d.flatMap Ty.cl := by simp [arrC]
  rw [this, h1]
  simp only [Option.bind_some, arrEls, if_true, Option.map_some, h2]

/-! ### Rebuilding -/

end Go.Ab.Lw
namespace Go.Ab.Lw
open Ev
set_option maxRecDepth 10000
set_option linter.unusedSimpArgs false
noncomputable instance : DecidableEq As := fun _ _ => Classical.propDecidable _

/-! ### Equal -/
theorem L57 {as bs : List Ty} (hS : Sm as) (hl : as.length = bs.length) (h : ∀ x ∈ as, ∀ y, (orcL AP).p 20 [x.pv, y.pv] = some [.bool (decide (x = y))]) : ∀ (n i : Nat), as.length - i = n → i ≤ as.length →
    cl AP g57L0 ⟨[(0, .pv (.lst (as.map Ty.pv))), (1, .pv (.lst (bs.map Ty.pv))), (5, .pv (.int .i64 i))], [], [], []⟩ =
      if as.drop i = bs.drop i then some (.exit 0, ⟨[(0, .pv (.lst (as.map Ty.pv))), (1, .pv (.lst (bs.map Ty.pv))), (5, .pv (.int .i64 as.length)), (14, .pv (.bool false))], [], [], []⟩)
      else some (.ret, ⟨[(4, .pv (.bool false))], [], [], []⟩)
  | 0, i, hn, hi => by
    have : i = as.length := by omega
    subst this
    rw [g57L0_eq]
    simp [g57B0, hl]
  | n + 1, i, hn, hi => by
    have hi : i < as.length := by omega
    obtain ⟨x, hx⟩ := getO hi
    obtain ⟨y, hy⟩ := getO (hl ▸ hi)
    have hc := h x (memO hx) y
    simp at hc
    rw [g57L0_eq, dropC hx, dropC hy]
    unfold Sm at hS
    have ih := L57 hS hl h n (i + 1) (by omega) (by omega)
    simp at ih
    simp (disch := omega) [-getElem?_pos, g57B0, hx, hy, hi, hc, wrap_id, ih]
    by_cases e : x = y <;> simp [e]

theorem c57 {as bs : List Ty} (hS : Sm as) (h : ∀ x ∈ as, ∀ y, (orcL AP).p 20 [x.pv, y.pv] = some [.bool (decide (x = y))]) :
    (orcL AP).p 57 [.lst (as.map Ty.pv), .lst (bs.map Ty.pv)] = some [.bool (decide (as = bs))] := by
  rw [callP_body (af := g57) rfl rfl (by decide)]
  by_cases hl : as.length = bs.length
  · have hL := L57 hS hl h _ 0 rfl (by omega)
    simp at hL
    simp [g57, hl, hL]
    by_cases e : as = bs <;> simp [e]
  · have : ¬ as = bs := fun e => hl (by rw [e])
    simp [g57, hl, this]
    omega

theorem c20 {a b : Ty} (hO : a.Ok) : (orcL AP).p 20 [a.pv, b.pv] = some [.bool (decide (a = b))] := by
  revert b hO
  refine Ty.rec1 (p := fun a => ∀ {b : Ty}, a.Ok → (orcL AP).p 20 [a.pv, b.pv] = some [.bool (decide (a = b))]) ?_ a
  intro a ih b hO
  have h := c57 (bs := b.args) hO.sm (fun x hx y => ih x hx (hO.kid x hx))
  rw [callP_body (af := g20) rfl rfl (by decide)]
  simp [g20, h]
  cases a; cases b
  simp
  (repeat' split) <;> simp_all

/-! ### Compose -/
end Go.Ab.Lw
namespace Go.Ab.Lw
open Ev
set_option maxRecDepth 10000
set_option linter.unusedSimpArgs false
theorem params_few : ∀ d ∈ allDatas, d.params.length ≤ 8 := by decide +kernel

theorem Made.ok {lv : Ty → Prop} (h : ∀ t, lv t → t.args = []) {t : Ty} (m : Made lv t) : t.Ok := by
  induction m with
  | leaf hl => exact ⟨by rw [h _ hl]; simp [Sm], by rw [h _ hl]; simp⟩
  | int => exact ⟨by simp [tyInt, Sm], by simp [tyInt]⟩
  | con hd hl _ ih => exact ⟨by have := params_few _ hd; simp only [Sm]; omega, ih⟩
  | arrow _ _ ha hb => exact ⟨by simp [Sm], by intro x hx; simp at hx; rcases hx with rfl | rfl <;> assumption⟩
theorem Made.wf {lv : Ty → Prop} (h : ∀ t, lv t → t.args = []) {t : Ty} (m : Made lv t) : t.Wf := by
  induction m with
  | leaf hl => exact ⟨fun _ => h _ hl, by rw [h _ hl]; simp⟩
  | int => exact ⟨by simp [tyInt], by simp [tyInt]⟩
  | con hd hl _ ih => exact ⟨by simp, ih⟩
  | arrow _ _ ha hb => exact ⟨by simp, by intro x hx; simp at hx; rcases hx with rfl | rfl <;> assumption⟩
theorem fnd_mem : ∀ {s : List As} {id : Int} {t : Ty}, fnd s id = some t → ∃ a ∈ s, a.ty = t
  | a :: r, id, t, h => by
    simp only [fnd] at h
    split at h
    · cases h; exact ⟨a, by simp, rfl⟩
    · obtain ⟨b, hb, e⟩ := fnd_mem h; exact ⟨b, by simp [hb], e⟩

theorem sub_ok {s : List As} (hs : ∀ a ∈ s, a.ty.Ok) {t : Ty} (h : t.Ok) : (t.sub s).Ok := by
  revert h
  refine Ty.rec1 (p := fun t => t.Ok → (t.sub s).Ok) ?_ t
  intro t ih h
  rw [Ty.sub_eq]
  split
  · cases hf : fnd s t.id with
    | none => simpa using h
    | some a => obtain ⟨b, hb, rfl⟩ := fnd_mem hf; simpa using hs b hb
  · refine ⟨by have := h.sm; unfold Sm at *; simpa using this, ?_⟩
    intro x hx
    simp at hx
    obtain ⟨y, hy, rfl⟩ := hx
    exact ih y hy (h.kid y hy)
end Go.Ab.Lw
namespace Go.Ab.Lw
open Ev
set_option maxRecDepth 10000
set_option linter.unusedSimpArgs false
/-- The first place where something holds. -/
def idxB {α : Type} (p : α → Bool) : List α → Option Nat
  | [] => none
  | a :: r => if p a = true then some 0 else (idxB p r).map (· + 1)
theorem idxB_none {α : Type} {p : α → Bool} : ∀ {l : List α}, idxB p l = none ↔ ∀ x ∈ l, p x = false
  | [] => by simp [idxB]
  | a :: r => by
    simp only [idxB]
    by_cases h : p a = true
    · simp [h]
    · have h : p a = false := by simpa using h
      simp [h, idxB_none]
end Go.Ab.Lw
namespace Go.Ab.Lw
open Ev
set_option maxRecDepth 10000
set_option linter.unusedSimpArgs false
/-- Elements of that many cells. -/
structure El {α : Type} (f : α → PV) (sz : Nat) (ag : Bool) : Prop where
  len : ∀ x, (cellsP (f x)).length = sz
  of : ∀ x, ofCellsP ag sz (cellsP (f x)) = some (.pv (f x))

theorem El.head {α : Type} {f : α → PV} {sz : Nat} {ag : Bool} (h : El f sz ag) (l : List α) : headSz sz (l.map f) = true := by
  cases l with
  | nil => rfl
  | cons x r => simp [headSz, h.len x]

theorem el_int : El vI 1 false := ⟨fun _ => rfl, fun _ => rfl⟩
theorem el_str : El PV.str 1 false := ⟨fun _ => rfl, fun _ => rfl⟩
def idxI (o : Option Nat) : Int := match o with | some k => k | none => -1
theorem idxB_any {α : Type} {p : α → Bool} {s : List α} : decide (0 ≤ idxI (idxB p s)) = s.any p := by
  cases hi : idxB p s with
  | none =>
    have : s.any p = false := by rw [List.any_eq_false]; intro x hx; rw [idxB_none.1 hi x hx]; simp
    rw [this]; rfl
  | some k =>
    have : s.any p = true := by
      cases e : s.any p with
      | true => rfl
      | false => rw [List.any_eq_false] at e; have := idxB_none.2 (fun x hx => by simpa using e x hx); rw [hi] at this; cases this
    rw [this]; simp [idxI]

end Go.Ab.Lw
namespace Go.Ab.Lw
open Ev
set_option maxRecDepth 10000
set_option linter.unusedSimpArgs false
/-- Behind a round. -/
def backGo (f : St → Option (AExit × St)) (live : List Nat) (pi px sz : Nat) (ag : Bool) (env : List (Nat × AV)) (r : List (PV × Nat)) : Option (AExit × St) → Option (AExit × St)
  | some (.normal, st') => backN f live pi px sz ag env r st'
  | some (e, st') => some (e, { st' with env := env })
  | none => none
@[simp] theorem backGo_normal {f : St → Option (AExit × St)} {live : List Nat} {pi px sz : Nat} {ag : Bool} {env : List (Nat × AV)} {r : List (PV × Nat)} {st : St} : backGo f live pi px sz ag env r (some (.normal, st)) = backN f live pi px sz ag env r st := rfl
@[simp] theorem backGo_ret {f : St → Option (AExit × St)} {live : List Nat} {pi px sz : Nat} {ag : Bool} {env e : List (Nat × AV)} {r : List (PV × Nat)} {mem : List (Nat × List AV)} {sh : Sh} {toks : Toks} : backGo f live pi px sz ag env r (some (.ret, ⟨e, mem, sh, toks⟩)) = some (.ret, ⟨env, mem, sh, toks⟩) := rfl
@[simp] theorem backGo_exit {f : St → Option (AExit × St)} {live : List Nat} {pi px sz : Nat} {ag : Bool} {env e : List (Nat × AV)} {r : List (PV × Nat)} {mem : List (Nat × List AV)} {sh : Sh} {toks : Toks} {id : Nat} : backGo f live pi px sz ag env r (some (.exit id, ⟨e, mem, sh, toks⟩)) = some (.exit id, ⟨env, mem, sh, toks⟩) := rfl
@[simp] theorem backGo_ite {f : St → Option (AExit × St)} {live : List Nat} {pi px sz : Nat} {ag : Bool} {env : List (Nat × AV)} {r : List (PV × Nat)} {c : Prop} [Decidable c] {x y : Option (AExit × St)} : backGo f live pi px sz ag env r (if c then x else y) = if c then backGo f live pi px sz ag env r x else backGo f live pi px sz ag env r y := by split <;> rfl

@[simp] theorem backN_nil {f : St → Option (AExit × St)} {live : List Nat} {pi px sz : Nat} {ag : Bool} {env e : List (Nat × AV)} {mem : List (Nat × List AV)} {sh : Sh} {toks : Toks} : backN f live pi px sz ag env [] ⟨e, mem, sh, toks⟩ = some (.normal, ⟨env, mem, sh, toks⟩) := rfl
/-- Two parts of a round. -/
def andK (g : St → Option (AExit × St)) : Option (AExit × St) → Option (AExit × St)
  | some (.normal, st') => g st'
  | _ => none
@[simp] theorem andK_normal {g : St → Option (AExit × St)} {st : St} : andK g (some (.normal, st)) = g st := rfl

@[simp] theorem cl_backR {c : AOpd} {gb pi px sz : Nat} {ag : Bool} {live : List Nat} {x y : ACode} {env : List (Nat × AV)} {mem : List (Nat × List AV)} {sh : Sh} {toks : Toks} :
    cl AP (.back c gb pi px sz ag live x y) ⟨env, mem, sh, toks⟩ = backWith (andThen (cl AP x) (cl AP y)) (evOpd env c) gb pi px sz ag live ⟨env, mem, sh, toks⟩ := cl_back

end Go.Ab.Lw
namespace Go.Ab.Lw
open Ev
set_option maxRecDepth 10000
set_option linter.unusedSimpArgs false
abbrev vC (c : Int) : PV := .int .u8 c
def isLow (c : Int) : Bool := decide (97 ≤ c) && decide (c ≤ 122)
def isUp (c : Int) : Bool := decide (65 ≤ c) && decide (c ≤ 90)
def isDig (c : Int) : Bool := decide (48 ≤ c) && decide (c ≤ 57)
def isInn (c : Int) : Bool := isLow c || isUp c || isDig c || (c == 95)
def innAll (s : List UInt8) : Bool := s.all fun b => isInn b.toNat
def kws : List (List UInt8) := [[100, 97, 116, 97], [108, 101, 116], [114, 101, 99], [105, 110], [99, 97, 115, 101], [111, 102], [101, 110, 100]]
def isKw (s : List UInt8) : Bool := kws.contains s
/-- A name whose first letter lies between two. -/
def nameB (s : List UInt8) (lo hi : Int) : Bool := match s with
  | [] => false
  | b :: r => decide (lo ≤ b.toNat) && decide ((b.toNat : Int) ≤ hi) && decide ((b :: r).length ≤ 12) && innAll (b :: r) && !isKw (b :: r)

theorem c109 {c : Int} : (orcL AP).p 109 [vC c] = some [.bool (isLow c)] := by
  rw [callP_body (af := g109) rfl rfl (by decide)]
  by_cases h : 97 ≤ c <;> simp [g109, isLow, h]
theorem c111 {c : Int} : (orcL AP).p 111 [vC c] = some [.bool (isUp c)] := by
  rw [callP_body (af := g111) rfl rfl (by decide)]
  by_cases h : 65 ≤ c <;> simp [g111, isUp, h]
theorem c124 {c : Int} : (orcL AP).p 124 [vC c] = some [.bool (isDig c)] := by
  rw [callP_body (af := g124) rfl rfl (by decide)]
  by_cases h : 48 ≤ c <;> simp [g124, isDig, h]
theorem c117 {c : Int} : (orcL AP).p 117 [vC c] = some [.bool (isInn c)] := by
  have h1 := c109 (c := c)
  have h2 := c111 (c := c)
  have h3 := c124 (c := c)
  rw [callP_body (af := g117) rfl rfl (by decide)]
  cases e1 : isLow c
  · cases e2 : isUp c
    · cases e3 : isDig c
      · simp [e1, e2, e3] at h1 h2 h3
        simp [g117, h1, h2, h3, isInn, e1, e2, e3]
      · simp [e1, e2, e3] at h1 h2 h3
        simp [g117, h1, h2, h3, isInn, e1, e2, e3]
    · simp [e1, e2] at h1 h2
      simp [g117, h1, h2, isInn, e1, e2]
  · simp [e1] at h1
    simp [g117, h1, isInn, e1]

theorem innAll_cons {b : UInt8} {r : List UInt8} : innAll (b :: r) = (isInn b.toNat && innAll r) := rfl
theorem innAll_nil : innAll [] = true := rfl

theorem L108 {s : List UInt8} (hS : SmS s) : ∀ (n i : Nat), s.length - i = n → i ≤ s.length →
    cl AP g108L0 ⟨[(0, .pv (.str s)), (3, .pv (vI i))], [], [], []⟩ =
      if innAll (s.drop i) = true then some (.exit 0, ⟨[(0, .pv (.str s)), (3, .pv (vI s.length)), (7, .pv (.bool false))], [], [], []⟩)
      else some (.ret, ⟨[(2, .pv (.bool false))], [], [], []⟩)
  | 0, i, hn, hi => by
    have : i = s.length := by omega
    subst this
    rw [g108L0_eq]
    simp [g108B0, innAll_nil]
  | n + 1, i, hn, hi => by
    have hi : i < s.length := by omega
    obtain ⟨x, hx⟩ := getO hi
    unfold SmS at hS
    have ih := L108 hS n (i + 1) (by omega) (by omega)
    simp at ih
    have hc := c117 (c := x.toNat)
    rw [g108L0_eq, dropC hx, innAll_cons]
    cases e : isInn x.toNat
    · rw [e] at hc
      simp (disch := omega) [-getElem?_pos, g108B0, hx, hi, hc, e]
    · rw [e] at hc
      simp (disch := omega) [-getElem?_pos, g108B0, hx, hi, hc, e, wrap_id, ih]
theorem c108 {s : List UInt8} (hS : SmS s) : (orcL AP).p 108 [.str s] = some [.bool (innAll s && !(s == []))] := by
  have h := L108 hS _ 0 rfl (by omega)
  simp at h
  rw [callP_body (af := g108) rfl rfl (by decide)]
  cases e : innAll s <;> simp [e] at h <;> simp [g108, h]
theorem c110 {s : List UInt8} : (orcL AP).p 110 [.str s] = some [.bool (isKw s)] := by
  rw [callP_body (af := g110) rfl rfl (by decide)]
  by_cases h1 : s = [100, 97, 116, 97]
  · subst h1; simp (disch := omega) [-getElem?_pos, g110, g110L0_eq, g110B0, wrap_id, isKw, kws]
  · by_cases h2 : s = [108, 101, 116]
    · subst h2; simp (disch := omega) [-getElem?_pos, g110, g110L0_eq, g110B0, wrap_id, isKw, kws]
    · by_cases h3 : s = [114, 101, 99]
      · subst h3; simp (disch := omega) [-getElem?_pos, g110, g110L0_eq, g110B0, wrap_id, isKw, kws]
      · by_cases h4 : s = [105, 110]
        · subst h4; simp (disch := omega) [-getElem?_pos, g110, g110L0_eq, g110B0, wrap_id, isKw, kws]
        · by_cases h5 : s = [99, 97, 115, 101]
          · subst h5; simp (disch := omega) [-getElem?_pos, g110, g110L0_eq, g110B0, wrap_id, isKw, kws]
          · by_cases h6 : s = [111, 102]
            · subst h6; simp (disch := omega) [-getElem?_pos, g110, g110L0_eq, g110B0, wrap_id, isKw, kws]
            · by_cases h7 : s = [101, 110, 100]
              · subst h7; simp (disch := omega) [-getElem?_pos, g110, g110L0_eq, g110B0, wrap_id, isKw, kws]
              · have f1 := Ne.symm h1
                have f2 := Ne.symm h2
                have f3 := Ne.symm h3
                have f4 := Ne.symm h4
                have f5 := Ne.symm h5
                have f6 := Ne.symm h6
                have f7 := Ne.symm h7
                simp (disch := omega) [-getElem?_pos, g110, g110L0_eq, g110B0, wrap_id, isKw, kws, h1, h2, h3, h4, h5, h6, h7, f1, f2, f3, f4, f5, f6, f7]

theorem c77 {s : List UInt8} (hS : SmS s) : (orcL AP).p 77 [.str s] = some [.bool (nameB s 97 122)] := by
  have h1 := c108 hS
  have h3 := c110 (s := s)
  rw [callP_body (af := g77) rfl rfl (by decide)]
  cases s with
  | nil => simp [innAll_nil] at h1; simp [g77, h1, nameB]
  | cons b r =>
    have h2 := c109 (c := b.toNat)
    cases e1 : innAll (b :: r)
    · simp [e1] at h1; simp [g77, h1, nameB, e1]
    · simp [e1] at h1
      cases e2 : isLow b.toNat
      · rw [e2] at h2
        have : (decide ((97 : Int) ≤ b.toNat) && decide ((b.toNat : Int) ≤ 122)) = false := e2
        simp [g77, h1, h2, nameB, this]
      · rw [e2] at h2
        have : (decide ((97 : Int) ≤ b.toNat) && decide ((b.toNat : Int) ≤ 122)) = true := e2
        by_cases e3 : (b :: r).length ≤ 12
        · have e3' : (r.length : Int) + 1 ≤ 12 := by simp at e3; omega
          have e3'' : r.length + 1 ≤ 12 := by simpa using e3
          cases e4 : isKw (b :: r) <;> simp [e4] at h3 <;> simp [g77, h1, h2, h3, e3', e3'', e4, nameB, this, e1]
        · have e3' : ¬ ((r.length : Int) + 1 ≤ 12) := by simp at e3; omega
          have e3'' : ¬ (r.length + 1 ≤ 12) := by simpa using e3
          simp [g77, h1, h2, e3', e3'', nameB, this, e1]
theorem kw_low {b : UInt8} {r : List UInt8} (h : isKw (b :: r) = true) : isUp b.toNat = false := by
  simp only [isKw, kws, List.contains_iff_mem, List.mem_cons, List.not_mem_nil, or_false, List.cons.injEq] at h
  rcases h with ⟨rfl, _⟩ | ⟨rfl, _⟩ | ⟨rfl, _⟩ | ⟨rfl, _⟩ | ⟨rfl, _⟩ | ⟨rfl, _⟩ | ⟨rfl, _⟩ <;> rfl
theorem c78 {s : List UInt8} (hS : SmS s) : (orcL AP).p 78 [.str s] = some [.bool (nameB s 65 90)] := by
  have h1 := c108 hS
  rw [callP_body (af := g78) rfl rfl (by decide)]
  cases s with
  | nil => simp [innAll_nil] at h1; simp [g78, h1, nameB]
  | cons b r =>
    have h2 := c111 (c := b.toNat)
    cases e1 : innAll (b :: r)
    · simp [e1] at h1; simp [g78, h1, nameB, e1]
    · simp [e1] at h1
      cases e2 : isUp b.toNat
      · rw [e2] at h2
        have : (decide ((65 : Int) ≤ b.toNat) && decide ((b.toNat : Int) ≤ 90)) = false := e2
        simp [g78, h1, h2, nameB, this]
      · rw [e2] at h2
        have : (decide ((65 : Int) ≤ b.toNat) && decide ((b.toNat : Int) ≤ 90)) = true := e2
        have e4 : isKw (b :: r) = false := by
          cases e : isKw (b :: r)
          · rfl
          · rw [kw_low e] at e2; cases e2
        by_cases e3 : (b :: r).length ≤ 12
        · have e3' : (r.length : Int) + 1 ≤ 12 := by simp at e3; omega
          have e3'' : r.length + 1 ≤ 12 := by simpa using e3
          simp [g78, h1, h2, e3', e3'', e4, nameB, this, e1]
        · have e3' : ¬ ((r.length : Int) + 1 ≤ 12) := by simp at e3; omega
          have e3'' : ¬ (r.length + 1 ≤ 12) := by simpa using e3
          simp [g78, h1, h2, e3', e3'', nameB, this, e1]

/-! ### The program's names -/
end Go.Ab.Lw
namespace Go.Ab.Lw
open Ev
set_option maxRecDepth 10000
set_option linter.unusedSimpArgs false
def conB (s : List UInt8) (n : Nat) : Bool := if s = [45, 62] then decide (n = 2) else if s = [73, 110, 116] then decide (n = 0) else nameB s 65 90 && decide (n ≤ 4)

mutual
def validT : Ty → Bool
  | ⟨k, n, i, h, as⟩ =>
    if k = 1 ∨ k = 2 then decide (n = []) && decide (as = []) && decide (0 ≤ i) && decide (i ≤ 1000000) && (h == 0)
    else if k = 3 then decide (n = []) && decide (as = []) && decide (0 ≤ i) && decide (i ≤ 1000000) && decide (-1 ≤ h) && decide (h ≤ 1000000)
    else if k = 5 then decide (as = []) && (i == 0) && (h == 0) && nameB n 97 122
    else if k = 4 then (i == 0) && (h == 0) && conB n as.length && validL as
    else false
def validL : List Ty → Bool
  | [] => true
  | a :: r => validT a && validL r
end
theorem validL_all : ∀ l : List Ty, validL l = l.all validT
  | [] => by simp [validL]
  | a :: r => by simp [validL, validL_all r]
theorem validT_eq (t : Ty) : validT t = 
    if t.kind = 1 ∨ t.kind = 2 then decide (t.name = []) && decide (t.args = []) && decide (0 ≤ t.id) && decide (t.id ≤ 1000000) && (t.home == 0)
    else if t.kind = 3 then decide (t.name = []) && decide (t.args = []) && decide (0 ≤ t.id) && decide (t.id ≤ 1000000) && decide (-1 ≤ t.home) && decide (t.home ≤ 1000000)
    else if t.kind = 5 then decide (t.args = []) && (t.id == 0) && (t.home == 0) && nameB t.name 97 122
    else if t.kind = 4 then (t.id == 0) && (t.home == 0) && conB t.name t.args.length && t.args.all validT
    else false := by
  cases t; simp only [validT, validL_all]

/-! ### The first type where a function says so -/
/-- Names within are short, too. -/
inductive Ty.Nm : Ty → Prop
  | mk {t : Ty} : SmS t.name → (∀ x ∈ t.args, Ty.Nm x) → Ty.Nm t
theorem Ty.Nm.sm {t : Ty} (h : t.Nm) : SmS t.name := by cases h; assumption
theorem Ty.Nm.kid {t : Ty} (h : t.Nm) : ∀ x ∈ t.args, x.Nm := by cases h; assumption

end Go.Ab.Lw
namespace Go.Ab.Lw
open Ev
set_option maxRecDepth 10000
set_option linter.unusedSimpArgs false
/-- A scheme: its number of quantified variables, and its type. -/
abbrev Sc := As
/-- An entry of a context. -/
structure En where
  name : List UInt8
  sc : Sc
  deriving Inhabited
def En.pv (a : En) : PV := .agg [.str a.name, .int .i64 a.sc.id, .int .i64 a.sc.ty.kind, .str a.sc.ty.name, .int .i64 a.sc.ty.id, .int .i64 a.sc.ty.home, .lst (a.sc.ty.args.map Ty.pv)]
@[simp] theorem En.pv_eq (a : En) : a.pv = .agg [.str a.name, .int .i64 a.sc.id, .int .i64 a.sc.ty.kind, .str a.sc.ty.name, .int .i64 a.sc.ty.id, .int .i64 a.sc.ty.home, .lst (a.sc.ty.args.map Ty.pv)] := rfl
@[simp] theorem En.eta (t : En) : En.mk t.name t.sc = t := rfl
theorem el_en : El En.pv 7 true := ⟨fun x => by simp, fun x => by simp⟩
noncomputable instance : DecidableEq En := fun _ _ => Classical.propDecidable _
@[simp] theorem headSz_En {l : List En} : headSz 7 (l.map En.pv) = true := el_en.head l

end Go.Ab.Lw
namespace Go.Ab.Lw
open Ev
set_option maxRecDepth 10000
set_option linter.unusedSimpArgs false
theorem L30 {t : Ty} (hS : Sm t.args) (h : ∀ x ∈ t.args, (orcL AP).p 30 [x.pv] = some [.bool (validT x)]) : ∀ (n i : Nat), t.args.length - i = n → i ≤ t.args.length →
    cl AP g30L0 ⟨[(1, .lptr 1 0), (3, .pv (vI i))], [(1, t.cl)], [], []⟩ =
      if (t.args.drop i).all validT = true then some (.exit 1, ⟨[(1, .lptr 1 0), (3, .pv (vI t.args.length)), (99, .pv (.bool false))], [(1, t.cl)], [], []⟩)
      else some (.ret, ⟨[(2, .pv (.bool false))], [], [], []⟩)
  | 0, i, hn, hi => by
    have : i = t.args.length := by omega
    subst this
    rw [g30L0_eq]
    simp [g30B0, Ty.cl]
  | n + 1, i, hn, hi => by
    have hi : i < t.args.length := by omega
    obtain ⟨x, hx⟩ := getO hi
    unfold Sm at hS
    have ih := L30 hS h n (i + 1) (by omega) (by omega)
    have hc := h x (memO hx)
    simp [Ty.cl] at ih hc
    rw [g30L0_eq, dropC hx]
    cases e : validT x
    · rw [e] at hc
      simp (disch := omega) [-getElem?_pos, g30B0, Ty.cl, hx, hi, hc, e]
    · rw [e] at hc
      simp (disch := omega) [-getElem?_pos, g30B0, Ty.cl, hx, hi, hc, e, wrap_id, ih]

theorem c30 {t : Ty} (hO : t.Ok) (hN : t.Nm) : (orcL AP).p 30 [t.pv] = some [.bool (validT t)] := by
  revert hO hN
  refine Ty.rec1 (p := fun t => t.Ok → t.Nm → (orcL AP).p 30 [t.pv] = some [.bool (validT t)]) ?_ t
  intro t ih hO hN
  have hl := c77 hN.sm
  have hu := c78 hN.sm
  rw [callP_body (af := g30) rfl rfl (by decide), validT_eq]
  have h0 : ((t.args.length : Int) == 0) = decide (t.args = []) := by rw [Bool.eq_iff_iff]; simp
  have h2 : ((t.args.length : Int) == 2) = decide (t.args.length = 2) := by rw [Bool.eq_iff_iff]; simp; omega
  have h4 : decide ((t.args.length : Int) ≤ 4) = decide (t.args.length ≤ 4) := by rw [Bool.eq_iff_iff]; simp; omega
  by_cases k1 : t.kind = 1
  · simp [g30, k1, h0]
    (repeat' split) <;> simp_all <;> omega
  · by_cases k2 : t.kind = 2
    · simp [g30, k2, h0]
      (repeat' split) <;> simp_all <;> omega
    · by_cases k3 : t.kind = 3
      · simp [g30, k3, h0]
        (repeat' split) <;> simp_all <;> omega
      · by_cases k5 : t.kind = 5
        · simp [g30, k5, h0, hl]
          (repeat' split) <;> simp_all <;> omega
        · by_cases k4 : t.kind = 4
          · by_cases ei : t.id = 0
            · by_cases eh : t.home = 0
              · have hL := L30 hO.sm (fun x hx => ih x hx (hO.kid x hx) (hN.kid x hx)) _ 0 rfl (by omega)
                rw [g30L0_eq] at hL
                simp [Ty.cl] at hL
                cases ea : t.args.all validT
                · have : ¬ ∀ x ∈ t.args, validT x = true := by rw [← List.all_eq_true, ea]; simp
                  simp [this, k4, ei, eh] at hL
                  simp [g30, k4, ei, eh, g30L0_eq, hL]
                · have : ∀ x ∈ t.args, validT x = true := by rw [← List.all_eq_true, ea]
                  have hL := hL
                  rw [if_pos this] at hL
                  simp [k4, ei, eh] at hL
                  by_cases n1 : t.name = [45, 62]
                  · simp [n1] at hL
                    simp [g30, k4, ei, eh, g30L0_eq, hL, n1, conB, h2]
                  · have b1 : (t.name == [45, 62]) = false := by simpa using n1
                    by_cases n2 : t.name = [73, 110, 116]
                    · simp [n2] at hL
                      simp [g30, k4, ei, eh, g30L0_eq, hL, n2, conB, h0]
                    · have b2 : (t.name == [73, 110, 116]) = false := by simpa using n2
                      cases eu : nameB t.name 65 90
                      · rw [eu] at hu
                        simp [g30, k4, ei, eh, g30L0_eq, hL, n1, n2, b1, b2, conB, hu, eu]
                      · rw [eu] at hu
                        simp [g30, k4, ei, eh, g30L0_eq, hL, n1, n2, b1, b2, conB, hu, eu, h4]
              · simp [g30, k4, ei, eh]
            · simp [g30, k4, ei]
          · simp [g30, k1, k2, k3, k4, k5]

end Go.Ab.Lw
namespace Go.Ab.Lw

section
variable {P : Program} {n : Nat} {t e : TypeId} {p : PV}

theorem shp_int (hu : P.underlying t = some (.int .i64)) (h : Shp P n t p) : ∃ i, p = vI i := by
  cases n with
  | zero => simp [Shp] at h
  | succ n => simp only [Shp, hu] at h; obtain ⟨i, rfl, _⟩ := h; exact ⟨i, rfl⟩
theorem shp_bool (hu : P.underlying t = some .bool) (h : Shp P n t p) : ∃ b, p = .bool b := by
  cases n with
  | zero => simp [Shp] at h
  | succ n => simp only [Shp, hu] at h; exact h
theorem shp_str (hu : P.underlying t = some .string) (h : Shp P n t p) : ∃ s, p = .str s := by
  cases n with
  | zero => simp [Shp] at h
  | succ n => simp only [Shp, hu] at h; obtain ⟨s, rfl, _⟩ := h; exact ⟨s, rfl⟩
/-- A slice of what a function of pure data makes. -/
theorem shp_list {α : Type} {f : α → PV} (hu : P.underlying t = some (.slice e)) (he : ∀ (m : Nat) (q : PV), Shp P m e q → ∃ x, q = f x) (h : Shp P n t p) : ∃ l : List α, p = .lst (l.map f) := by
  cases n with
  | zero => simp [Shp] at h
  | succ n =>
    simp only [Shp, hu] at h
    obtain ⟨els, rfl, _, h⟩ := h
    have key : ∀ els : List PV, (∀ q ∈ els, Shp P n e q) → ∃ l : List α, els = l.map f := by
      intro els
      induction els with
      | nil => intro _; exact ⟨[], rfl⟩
      | cons q r ih =>
        intro h
        obtain ⟨x, rfl⟩ := he n q (h q (by simp))
        obtain ⟨l, rfl⟩ := ih (fun q hq => h q (by simp [hq]))
        exact ⟨x :: l, rfl⟩
    obtain ⟨l, rfl⟩ := key els h
    exact ⟨l, rfl⟩
theorem shp_ints (hu : P.underlying t = some (.slice e)) (he : P.underlying e = some (.int .i64)) (h : Shp P n t p) : ∃ L : List Int, p = .lst (L.map vI) :=
  shp_list hu (fun _ _ h => shp_int he h) h

/-- A type. -/
theorem shp_ty {ti ts tl tt : TypeId} {f0 f1 f2 f3 f4 : Field} (hi : P.underlying ti = some (.int .i64)) (hs : P.underlying ts = some .string) (hl : P.underlying tl = some (.slice tt))
    (ht : P.underlying tt = some (.struct #[f0, f1, f2, f3, f4])) (e0 : f0.type = ti) (e1 : f1.type = ts) (e2 : f2.type = ti) (e3 : f3.type = ti) (e4 : f4.type = tl) :
    ∀ (n : Nat) (p : PV), Shp P n tt p → ∃ x : Ty, p = x.pv
  | 0, p, h => by simp [Shp] at h
  | n + 1, p, h => by
    simp only [Shp, ht] at h
    obtain ⟨ps, rfl, h⟩ := h
    match ps, h with
    | [p0, p1, p2, p3, p4], ⟨h0, h1, h2, h3, h4, _⟩ =>
      rw [e0] at h0; rw [e1] at h1; rw [e2] at h2; rw [e3] at h3; rw [e4] at h4
      obtain ⟨k, rfl⟩ := shp_int hi h0
      obtain ⟨s, rfl⟩ := shp_str hs h1
      obtain ⟨i, rfl⟩ := shp_int hi h2
      obtain ⟨m, rfl⟩ := shp_int hi h3
      cases n with
      | zero => simp [Shp] at h4
      | succ n =>
        simp only [Shp, hl] at h4
        obtain ⟨els, rfl, _, h4⟩ := h4
        have key : ∀ els : List PV, (∀ q ∈ els, Shp P n tt q) → ∃ l : List Ty, els = l.map Ty.pv := by
          intro els
          induction els with
          | nil => intro _; exact ⟨[], rfl⟩
          | cons q r ih =>
            intro h
            obtain ⟨x, rfl⟩ := shp_ty hi hs hl ht e0 e1 e2 e3 e4 n q (h q (by simp))
            obtain ⟨l, rfl⟩ := ih (fun q hq => h q (by simp [hq]))
            exact ⟨x :: l, rfl⟩
        obtain ⟨l, rfl⟩ := key els h4
        exact ⟨⟨k, s, i, m, l⟩, by simp [cellsP]⟩
  termination_by n => n
end
end Go.Ab.Lw

namespace Go.Ab.Lw
open Ev
set_option maxRecDepth 10000
set_option linter.unusedSimpArgs false
def tyNamed (s : List UInt8) : Ty := ⟨5, s, 0, 0, []⟩
theorem c106 {s : List UInt8} : (orcL AP).p 106 [.str s] = some [(tyNamed s).pv] := by
  rw [callP_body (af := g106) rfl rfl (by decide)]
  simp [g106, tyNamed]
def namedL : List Ty := [tyNamed [97], tyNamed [98], tyNamed [99]]
theorem c67 : (orcL AP).p 67 [] = some [.lst (namedL.map Ty.pv)] := by
  have h1 := c106 (s := [97]); have h2 := c106 (s := [98]); have h3 := c106 (s := [99])
  simp at h1 h2 h3
  rw [callP_body (af := g67) rfl rfl (by decide)]
  simp [g67, h1, h2, h3, namedL]
theorem names_few : ∀ d ∈ allDatas, d.name.length ≤ 20 := by decide +kernel
theorem Made.nm {lv : Ty → Prop} (h : ∀ t, lv t → SmS t.name ∧ t.args = []) {t : Ty} (m : Made lv t) : t.Nm := by
  induction m with
  | leaf hl => exact ⟨(h _ hl).1, by rw [(h _ hl).2]; simp⟩
  | int => exact ⟨by simp [tyInt, SmS], by simp [tyInt]⟩
  | con hd hl _ ih => exact ⟨by have := names_few _ hd; simp only [SmS]; omega, ih⟩
  | arrow _ _ ha hb => exact ⟨by simp [SmS], by intro x hx; simp at hx; rcases hx with rfl | rfl <;> assumption⟩
end Go.Ab.Lw
namespace Go.Ab.Lw
open Ev
set_option maxRecDepth 10000
set_option linter.unusedSimpArgs false

/-! ### Index and Contains of plain elements -/
def IxB : ACode :=
  (.seq
   (.reg [⟨some 9, none, [.t 8, .t 7], .v (.bin .lss)⟩] [0, 1, 7, 8, 9])
   (.seq
    (.cond (.t 9)
     .skip
     (.exit 0))
    (.seq
     (.block 1
      (.seq
       (.reg [⟨some 10, none, [.t 8], .v (.mv)⟩,
         ⟨some 5, none, [.t 10], .v (.mv)⟩] [0, 1, 5, 7, 8])
       (.seq
        (.reg [⟨some 11, none, [.t 1], .v (.mv)⟩,
          ⟨some 12, none, [.t 0], .v (.mv)⟩,
          ⟨some 13, none, [.t 5], .v (.mv)⟩,
          ⟨some 14, none, [.t 12, .t 13], .v (.iaddr 1)⟩,
          ⟨some 15, none, [.t 14], .v (.loadE 1 false)⟩,
          ⟨some 16, none, [.t 11, .t 15], .v (.bin .eql)⟩] [0, 1, 5, 7, 8, 16])
        (.cond (.t 16)
         (.seq
          (.reg [⟨some 17, none, [.t 5], .v (.mv)⟩,
            ⟨some 4, none, [.t 17], .v (.mv)⟩] [4])
          .ret)
         .skip))))
     (.reg [⟨some 18, none, [.t 8, .c (.pv (.int .i64 1))], .v (.bin .add)⟩,
       ⟨some 8, none, [.t 18], .v (.mv)⟩] [0, 1, 7, 8]))))
def IxL : ACode := .loop [0, 1, 7, 8] IxB
theorem IxL_eq {st : St} : cl AP IxL st = after (cl AP IxL) (cl AP IxB (norm (restrict [0, 1, 7, 8] st))) := cl_loop
def IxF : AFunc := ⟨2, 19, [.t 4],
  (.seq
   (.reg [⟨some 4, none, [.c (.pv (.int .i64 0))], .v (.mv)⟩] [0, 1])
   (.seq
    (.seq
     (.reg [⟨some 6, none, [.t 0], .v (.mv)⟩,
       ⟨some 7, none, [.t 6], .v (.len)⟩,
       ⟨some 8, none, [.c (.pv (.int .i64 0))], .v (.mv)⟩] [0, 1, 7, 8])
     (.block 0
      IxL))
    (.seq
     (.reg [⟨some 4, none, [.c (.pv (.int .i64 (-1)))], .v (.mv)⟩] [4])
     .ret))), none, false⟩
def CoF (g : Nat) : AFunc := ⟨2, 9, [.t 4],
  (.seq
   (.reg [⟨some 4, none, [.c (.pv (.bool false))], .v (.mv)⟩] [0, 1])
   (.seq
    (.reg [⟨some 5, none, [.t 0], .v (.mv)⟩,
      ⟨some 6, none, [.t 1], .v (.mv)⟩,
      ⟨some 7, none, [.t 5, .t 6], .callP g⟩,
      ⟨some 8, none, [.t 7, .c (.pv (.int .i64 0))], .v (.bin .geq)⟩,
      ⟨some 4, none, [.t 8], .v (.mv)⟩] [4])
    .ret)), none, false⟩

/-- Elements that are one cell and compared by '=='. -/
structure Eqs {α : Type} [DecidableEq α] (f : α → PV) : Prop where
  el : El f 1 false
  eq : ∀ x y, evV (.bin .eql) [.pv (f x), .pv (f y)] = some (.pv (.bool (decide (x = y))))
theorem eqs_str : Eqs PV.str := ⟨el_str, fun x y => by simp; rw [Bool.eq_iff_iff]; simp⟩

def RIx {α : Type} (f : α → PV) (s : List α) (y : α) (i : Nat) : Option Nat → Option (AExit × St)
  | some k => some (.ret, ⟨[(4, .pv (vI (i + k : Nat)))], [], [], []⟩)
  | none => some (.exit 0, ⟨[(0, .pv (.lst (s.map f))), (1, .pv (f y)), (7, .pv (vI s.length)), (8, .pv (vI s.length)), (9, .pv (.bool false))], [], [], []⟩)
theorem LIx {α : Type} [DecidableEq α] {f : α → PV} (he : Eqs f) {s : List α} (hS : Sm s) (y : α) : ∀ (n i : Nat), s.length - i = n → i ≤ s.length →
    cl AP IxL ⟨[(0, .pv (.lst (s.map f))), (1, .pv (f y)), (7, .pv (vI s.length)), (8, .pv (vI i))], [], [], []⟩ = RIx f s y i (idxB (fun x => decide (y = x)) (s.drop i))
  | 0, i, hn, hi => by
    have : i = s.length := by omega
    subst this
    rw [IxL_eq]
    simp [IxB, idxB, RIx]
  | n + 1, i, hn, hi => by
    have hi : i < s.length := by omega
    obtain ⟨x, hx⟩ := getO hi
    unfold Sm at hS
    have ih := LIx he hS y n (i + 1) (by omega) (by omega)
    simp at ih
    have h1 := he.el.len x
    have h2 := he.el.of x
    have h3 := he.eq y x
    rw [IxL_eq, dropC hx]
    by_cases e : y = x
    · rw [decide_eq_true e] at h3
      simp (disch := omega) [-getElem?_pos, IxB, hx, hi, e, idxB, RIx, h1, h2]
      rw [← e] at h3 ⊢
      simp [h3]
    · rw [decide_eq_false e] at h3
      simp (disch := omega) [-getElem?_pos, IxB, hx, hi, e, idxB, wrap_id, ih, h1, h2, h3]
      cases idxB (fun x => decide (y = x)) (s.drop (i + 1)) with
      | none => rfl
      | some k => simp [RIx]; omega

theorem cIx {α : Type} [DecidableEq α] {f : α → PV} (he : Eqs f) {k : Nat} (hk : AP k = some IxF) {s : List α} (hS : Sm s) {y : α} : (orcL AP).p k [.lst (s.map f), f y] = some [vI (idxI (idxB (fun x => decide (y = x)) s))] := by
  have h := LIx he hS y _ 0 rfl (by omega)
  simp at h
  rw [callP_body hk rfl (by simp [IxF])]
  cases hi : idxB (fun x => decide (y = x)) s with
  | none => rw [hi] at h; simp [RIx] at h; simp [IxF, h, idxI]
  | some k => rw [hi] at h; simp [RIx] at h; simp [IxF, h, idxI]

theorem any_mem {α : Type} [DecidableEq α] {s : List α} {y : α} : (s.any fun x => decide (y = x)) = decide (y ∈ s) := by
  rw [Bool.eq_iff_iff]; simp
theorem cCo {α : Type} [DecidableEq α] {f : α → PV} (he : Eqs f) {m k : Nat} (hm : AP m = some (CoF k)) (hk : AP k = some IxF) {s : List α} (hS : Sm s) {y : α} : (orcL AP).p m [.lst (s.map f), f y] = some [.bool (decide (y ∈ s))] := by
  have h := cIx he hk hS (y := y)
  rw [callP_body hm rfl (by simp [CoF]), ← any_mem, ← idxB_any]
  simp [CoF, h]

theorem L95 {s : List Int} (hS : Sm s) (y : Int) : ∀ (n i : Nat), s.length - i = n → i ≤ s.length →
    cl AP g95L0 ⟨[(0, .pv (.lst (s.map vI))), (1, .pv (vI y)), (5, .pv (vI i))], [], [], []⟩ =
      if y ∈ s.drop i then some (.ret, ⟨[(4, .pv (.bool true))], [], [], []⟩) else some (.exit 0, ⟨[(0, .pv (.lst (s.map vI))), (1, .pv (vI y)), (5, .pv (vI s.length)), (9, .pv (.bool false))], [], [], []⟩)
  | 0, i, hn, hi => by
    have : i = s.length := by omega
    subst this
    rw [g95L0_eq]
    simp [g95B0]
  | n + 1, i, hn, hi => by
    have hi : i < s.length := by omega
    obtain ⟨x, hx⟩ := getO hi
    unfold Sm at hS
    have ih := L95 hS y n (i + 1) (by omega) (by omega)
    simp at ih
    rw [g95L0_eq, dropC hx]
    by_cases e : x = y
    · simp (disch := omega) [-getElem?_pos, g95B0, hx, hi, e]
    · have e' : ¬ y = x := fun h => e h.symm
      simp (disch := omega) [-getElem?_pos, g95B0, hx, hi, e, e', wrap_id, ih]
theorem c95 {s : List Int} (hS : Sm s) {y : Int} : (orcL AP).p 95 [.lst (s.map vI), vI y] = some [.bool (decide (y ∈ s))] := by
  have h := L95 hS y _ 0 rfl (by omega)
  simp at h
  rw [callP_body (af := g95) rfl rfl (by decide)]
  by_cases e : y ∈ s <;> simp [g95, h, e]

/-! ### All nodes -/
mutual
def Ty.nodes : Ty → List Ty
  | ⟨k, n, i, h, as⟩ => ⟨k, n, i, h, as⟩ :: Ty.nodess as
def Ty.nodess : List Ty → List Ty
  | [] => []
  | a :: r => a.nodes ++ Ty.nodess r
end
theorem Ty.nodess_eq : ∀ l : List Ty, Ty.nodess l = l.flatMap Ty.nodes
  | [] => by simp [Ty.nodess]
  | a :: r => by simp [Ty.nodess, Ty.nodess_eq r]
theorem Ty.nodes_eq (t : Ty) : t.nodes = t :: t.args.flatMap Ty.nodes := by cases t; simp only [Ty.nodes, Ty.nodess_eq]

theorem nodup_len {α : Type} [DecidableEq α] : ∀ {l S : List α}, l.Nodup → (∀ x ∈ l, x ∈ S) → l.length ≤ S.length
  | [], _, _, _ => by simp
  | x :: r, S, hn, h => by
    have hx := h x (by simp)
    have hr := nodup_len (l := r) (S := S.erase x) (List.nodup_cons.1 hn).2 (fun y hy => by
      rw [List.mem_erase_of_ne]
      · exact h y (by simp [hy])
      · rintro rfl; exact (List.nodup_cons.1 hn).1 hy)
    have := List.length_erase_of_mem hx
    have : 0 < S.length := List.length_pos_of_mem hx
    simp; omega

/-- One more variable. -/
def addI (out : List Int) (x : Ty) : List Int := if x.kind = 1 ∧ x.id ∉ out then out ++ [x.id] else out

/-- What was collected: without doubles, among few. -/
structure Coll (S out : List Int) : Prop where
  nodup : out.Nodup
  sub : ∀ x ∈ out, x ∈ S
  few : S.length < 1099511627776
theorem Coll.len {S out : List Int} (h : Coll S out) : Sm out := by
  have := nodup_len h.nodup h.sub
  have := h.few
  unfold Sm; omega
theorem Coll.add {S out : List Int} (h : Coll S out) {x : Ty} (hx : x.kind = 1 → x.id ∈ S) : Coll S (addI out x) := by
  unfold addI
  split
  · rename_i e
    refine ⟨?_, ?_, h.few⟩
    · rw [List.nodup_append]
      refine ⟨h.nodup, by simp, ?_⟩
      intro a ha b hb
      simp at hb; subst hb
      rintro rfl; exact e.2 ha
    · intro y hy
      simp at hy
      rcases hy with hy | rfl
      · exact h.sub y hy
      · exact hx e.1
  · exact h
theorem Coll.fold {S : List Int} : ∀ {l : List Ty} {out : List Int}, Coll S out → (∀ x ∈ l, x.kind = 1 → x.id ∈ S) → Coll S (l.foldl addI out)
  | [], _, h, _ => h
  | x :: r, out, h, hx => by
    simp only [List.foldl_cons]
    exact Coll.fold (h.add (hx x (by simp))) (fun y hy => hx y (by simp [hy]))

/-- The variables of types. -/
def vars (l : List Ty) : List Int := (l.flatMap Ty.nodes).foldl addI []

end Go.Ab.Lw
namespace Go.Ab.Lw
open Ev
set_option maxRecDepth 10000
set_option linter.unusedSimpArgs false
mutual
/-- The leaves of a kind. -/
def Ty.lvs (k : Int) : Ty → List Ty
  | ⟨kd, n, i, h, as⟩ => if kd = k ∧ as.length = 0 then [⟨kd, n, i, h, as⟩] else Ty.lvss k as
def Ty.lvss (k : Int) : List Ty → List Ty
  | [] => []
  | a :: r => a.lvs k ++ Ty.lvss k r
end
theorem Ty.lvss_eq (k : Int) : ∀ l : List Ty, Ty.lvss k l = l.flatMap (Ty.lvs k)
  | [] => by simp [Ty.lvss]
  | a :: r => by simp [Ty.lvss, Ty.lvss_eq k r]
theorem Ty.lvs_eq (k : Int) (t : Ty) : t.lvs k = if t.kind = k ∧ t.args.length = 0 then [t] else t.args.flatMap (Ty.lvs k) := by cases t; simp only [Ty.lvs, Ty.lvss_eq]

noncomputable def addT (out : List Ty) (x : Ty) : List Ty := if x ∈ out then out else out ++ [x]

structure CollT (S out : List Ty) : Prop where
  nodup : out.Nodup
  sub : ∀ x ∈ out, x ∈ S
  few : S.length < 1099511627776
  ok : ∀ x ∈ S, x.Ok
theorem CollT.len {S out : List Ty} (h : CollT S out) : Sm out := by
  have := nodup_len h.nodup h.sub
  have := h.few
  unfold Sm; omega
theorem CollT.add {S out : List Ty} (h : CollT S out) {x : Ty} (hx : x ∈ S) : CollT S (addT out x) := by
  unfold addT
  split
  · exact h
  · rename_i e
    refine ⟨?_, ?_, h.few, h.ok⟩
    · rw [List.nodup_append]
      refine ⟨h.nodup, by simp, ?_⟩
      intro a ha b hb
      simp at hb; subst hb
      rintro rfl; exact e ha
    · intro y hy
      simp at hy
      rcases hy with hy | rfl
      · exact h.sub y hy
      · exact hx
theorem CollT.fold {S : List Ty} : ∀ {l : List Ty} {out : List Ty}, CollT S out → (∀ x ∈ l, x ∈ S) → CollT S (l.foldl addT out)
  | [], _, h, _ => h
  | x :: r, out, h, hx => by
    simp only [List.foldl_cons]
    exact CollT.fold (h.add (hx x (by simp))) (fun y hy => hx y (by simp [hy]))

end Go.Ab.Lw
namespace Go.Ab.Lw
open Ev
set_option maxRecDepth 10000
set_option linter.unusedSimpArgs false
theorem sc_ext {a b : Sc} : a = b ↔ a.id = b.id ∧ a.ty = b.ty := by cases a; cases b; simp
theorem c183 {a b : Sc} (hO : a.ty.Ok) : (orcL AP).p 183 [a.pv, b.pv] = some [.bool (decide (a = b))] := by
  have k := c20 (b := b.ty) hO
  rw [callP_body (af := g183) rfl rfl (by decide)]
  simp at k
  by_cases e : a.id = b.id
  · have : decide (a = b) = decide (a.ty = b.ty) := by rw [Bool.eq_iff_iff]; simp [sc_ext, e]
    simp [g183, k, e, this]
  · have : decide (a = b) = false := by simp [sc_ext, e]
    simp [g183, e, this]
@[simp] theorem takeEnd1 {α : Type} {l : List α} {x : α} : (l ++ [x]).take (l.length + 1) = l ++ [x] := by rw [List.take_of_length_le]; simp

def varNames : List (List UInt8) := [[120], [121], [122], [102], [103], [118, 49], [118, 50], [105, 100]]
/-- Quantifying some variables. -/
def closeS (ids : List Int) : List Int → List As → List As
  | [], acc => acc
  | v :: r, acc => closeS ids r (if v ∈ ids then acc ++ [⟨v, tyBound acc.length⟩] else acc)
def closeSc (ids : List Int) (t : Ty) (vs : List Int) : Sc := ⟨(closeS ids vs []).length, t.sub (closeS ids vs [])⟩

/-- Types whose variables are few. -/
structure FewV (t : Ty) : Prop where
  ok : t.Ok
  wf : t.Wf
  few : ∃ S : List Ty, S.length < 1099511627776 ∧ (∀ x ∈ S, x.Ok) ∧ ∀ x ∈ t.lvs 1, x ∈ S

end Go.Ab.Lw
namespace Go.Ab.Lw
open Ev
set_option maxRecDepth 10000
set_option linter.unusedSimpArgs false
/-- The leaves of a made type are among the leaves. -/
theorem Made.lvs {lv : Ty → Prop} (h : ∀ t, lv t → t.args = []) {t : Ty} (m : Made lv t) {k : Int} (hk : k ≠ 4) : ∀ x ∈ t.lvs k, lv x := by
  induction m with
  | leaf hl =>
    intro x hx
    rw [Ty.lvs_eq, h _ hl] at hx
    split at hx
    · simp at hx; subst hx; exact hl
    · simp at hx
  | int =>
    intro x hx
    rw [Ty.lvs_eq] at hx
    simp [tyInt] at hx
    exact absurd hx.1.symm hk
  | con hd hl _ ih =>
    intro x hx
    rw [Ty.lvs_eq] at hx
    split at hx
    · rename_i e; exact absurd e.1.symm hk
    · simp only [List.mem_flatMap] at hx
      obtain ⟨y, hy, hx⟩ := hx
      exact ih y hy x hx
  | arrow _ _ ha hb =>
    intro x hx
    rw [Ty.lvs_eq] at hx
    simp at hx
    rcases hx with hx | hx
    · exact ha x hx
    · exact hb x hx
theorem bare_ok {t : Ty} (h : t.args = []) : t.Ok := ⟨by rw [h]; simp [Sm], by rw [h]; simp⟩
theorem Made.few {lv : List Ty} (hl : lv.length < 1099511627776) (h : ∀ t, t ∈ lv → t.args = []) {t : Ty} (m : Made (· ∈ lv) t) : FewV t :=
  ⟨m.ok h, m.wf h, lv, hl, fun x hx => bare_ok (h x hx), m.lvs h (by decide)⟩

theorem closeS_ok {ids : List Int} : ∀ (vs : List Int) (acc : List As), (∀ a ∈ acc, a.ty.Ok) → ∀ a ∈ closeS ids vs acc, a.ty.Ok
  | [], acc, h => by simpa [closeS] using h
  | v :: r, acc, h => by
    simp only [closeS]
    refine closeS_ok r _ ?_
    split
    · intro a ha
      simp at ha
      rcases ha with ha | rfl
      · exact h a ha
      · exact bare_ok rfl
    · exact h
theorem closeSc_ok {ids vs : List Int} {t : Ty} (h : t.Ok) : (closeSc ids t vs).ty.Ok := sub_ok (closeS_ok vs [] (by simp)) h

/-- A made entry. -/
def MadeE (lv : List Ty) (x : En) : Prop := x.name ∈ varNames ∧ ∃ t, Made (· ∈ lv) t ∧ (x.sc = ⟨0, t⟩ ∨ ∃ ids : List Int, ids.length = 2 ∧ x.sc = closeSc ids t (vars [t]))
theorem MadeE.ok {lv : List Ty} (h : ∀ t, t ∈ lv → t.args = []) {x : En} (m : MadeE lv x) : x.sc.ty.Ok := by
  obtain ⟨_, t, mt, e | ⟨ids, _, e⟩⟩ := m
  · rw [e]; exact mt.ok h
  · rw [e]; exact closeSc_ok (mt.ok h)

end Go.Ab.Lw
namespace Go.Ab.Lw
open Ev
set_option maxRecDepth 10000
set_option linter.unusedSimpArgs false
/-- A made type over leaves and data types. -/
inductive MadeG (D : Dt → Prop) (lv : List Ty) : Nat → Ty → Prop
  | leaf {n : Nat} {t : Ty} : t ∈ lv → MadeG D lv n t
  | int {n : Nat} : MadeG D lv n tyInt
  | con {n : Nat} {d : Dt} {args : List Ty} : D d → args.length = d.params.length → (∀ x ∈ args, MadeG D lv n x) → MadeG D lv (n + 1) ⟨4, d.name, 0, 0, args⟩
  | arrow {n : Nat} {a b : Ty} : MadeG D lv n a → MadeG D lv n b → MadeG D lv (n + 1) ⟨4, [45, 62], 0, 0, [a, b]⟩

/-- What the maker of types gives at a depth. -/
def GivesG (L : List Int) (ds : List Dt) (lv : List Ty) (dep : Nat) : Prop := ∀ i : Nat, i ≤ L.length → ∃ (t : Ty) (j : Nat),
  (orcL AP).i 27 [.sptr 0 0, .pv (.lst (ds.map Dt.pv)), .pv (.lst (lv.map Ty.pv)), .pv (vI dep)] (tp L i) [] = some ([t.av], tp L j, []) ∧ MadeG (· ∈ ds) lv dep t ∧ j ≤ L.length

theorem L27g {L : List Int} {ds : List Dt} {lv : List Ty} {dep : Nat} (hdep : dep < 1000) (hg : GivesG L ds lv dep) {d : Dt} (hS : Sm d.params) : ∀ (n k : Nat), d.params.length - k = n → k ≤ d.params.length → ∀ (acc : List Ty) (i : Nat), acc.length = k → (∀ x ∈ acc, MadeG (· ∈ ds) lv dep x) → i ≤ L.length →
    ∃ (r : List Ty) (j : Nat), cl AP g27L0 ⟨[(0, .sptr 0 0), (1, .pv (.lst (ds.map Dt.pv))), (2, .pv (.lst (lv.map Ty.pv))), (3, .pv (vI (dep + 1))), (8, .lptr 8 0), (10, .lptr 10 0), (11, .own (acc.map Ty.pv) 0), (12, .pv (vI k))],
      [(8, [.pv (vI 0), .pv (.str []), .pv (vI 0), .pv (vI 0), .own [] 1]), (10, [.pv (vI d.pos), .pv (.str d.name), .pv (.lst (d.params.map .str)), .pv (.lst (d.cons.map Con.pv))])], tp L i, [acc.length, 0]⟩ =
      some (.exit 1, ⟨[(0, .sptr 0 0), (1, .pv (.lst (ds.map Dt.pv))), (2, .pv (.lst (lv.map Ty.pv))), (3, .pv (vI (dep + 1))), (8, .lptr 8 0), (10, .lptr 10 0), (11, .own (r.map Ty.pv) 0), (12, .pv (vI d.params.length)), (65, .pv (.bool false))],
      [(8, [.pv (vI 0), .pv (.str []), .pv (vI 0), .pv (vI 0), .own [] 1]), (10, [.pv (vI d.pos), .pv (.str d.name), .pv (.lst (d.params.map .str)), .pv (.lst (d.cons.map Con.pv))])], tp L j, [r.length, 0]⟩) ∧
      r.length = d.params.length ∧ (∀ x ∈ r, MadeG (· ∈ ds) lv dep x) ∧ j ≤ L.length
  | 0, k, hn, hk, acc, i, ha, hm, hi => by
    have : k = d.params.length := by omega
    subst this
    refine ⟨acc, i, ?_, ha, hm, hi⟩
    rw [g27L0_eq]
    simp [g27B0]
  | n + 1, k, hn, hk, acc, i, ha, hm, hi => by
    unfold Sm at hS
    have hk : k < d.params.length := by omega
    have hb : (acc.length + 1) * 64 ≤ 140737488355328 := by omega
    obtain ⟨t, j, e, mt, hj⟩ := hg i hi
    simp at e
    obtain ⟨r, j', e', hr, hm', hj'⟩ := L27g hdep hg hS n (k + 1) (by omega) (by omega) (acc ++ [t]) j (by simp; omega) (by
      intro x hx; simp at hx; rcases hx with hx | rfl
      · exact hm x hx
      · exact mt) hj
    simp at e'
    refine ⟨r, j', ?_, hr, hm', hj'⟩
    rw [g27L0_eq]
    have h1 : (dep : Int) + 1 - 1 = dep := by omega
    simp (disch := omega) [-getElem?_pos, g27B0, hk, wrap_id, h1, e, hb]
    rw [e']

theorem g27_0 {L : List Int} (hL : Sm L) {ds : List Dt} {lv : List Ty} (hlv : Sm lv) : GivesG L ds lv 0 := by
  intro i hi
  obtain ⟨k, j1, e1, k0, k7, hj1⟩ := c68 hL hi (n := 7) (by omega) (by omega)
  simp at e1
  unfold Sm at hlv
  by_cases h1 : k < 3
  · by_cases h2 : lv = []
    · subst h2
      refine ⟨tyInt, j1, ?_, .int, hj1⟩
      have c := c34
      simp at c
      rw [callI_body (af := g27) rfl (by simp [g27])]
      simp [-getElem?_pos, g27, e1, h1, c, tyInt]
    · have hp : 0 < lv.length := List.length_pos_iff.2 h2
      obtain ⟨r, j2, e2, r0, r1, hj2⟩ := c68 hL hj1 (n := lv.length) (by omega) (by omega)
      obtain ⟨m, rfl, hm⟩ := natI r0 r1
      obtain ⟨x, hx⟩ := getO hm
      simp at e2
      refine ⟨x, j2, ?_, .leaf (memO hx), hj2⟩
      rw [callI_body (af := g27) rfl (by simp [g27])]
      simp [-getElem?_pos, g27, e1, h1, hp, e2, hx]
  · refine ⟨tyInt, j1, ?_, .int, hj1⟩
    have c := c34
    simp at c
    rw [callI_body (af := g27) rfl (by simp [g27])]
    simp [-getElem?_pos, g27, e1, h1, c, tyInt]

theorem g27_s {L : List Int} (hL : Sm L) {ds : List Dt} (hds : ds.length ≤ 20) (hda : ∀ d ∈ ds, d.params.length ≤ 8) {lv : List Ty} (hlv : Sm lv) {dep : Nat} (hdep : dep < 1000) (hg : GivesG L ds lv dep) : GivesG L ds lv (dep + 1) := by
  intro i hi
  obtain ⟨k, j1, e1, k0, k7, hj1⟩ := c68 hL hi (n := 7) (by omega) (by omega)
  simp at e1
  unfold Sm at hlv
  have hd1 : ¬ ((dep : Int) + 1 < 1) := by omega
  have hd2 : (dep : Int) + 1 - 1 = dep := by omega
  have leafCase : ∀ h1 : k < 3, ∀ h2 : ¬ lv = [], ∃ (t : Ty) (j : Nat), (orcL AP).i 27 [.sptr 0 0, .pv (.lst (ds.map Dt.pv)), .pv (.lst (lv.map Ty.pv)), .pv (vI ((dep + 1 : Nat) : Int))] (tp L i) [] = some ([t.av], tp L j, []) ∧ MadeG (· ∈ ds) lv (dep + 1) t ∧ j ≤ L.length := by
    intro h1 h2
    have hp : 0 < lv.length := List.length_pos_iff.2 h2
    obtain ⟨r, j2, e2, r0, r1, hj2⟩ := c68 hL hj1 (n := lv.length) (by omega) (by omega)
    obtain ⟨m, rfl, hm⟩ := natI r0 r1
    obtain ⟨x, hx⟩ := getO hm
    simp at e2
    refine ⟨x, j2, ?_, .leaf (memO hx), hj2⟩
    rw [callI_body (af := g27) rfl (by simp [g27])]
    simp [-getElem?_pos, g27, e1, h1, hp, e2, hx]
  by_cases h1 : k < 3 ∧ ¬ lv = []
  · exact leafCase h1.1 h1.2
  · have h1' : ¬ k < 3 ∨ lv = [] := by
      by_cases h : k < 3
      · right; by_cases h' : lv = []
        · exact h'
        · exact absurd ⟨h, h'⟩ h1
      · exact .inl h
    by_cases h2 : k < 4
    · refine ⟨tyInt, j1, ?_, .int, hj1⟩
      have c := c34
      simp at c
      rw [callI_body (af := g27) rfl (by simp [g27])]
      rcases h1' with h | h
      · simp [-getElem?_pos, g27, e1, h, h2, c, tyInt]
      · subst h
        simp [-getElem?_pos, g27, e1, h2, c, tyInt]
    · have h3 : ¬ k < 3 := by omega
      by_cases h4 : (k = 4 ∨ k = 5) ∧ ¬ ds = []
      · obtain ⟨h4, h5⟩ := h4
        have hp : 0 < ds.length := List.length_pos_iff.2 h5
        obtain ⟨r, j2, e2, r0, r1, hj2⟩ := c68 hL hj1 (n := ds.length) (by omega) (by omega)
        obtain ⟨m, rfl, hm⟩ := natI r0 r1
        obtain ⟨d, hx⟩ := getO hm
        simp at e2
        have hdm := memO hx
        have hps : Sm d.params := by
          unfold Sm
          have := hda d hdm
          omega
        obtain ⟨as, j3, e3, ha, hm3, hj3⟩ := L27g hdep hg hps d.params.length 0 rfl (by omega) [] j2 rfl (by simp) hj2
        rw [g27L0_eq] at e3
        simp at e3
        have hsa : Sm as := by unfold Sm at hps ⊢; omega
        have c := c62 (s := d.name) (l := as) hsa
        simp at c
        refine ⟨⟨4, d.name, 0, 0, as⟩, j3, ?_, .con hdm ha hm3, hj3⟩
        rw [callI_body (af := g27) rfl (by simp [g27])]
        rcases h4 with rfl | rfl
        · simp [-getElem?_pos, g27, e1, hp, hd1, e2, hx, g27L0_eq, e3, c]
        · simp [-getElem?_pos, g27, e1, hp, hd1, e2, hx, g27L0_eq, e3, c]
      · obtain ⟨a, j2, ea, ma, hj2⟩ := hg j1 hj1
        obtain ⟨b, j3, eb, mb, hj3⟩ := hg j2 hj2
        simp at ea eb
        have c := c69 (a := a) (b := b)
        simp at c
        refine ⟨⟨4, [45, 62], 0, 0, [a, b]⟩, j3, ?_, .arrow ma mb, hj3⟩
        rw [callI_body (af := g27) rfl (by simp [g27])]
        by_cases h5 : ds = []
        · subst h5
          simp at ea eb
          simp (disch := omega) [-getElem?_pos, g27, e1, h2, h3, hd1, hd2, wrap_id, ea, eb, c]
        · have h6 : ¬ k = 4 ∧ ¬ k = 5 := by
            constructor
            · intro h; exact h4 ⟨.inl h, h5⟩
            · intro h; exact h4 ⟨.inr h, h5⟩
          simp (disch := omega) [-getElem?_pos, g27, e1, h2, h3, h6.1, h6.2, hd1, hd2, wrap_id, ea, eb, c]
theorem mk27 {L : List Int} (hL : Sm L) {ds : List Dt} (hds : ds.length ≤ 20) (hda : ∀ d ∈ ds, d.params.length ≤ 8) {lv : List Ty} (hlv : Sm lv) : ∀ dep : Nat, dep < 1000 → GivesG L ds lv dep
  | 0, _ => g27_0 hL hlv
  | dep + 1, h => g27_s hL hds hda hlv (by omega) (mk27 hL hds hda hlv dep (by omega))

theorem MadeG.ok {D : Dt → Prop} (hD : ∀ d, D d → d.params.length ≤ 8) {lv : List Ty} (h : ∀ t ∈ lv, t.args = []) {n : Nat} {t : Ty} (m : MadeG D lv n t) : t.Ok := by
  induction m with
  | leaf hl => exact bare_ok (h _ hl)
  | int => exact bare_ok rfl
  | con hd hl _ ih => exact ⟨by have := hD _ hd; unfold Sm; simp; omega, ih⟩
  | arrow _ _ ha hb => exact ⟨by simp [Sm], by intro x hx; simp at hx; rcases hx with rfl | rfl <;> assumption⟩
end Go.Ab.Lw
namespace Go.Ab.Lw
open Ev
set_option maxRecDepth 10000
set_option linter.unusedSimpArgs false
abbrev Txt := List UInt8
theorem c214 {s : List Txt} (hS : Sm s) {y : Txt} : (orcL AP).p 214 [.lst (s.map .str), .str y] = some [.bool (decide (y ∈ s))] := by
  rw [cCo eqs_str (m := 214) (k := 223) rfl rfl hS]
  simp only [Option.some.injEq, List.cons.injEq, PV.bool.injEq, and_true]
  rw [Bool.eq_iff_iff]; simp

/-! ### The reference's index -/
theorem L216 {s : List Txt} (hS : Sm s) (y : Txt) : ∀ (n i : Nat), s.length - i = n → i ≤ s.length →
    cl AP g216L0 ⟨[(0, .pv (.lst (s.map .str))), (1, .pv (.str y)), (5, .pv (vI i))], [], [], []⟩ =
      match idxB (fun x => decide (x = y)) (s.drop i) with
      | some k => some (.ret, ⟨[(4, .pv (vI (i + k : Nat)))], [], [], []⟩)
      | none => some (.exit 0, ⟨[(0, .pv (.lst (s.map .str))), (1, .pv (.str y)), (5, .pv (vI s.length)), (9, .pv (.bool false))], [], [], []⟩)
  | 0, i, hn, hi => by
    have : i = s.length := by omega
    subst this
    rw [g216L0_eq]
    simp [g216B0, idxB]
  | n + 1, i, hn, hi => by
    have hi : i < s.length := by omega
    obtain ⟨x, hx⟩ := getO hi
    unfold Sm at hS
    have ih := L216 hS y n (i + 1) (by omega) (by omega)
    simp at ih
    rw [g216L0_eq, dropC hx]
    by_cases e : x = y
    · simp (disch := omega) [-getElem?_pos, g216B0, hx, hi, e, idxB]
    · simp (disch := omega) [-getElem?_pos, g216B0, hx, hi, e, idxB, wrap_id, ih]
      cases idxB (fun x => decide (x = y)) (s.drop (i + 1)) with
      | none => rfl
      | some k => simp; omega
/-- The place of a name, or -1. -/
def posS (s : List Txt) (y : Txt) : Int := idxI (idxB (fun x => decide (x = y)) s)
theorem c216 {s : List Txt} (hS : Sm s) {y : Txt} : (orcL AP).p 216 [.lst (s.map .str), .str y] = some [vI (posS s y)] := by
  unfold posS
  have h := L216 hS y _ 0 rfl (by omega)
  simp at h
  rw [callP_body (af := g216) rfl rfl (by decide)]
  cases hi : idxB (fun x => decide (x = y)) s with
  | none => rw [hi] at h; simp at h; simp [g216, h, idxI]
  | some k => rw [hi] at h; simp at h; simp [g216, h, idxI]
theorem posS_neg {s : List Txt} {y : Txt} : posS s y < 0 ↔ y ∉ s := by
  unfold posS
  have h := idxB_any (p := fun x => decide (x = y)) (s := s)
  have e : s.any (fun x => decide (x = y)) = decide (y ∈ s) := by rw [Bool.eq_iff_iff]; simp
  rw [e] at h
  by_cases hy : y ∈ s
  · rw [decide_eq_true hy] at h
    have h := of_decide_eq_true h
    exact ⟨fun h' => absurd h (Int.not_le.2 h'), fun h' => absurd hy h'⟩
  · rw [decide_eq_false hy] at h
    have h := of_decide_eq_false h
    exact ⟨fun _ => hy, fun _ => Int.not_le.1 h⟩

/-! ### How many arguments a constructor of types takes -/
def tyC (t : Ty) : List AV := [.pv (vI t.kind), .pv (.str t.name), .pv (vI t.id), .pv (vI t.home), .pv (.lst (t.args.map Ty.pv))]
@[simp] theorem tyC_eq (t : Ty) : tyC t = [.pv (vI t.kind), .pv (.str t.name), .pv (vI t.id), .pv (vI t.home), .pv (.lst (t.args.map Ty.pv))] := rfl

/-- Only constructed types have parts. -/
inductive Ty.Cw : Ty → Prop
  | mk {t : Ty} : (t.kind ≠ 4 → t.args = []) → (∀ x ∈ t.args, Ty.Cw x) → Ty.Cw t
theorem Ty.Cw.bare {t : Ty} (h : t.Cw) : t.kind ≠ 4 → t.args = [] := by cases h; assumption
theorem Ty.Cw.kid {t : Ty} (h : t.Cw) : ∀ x ∈ t.args, x.Cw := by cases h; assumption
theorem MadeG.cw {D : Dt → Prop} {lv : List Ty} (h : ∀ t ∈ lv, t.args = []) {n : Nat} {t : Ty} (m : MadeG D lv n t) : t.Cw := by
  induction m with
  | leaf hl => exact ⟨fun _ => h _ hl, by rw [h _ hl]; simp⟩
  | int => exact ⟨by simp [tyInt], by simp [tyInt]⟩
  | con hd hl _ ih => exact ⟨by simp, ih⟩
  | arrow _ _ ha hb => exact ⟨by simp, by intro x hx; simp at hx; rcases hx with rfl | rfl <;> assumption⟩

end Go.Ab.Lw
namespace Go.Ab.Lw
open Ev
set_option maxRecDepth 10000
set_option linter.unusedSimpArgs false
theorem c223 {s : List Txt} (hS : Sm s) {y : Txt} : (orcL AP).p 223 [.lst (s.map .str), .str y] = some [vI (posS s y)] := by
  rw [cIx eqs_str (k := 223) rfl hS]
  unfold posS
  have : (fun x => decide (y = x)) = fun x : Txt => decide (x = y) := by funext x; exact decide_eq_decide.2 eq_comm
  rw [this]

mutual
def Ty.bnm (l : List Txt) : Ty → Ty
  | ⟨k, n, i, h, as⟩ => if k = 5 ∧ 0 ≤ posS l n then tyBound (posS l n) else ⟨k, n, i, h, Ty.bnms l as⟩
def Ty.bnms (l : List Txt) : List Ty → List Ty
  | [] => []
  | a :: r => a.bnm l :: Ty.bnms l r
end
theorem Ty.bnms_map (l : List Txt) : ∀ as : List Ty, Ty.bnms l as = as.map (Ty.bnm l)
  | [] => by simp [Ty.bnms]
  | a :: r => by simp [Ty.bnms, Ty.bnms_map l r]
theorem Ty.bnm_eq (l : List Txt) (t : Ty) : t.bnm l = if t.kind = 5 ∧ 0 ≤ posS l t.name then tyBound (posS l t.name) else ⟨t.kind, t.name, t.id, t.home, t.args.map (Ty.bnm l)⟩ := by
  cases t; simp only [Ty.bnm, Ty.bnms_map]

theorem L197 {l : List Txt} {t : Ty} (hS : Sm t.args) (h : ∀ x ∈ t.args, (orcL AP).p 197 [x.pv, .lst (l.map .str)] = some [(x.bnm l).pv]) : ∀ (n i : Nat), t.args.length - i = n → i ≤ t.args.length → ∀ d : List Ty, d = (t.args.take i).map (Ty.bnm l) →
    cl AP g197L0 ⟨[(1, .pv (.lst (l.map .str))), (2, .lptr 2 0), (4, .lptr 4 0), (6, .sarr 0 5 t.args.length true), (27, .pv (.lst (t.args.map Ty.pv))), (28, .pv (vI t.args.length)), (29, .pv (vI i))],
      [(2, t.cl), (4, [.pv (vI 0), .pv (.str []), .pv (vI 0), .pv (vI 0), .own [] 0])], [some (arrC d n)], [0]⟩ =
    some (.exit 0, ⟨[(1, .pv (.lst (l.map .str))), (2, .lptr 2 0), (4, .lptr 4 0), (6, .sarr 0 5 t.args.length true), (27, .pv (.lst (t.args.map Ty.pv))), (28, .pv (vI t.args.length)), (29, .pv (vI t.args.length)), (30, .pv (.bool false))],
      [(2, t.cl), (4, [.pv (vI 0), .pv (.str []), .pv (vI 0), .pv (vI 0), .own [] 0])], [some (arrC (t.args.map (Ty.bnm l)) 0)], [0]⟩)
  | 0, i, hn, hi, d, hd => by
    have : i = t.args.length := by omega
    subst this
    have hd' : d = t.args.map (Ty.bnm l) := by simpa using hd
    subst hd'
    have hQ := Quiet.one (arrC_pv (d := t.args.map (Ty.bnm l)) (m := 0))
    rw [g197L0_eq]
    simp [g197B0, hQ.norm, Ty.cl]
  | n + 1, i, hn, hi, d, hd => by
    have hi : i < t.args.length := by omega
    obtain ⟨x, hx⟩ := getO hi
    unfold Sm at hS
    have hdl : d.length = i := by rw [hd]; simp; omega
    have hQ := Quiet.one (arrC_pv (d := d) (m := n + 1))
    have hc := h x (memO hx)
    have ih := L197 hS h n (i + 1) (by omega) (by omega) (d ++ [x.bnm l]) (by rw [List.take_add_one, hx, hd]; simp)
    have hset : setRange (arrC d (n + 1)) (i * 5) (x.bnm l).cl = arrC (d ++ [x.bnm l]) n := by rw [← hdl]; exact arrC_set
    have hlen : i * 5 + 5 ≤ (arrC d (n + 1)).length := by rw [arrC_len]; omega
    have hQ2 := Quiet.one (arrC_pv (d := d ++ [x.bnm l]) (m := n))
    rw [g197L0_eq] at ih ⊢
    simp [Ty.cl, hQ2.norm] at ih hset hc
    simp (disch := omega) [-getElem?_pos, g197B0, hx, hi, hQ.norm, hQ.shift, Ty.cl, hc, hset, hlen, wrap_id]
    rw [g197L0_eq]
    simp [ih, hQ2.norm]

theorem c197 {l : List Txt} (hl : Sm l) {t : Ty} (hO : t.Ok) : (orcL AP).p 197 [t.pv, .lst (l.map .str)] = some [(t.bnm l).pv] := by
  revert hO
  refine Ty.rec1 (p := fun t => t.Ok → (orcL AP).p 197 [t.pv, .lst (l.map .str)] = some [(t.bnm l).pv]) ?_ t
  intro t ih hO
  have k1 := c223 hl (y := t.name)
  rw [callP_body (af := g197) rfl rfl (by decide), Ty.bnm_eq]
  by_cases e1 : t.kind = 5 ∧ 0 ≤ posS l t.name
  · simp [g197, k1, e1.1, e1.2, tyBound]
  · have hS := hO.sm
    have h := L197 hO.sm (fun x hx => ih x hx (hO.kid x hx)) t.args.length 0 (by omega) (by omega) [] (by simp)
    have hz : arrC [] t.args.length = (List.replicate t.args.length [.pv (vI 0), .pv (.str []), .pv (vI 0), .pv (vI 0), .pv (.lst [])]).flatten := by simp [arrC, zcl]
    have hQ := Quiet.one (arrC_pv (d := []) (m := t.args.length))
    rw [g197L0_eq] at h
    unfold Sm at hS
    have b1 : (t.args.length : Int) ≤ 9223372036854775807 := by omega
    have b2 : (t.args.length : Int) * 64 ≤ 140737488355328 := by omega
    rw [hz] at h hQ
    simp [hQ.norm, Ty.cl] at h
    have hQ2 := Quiet.one (arrC_pv (d := t.args.map (Ty.bnm l)) (m := 0))
    have hfr := arrC_frz (d := t.args.map (Ty.bnm l))
    have hle := arrC_len (d := t.args.map (Ty.bnm l)) (m := 0)
    simp at hfr hle
    by_cases e2 : t.kind = 5
    · have e3 : ¬ 0 ≤ posS l t.name := fun e => e1 ⟨e2, e⟩
      simp [e2] at h
      simp (disch := omega) [g197, k1, e2, e3, b1, b2, g197L0_eq, hQ.norm, h, hfr, hle]
    · simp (disch := omega) [g197, k1, e2, b1, b2, g197L0_eq, hQ.norm, h, hfr, hle]

theorem L198 {l : List Txt} {t : Ty} (hS : Sm t.args) (h : ∀ x ∈ t.args, (orcL AP).p 198 [x.pv, .lst (l.map .str)] = some [(x.bnm l).pv]) : ∀ (n i : Nat), t.args.length - i = n → i ≤ t.args.length → ∀ acc : List Ty, acc = (t.args.take i).map (Ty.bnm l) →
    cl AP g198L0 ⟨[(1, .pv (.lst (l.map .str))), (2, .lptr 2 0), (4, .lptr 4 0), (6, .lptr 6 0), (7, .pv (vI i))],
      [(2, tyC t), (4, [.pv (vI 0), .pv (.str []), .pv (vI 0), .pv (vI 0), .own [] 0]), (6, [.pv (vI t.kind), .pv (.str t.name), .pv (vI t.id), .pv (vI t.home), .own (acc.map Ty.pv) 1])], [], [0, acc.length]⟩ =
      some (.exit 0, ⟨[(1, .pv (.lst (l.map .str))), (2, .lptr 2 0), (4, .lptr 4 0), (6, .lptr 6 0), (7, .pv (vI t.args.length)), (26, .pv (.bool false))],
      [(2, tyC t), (4, [.pv (vI 0), .pv (.str []), .pv (vI 0), .pv (vI 0), .own [] 0]), (6, [.pv (vI t.kind), .pv (.str t.name), .pv (vI t.id), .pv (vI t.home), .own ((t.args.map (Ty.bnm l)).map Ty.pv) 1])], [], [0, t.args.length]⟩)
  | 0, i, hn, hi, acc, ha => by
    have : i = t.args.length := by omega
    subst this
    subst ha
    rw [g198L0_eq]
    simp [g198B0]
  | n + 1, i, hn, hi, acc, ha => by
    have hi : i < t.args.length := by omega
    obtain ⟨x, hx⟩ := getO hi
    unfold Sm at hS
    have hb : (acc.length + 1) * 64 ≤ 140737488355328 := by subst ha; simp; omega
    have hc := h x (memO hx)
    have ih := L198 hS h n (i + 1) (by omega) (by omega) (acc ++ [x.bnm l]) (by rw [List.take_add_one, hx, ha]; simp)
    rw [g198L0_eq] at ih ⊢
    simp at ih hc
    simp (disch := omega) [-getElem?_pos, g198B0, hx, hi, hc, hb, wrap_id]
    rw [g198L0_eq]
    simp [ih]

theorem c198 {l : List Txt} (hl : Sm l) {t : Ty} (hO : t.Ok) (hC : t.Cw) : (orcL AP).p 198 [t.pv, .lst (l.map .str)] = some [(t.bnm l).pv] := by
  revert hO hC
  refine Ty.rec1 (p := fun t => t.Ok → t.Cw → (orcL AP).p 198 [t.pv, .lst (l.map .str)] = some [(t.bnm l).pv]) ?_ t
  intro t ih hO hC
  have k1 := c216 hl (y := t.name)
  have k2 := c72 (n := posS l t.name)
  have h := L198 hO.sm (fun x hx => ih x hx (hO.kid x hx) (hC.kid x hx)) t.args.length 0 (by omega) (by omega) [] (by simp)
  rw [callP_body (af := g198) rfl rfl (by decide), Ty.bnm_eq]
  rw [g198L0_eq] at h
  simp at k2 h
  by_cases e1 : t.kind = 5
  · have ea := hC.bare (by rw [e1]; decide)
    by_cases e2 : 0 ≤ posS l t.name
    · simp [g198, k1, e1, e2, k2, tyBound]
    · simp [g198, k1, e1, e2, ea]
  · simp [g198, e1, g198L0_eq, h]
end Go.Ab.Lw
namespace Go.Ab.Lw
open Ev
set_option maxRecDepth 10000
set_option linter.unusedSimpArgs false
/-- Whether a type is a place that an argument fills, and with what. -/
def plc (l : List Ty) (t : Ty) : Option Ty := if t.kind = 2 ∧ 0 ≤ t.id ∧ t.id < l.length then l[t.id.toNat]? else none
theorem plc_some {l : List Ty} {t u : Ty} (h : plc l t = some u) : t.kind = 2 ∧ 0 ≤ t.id ∧ t.id < l.length ∧ l[t.id.toNat]? = some u := by
  unfold plc at h
  split at h
  · rename_i c; exact ⟨c.1, c.2.1, c.2.2, h⟩
  · cases h
theorem plc_none {l : List Ty} {t : Ty} (h : plc l t = none) : ¬ (t.kind = 2 ∧ 0 ≤ t.id ∧ t.id < l.length) := by
  intro c
  unfold plc at h
  rw [if_pos c] at h
  rw [List.getElem?_eq_none_iff] at h
  omega
mutual
def Ty.opn (l : List Ty) : Ty → Ty
  | ⟨k, n, i, h, as⟩ => (plc l ⟨k, n, i, h, as⟩).getD ⟨k, n, i, h, Ty.opns l as⟩
def Ty.opns (l : List Ty) : List Ty → List Ty
  | [] => []
  | a :: r => a.opn l :: Ty.opns l r
end
theorem Ty.opns_map (l : List Ty) : ∀ as : List Ty, Ty.opns l as = as.map (Ty.opn l)
  | [] => by simp [Ty.opns]
  | a :: r => by simp [Ty.opns, Ty.opns_map l r]
theorem Ty.opn_eq (l : List Ty) (t : Ty) : t.opn l = (plc l t).getD ⟨t.kind, t.name, t.id, t.home, t.args.map (Ty.opn l)⟩ := by
  cases t; simp only [Ty.opn, Ty.opns_map]

theorem L48 {s : List Ty} {t : Ty} (hS : Sm t.args) (h : ∀ x ∈ t.args, (orcL AP).p 48 [x.pv, .lst (s.map Ty.pv)] = some [(x.opn s).pv]) : ∀ (n i : Nat), t.args.length - i = n → i ≤ t.args.length → ∀ acc : List Ty, acc = (t.args.take i).map (Ty.opn s) →
    cl AP g48L0 ⟨[(1, .pv (.lst (s.map Ty.pv))), (2, .lptr 2 0), (4, .lptr 4 0), (5, .lptr 5 0), (6, .pv (vI i))],
      [(2, [.pv (vI t.kind), .pv (.str t.name), .pv (vI t.id), .pv (vI t.home), .pv (.lst (t.args.map Ty.pv))]), (4, [.pv (vI 0), .pv (.str []), .pv (vI 0), .pv (vI 0), .own [] 0]),
        (5, [.pv (vI t.kind), .pv (.str t.name), .pv (vI t.id), .pv (vI t.home), .own (acc.map Ty.pv) 1])], [], [0, acc.length]⟩ =
      some (.exit 0, ⟨[(1, .pv (.lst (s.map Ty.pv))), (2, .lptr 2 0), (4, .lptr 4 0), (5, .lptr 5 0), (6, .pv (vI t.args.length)), (33, .pv (.bool false))],
      [(2, [.pv (vI t.kind), .pv (.str t.name), .pv (vI t.id), .pv (vI t.home), .pv (.lst (t.args.map Ty.pv))]), (4, [.pv (vI 0), .pv (.str []), .pv (vI 0), .pv (vI 0), .own [] 0]),
        (5, [.pv (vI t.kind), .pv (.str t.name), .pv (vI t.id), .pv (vI t.home), .own ((t.args.map (Ty.opn s)).map Ty.pv) 1])], [], [0, t.args.length]⟩)
  | 0, i, hn, hi, acc, ha => by
    have : i = t.args.length := by omega
    subst this
    subst ha
    rw [g48L0_eq]
    simp [g48B0]
  | n + 1, i, hn, hi, acc, ha => by
    have hi : i < t.args.length := by omega
    obtain ⟨x, hx⟩ := getO hi
    unfold Sm at hS
    have hb : (acc.length + 1) * 64 ≤ 140737488355328 := by subst ha; simp; omega
    have hc := h x (memO hx)
    have ih := L48 hS h n (i + 1) (by omega) (by omega) (acc ++ [x.opn s]) (by rw [List.take_add_one, hx, ha]; simp)
    rw [g48L0_eq] at ih ⊢
    simp at ih hc
    simp (disch := omega) [-getElem?_pos, g48B0, hx, hi, hc, hb, wrap_id]
    rw [g48L0_eq]
    simp [ih]

theorem c48 {s : List Ty} (hs : Sm s) {t : Ty} (hO : t.Ok) : (orcL AP).p 48 [t.pv, .lst (s.map Ty.pv)] = some [(t.opn s).pv] := by
  revert hO
  refine Ty.rec1 (p := fun t => t.Ok → (orcL AP).p 48 [t.pv, .lst (s.map Ty.pv)] = some [(t.opn s).pv]) ?_ t
  intro t ih hO
  rw [callP_body (af := g48) rfl rfl (by decide)]
  unfold Sm at hs
  have h := L48 (s := s) hO.sm (fun x hx => ih x hx (hO.kid x hx)) _ 0 rfl (by omega) [] (by simp)
  rw [g48L0_eq] at h
  simp at h
  cases hp : plc s t with
  | some u =>
    obtain ⟨a, b, c, d⟩ := plc_some hp
    have b1 : ¬ t.id < 0 := by omega
    simp (disch := omega) [-getElem?_pos, g48, a, b, b1, c, d, Ty.opn_eq s t, hp]
  | none =>
    have q := plc_none hp
    by_cases a : t.kind = 2
    · by_cases b : 0 ≤ t.id
      · have c : ¬ t.id < s.length := fun c => q ⟨a, b, c⟩
        simp [a] at h
        simp (disch := omega) [-getElem?_pos, g48, a, b, c, g48L0_eq, h, Ty.opn_eq s t, hp]
      · simp [a] at h
        simp (disch := omega) [-getElem?_pos, g48, a, b, g48L0_eq, h, Ty.opn_eq s t, hp]
    · simp (disch := omega) [-getElem?_pos, g48, a, g48L0_eq, h, Ty.opn_eq s t, hp]

/-- Types where places have no parts. -/
inductive Ty.Wb : Ty → Prop
  | mk {t : Ty} : (t.kind = 2 → t.args = []) → (∀ x ∈ t.args, Ty.Wb x) → Ty.Wb t
theorem Ty.Wb.var {t : Ty} (h : t.Wb) : t.kind = 2 → t.args = [] := by cases h; assumption
theorem Ty.Wb.kid {t : Ty} (h : t.Wb) : ∀ x ∈ t.args, x.Wb := by cases h; assumption
end Go.Ab.Lw
namespace Go.Ab.Lw
open Ev
set_option maxRecDepth 10000
set_option linter.unusedSimpArgs false
def addNm (out : List Txt) (x : Txt) : List Txt := if x ∈ out then out else out ++ [x]
structure CollN (S out : List Txt) : Prop where
  nodup : out.Nodup
  sub : ∀ x ∈ out, x ∈ S
  few : S.length < 1099511627776
theorem CollN.len {S out : List Txt} (h : CollN S out) : Sm out := by
  have := nodup_len h.nodup h.sub
  have := h.few
  unfold Sm; omega
theorem CollN.put {S out : List Txt} (h : CollN S out) {x : Txt} (hx : x ∈ S) : CollN S (addNm out x) := by
  unfold addNm
  split
  · exact h
  · rename_i e
    refine ⟨?_, ?_, h.few⟩
    · rw [List.nodup_append]
      refine ⟨h.nodup, by simp, ?_⟩
      intro a ha b hb
      simp at hb
      subst hb
      intro e'; subst e'; exact e ha
    · intro y hy
      simp at hy
      rcases hy with hy | rfl
      · exact h.sub y hy
      · exact hx
theorem CollN.fold {S : List Txt} : ∀ {l : List Txt} {out : List Txt}, CollN S out → (∀ x ∈ l, x ∈ S) → CollN S (l.foldl addNm out)
  | [], _, h, _ => h
  | x :: r, out, h, hx => by
    simp only [List.foldl_cons]
    exact CollN.fold (h.put (hx x (by simp))) (fun y hy => hx y (by simp [hy]))
theorem mem_foldN : ∀ {l : List Txt} {out : List Txt} {x : Txt}, x ∈ out → x ∈ l.foldl addNm out
  | [], _, _, h => h
  | y :: r, out, x, h => by
    simp only [List.foldl_cons]
    apply mem_foldN
    unfold addNm
    split
    · exact h
    · simp [h]
theorem foldN_fold : ∀ (l acc out : List Txt), (l.foldl addNm acc).foldl addNm out = l.foldl addNm (acc.foldl addNm out)
  | [], _, _ => rfl
  | x :: r, acc, out => by
    simp only [List.foldl_cons]
    rw [foldN_fold r]
    congr 1
    have key : ∀ (l out : List Txt) (y : Txt), y ∈ l → y ∈ l.foldl addNm out := by
      intro l
      induction l with
      | nil => intro out y h; simp at h
      | cons a l ih =>
        intro out y h
        simp only [List.foldl_cons]
        simp only [List.mem_cons] at h
        rcases h with rfl | h
        · apply mem_foldN; unfold addNm; split <;> simp_all
        · exact ih _ _ h
    by_cases e : x ∈ acc
    · have h1 : ∀ (o : List Txt), x ∈ o → addNm o x = o := fun o h => by unfold addNm; rw [if_pos h]
      rw [h1 _ e, h1 _ (key _ _ _ e)]
    · have h1 : addNm acc x = acc ++ [x] := by unfold addNm; rw [if_neg e]
      rw [h1, List.foldl_append]; rfl


mutual
def Ty.seqN : Ty → List Txt
  | ⟨k, n, _, _, as⟩ => (if k = 5 then [n] else []) ++ Ty.seqNs as
def Ty.seqNs : List Ty → List Txt
  | [] => []
  | a :: r => a.seqN ++ Ty.seqNs r
end
theorem Ty.seqNs_map : ∀ l : List Ty, Ty.seqNs l = l.flatMap Ty.seqN
  | [] => by simp [Ty.seqNs]
  | a :: r => by simp [Ty.seqNs, Ty.seqNs_map r]
theorem Ty.seqN_eq (t : Ty) : t.seqN = (if t.kind = 5 then [t.name] else []) ++ t.args.flatMap Ty.seqN := by
  cases t; simp only [Ty.seqN, Ty.seqNs_map]
def namesT (t : Ty) : List Txt := t.seqN.foldl addNm []

theorem L222 {S : List Txt} {t : Ty} (hS : Sm t.args) (h : ∀ x ∈ t.args, ∀ out, CollN S out → (orcL AP).i 222 [.own (out.map .str) 0, .pv x.pv] [] [out.length] = some ([.own ((x.seqN.foldl addNm out).map .str) 0], [], [(x.seqN.foldl addNm out).length]))
    (hk : ∀ y ∈ t.args.flatMap Ty.seqN, y ∈ S) : ∀ (n i : Nat), t.args.length - i = n → i ≤ t.args.length → ∀ out, CollN S out →
    cl AP g222L0 ⟨[(0, .own (out.map .str) 0), (3, .lptr 3 0), (5, .pv (vI i))], [(3, tyC t)], [], [out.length]⟩ =
      some (.exit 0, ⟨[(0, .own ((((t.args.drop i).flatMap Ty.seqN).foldl addNm out).map .str) 0), (3, .lptr 3 0), (5, .pv (vI t.args.length)), (25, .pv (.bool false))], [(3, tyC t)], [], [(((t.args.drop i).flatMap Ty.seqN).foldl addNm out).length]⟩)
  | 0, i, hn, hi, out, hc => by
    have : i = t.args.length := by omega
    subst this
    rw [g222L0_eq]
    simp [g222B0]
  | n + 1, i, hn, hi, out, hc => by
    have hi : i < t.args.length := by omega
    obtain ⟨x, hx⟩ := getO hi
    unfold Sm at hS
    have hkx : ∀ y ∈ x.seqN, y ∈ S := fun y hy => hk y (by simp only [List.mem_flatMap]; exact ⟨x, memO hx, hy⟩)
    have k := h x (memO hx) out hc
    have ih := L222 (t := t) (by unfold Sm; exact hS) h hk n (i + 1) (by omega) (by omega) _ (hc.fold hkx)
    rw [g222L0_eq] at ih ⊢
    rw [dropC hx]
    simp at k ih
    simp (disch := omega) [-getElem?_pos, g222B0, hx, hi, k, wrap_id]
    rw [g222L0_eq]
    simp [ih]

theorem c222 {S : List Txt} {t : Ty} (hO : t.Ok) (hk : ∀ y ∈ t.seqN, y ∈ S) : ∀ out, CollN S out →
    (orcL AP).i 222 [.own (out.map .str) 0, .pv t.pv] [] [out.length] = some ([.own ((t.seqN.foldl addNm out).map .str) 0], [], [(t.seqN.foldl addNm out).length]) := by
  revert hO hk
  refine Ty.rec1 (p := fun t => t.Ok → (∀ y ∈ t.seqN, y ∈ S) → ∀ out, CollN S out →
    (orcL AP).i 222 [.own (out.map .str) 0, .pv t.pv] [] [out.length] = some ([.own ((t.seqN.foldl addNm out).map .str) 0], [], [(t.seqN.foldl addNm out).length])) ?_ t
  intro t ih hO hk out hc
  rw [Ty.seqN_eq] at hk ⊢
  have hkb : ∀ y ∈ (if t.kind = 5 then [t.name] else []), y ∈ S := fun y hy => hk y (List.mem_append_left _ hy)
  have hka : ∀ y ∈ t.args.flatMap Ty.seqN, y ∈ S := fun y hy => hk y (List.mem_append_right _ hy)
  have h := L222 (S := S) hO.sm (fun x hx out hc => ih x hx (hO.kid x hx) (fun y hy => hka y (by simp only [List.mem_flatMap]; exact ⟨x, hx, hy⟩)) out hc) hka _ 0 rfl (by omega) _ (hc.fold hkb)
  have hl := hc.len
  have k := c216 hl (y := t.name)
  have k2 := posS_neg (s := out) (y := t.name)
  unfold Sm at hl
  have hb : (out.length + 1) * 16 ≤ 140737488355328 := by omega
  have hh : headSz 1 (out.map PV.str) = true := by cases out <;> simp
  rw [callI_body (af := g222) rfl (by simp [g222]), List.foldl_append]
  rw [g222L0_eq] at h
  by_cases e1 : t.kind = 5
  · by_cases e2 : t.name ∈ out
    · simp [e2] at k2
      have k3 : ¬ posS out t.name < 0 := by omega
      simp [e1, addNm, e2] at h
      simp [g222, e1, k, k3, g222L0_eq, h, addNm, e2]
    · simp [e2] at k2
      simp [e1, addNm, e2] at h
      simp [g222, e1, k, k2, g222L0_eq, h, addNm, e2, hb, hh]
  · simp [e1] at h
    simp [g222, e1, g222L0_eq, h]

theorem c196 {S : List Txt} (hS : S.length < 1099511627776) {t : Ty} (hO : t.Ok) (hk : ∀ y ∈ t.seqN, y ∈ S) : (orcL AP).p 196 [t.pv] = some [.lst ((namesT t).map .str)] := by
  have k := c222 hO hk [] ⟨by simp, by simp, hS⟩
  rw [callP_body (af := g196) rfl rfl (by decide)]
  unfold namesT
  simp at k
  simp [g196, k]

/-! ### By the program -/
theorem L195b {t : Ty} {l : List Txt} (hl : Sm l) {S : List Txt} (hs : ∀ x ∈ l, x ∈ S) {i : Nat} : ∀ (n k : Nat), l.length - k = n → k ≤ l.length → ∀ out, CollN S out →
    cl AP g195L1 ⟨[(3, .own (out.map .str) 0), (17, .pv (.lst (t.args.map Ty.pv))), (18, .pv (vI t.args.length)), (19, .pv (vI i)), (24, .pv (.lst (l.map .str))), (25, .pv (vI l.length)), (26, .pv (vI k))], [], [], [out.length]⟩ =
      some (.exit 2, ⟨[(3, .own (((l.drop k).foldl addNm out).map .str) 0), (17, .pv (.lst (t.args.map Ty.pv))), (18, .pv (vI t.args.length)), (19, .pv (vI i)), (24, .pv (.lst (l.map .str))), (25, .pv (vI l.length)), (26, .pv (vI l.length)), (27, .pv (.bool false))], [], [], [((l.drop k).foldl addNm out).length]⟩)
  | 0, k, hn, hk, out, hc => by
    have : k = l.length := by omega
    subst this
    rw [g195L1_eq]
    simp [g195B1]
  | n + 1, k, hn, hk, out, hc => by
    have hk : k < l.length := by omega
    obtain ⟨x, hx⟩ := getO hk
    have hcl := hc.len
    have c := c214 hcl (y := x)
    unfold Sm at hl hcl
    have hb : (out.length + 1) * 16 ≤ 140737488355328 := by omega
    have hh : headSz 1 (out.map PV.str) = true := by cases out <;> simp
    have ih := L195b (t := t) (by unfold Sm; exact hl) hs (i := i) n (k + 1) (by omega) (by omega) _ (hc.put (hs x (memO hx)))
    rw [g195L1_eq] at ih ⊢
    rw [dropC hx]
    by_cases e : x ∈ out
    · rw [decide_eq_true e] at c
      simp [addNm, e] at ih
      simp (disch := omega) [-getElem?_pos, g195B1, hx, hk, c, addNm, e, wrap_id]
      rw [g195L1_eq]
      simp [ih]
    · rw [decide_eq_false e] at c
      simp [addNm, e] at ih
      simp (disch := omega) [-getElem?_pos, g195B1, hx, hk, c, addNm, e, wrap_id, hb, hh]
      rw [g195L1_eq]
      simp [ih]

theorem L195 {S : List Txt} (hf : S.length < 1099511627776) {t : Ty} (hS : Sm t.args) (h : ∀ x ∈ t.args, (orcL AP).p 195 [x.pv] = some [.lst ((namesT x).map .str)])
    (hk : ∀ y ∈ t.args.flatMap Ty.seqN, y ∈ S) : ∀ (n i : Nat), t.args.length - i = n → i ≤ t.args.length → ∀ out, CollN S out →
    cl AP g195L0 ⟨[(3, .own (out.map .str) 0), (17, .pv (.lst (t.args.map Ty.pv))), (18, .pv (vI t.args.length)), (19, .pv (vI i))], [], [], [out.length]⟩ =
      some (.exit 0, ⟨[(3, .own ((((t.args.drop i).flatMap Ty.seqN).foldl addNm out).map .str) 0), (17, .pv (.lst (t.args.map Ty.pv))), (18, .pv (vI t.args.length)), (19, .pv (vI t.args.length)), (20, .pv (.bool false))], [], [], [(((t.args.drop i).flatMap Ty.seqN).foldl addNm out).length]⟩)
  | 0, i, hn, hi, out, hc => by
    have : i = t.args.length := by omega
    subst this
    rw [g195L0_eq]
    simp [g195B0]
  | n + 1, i, hn, hi, out, hc => by
    have hi : i < t.args.length := by omega
    obtain ⟨x, hx⟩ := getO hi
    unfold Sm at hS
    have hkx : ∀ y ∈ x.seqN, y ∈ S := fun y hy => hk y (by simp only [List.mem_flatMap]; exact ⟨x, memO hx, hy⟩)
    have k := h x (memO hx)
    have hcx : CollN S (namesT x) := CollN.fold (⟨by simp, by simp, hf⟩ : CollN S []) hkx
    have k2 := L195b (t := t) hcx.len hcx.sub (i := i) _ 0 rfl (by omega) out hc
    have ef : (namesT x).foldl addNm out = x.seqN.foldl addNm out := foldN_fold _ _ _
    rw [List.drop_zero, ef] at k2
    have ih := L195 hf (t := t) (by unfold Sm; exact hS) h hk n (i + 1) (by omega) (by omega) _ (hc.fold hkx)
    rw [g195L0_eq] at ih ⊢
    rw [g195L1_eq] at k2
    rw [dropC hx]
    simp at k k2 ih
    simp (disch := omega) [-getElem?_pos, g195B0, hx, hi, k, wrap_id]
    rw [g195L1_eq]
    simp (disch := omega) [k2, wrap_id]
    rw [g195L0_eq]
    simp [ih]

theorem c195 {S : List Txt} (hf : S.length < 1099511627776) {t : Ty} (hO : t.Ok) (hC : t.Cw) (hk : ∀ y ∈ t.seqN, y ∈ S) : (orcL AP).p 195 [t.pv] = some [.lst ((namesT t).map .str)] := by
  revert hO hC hk
  refine Ty.rec1 (p := fun t => t.Ok → t.Cw → (∀ y ∈ t.seqN, y ∈ S) → (orcL AP).p 195 [t.pv] = some [.lst ((namesT t).map .str)]) ?_ t
  intro t ih hO hC hk
  rw [Ty.seqN_eq] at hk
  have hka : ∀ y ∈ t.args.flatMap Ty.seqN, y ∈ S := fun y hy => hk y (List.mem_append_right _ hy)
  have h := L195 hf hO.sm (fun x hx => ih x hx (hO.kid x hx) (hC.kid x hx) (fun y hy => hka y (by simp only [List.mem_flatMap]; exact ⟨x, hx, hy⟩))) hka _ 0 rfl (by omega) [] ⟨by simp, by simp, hf⟩
  rw [callP_body (af := g195) rfl rfl (by decide)]
  unfold namesT
  rw [Ty.seqN_eq]
  rw [g195L0_eq] at h
  simp at h
  by_cases e1 : t.kind = 5
  · have ea := hC.bare (by rw [e1]; decide)
    simp [g195, e1, ea, addNm]
  · simp [g195, e1, g195L0_eq, h]
end Go.Ab.Lw
namespace Go.Ab.Lw
/-- An arm over bodies. -/
structure ArmOf (E : Type) where
  pos : Int
  con : List UInt8
  vars : List (List UInt8)
  body : E

/-- An expression. -/
structure Ex where
  kind : Int
  pos : Int
  name : List UInt8
  num : Int
  kids : List Ex
  arms : List (ArmOf Ex)
  ty : Ty

abbrev Ar := ArmOf Ex

def tyZ : Ty := ⟨0, [], 0, 0, []⟩
instance : Inhabited Ex := ⟨⟨0, 0, [], 0, [], [], tyZ⟩⟩
instance : Inhabited Ar := ⟨⟨0, [], [], default⟩⟩

/-- The cells of a type. -/
def Ty.cells (t : Ty) : List PV := [.int .i64 t.kind, .str t.name, .int .i64 t.id, .int .i64 t.home, .lst (t.args.map Ty.pv)]

mutual
def Ex.cells : Ex → List PV
  | ⟨k, p, n, m, ks, as, t⟩ => .int .i64 k :: .int .i64 p :: .str n :: .int .i64 m :: .lst (Ex.pvs ks) :: .lst (Ex.avs as) :: t.cells
def Ex.pvs : List Ex → List PV
  | [] => []
  | e :: r => .agg (Ex.cells e) :: Ex.pvs r
def Ex.avs : List (ArmOf Ex) → List PV
  | [] => []
  | ⟨p, c, v, b⟩ :: r => .agg (.int .i64 p :: .str c :: .lst (v.map .str) :: Ex.cells b) :: Ex.avs r
end

def Ex.pv (e : Ex) : PV := .agg e.cells
def Ar.pv (a : Ar) : PV := .agg (.int .i64 a.pos :: .str a.con :: .lst (a.vars.map .str) :: a.body.cells)

theorem Ex.pvs_map : ∀ l : List Ex, Ex.pvs l = l.map Ex.pv
  | [] => by simp [Ex.pvs]
  | e :: r => by simp [Ex.pvs, Ex.pvs_map r, Ex.pv]
theorem Ex.avs_map : ∀ l : List Ar, Ex.avs l = l.map Ar.pv
  | [] => by simp [Ex.avs]
  | ⟨p, c, v, b⟩ :: r => by simp [Ex.avs, Ex.avs_map r, Ar.pv]
theorem Ex.cells_eq (e : Ex) : e.cells = [.int .i64 e.kind, .int .i64 e.pos, .str e.name, .int .i64 e.num, .lst (e.kids.map Ex.pv), .lst (e.arms.map Ar.pv), .int .i64 e.ty.kind, .str e.ty.name, .int .i64 e.ty.id, .int .i64 e.ty.home, .lst (e.ty.args.map Ty.pv)] := by
  cases e; simp only [Ex.cells, Ex.pvs_map, Ex.avs_map, Ty.cells]
@[simp] theorem Ex.pv_eq (e : Ex) : e.pv = .agg [.int .i64 e.kind, .int .i64 e.pos, .str e.name, .int .i64 e.num, .lst (e.kids.map Ex.pv), .lst (e.arms.map Ar.pv), .int .i64 e.ty.kind, .str e.ty.name, .int .i64 e.ty.id, .int .i64 e.ty.home, .lst (e.ty.args.map Ty.pv)] := by
  rw [Ex.pv, Ex.cells_eq]
@[simp] theorem Ar.pv_eq (a : Ar) : a.pv = .agg [.int .i64 a.pos, .str a.con, .lst (a.vars.map .str), .int .i64 a.body.kind, .int .i64 a.body.pos, .str a.body.name, .int .i64 a.body.num, .lst (a.body.kids.map Ex.pv), .lst (a.body.arms.map Ar.pv), .int .i64 a.body.ty.kind, .str a.body.ty.name, .int .i64 a.body.ty.id, .int .i64 a.body.ty.home, .lst (a.body.ty.args.map Ty.pv)] := by
  rw [Ar.pv, Ex.cells_eq]

/-- What a struct of an expression looks like out of pure cells. -/
def Ex.av (e : Ex) : AV := .agg [.pv (vI e.kind), .pv (vI e.pos), .pv (.str e.name), .pv (vI e.num), .pv (.lst (e.kids.map Ex.pv)), .pv (.lst (e.arms.map Ar.pv)), .pv (vI e.ty.kind), .pv (.str e.ty.name), .pv (vI e.ty.id), .pv (vI e.ty.home), .pv (.lst (e.ty.args.map Ty.pv))]

theorem el_ex : El Ex.pv 11 true := ⟨fun x => by simp, fun x => by simp⟩
theorem el_arm : El Ar.pv 14 true := ⟨fun x => by simp, fun x => by simp⟩
@[simp] theorem headSz_Ex {l : List Ex} : headSz 11 (l.map Ex.pv) = true := el_ex.head l
@[simp] theorem headSz_Ar {l : List Ar} : headSz 14 (l.map Ar.pv) = true := el_arm.head l

@[simp] theorem headSz_Str {l : List (List UInt8)} : headSz 1 (l.map PV.str) = true := el_str.head l
@[simp] theorem headSz_vI {l : List Int} : headSz 1 (l.map vI) = true := el_int.head l

@[simp] theorem Ex.eta (e : Ex) : Ex.mk e.kind e.pos e.name e.num e.kids e.arms e.ty = e := by cases e; rfl

theorem ArmOf.size_body (a : Ar) : SizeOf.sizeOf a.body < SizeOf.sizeOf a := by cases a; simp; omega

/-- A property of all expressions that are parts. -/
theorem Ex.rec1 {p : Ex → Prop} (h : ∀ e : Ex, (∀ x ∈ e.kids, p x) → (∀ a ∈ e.arms, p a.body) → p e) : ∀ e, p e
  | ⟨k, ps, n, m, ks, as, t⟩ => h _ (fun x _hx => Ex.rec1 h x) (fun a _ha => Ex.rec1 h a.body)
termination_by e => SizeOf.sizeOf e
decreasing_by
  · have := _root_.List.sizeOf_lt_of_mem _hx; simp at *; omega
  · have := _root_.List.sizeOf_lt_of_mem _ha; have := ArmOf.size_body a; simp at *; omega

end Go.Ab.Lw
namespace Go.Ab.Lw
open Ev
set_option maxRecDepth 10000
set_option linter.unusedSimpArgs false
abbrev names8 : List (List UInt8) := varNames

/-- A raw expression of a depth, over data types. -/
inductive RawE (ds : List Dt) : Nat → Ex → Prop
  | var {n : Nat} {s : List UInt8} : s ∈ names8 → RawE ds n ⟨1, 0, s, 0, [], [], tyZ⟩
  | int {n : Nat} {m : Int} : 0 ≤ m → m < 4 → RawE ds n ⟨3, 0, [], m, [], [], tyZ⟩
  | con {n : Nat} {d : Dt} {c : Con} : d ∈ ds → c ∈ d.cons → RawE ds n ⟨2, 0, c.name, 0, [], [], tyZ⟩
  | gone {n : Nat} : RawE ds n ⟨2, 0, [71, 111, 110, 101], 0, [], [], tyZ⟩
  | hole {n : Nat} : RawE ds n ⟨10, 0, [], 0, [], [], tyZ⟩
  | lam {n : Nat} {s : List UInt8} {a : Ex} : s ∈ names8 → RawE ds n a → RawE ds (n + 1) ⟨4, 0, s, 0, [a], [], tyZ⟩
  | app {n : Nat} {a b : Ex} : RawE ds n a → RawE ds n b → RawE ds (n + 1) ⟨5, 0, [], 0, [a, b], [], tyZ⟩
  | let_ {n : Nat} {k : Int} {s : List UInt8} {a b : Ex} : k = 6 ∨ k = 7 → s ∈ names8 → RawE ds n a → RawE ds n b → RawE ds (n + 1) ⟨k, 0, s, 0, [a, b], [], tyZ⟩
  | ann {n : Nat} {a : Ex} {t : Ty} : RawE ds n a → MadeG (· ∈ ds) [] 2 t → RawE ds (n + 1) ⟨9, 0, [], 0, [a], [], t⟩
  | held {n : Nat} {a : Ex} : RawE ds n a → RawE ds (n + 1) ⟨11, 0, [], 0, [a], [], tyZ⟩
  | up {n : Nat} {a : Ex} : RawE ds n a → RawE ds (n + 1) a
  | case_ {n : Nat} {d : Dt} {a : Ex} {as : List Ar} : d ∈ ds → RawE ds n a → as.length = d.cons.length → (∀ x ∈ as, RawE ds n x.body) → (∀ x ∈ as, x.pos = 0 ∧ ∀ v ∈ x.vars, v ∈ names8) →
      (∀ (i : Nat) (c : Con) (x : Ar), d.cons[i]? = some c → as[i]? = some x → x.con = c.name ∧ x.vars.length = c.fields.length) → RawE ds (n + 1) ⟨8, 0, [], 0, [a], as, tyZ⟩

end Go.Ab.Lw
namespace Go.Ab.Lw
open Ev
set_option maxRecDepth 10000
set_option linter.unusedSimpArgs false
/-- Data types of moderate size. -/
def D8 (d : Dt) : Prop := d.params.length ≤ 8 ∧ 0 < d.cons.length ∧ d.cons.length ≤ 8 ∧ ∀ c ∈ d.cons, c.fields.length ≤ 8
theorem all_D8 : ∀ d ∈ allDatas, D8 d := by
  intro d hd
  simp [allDatas] at hd
  rcases hd with rfl | rfl | rfl | rfl | rfl | rfl | rfl <;> simp [D8]

def lsF (f : Bool) (l : List PV) : AV := if f then .clp l else .pv (.lst l)
end Go.Ab.Lw
namespace Go.Ab.Lw
open Ev
set_option maxRecDepth 10000
set_option linter.unusedSimpArgs false
mutual
def Ty.wri (l : List Txt) (h : Int) : Ty → Ty
  | ⟨k, n, i, hm, as⟩ => if k = 5 ∧ 0 ≤ posS l n then tyRigid h (posS l n) else ⟨k, n, i, hm, Ty.wris l h as⟩
def Ty.wris (l : List Txt) (h : Int) : List Ty → List Ty
  | [] => []
  | a :: r => a.wri l h :: Ty.wris l h r
end
theorem Ty.wris_map (l : List Txt) (h : Int) : ∀ as : List Ty, Ty.wris l h as = as.map (Ty.wri l h)
  | [] => by simp [Ty.wris]
  | a :: r => by simp [Ty.wris, Ty.wris_map l h r]
theorem Ty.wri_eq (l : List Txt) (h : Int) (t : Ty) : t.wri l h = if t.kind = 5 ∧ 0 ≤ posS l t.name then tyRigid h (posS l t.name) else ⟨t.kind, t.name, t.id, t.home, t.args.map (Ty.wri l h)⟩ := by
  cases t; simp only [Ty.wri, Ty.wris_map]

/-- A type as it goes out. -/
def tyF (b : Bool) (t : Ty) : AV := .agg [.pv (vI t.kind), .pv (.str t.name), .pv (vI t.id), .pv (vI t.home), lsF b (t.args.map Ty.pv)]

theorem c479 {S : Sh} (hq : Quiet S) {h : Int} (h0 : S[0]? = some (some [.pv (vI h)])) (i : Int) : (orcL AP).i 479 [.pv (vI i), .sptr 0 0] S [] = some ([tyF true (tyRigid h i)], S, []) := by
  have hlt := (List.getElem?_eq_some_iff.1 h0).1
  rw [callI_body (af := g479) rfl (by simp [g479])]
  simp [-getElem?_pos, g479, h0, hq.norm, tyF, lsF, tyRigid]

theorem L478 {l : List Txt} {h : Int} {t : Ty} {S : Sh} (hq : Quiet S) (hS : Sm t.args) (hc : ∀ x ∈ t.args, ∀ S : Sh, Quiet S → S[0]? = some (some [.pv (vI h)]) → ∃ b : Bool, (orcL AP).i 478 [.pv x.pv, .pv (.lst (l.map .str)), .fn 479 [.sptr 0 0]] S [] = some ([tyF b (x.wri l h)], S, []))
    (h0 : S[0]? = some (some [.pv (vI h)])) : ∀ (n i : Nat), t.args.length - i = n → i ≤ t.args.length → ∀ d : List Ty, d = (t.args.take i).map (Ty.wri l h) →
    cl AP g478L0 ⟨[(1, .pv (.lst (l.map .str))), (2, .fn 479 [.sptr 0 0]), (3, .lptr 3 0), (6, .lptr 6 0), (8, .sarr S.length 5 t.args.length true), (30, .pv (.lst (t.args.map Ty.pv))), (31, .pv (vI t.args.length)), (32, .pv (vI i))],
      [(3, t.cl), (6, [.pv (vI 0), .pv (.str []), .pv (vI 0), .pv (vI 0), .own [] 0])], S ++ [some (arrC d n)], [0]⟩ =
    some (.exit 0, ⟨[(1, .pv (.lst (l.map .str))), (2, .fn 479 [.sptr 0 0]), (3, .lptr 3 0), (6, .lptr 6 0), (8, .sarr S.length 5 t.args.length true), (30, .pv (.lst (t.args.map Ty.pv))), (31, .pv (vI t.args.length)), (32, .pv (vI t.args.length)), (33, .pv (.bool false))],
      [(3, t.cl), (6, [.pv (vI 0), .pv (.str []), .pv (vI 0), .pv (vI 0), .own [] 0])], S ++ [some (arrC (t.args.map (Ty.wri l h)) 0)], [0]⟩)
  | 0, i, hn, hi, d, hd => by
    have : i = t.args.length := by omega
    subst this
    have hd' : d = t.args.map (Ty.wri l h) := by simpa using hd
    subst hd'
    have hQ := (hq.app (Quiet.one (arrC_pv (d := t.args.map (Ty.wri l h)) (m := 0)))).norm
    generalize S ++ [some (arrC (t.args.map (Ty.wri l h)) 0)] = S1 at *
    rw [g478L0_eq]
    simp [g478B0, hQ, Ty.cl]
  | n + 1, i, hn, hi, d, hd => by
    have hi : i < t.args.length := by omega
    obtain ⟨x, hx⟩ := getO hi
    have hdl : d.length = i := by rw [hd]; simp; omega
    have hlt := (List.getElem?_eq_some_iff.1 h0).1
    have hQ := hq.app (Quiet.one (arrC_pv (d := d) (m := n + 1)))
    obtain ⟨b, c⟩ := hc x (memO hx) (S ++ [some (arrC d (n + 1))]) hQ (by rw [List.getElem?_append_left hlt]; exact h0)
    have ih := L478 hq hS hc h0 n (i + 1) (by omega) (by omega) (d ++ [x.wri l h]) (by rw [List.take_add_one, hx, hd]; simp)
    unfold Sm at hS
    have hset : setRange (arrC d (n + 1)) (i * 5) (x.wri l h).cl = arrC (d ++ [x.wri l h]) n := by rw [← hdl]; exact arrC_set
    have hlen : i * 5 + 5 ≤ (arrC d (n + 1)).length := by rw [arrC_len]; omega
    have hmb : mapB (arrC d (n + 1)) = false := arrC_mapB
    have hQ2 := (hq.app (Quiet.one (arrC_pv (d := d ++ [x.wri l h]) (m := n)))).norm
    have hget : (S ++ [some (arrC d (n + 1))])[S.length]? = some (some (arrC d (n + 1))) := by simp
    have hst : ∀ T, (S ++ [some (arrC d (n + 1))]).set S.length (some T) = S ++ [some T] := fun T => by simp
    have hst := hst (arrC (d ++ [x.wri l h]) n)
    have hn1 := hQ.norm
    have hs1 := hQ.shift
    clear hc
    generalize arrC (d ++ [x.wri l h]) n = A1 at *
    generalize arrC d (n + 1) = A0 at *
    generalize S ++ [some A0] = S0 at *
    generalize S ++ [some A1] = S1 at *
    simp at c
    rw [g478L0_eq] at ih ⊢
    simp [hQ2, Ty.cl] at ih hset
    cases b <;> simp [tyF, lsF] at c <;> simp (disch := omega) [-getElem?_pos, g478B0, hx, hi, hn1, hs1, Ty.cl, c, hget, hmb, hlen, hset, hst, wrap_id] <;> rw [g478L0_eq] <;> simp [ih, hQ2]

theorem c478 {l : List Txt} (hl : Sm l) {h : Int} {t : Ty} (hO : t.Ok) : ∀ S : Sh, Quiet S → S[0]? = some (some [.pv (vI h)]) → ∃ b : Bool, (orcL AP).i 478 [.pv t.pv, .pv (.lst (l.map .str)), .fn 479 [.sptr 0 0]] S [] = some ([tyF b (t.wri l h)], S, []) := by
  revert hO
  refine Ty.rec1 (p := fun t => t.Ok → ∀ S : Sh, Quiet S → S[0]? = some (some [.pv (vI h)]) → ∃ b : Bool, (orcL AP).i 478 [.pv t.pv, .pv (.lst (l.map .str)), .fn 479 [.sptr 0 0]] S [] = some ([tyF b (t.wri l h)], S, [])) ?_ t
  intro t ih hO S hq h0
  have k1 := c223 hl (y := t.name)
  have hn0 := hq.norm
  have hs0 := hq.shift
  have htk : S.take S.length = S := List.take_length
  rw [Ty.wri_eq]
  by_cases e1 : t.kind = 5 ∧ 0 ≤ posS l t.name
  · refine ⟨true, ?_⟩
    have k2 := c479 hq h0 (posS l t.name)
    simp [tyF, lsF, tyRigid] at k2
    rw [callI_body (af := g478) rfl (by simp [g478])]
    simp [g478, k1, e1.1, e1.2, k2, tyF, lsF, tyRigid, hn0, hs0, htk]
  · refine ⟨false, ?_⟩
    have hS := hO.sm
    have hh := L478 hq hO.sm (fun x hx => ih x hx (hO.kid x hx)) h0 t.args.length 0 (by omega) (by omega) [] (by simp)
    have hz : arrC [] t.args.length = (List.replicate t.args.length [.pv (vI 0), .pv (.str []), .pv (vI 0), .pv (vI 0), .pv (.lst [])]).flatten := by simp [arrC, zcl]
    have hQ := (hq.app (Quiet.one (arrC_pv (d := []) (m := t.args.length)))).norm
    rw [g478L0_eq] at hh
    unfold Sm at hS
    have b1 : (t.args.length : Int) ≤ 9223372036854775807 := by omega
    have b2 : (t.args.length : Int) * 64 ≤ 140737488355328 := by omega
    rw [hz] at hh hQ
    have hQ2 := (hq.app (Quiet.one (arrC_pv (d := t.args.map (Ty.wri l h)) (m := 0)))).norm
    have hfr := arrC_frz (d := t.args.map (Ty.wri l h))
    have hle := arrC_len (d := t.args.map (Ty.wri l h)) (m := 0)
    have hget : (S ++ [some (arrC (t.args.map (Ty.wri l h)) 0)])[S.length]? = some (some (arrC (t.args.map (Ty.wri l h)) 0)) := by simp
    have hst : (S ++ [some (arrC (t.args.map (Ty.wri l h)) 0)]).set S.length none = S ++ [none] := by simp
    have hln : (S ++ [some (arrC (t.args.map (Ty.wri l h)) 0)]).length = S.length + 1 := by simp
    have htk2 : (S ++ [none]).take S.length = S := by simp
    generalize S ++ [some (arrC (t.args.map (Ty.wri l h)) 0)] = S2 at *
    generalize arrC (t.args.map (Ty.wri l h)) 0 = A2 at *
    simp [hQ, Ty.cl] at hh
    simp at hfr hle
    rw [callI_body (af := g478) rfl (by simp [g478])]
    by_cases e2 : t.kind = 5
    · have e3 : ¬ 0 ≤ posS l t.name := fun e => e1 ⟨e2, e⟩
      simp [e2] at hh
      simp (disch := omega) [-getElem?_pos, g478, k1, e2, e3, b1, b2, g478L0_eq, hQ, hh, hfr, hle, tyF, lsF, hn0, hget, hst, htk2]
    · simp (disch := omega) [-getElem?_pos, g478, k1, e2, b1, b2, g478L0_eq, hQ, hh, hfr, hle, tyF, lsF, hn0, hget, hst, htk2]
end Go.Ab.Lw
namespace Go.Ab.Lw
open Ev
set_option maxRecDepth 10000
set_option linter.unusedSimpArgs false
def listD : Dt := ⟨0, [76, 105, 115, 116], [[97]], [⟨14, [78, 105, 108], []⟩, ⟨20, [67, 111, 110, 115], [⟨5, [97], 0, 0, []⟩, ⟨4, [76, 105, 115, 116], 0, 0, [⟨5, [97], 0, 0, []⟩]⟩]⟩]⟩
def dT : Dt := ⟨0, [84], [[97]], []⟩
def dV : Dt := ⟨0, [86], [], []⟩
def ds9 : List Dt := [listD, dT, dV]
theorem namedL_bare : ∀ t, t ∈ namedL → t.args = [] := by
  intro t ht
  simp [namedL, tyNamed] at ht
  rcases ht with rfl | rfl | rfl <;> rfl

/-- A made type of chapter 9. -/
abbrev Md9 (t : Ty) : Prop := MadeG (· ∈ ds9) namedL 2 t
def dcC (pos : Int) (name : Txt) (ps : List Txt) (cs : List Con) : List AV := [.pv (vI pos), .pv (.str name), .own (ps.map .str) 1, .own (cs.map Con.pv) 2]
@[simp] theorem dcC_eq (pos : Int) (name : Txt) (ps : List Txt) (cs : List Con) : dcC pos name ps cs = [.pv (vI pos), .pv (.str name), .own (ps.map .str) 1, .own (cs.map Con.pv) 2] := rfl

end Go.Ab.Lw
namespace Go.Ab.Lw
open Ev
set_option maxRecDepth 10000
set_option linter.unusedSimpArgs false
@[simp] theorem headSz_Con {l : List Con} : headSz 3 (l.map Con.pv) = true := by cases l <;> simp

theorem ds9_small : ∀ d : Dt, d ∈ ds9 → d.params.length ≤ 8 := by decide +kernel
theorem Md9.ok {t : Ty} (m : Md9 t) : t.Ok := MadeG.ok (D := (· ∈ ds9)) ds9_small namedL_bare m
theorem Md9.cw {t : Ty} (m : Md9 t) : t.Cw := MadeG.cw namedL_bare m
structure Small (ds : List Dt) : Prop where
  num : Sm ds
  par : ∀ d ∈ ds, Sm d.params
  con : ∀ d ∈ ds, Sm d.cons
  tot : Sm (ds.flatMap Dt.cons)
  fld : ∀ d ∈ ds, ∀ c ∈ d.cons, Sm c.fields ∧ (∀ x ∈ c.fields, x.Ok) ∧ ∀ x ∈ c.fields, x.Cw
theorem flat_le {l : List Dt} {b : Nat} (h : ∀ d ∈ l, d.cons.length ≤ b) : (l.flatMap Dt.cons).length ≤ l.length * b := by
  induction l with
  | nil => simp
  | cons a r ih =>
    have h1 := h a (by simp)
    have h2 := ih (fun x hx => h x (by simp [hx]))
    simp only [List.flatMap_cons, List.length_append, List.length_cons, Nat.add_mul]
    omega
theorem Small.of {ds : List Dt} (hl : ds.length ≤ 100) (h : ∀ d ∈ ds, d.params.length ≤ 100 ∧ d.cons.length ≤ 100 ∧ ∀ c ∈ d.cons, c.fields.length ≤ 100 ∧ (∀ x ∈ c.fields, x.Ok) ∧ ∀ x ∈ c.fields, x.Cw) : Small ds := by
  refine ⟨by unfold Sm; omega, fun d hd => by have := (h d hd).1; unfold Sm; omega, fun d hd => by have := (h d hd).2.1; unfold Sm; omega, ?_, ?_⟩
  · have := flat_le (l := ds) (b := 100) (fun d hd => (h d hd).2.1)
    unfold Sm; omega
  · intro d hd c hc
    obtain ⟨h1, h2, h3⟩ := (h d hd).2.2 c hc
    exact ⟨by unfold Sm; omega, h2, h3⟩
end Go.Ab.Lw
namespace Go.Ab.Lw
open Ev
set_option maxRecDepth 10000
set_option linter.unusedSimpArgs false
def dtC (d : Dt) : List AV := [.pv (vI d.pos), .pv (.str d.name), .pv (.lst (d.params.map .str)), .pv (.lst (d.cons.map Con.pv))]
@[simp] theorem dtC_eq (d : Dt) : dtC d = [.pv (vI d.pos), .pv (.str d.name), .pv (.lst (d.params.map .str)), .pv (.lst (d.cons.map Con.pv))] := rfl
end Go.Ab.Lw
namespace Go.Ab.Lw
open Ev
set_option maxRecDepth 10000
set_option linter.unusedSimpArgs false
def mps (a b : List (PV × PV)) : Sh := [some [.mapc a], some [.mapc b]]
@[simp] theorem mps_eq (a b : List (PV × PV)) : mps a b = [some [.mapc a], some [.mapc b]] := rfl
def conC (c : Con) : List AV := [.pv (vI c.pos), .pv (.str c.name), .pv (.lst (c.fields.map Ty.pv))]
@[simp] theorem conC_eq (c : Con) : conC c = [.pv (vI c.pos), .pv (.str c.name), .pv (.lst (c.fields.map Ty.pv))] := rfl

end Go.Ab.Lw
namespace Go.Ab.Lw
open Ev
set_option maxRecDepth 10000
set_option linter.unusedSimpArgs false
theorem Small.app {a b : List Dt} (ha : Small a) (hb : Small b) (h : a.length + b.length ≤ 100) (ht : (a.flatMap Dt.cons).length + (b.flatMap Dt.cons).length < 1099511627776) : Small (a ++ b) := by
  refine ⟨by unfold Sm; simp; omega, ?_, ?_, by unfold Sm; rw [List.flatMap_append, List.length_append]; exact ht, ?_⟩
  · intro d hd; rcases List.mem_append.1 hd with h | h
    · exact ha.par d h
    · exact hb.par d h
  · intro d hd; rcases List.mem_append.1 hd with h | h
    · exact ha.con d h
    · exact hb.con d h
  · intro d hd; rcases List.mem_append.1 hd with h | h
    · exact ha.fld d h
    · exact hb.fld d h
end Go.Ab.Lw
namespace Go.Ab.Lw
open Ev
set_option maxRecDepth 10000
set_option linter.unusedSimpArgs false
theorem bnm_ok {l : List Txt} {t : Ty} (h : t.Ok) : (t.bnm l).Ok := by
  revert h
  refine Ty.rec1 (p := fun t => t.Ok → (t.bnm l).Ok) ?_ t
  intro t ih h
  rw [Ty.bnm_eq]
  split
  · exact bare_ok rfl
  · refine ⟨by have := h.sm; unfold Sm at this ⊢; simpa using this, ?_⟩
    intro x hx
    simp only [List.mem_map] at hx
    obtain ⟨y, hy, rfl⟩ := hx
    exact ih y hy (h.kid y hy)
end Go.Ab.Lw
namespace Go.Ab.Lw
open Ev
set_option maxRecDepth 10000
set_option linter.unusedSimpArgs false
theorem idxB_lt {α : Type} {p : α → Bool} : ∀ {l : List α} {k : Nat}, idxB p l = some k → k < l.length
  | [], k, h => by simp [idxB] at h
  | a :: r, k, h => by
    simp only [idxB] at h
    split at h
    · cases h; simp
    · simp only [Option.map_eq_some_iff] at h
      obtain ⟨j, hj, rfl⟩ := h
      have := idxB_lt hj
      simp; omega
theorem posS_lt {s : List Txt} {y : Txt} : posS s y < s.length ∨ posS s y < 0 := by
  unfold posS
  cases e : idxB (fun x => decide (x = y)) s with
  | none => right; simp [idxI]
  | some k => left; have := idxB_lt e; simp [idxI]; exact this
theorem bound_valid {i : Int} (h0 : 0 ≤ i) (h1 : i ≤ 1000000) : validT (tyBound i) = true ∧ (tyBound i).Nm := by
  refine ⟨by rw [validT_eq]; simp [tyBound, h0, h1], ⟨by simp [tyBound, SmS], by simp [tyBound]⟩⟩
end Go.Ab.Lw
namespace Go.Ab.Lw
open Ev
set_option maxRecDepth 10000
set_option linter.unusedSimpArgs false
theorem MadeG.seqN {D : Dt → Prop} {lv : List Ty} (h : ∀ t ∈ lv, t.args = []) {n : Nat} {t : Ty} (m : MadeG D lv n t) : ∀ y ∈ t.seqN, y ∈ lv.map Ty.name := by
  induction m with
  | @leaf n t hl =>
    intro y hy
    rw [Ty.seqN_eq, h _ hl] at hy
    split at hy
    · simp at hy; subst hy; exact List.mem_map_of_mem hl
    · simp at hy
  | int =>
    intro y hy
    rw [Ty.seqN_eq] at hy
    simp [tyInt] at hy
  | con hd hl _ ih =>
    intro y hy
    rw [Ty.seqN_eq] at hy
    simp at hy
    obtain ⟨x, hx, hy⟩ := hy
    simpa using ih x hx y hy
  | arrow _ _ ha hb =>
    intro y hy
    rw [Ty.seqN_eq] at hy
    simp at hy
    rcases hy with hy | hy
    · exact ha y hy
    · exact hb y hy

end Go.Ab.Lw
namespace Go.Ab.Lw
open Ev
set_option maxRecDepth 10000
set_option linter.unusedSimpArgs false
/-- One more number. -/
def addU (out : List Int) (x : Int) : List Int := if x ∈ out then out else out ++ [x]
theorem Coll.putU {S out : List Int} (h : Coll S out) {x : Int} (hx : x ∈ S) : Coll S (addU out x) := by
  unfold addU
  split
  · exact h
  · rename_i e
    refine ⟨?_, ?_, h.few⟩
    · rw [List.nodup_append]
      refine ⟨h.nodup, by simp, ?_⟩
      intro a ha b hb
      simp at hb
      subst hb
      intro e'; subst e'; exact e ha
    · intro y hy
      simp at hy
      rcases hy with hy | rfl
      · exact h.sub y hy
      · exact hx
theorem Coll.foldU {S : List Int} : ∀ {l : List Int} {out : List Int}, Coll S out → (∀ x ∈ l, x ∈ S) → Coll S (l.foldl addU out)
  | [], _, h, _ => h
  | x :: r, out, h, hx => by
    simp only [List.foldl_cons]
    exact Coll.foldU (h.putU (hx x (by simp))) (fun y hy => hx y (by simp [hy]))

/-- The numbers of the nodes of kind 2. -/
def bnd (x : Ty) : List Int := if x.kind = 2 then [x.id] else []
def seqB (t : Ty) : List Int := t.nodes.flatMap bnd
theorem seqB_eq (t : Ty) : seqB t = bnd t ++ t.args.flatMap seqB := by
  unfold seqB
  rw [Ty.nodes_eq, List.flatMap_cons, List.flatMap_assoc]

/-! ### The reference's -/
theorem L442 {S : List Int} {t : Ty} (hS : Sm t.args) (h : ∀ x ∈ t.args, ∀ out, Coll S out → (orcL AP).i 442 [.own (out.map vI) 0, .pv x.pv] [] [out.length] = some ([.own (((seqB x).foldl addU out).map vI) 0], [], [((seqB x).foldl addU out).length]))
    (hk : ∀ y ∈ t.args.flatMap seqB, y ∈ S) : ∀ (n i : Nat), t.args.length - i = n → i ≤ t.args.length → ∀ out, Coll S out →
    cl AP g442L0 ⟨[(0, .own (out.map vI) 0), (3, .lptr 3 0), (5, .pv (vI i))], [(3, [.pv (vI t.kind), .pv (.str t.name), .pv (vI t.id), .pv (vI t.home), .pv (.lst (t.args.map Ty.pv))])], [], [out.length]⟩ =
      some (.exit 0, ⟨[(0, .own ((((t.args.drop i).flatMap seqB).foldl addU out).map vI) 0), (3, .lptr 3 0), (5, .pv (vI t.args.length)), (25, .pv (.bool false))], [(3, [.pv (vI t.kind), .pv (.str t.name), .pv (vI t.id), .pv (vI t.home), .pv (.lst (t.args.map Ty.pv))])], [], [(((t.args.drop i).flatMap seqB).foldl addU out).length]⟩)
  | 0, i, hn, hi, out, hc => by
    have : i = t.args.length := by omega
    subst this
    rw [g442L0_eq]
    simp [g442B0]
  | n + 1, i, hn, hi, out, hc => by
    have hi : i < t.args.length := by omega
    obtain ⟨x, hx⟩ := getO hi
    unfold Sm at hS
    have hkx : ∀ y ∈ seqB x, y ∈ S := fun y hy => hk y (by simp only [List.mem_flatMap]; exact ⟨x, memO hx, hy⟩)
    have k := h x (memO hx) out hc
    have ih := L442 hS h hk n (i + 1) (by omega) (by omega) _ (hc.foldU hkx)
    rw [g442L0_eq] at ih ⊢
    rw [dropC hx]
    simp at k ih
    simp (disch := omega) [-getElem?_pos, g442B0, hx, hi, k, wrap_id]
    rw [g442L0_eq]
    simp [ih]

theorem c442 {S : List Int} {t : Ty} (hO : t.Ok) (hk : ∀ y ∈ seqB t, y ∈ S) : ∀ out, Coll S out →
    (orcL AP).i 442 [.own (out.map vI) 0, .pv t.pv] [] [out.length] = some ([.own (((seqB t).foldl addU out).map vI) 0], [], [((seqB t).foldl addU out).length]) := by
  revert hO hk
  refine Ty.rec1 (p := fun t => t.Ok → (∀ y ∈ seqB t, y ∈ S) → ∀ out, Coll S out →
    (orcL AP).i 442 [.own (out.map vI) 0, .pv t.pv] [] [out.length] = some ([.own (((seqB t).foldl addU out).map vI) 0], [], [((seqB t).foldl addU out).length])) ?_ t
  intro t ih hO hk out hc
  rw [seqB_eq] at hk ⊢
  have hkb : ∀ y ∈ bnd t, y ∈ S := fun y hy => hk y (List.mem_append_left _ hy)
  have hka : ∀ y ∈ t.args.flatMap seqB, y ∈ S := fun y hy => hk y (List.mem_append_right _ hy)
  have h := L442 (S := S) hO.sm (fun x hx out hc => ih x hx (hO.kid x hx) (fun y hy => hka y (by simp only [List.mem_flatMap]; exact ⟨x, hx, hy⟩)) out hc) hka _ 0 rfl (by omega) _ (hc.foldU hkb)
  have hl := hc.len
  have k := c95 hl (y := t.id)
  unfold Sm at hl
  have hb : (out.length + 1) * 8 ≤ 140737488355328 := by omega
  have hh : headSz 1 (out.map vI) = true := el_int.head out
  rw [callI_body (af := g442) rfl (by simp [g442]), List.foldl_append]
  rw [g442L0_eq] at h
  by_cases e1 : t.kind = 2
  · by_cases e2 : t.id ∈ out
    · rw [decide_eq_true e2] at k
      simp [bnd, e1, addU, e2] at h
      simp [g442, e1, k, g442L0_eq, h, bnd, addU, e2]
    · rw [decide_eq_false e2] at k
      simp [bnd, e1, addU, e2] at h
      simp [g442, e1, k, g442L0_eq, h, bnd, addU, e2, hb, hh]
  · simp [bnd, e1] at h
    simp [g442, e1, g442L0_eq, h, bnd]
end Go.Ab.Lw
namespace Go.Ab.Lw
open Ev
set_option maxRecDepth 10000
set_option linter.unusedSimpArgs false
mutual
def Ty.hasK (k : Int) : Ty → Bool
  | ⟨q, _, _, _, as⟩ => decide (q = k) || Ty.hasKs k as
def Ty.hasKs (k : Int) : List Ty → Bool
  | [] => false
  | a :: r => a.hasK k || Ty.hasKs k r
end
theorem Ty.hasKs_any (k : Int) : ∀ l : List Ty, Ty.hasKs k l = l.any (Ty.hasK k)
  | [] => by simp [Ty.hasKs]
  | a :: r => by simp [Ty.hasKs, Ty.hasKs_any k r]
theorem Ty.hasK_eq (k : Int) (t : Ty) : t.hasK k = (decide (t.kind = k) || t.args.any (Ty.hasK k)) := by
  cases t; simp only [Ty.hasK, Ty.hasKs_any]

theorem L351 {t : Ty} {k : Int} (hS : Sm t.args) (h : ∀ x ∈ t.args, (orcL AP).p 351 [x.pv, vI k] = some [.bool (x.hasK k)]) : ∀ (n i : Nat), t.args.length - i = n → i ≤ t.args.length →
    cl AP g351L0 ⟨[(1, .pv (vI k)), (2, .lptr 2 0), (5, .pv (vI i))], [(2, [.pv (vI t.kind), .pv (.str t.name), .pv (vI t.id), .pv (vI t.home), .pv (.lst (t.args.map Ty.pv))])], [], []⟩ =
      if (t.args.drop i).any (Ty.hasK k) = true then some (.ret, ⟨[(4, .pv (.bool true))], [], [], []⟩)
      else some (.exit 0, ⟨[(1, .pv (vI k)), (2, .lptr 2 0), (5, .pv (vI t.args.length)), (14, .pv (.bool false))], [(2, [.pv (vI t.kind), .pv (.str t.name), .pv (vI t.id), .pv (vI t.home), .pv (.lst (t.args.map Ty.pv))])], [], []⟩)
  | 0, i, hn, hi => by
    have : i = t.args.length := by omega
    subst this
    rw [g351L0_eq]
    simp [g351B0]
  | n + 1, i, hn, hi => by
    have hi : i < t.args.length := by omega
    obtain ⟨x, hx⟩ := getO hi
    unfold Sm at hS
    have c := h x (memO hx)
    have ih := L351 hS h n (i + 1) (by omega) (by omega)
    rw [g351L0_eq] at ih ⊢
    rw [dropC hx, List.any_cons]
    cases e : x.hasK k with
    | true =>
      rw [e] at c
      simp at c
      simp (disch := omega) [-getElem?_pos, g351B0, hx, hi, c]
    | false =>
      rw [e] at c
      simp at c
      rw [Bool.false_or, ← ih]
      simp (disch := omega) [-getElem?_pos, g351B0, hx, hi, c, wrap_id]
      rw [g351L0_eq]
      simp [g351B0]
theorem c351 {t : Ty} {k : Int} (hO : t.Ok) : (orcL AP).p 351 [t.pv, vI k] = some [.bool (t.hasK k)] := by
  revert hO
  refine Ty.rec1 (p := fun t => t.Ok → (orcL AP).p 351 [t.pv, vI k] = some [.bool (t.hasK k)]) ?_ t
  intro t ih hO
  have h := L351 (k := k) hO.sm (fun x hx => ih x hx (hO.kid x hx)) _ 0 rfl (by omega)
  rw [callP_body (af := g351) rfl rfl (by decide), Ty.hasK_eq]
  rw [g351L0_eq] at h
  by_cases e : t.kind = k
  · simp [g351, e]
  · cases e' : t.args.any (Ty.hasK k) with
    | true => simp only [List.drop_zero, e'] at h; simp at h; simp [g351, e, g351L0_eq, h]
    | false => simp only [List.drop_zero, e'] at h; simp at h; simp [g351, e, g351L0_eq, h]

/-! ### In order -/
def rngB : Int → List Int → Bool
  | _, [] => true
  | i, x :: r => decide (x = i) && rngB (i + 1) r

theorem L436 {c : Sc} {l : List Int} (hS : Sm l) : ∀ (n i : Nat), l.length - i = n → i ≤ l.length →
    cl AP g436L0 ⟨[(1, .lptr 1 0), (3, .own (l.map vI) 0), (4, .pv (vI i))], [(1, [.pv (vI c.id), .pv (vI c.ty.kind), .pv (.str c.ty.name), .pv (vI c.ty.id), .pv (vI c.ty.home), .pv (.lst (c.ty.args.map Ty.pv))])], [], [l.length]⟩ =
      if rngB i (l.drop i) = true then some (.exit 0, ⟨[(1, .lptr 1 0), (3, .own (l.map vI) 0), (4, .pv (vI l.length)), (20, .pv (.bool false))], [(1, [.pv (vI c.id), .pv (vI c.ty.kind), .pv (.str c.ty.name), .pv (vI c.ty.id), .pv (vI c.ty.home), .pv (.lst (c.ty.args.map Ty.pv))])], [], [l.length]⟩)
      else some (.ret, ⟨[(2, .pv (.bool false))], [], [], [l.length]⟩)
  | 0, i, hn, hi => by
    have : i = l.length := by omega
    subst this
    rw [g436L0_eq]
    simp [g436B0, rngB]
  | n + 1, i, hn, hi => by
    have hi : i < l.length := by omega
    obtain ⟨x, hx⟩ := getO hi
    unfold Sm at hS
    have ih := L436 (c := c) hS n (i + 1) (by omega) (by omega)
    simp at ih
    rw [g436L0_eq, dropC hx]
    by_cases e : x = i
    · simp (disch := omega) [-getElem?_pos, g436B0, hx, hi, e, rngB, wrap_id, ih]
    · simp (disch := omega) [-getElem?_pos, g436B0, hx, hi, e, rngB]

/-- The quantified variables of a type in order. -/
def bndU (t : Ty) : List Int := (seqB t).foldl addU []
def validSc (c : Sc) : Bool := validT c.ty && !c.ty.hasK 5 && rngB 0 (bndU c.ty) && decide ((bndU c.ty).length = c.id)

theorem c436 {S : List Int} (hf : S.length < 1099511627776) {c : Sc} (hO : c.ty.Ok) (hN : c.ty.Nm) (hk : ∀ y ∈ seqB c.ty, y ∈ S) : (orcL AP).p 436 [c.pv] = some [.bool (validSc c)] := by
  have k1 := c30 hO hN
  have k2 := c351 (k := 5) hO
  have c0 : Coll S [] := ⟨by simp, by simp, hf⟩
  have k3 := c442 hO hk [] c0
  have hl := (c0.foldU hk).len
  have h := L436 (c := c) hl _ 0 rfl (by omega)
  rw [callP_body (af := g436) rfl rfl (by decide)]
  unfold validSc bndU
  rw [g436L0_eq] at h
  simp at k1 k2 k3
  cases e1 : validT c.ty with
  | false => rw [e1] at k1; simp [g436, k1]
  | true =>
    rw [e1] at k1
    cases e2 : c.ty.hasK 5 with
    | true => rw [e2] at k2; simp [g436, k1, k2]
    | false =>
      rw [e2] at k2
      cases e3 : rngB 0 ((seqB c.ty).foldl addU []) with
      | true => simp [e3] at h; simp [g436, k1, k2, k3, g436L0_eq, h]; rw [Bool.eq_iff_iff]; simp
      | false => simp [e3] at h; simp [g436, k1, k2, k3, g436L0_eq, h]
end Go.Ab.Lw
namespace Go.Ab.Lw
open Ev
set_option maxRecDepth 10000
set_option linter.unusedSimpArgs false
theorem mem_foldU : ∀ {l : List Int} {out : List Int} {x : Int}, x ∈ l.foldl addU out ↔ x ∈ out ∨ x ∈ l
  | [], _, _ => by simp
  | y :: l, out, x => by
    simp only [List.foldl_cons, mem_foldU, addU]
    split
    · rename_i h
      constructor
      · rintro (h1 | h1)
        · exact .inl h1
        · exact .inr (by simp [h1])
      · rintro (h1 | h1)
        · exact .inl h1
        · simp at h1
          rcases h1 with rfl | h1
          · exact .inl h
          · exact .inr h1
    · simp; constructor
      · rintro ((h1 | h1) | h1) <;> simp [h1]
      · rintro (h1 | h1 | h1) <;> simp [h1]
end Go.Ab.Lw
namespace Go.Ab.Lw
open Ev
set_option maxRecDepth 10000
set_option linter.unusedSimpArgs false
/-- 0, 1, .. -/
def iR : Nat → List Int
  | 0 => []
  | n + 1 => iR n ++ [(n : Int)]
theorem iR_len : ∀ n, (iR n).length = n
  | 0 => rfl
  | n + 1 => by simp [iR, iR_len n]
theorem mem_iR {x : Int} : ∀ {n : Nat}, x ∈ iR n ↔ 0 ≤ x ∧ x < n
  | 0 => by simp [iR]
  | n + 1 => by simp [iR, mem_iR (n := n)]; omega
theorem rngB_snoc {x : Int} : ∀ {l : List Int} {i : Int}, rngB i (l ++ [x]) = (rngB i l && decide (x = i + l.length))
  | [], i => by simp [rngB]
  | y :: l, i => by
    have e : i + 1 + (l.length : Int) = i + ((y :: l).length : Nat) := by simp; omega
    simp only [List.cons_append, rngB, rngB_snoc, e, Bool.and_assoc]
theorem rngB_iR : ∀ n, rngB 0 (iR n) = true
  | 0 => rfl
  | n + 1 => by simp [iR, rngB_snoc, rngB_iR n, iR_len]
end Go.Ab.Lw
namespace Go.Ab.Lw
open Ev
set_option maxRecDepth 10000
set_option linter.unusedSimpArgs false
theorem Made.none {lv : Ty → Prop} {k : Int} (hk : k ≠ 4) (h : ∀ t, lv t → t.hasK k = false) {t : Ty} (m : Made lv t) : t.hasK k = false := by
  have hk' : ¬ (4 : Int) = k := fun e => hk e.symm
  induction m with
  | leaf hl => exact h _ hl
  | int => rw [Ty.hasK_eq]; simp [tyInt, hk']
  | con hd hl _ ih =>
    rw [Ty.hasK_eq]
    simp only [Bool.or_eq_false_iff, List.any_eq_false]
    exact ⟨by simp [hk'], fun x hx => by simp [ih x hx]⟩
  | arrow _ _ ha hb => rw [Ty.hasK_eq]; simp [ha, hb, hk']
theorem Made.seqB {lv : Ty → Prop} {S : List Int} (h : ∀ t, lv t → ∀ z ∈ Go.Ab.Lw.seqB t, z ∈ S) {t : Ty} (m : Made lv t) : ∀ z ∈ Go.Ab.Lw.seqB t, z ∈ S := by
  induction m with
  | leaf hl => exact h _ hl
  | int => rw [seqB_eq]; simp [tyInt, bnd]
  | con hd hl _ ih =>
    rw [seqB_eq]
    intro z hz
    simp [bnd] at hz
    obtain ⟨x, hx, hz⟩ := hz
    exact ih x hx z hz
  | arrow _ _ ha hb =>
    rw [seqB_eq]
    intro z hz
    simp [bnd] at hz
    rcases hz with hz | hz
    · exact ha z hz
    · exact hb z hz

end Go.Ab.Lw
namespace Go.Ab.Lw
open Ev
set_option maxRecDepth 10000
set_option linter.unusedSimpArgs false
/-- The rigid constants of a home. -/
def rigL (h : Int) : Nat → List Ty
  | 0 => []
  | n + 1 => rigL h n ++ [tyRigid h n]
theorem rigL_len (h : Int) : ∀ n, (rigL h n).length = n
  | 0 => rfl
  | n + 1 => by simp [rigL, rigL_len h n]
theorem rigL_get (h : Int) : ∀ {n i : Nat}, i < n → (rigL h n)[i]? = some (tyRigid h i)
  | n + 1, i, hi => by
    by_cases e : i < n
    · rw [rigL, List.getElem?_append_left (by rw [rigL_len]; exact e)]; exact rigL_get h e
    · have : i = n := by omega
      subst this
      rw [rigL, List.getElem?_append_right (by rw [rigL_len]; omega), rigL_len]; simp

theorem L327 {T : Ty} {h : Int} {nm : List Txt} {q : List AV} (hq7 : q = T.cl) (hS : nm.length < 1000000000) : ∀ (n i : Nat), nm.length - i = n → i ≤ nm.length →
    cl AP g327L0 ⟨[(1, .pv (vI h)), (4, .lptr 4 0), (5, .lptr 5 0), (6, .pv (.lst (nm.map .str))), (7, .lptr 7 0), (8, .own ((rigL h i).map Ty.pv) 0), (9, .pv (vI i))],
      [(4, [.pv (vI 0), .pv (.str []), .pv (vI 0), .pv (vI 0), .own [] 1]), (5, [.pv (vI 0), .pv (vI 0), .pv (.str []), .pv (vI 0), .pv (vI 0), .own [] 2]), (7, q)], [], [i, 0, 0]⟩ =
      some (.exit 0, ⟨[(1, .pv (vI h)), (4, .lptr 4 0), (5, .lptr 5 0), (6, .pv (.lst (nm.map .str))), (7, .lptr 7 0), (8, .own ((rigL h nm.length).map Ty.pv) 0), (9, .pv (vI nm.length)), (18, .pv (.bool false))],
      [(4, [.pv (vI 0), .pv (.str []), .pv (vI 0), .pv (vI 0), .own [] 1]), (5, [.pv (vI 0), .pv (vI 0), .pv (.str []), .pv (vI 0), .pv (vI 0), .own [] 2]), (7, q)], [], [nm.length, 0, 0]⟩)
  | 0, i, hn, hi => by
    have : i = nm.length := by omega
    subst this
    have hl := rigL_len h nm.length
    subst hq7
    generalize rigL h nm.length = R at *
    rw [g327L0_eq]
    simp [g327B0, hl, Ty.cl]
  | n + 1, i, hn, hi => by
    have hi : i < nm.length := by omega
    have ih := L327 (h := h) hq7 hS n (i + 1) (by omega) (by omega)
    have k := c71 (n := h) (m := i)
    have hl := rigL_len h i
    have hb : (i + 1) * 64 ≤ 140737488355328 := by omega
    have hr : (rigL h (i + 1)).map Ty.pv = (rigL h i).map Ty.pv ++ [(tyRigid h i).pv] := by simp [rigL]
    rw [hr] at ih
    subst hq7
    generalize rigL h i = R at *
    rw [g327L0_eq] at ih ⊢
    simp [hl, Ty.cl, tyRigid] at ih k
    simp (disch := omega) [-getElem?_pos, g327B0, hi, hl, k, hb, Ty.cl, wrap_id]
    rw [g327L0_eq]
    simp [hl, ih]

theorem c327 {S : List Txt} (hf : S.length < 1000000000) {t : Ty} (hO : t.Ok) (hC : t.Cw) (hk : ∀ y ∈ t.seqN, y ∈ S) {h : Int} : (orcL AP).p 327 [t.pv, vI h] = some [((t.bnm (namesT t)).opn (rigL h (namesT t).length)).pv, (As.mk (namesT t).length (t.bnm (namesT t))).pv] := by
  have hcn := CollN.fold (S := S) (l := t.seqN) (out := []) ⟨by simp, by simp, by omega⟩ hk
  have hnl : (namesT t).length < 1000000000 := by
    have := nodup_len hcn.nodup hcn.sub
    unfold namesT
    omega
  have k1 := c196 (S := S) (by omega) hO hk
  have k2 := c198 (l := namesT t) (by unfold Sm; omega) hO hC
  have hbO := bnm_ok (l := namesT t) hO
  have k3 := c48 (s := rigL h (namesT t).length) (by unfold Sm; rw [rigL_len]; omega) hbO
  generalize namesT t = nm at *
  generalize t.bnm nm = T at *
  have h4 := L327 (h := h) (T := T) (nm := nm) rfl hnl _ 0 rfl (by omega)
  generalize rigL h nm.length = R at *
  generalize T.opn R = U at *
  rw [g327L0_eq] at h4
  simp [rigL, Ty.cl] at h4
  simp at k1 k2 k3
  rw [callP_body (af := g327) rfl rfl (by decide)]
  simp [g327, k1, k2, g327L0_eq, h4, k3]

theorem c456 {S : List Txt} (hf : S.length < 1000000000) {t : Ty} (hO : t.Ok) (hC : t.Cw) (hk : ∀ y ∈ t.seqN, y ∈ S) {h : Int} : (orcL AP).p 456 [t.pv, vI h] = some [(t.wri (namesT t) h).pv, (As.mk (namesT t).length (t.bnm (namesT t))).pv] := by
  have hcn := CollN.fold (S := S) (l := t.seqN) (out := []) ⟨by simp, by simp, by omega⟩ hk
  have hnl : (namesT t).length < 1000000000 := by
    have := nodup_len hcn.nodup hcn.sub
    unfold namesT
    omega
  have k1 := c195 (S := S) (by omega) hO hC hk
  have k2 := c197 (l := namesT t) (by unfold Sm; omega) hO
  obtain ⟨b, k3⟩ := c478 (l := namesT t) (h := h) (by unfold Sm; omega) hO [some [.pv (vI h)]] (Quiet.one (by intro v hv; simp at hv; exact ⟨_, hv⟩)) rfl
  generalize namesT t = nm at *
  generalize t.bnm nm = T at *
  generalize t.wri nm h = U at *
  simp at k1 k2 k3
  rw [callP_body (af := g456) rfl rfl (by decide)]
  cases b <;> simp [tyF, lsF] at k3 <;> simp [g456, k1, k2, k3]

/-! ### The same -/
theorem posS_mem {s : List Txt} {y : Txt} (h : y ∈ s) : 0 ≤ posS s y := by
  unfold posS
  cases e : idxB (fun x => decide (x = y)) s with
  | none => have := idxB_none.1 e y h; simp at this
  | some k => simp [idxI]
theorem wri_opn {D : Dt → Prop} {nm : List Txt} {h : Int} {n : Nat} {t : Ty} (m : MadeG D namedL n t) : (t.bnm nm).opn (rigL h nm.length) = t.wri nm h := by
  induction m with
  | @leaf n t hl =>
    have hb : t.args = [] ∧ t.kind = 5 := by
      simp [namedL] at hl
      rcases hl with rfl | rfl | rfl <;> simp [tyNamed]
    rw [Ty.bnm_eq, Ty.wri_eq]
    by_cases e : t.kind = 5 ∧ 0 ≤ posS nm t.name
    · rw [if_pos e, if_pos e]
      have hp := posS_lt (s := nm) (y := t.name)
      obtain ⟨i, hi⟩ : ∃ i : Nat, posS nm t.name = i := ⟨(posS nm t.name).toNat, by omega⟩
      rw [hi] at hp ⊢
      have hil : i < nm.length := by omega
      have hg := rigL_get h hil
      have hlen := rigL_len h nm.length
      rw [Ty.opn_eq]
      have hpl : plc (rigL h nm.length) (tyBound i) = some (tyRigid h i) := by
        unfold plc
        rw [if_pos (by simp [tyBound, hlen]; exact hil)]
        simpa [tyBound] using hg
      rw [hpl]
      rfl
    · rw [if_neg e, if_neg e, hb.1, Ty.opn_eq]
      simp [plc, hb.2]
  | int => rw [Ty.bnm_eq, Ty.wri_eq, if_neg (by simp [tyInt]), if_neg (by simp [tyInt]), Ty.opn_eq]; simp [plc, tyInt]
  | con hd hl _ ih =>
    rw [Ty.bnm_eq, Ty.wri_eq, if_neg (by simp), if_neg (by simp), Ty.opn_eq]
    simp [plc]
    exact ih
  | arrow _ _ iha ihb =>
    rw [Ty.bnm_eq, Ty.wri_eq, if_neg (by simp), if_neg (by simp), Ty.opn_eq]
    simp [plc, iha, ihb]
end Go.Ab.Lw
namespace Go.Ab.Lw
open Ev
set_option maxRecDepth 10000
set_option linter.unusedSimpArgs false
theorem idxB_app {α : Type} {p : α → Bool} : ∀ {a b : List α}, idxB p (a ++ b) = match idxB p a with | some k => some k | none => (idxB p b).map (· + a.length)
  | [], b => by
    simp only [List.nil_append, idxB, List.length_nil, Nat.add_zero]
    cases idxB p b <;> rfl
  | x :: a, b => by
    simp only [List.cons_append, idxB]
    split
    · rfl
    · rw [idxB_app (a := a) (b := b)]
      cases idxB p a with
      | some k => rfl
      | none => cases idxB p b <;> simp [Nat.add_assoc]
theorem posS_app {o r : List Txt} {x : Txt} (h : x ∈ o) : posS (o ++ r) x = posS o x ∧ 0 ≤ posS o x ∧ posS o x < o.length := by
  have h1 := posS_mem h
  have h2 := posS_lt (s := o) (y := x)
  refine ⟨?_, h1, by omega⟩
  unfold posS at h1 ⊢
  rw [idxB_app]
  cases e : idxB (fun y => decide (y = x)) o with
  | some k => rfl
  | none => rw [e] at h1; simp [idxI] at h1
theorem posS_at {o r : List Txt} {x : Txt} (h : x ∉ o) : posS (o ++ x :: r) x = o.length := by
  unfold posS
  rw [idxB_app]
  have : idxB (fun y => decide (y = x)) o = none := idxB_none.2 fun y hy => by
    simp only [decide_eq_false_iff_not]
    rintro rfl
    exact h hy
  rw [this]
  simp [idxB, idxI]
theorem foldN_pre : ∀ {s o : List Txt}, ∃ e, s.foldl addNm o = o ++ e
  | [], o => ⟨[], by simp⟩
  | x :: r, o => by
    obtain ⟨e, h⟩ := foldN_pre (s := r) (o := addNm o x)
    unfold addNm at h
    split at h
    · rename_i q
      exact ⟨e, by rw [List.foldl_cons]; unfold addNm; rw [if_pos q]; exact h⟩
    · rename_i q
      exact ⟨x :: e, by rw [List.foldl_cons]; unfold addNm; rw [if_neg q]; simpa using h⟩
theorem pos_fold (nm : List Txt) : ∀ (s o : List Txt), (∃ e, nm = s.foldl addNm o ++ e) → (s.map (posS nm)).foldl addU (iR o.length) = iR (s.foldl addNm o).length
  | [], o, _ => rfl
  | x :: r, o, ⟨e, h⟩ => by
    obtain ⟨e', h'⟩ := foldN_pre (s := r) (o := addNm o x)
    simp only [List.map_cons, List.foldl_cons] at h ⊢
    have ih := pos_fold nm r (addNm o x) ⟨e, h⟩
    rw [← ih]
    congr 1
    rw [h'] at h
    by_cases q : x ∈ o
    · have e1 : addNm o x = o := by unfold addNm; rw [if_pos q]
      rw [e1] at h ⊢
      have := posS_app (r := e' ++ e) q
      rw [h, List.append_assoc, this.1]
      unfold addU
      rw [if_pos (by rw [mem_iR]; omega)]
    · have e1 : addNm o x = o ++ [x] := by unfold addNm; rw [if_neg q]
      rw [e1] at h ⊢
      have hp := posS_at (r := e' ++ e) q
      have : nm = o ++ x :: (e' ++ e) := by rw [h]; simp
      rw [this, hp]
      unfold addU
      rw [if_neg (by rw [mem_iR]; omega)]
      simp [iR]

theorem seqB_bnm {D : Dt → Prop} {nm : List Txt} {n : Nat} {t : Ty} (m : MadeG D namedL n t) (h : ∀ y ∈ t.seqN, y ∈ nm) : seqB (t.bnm nm) = t.seqN.map (posS nm) := by
  induction m with
  | @leaf n t hl =>
    have hb : t.args = [] ∧ t.kind = 5 := by
      simp [namedL] at hl
      rcases hl with rfl | rfl | rfl <;> simp [tyNamed]
    have hs : t.seqN = [t.name] := by rw [Ty.seqN_eq, hb.1, hb.2]; simp
    rw [hs] at h ⊢
    have hp := posS_mem (h t.name (by simp))
    rw [Ty.bnm_eq, if_pos ⟨hb.2, hp⟩, seqB_eq]
    simp [tyBound, bnd]
  | int => rw [Ty.bnm_eq, if_neg (by simp [tyInt]), seqB_eq, Ty.seqN_eq]; simp [tyInt, bnd]
  | @con n d args hd hl _ ih =>
    rw [Ty.bnm_eq, if_neg (by simp), seqB_eq, Ty.seqN_eq]
    rw [Ty.seqN_eq] at h
    simp only [bnd] at h ⊢
    simp at h ⊢
    have key : ∀ l : List Ty, (∀ x ∈ l, x ∈ args) → (l.flatMap fun x => seqB (x.bnm nm)) = (l.flatMap Ty.seqN).map (posS nm) := by
      intro l
      induction l with
      | nil => intro _; rfl
      | cons x r ihr =>
        intro hx
        simp only [List.flatMap_cons, List.map_append]
        rw [ih x (hx x (by simp)) (fun y hy => h y x (hx x (by simp)) hy), ihr fun y hy => hx y (by simp [hy])]
    rw [List.flatMap_map, key args fun x hx => hx, List.map_flatMap]
  | @arrow n a b _ _ iha ihb =>
    rw [Ty.bnm_eq, if_neg (by simp), seqB_eq, Ty.seqN_eq]
    rw [Ty.seqN_eq] at h
    simp [bnd] at h ⊢
    rw [iha fun y hy => h y (.inl hy), ihb fun y hy => h y (.inr hy)]

theorem hasK_bnm {D : Dt → Prop} {nm : List Txt} {n : Nat} {t : Ty} (m : MadeG D namedL n t) (h : ∀ y ∈ t.seqN, y ∈ nm) : (t.bnm nm).hasK 5 = false := by
  induction m with
  | @leaf n t hl =>
    have hb : t.args = [] ∧ t.kind = 5 := by
      simp [namedL] at hl
      rcases hl with rfl | rfl | rfl <;> simp [tyNamed]
    have hs : t.seqN = [t.name] := by rw [Ty.seqN_eq, hb.1, hb.2]; simp
    rw [hs] at h
    have hp := posS_mem (h t.name (by simp))
    rw [Ty.bnm_eq, if_pos ⟨hb.2, hp⟩, Ty.hasK_eq]
    simp [tyBound]
  | int => rw [Ty.bnm_eq, if_neg (by simp [tyInt]), Ty.hasK_eq]; simp [tyInt]
  | @con n d args hd hl _ ih =>
    rw [Ty.seqN_eq] at h
    simp at h
    rw [Ty.bnm_eq, if_neg (by simp), Ty.hasK_eq]
    simp
    exact fun x hx => ih x hx (fun y hy => h y x hx hy)
  | @arrow n a b _ _ iha ihb =>
    rw [Ty.seqN_eq] at h
    simp at h
    rw [Ty.bnm_eq, if_neg (by simp), Ty.hasK_eq]
    simp [iha fun y hy => h y (.inl hy), ihb fun y hy => h y (.inr hy)]

theorem dataA : ∀ d : Dt, d ∈ allDatas → conB d.name d.params.length = true ∧ d.name.length ≤ 20 := by decide +kernel
theorem MadeG.bvalA {l : List Txt} (hl : l.length ≤ 100) {n : Nat} {t : Ty} (m : MadeG (· ∈ allDatas) namedL n t) : validT (t.bnm l) = true ∧ (t.bnm l).Nm := by
  induction m with
  | @leaf n t hl' =>
    rw [Ty.bnm_eq]
    split
    · rename_i h
      have := posS_lt (s := l) (y := t.name)
      exact bound_valid h.2 (by omega)
    · simp [namedL] at hl'
      rcases hl' with rfl | rfl | rfl
      · show validT (tyNamed [97]) = true ∧ (tyNamed [97]).Nm
        exact ⟨by rw [validT_eq]; decide +kernel, ⟨by simp [tyNamed, SmS], by simp [tyNamed]⟩⟩
      · show validT (tyNamed [98]) = true ∧ (tyNamed [98]).Nm
        exact ⟨by rw [validT_eq]; decide +kernel, ⟨by simp [tyNamed, SmS], by simp [tyNamed]⟩⟩
      · show validT (tyNamed [99]) = true ∧ (tyNamed [99]).Nm
        exact ⟨by rw [validT_eq]; decide +kernel, ⟨by simp [tyNamed, SmS], by simp [tyNamed]⟩⟩
  | int =>
    rw [Ty.bnm_eq, if_neg (by simp [tyInt])]
    show validT tyInt = true ∧ tyInt.Nm
    exact ⟨by rw [validT_eq]; decide +kernel, ⟨by simp [tyInt, SmS], by simp [tyInt]⟩⟩
  | @con n d args hd hlen _ ih =>
    rw [Ty.bnm_eq, if_neg (by simp)]
    obtain ⟨h1, h2⟩ := dataA d hd
    refine ⟨?_, ⟨by unfold SmS; simp only; omega, ?_⟩⟩
    · rw [validT_eq]
      simp [hlen, h1]
      intro x hx
      exact (ih x hx).1
    · intro x hx
      simp only [List.mem_map] at hx
      obtain ⟨y, hy, rfl⟩ := hx
      exact (ih y hy).2
  | @arrow n a b _ _ ha hb =>
    rw [Ty.bnm_eq, if_neg (by simp)]
    refine ⟨?_, ⟨by simp [SmS], ?_⟩⟩
    · rw [validT_eq]
      simp [conB, ha.1, hb.1]
    · intro x hx
      simp at hx
      rcases hx with rfl | rfl
      · exact ha.2
      · exact hb.2
theorem MadeG.imp {D E : Dt → Prop} (h : ∀ d, D d → E d) {lv : List Ty} {n : Nat} {t : Ty} (m : MadeG D lv n t) : MadeG E lv n t := by
  induction m with
  | leaf hl => exact .leaf hl
  | int => exact .int
  | con hd hl _ ih => exact .con (h _ hd) hl ih
  | arrow _ _ ha hb => exact .arrow ha hb

theorem sig_valid {n : Nat} {t : Ty} (m : MadeG (· ∈ allDatas) namedL n t) : validSc ⟨(namesT t).length, t.bnm (namesT t)⟩ = true ∧ (t.bnm (namesT t)).Nm ∧ (∀ z ∈ seqB (t.bnm (namesT t)), z ∈ iR 3) := by
  have hsn := m.seqN namedL_bare
  have hcn := CollN.fold (S := namedL.map Ty.name) (l := t.seqN) (out := []) ⟨by simp, by simp, by simp [namedL]⟩ hsn
  have hlen : (namesT t).length ≤ 3 := by
    have := nodup_len hcn.nodup hcn.sub
    simpa [namesT, namedL] using this
  have hall : ∀ y ∈ t.seqN, y ∈ namesT t := by
    intro y hy
    have key : ∀ (s o : List Txt), y ∈ s ∨ y ∈ o → y ∈ s.foldl addNm o := by
      intro s
      induction s with
      | nil => intro o h; simpa using h
      | cons x r ih =>
        intro o h
        rw [List.foldl_cons]
        apply ih
        by_cases e : y ∈ r
        · exact .inl e
        · right
          unfold addNm
          rcases h with h | h
          · simp [e] at h
            subst h
            split <;> simp_all
          · split <;> simp_all
    exact key _ _ (.inl hy)
  have hb : bndU (t.bnm (namesT t)) = iR (namesT t).length := by
    unfold bndU
    rw [seqB_bnm m hall]
    exact pos_fold (namesT t) t.seqN [] ⟨[], by simp [namesT]⟩
  obtain ⟨v1, v2⟩ := m.bvalA (l := namesT t) (by omega)
  refine ⟨?_, v2, ?_⟩
  · unfold validSc
    simp only
    rw [v1, hasK_bnm m hall, hb, rngB_iR, iR_len]
    simp
  · intro z hz
    have : z ∈ bndU (t.bnm (namesT t)) := mem_foldU.2 (.inr hz)
    rw [hb, mem_iR] at this
    rw [mem_iR]
    omega
end Go.Ab.Lw
namespace Go.Ab.Lw
open Ev
set_option maxRecDepth 100000
set_option linter.unusedSimpArgs false
theorem c448 : (orcL AP).p 448 [] = some [.bool true] := Fc.p_of (k := 100) (n := 40) (by kernel_rfl)

theorem wri_ok {l : List Txt} {h : Int} {t : Ty} (hO : t.Ok) : (t.wri l h).Ok := by
  revert hO
  refine Ty.rec1 (p := fun t => t.Ok → (t.wri l h).Ok) ?_ t
  intro t ih hO
  rw [Ty.wri_eq]
  split
  · exact bare_ok rfl
  · refine ⟨by have := hO.sm; unfold Sm at *; simpa using this, ?_⟩
    intro x hx
    simp only [List.mem_map] at hx
    obtain ⟨y, hy, rfl⟩ := hx
    exact ih y hy (hO.kid y hy)

theorem law444 (bits : Int) (L : List Int) (home : Int) : (orcL AP).p 444 [vI bits, .lst (L.map vI), vI home] = some [.bool true] := by
  have c0 := c448
  have c1 := c15 (l := L)
  rw [callP_body (af := g444) rfl rfl (by decide)]
  by_cases hL : L.length ≤ 60
  · simp [hL] at c1
    have hLs : Sm L := by unfold Sm; omega
    obtain ⟨ds, e1, hda, hds⟩ := c32 bits
    have h8 : ∀ d ∈ ds, d.params.length ≤ 8 := fun d hd => (all_D8 d (hda d hd)).1
    obtain ⟨t, j, e2, mt, hj⟩ := mk27 hLs (ds := ds) (by omega) h8 (lv := namedL) (by simp [Sm, namedL]) 3 (by omega) 0 (by omega)
    have k2 := c67
    have tO : t.Ok := MadeG.ok (D := (· ∈ ds)) h8 namedL_bare mt
    have tC : t.Cw := MadeG.cw namedL_bare mt
    have hsn := MadeG.seqN namedL_bare mt
    have hfew : (namedL.map Ty.name).length < 1000000000 := by simp [namedL]
    obtain ⟨h, k3, _, _⟩ := c26 (n := home) (m := 50) (by omega) (by omega)
    have k4 := c456 hfew tO tC hsn (h := h)
    have k5 := c327 hfew tO tC hsn (h := h)
    rw [wri_opn mt] at k5
    have k6 := c20 (a := t.wri (namesT t) h) (b := t.wri (namesT t) h) (wri_ok tO)
    have hb := bnm_ok (l := namesT t) tO
    have k7 := c183 (a := ⟨(namesT t).length, t.bnm (namesT t)⟩) (b := ⟨(namesT t).length, t.bnm (namesT t)⟩) hb
    obtain ⟨v1, v2, v3⟩ := sig_valid (mt.imp hda)
    have k8 := c436 (S := iR 3) (by simp [iR_len]) (c := ⟨(namesT t).length, t.bnm (namesT t)⟩) hb v2 v3
    rw [v1] at k8
    generalize t.wri (namesT t) h = U at *
    generalize t.bnm (namesT t) = V at *
    generalize (namesT t).length = N at *
    simp [Ty.av] at e1 e2 k2 k3 k4 k5 k6 k7 k8
    simp [g444, c0, c1, e1, e2, k2, k3, k4, k5, k6, k7, k8]
  · simp [hL] at c1
    simp [g444, c0, c1]
end Go.Ab.Lw
