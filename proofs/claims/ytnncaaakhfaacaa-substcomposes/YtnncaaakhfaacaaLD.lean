import Derived.Test.YtnncaaakhfaacaaAbEv
/-
  The program's data.
-/
set_option linter.unusedVariables false
set_option linter.unusedSimpArgs false
namespace Go.Ab.Lw

/-- A type. -/
structure Ty where
  kind : Int
  name : List UInt8
  id : Int
  home : Int
  args : List Ty
  deriving Inhabited

noncomputable instance : DecidableEq Ty := fun _ _ => Classical.propDecidable _

mutual
def Ty.pv : Ty → PV
  | ⟨k, n, i, h, as⟩ => .agg [.int .i64 k, .str n, .int .i64 i, .int .i64 h, .lst (Ty.pvs as)]
def Ty.pvs : List Ty → List PV
  | [] => []
  | a :: r => a.pv :: Ty.pvs r
end

theorem Ty.pvs_map : ∀ l : List Ty, Ty.pvs l = l.map Ty.pv
  | [] => by simp [Ty.pvs]
  | a :: r => by simp [Ty.pvs, Ty.pvs_map r]

@[simp] theorem Ty.pv_eq (t : Ty) : t.pv = .agg [.int .i64 t.kind, .str t.name, .int .i64 t.id, .int .i64 t.home, .lst (t.args.map Ty.pv)] := by
  cases t; simp only [Ty.pv, Ty.pvs_map]

/-- A property of all types that are parts. -/
theorem Ty.rec1 {p : Ty → Prop} (h : ∀ t : Ty, (∀ x ∈ t.args, p x) → p t) : ∀ t, p t
  | ⟨k, n, i, hm, as⟩ => h _ (fun x _hx => Ty.rec1 h x)
termination_by t => sizeOf t
decreasing_by have := List.sizeOf_lt_of_mem _hx; simp at *; omega

/-- A constructor, and a data declaration. -/
structure Con where
  pos : Int
  name : List UInt8
  fields : List Ty
  deriving Inhabited
structure Dt where
  pos : Int
  name : List UInt8
  params : List (List UInt8)
  cons : List Con
  deriving Inhabited
def Con.pv (c : Con) : PV := .agg [.int .i64 c.pos, .str c.name, .lst (c.fields.map Ty.pv)]
def Dt.pv (d : Dt) : PV := .agg [.int .i64 d.pos, .str d.name, .lst (d.params.map .str), .lst (d.cons.map Con.pv)]
@[simp] theorem Con.pv_eq (c : Con) : c.pv = .agg [.int .i64 c.pos, .str c.name, .lst (c.fields.map Ty.pv)] := rfl
@[simp] theorem Dt.pv_eq (d : Dt) : d.pv = .agg [.int .i64 d.pos, .str d.name, .lst (d.params.map .str), .lst (d.cons.map Con.pv)] := rfl

/-- An assignment. -/
structure As where
  id : Int
  ty : Ty
  deriving Inhabited
def As.pv (a : As) : PV := .agg [.int .i64 a.id, .int .i64 a.ty.kind, .str a.ty.name, .int .i64 a.ty.id, .int .i64 a.ty.home, .lst (a.ty.args.map Ty.pv)]
@[simp] theorem As.pv_eq (a : As) : a.pv = .agg [.int .i64 a.id, .int .i64 a.ty.kind, .str a.ty.name, .int .i64 a.ty.id, .int .i64 a.ty.home, .lst (a.ty.args.map Ty.pv)] := rfl

@[simp] theorem Ty.eta (t : Ty) : Ty.mk t.kind t.name t.id t.home t.args = t := by cases t; rfl
@[simp] theorem As.eta (t : As) : As.mk t.id t.ty = t := rfl

abbrev vI (n : Int) : PV := .int .i64 n
def tp (L : List Int) (i : Int) : Sh := [some [.pv (.lst (L.map vI)), .pv (vI i)]]
@[simp] theorem tp_eq (L : List Int) (i : Int) : tp L i = [some [.pv (.lst (L.map vI)), .pv (vI i)]] := rfl

/-- Lists that any memory holds. -/
def Sm {α : Type} (l : List α) : Prop := l.length < 1099511627776

@[simp] theorem natNeg (n : Nat) : ((n : Int) < 0) ↔ False := by simp
@[simp] theorem natNeg1 (n : Nat) : ((n : Int) + 1 < 0) ↔ False := by simp; omega

theorem dropC {α : Type} {l : List α} {i : Nat} {x : α} (h : l[i]? = some x) : l.drop i = x :: l.drop (i + 1) := by
  obtain ⟨hi, rfl⟩ := List.getElem?_eq_some_iff.1 h
  exact List.drop_eq_getElem_cons hi
theorem getO {α : Type} {l : List α} {i : Nat} (h : i < l.length) : ∃ x, l[i]? = some x := ⟨_, List.getElem?_eq_getElem h⟩
theorem memO {α : Type} {l : List α} {i : Nat} {x : α} (h : l[i]? = some x) : x ∈ l := List.mem_of_getElem? h
theorem dropN {α : Type} {l : List α} {i : Nat} (h : l.length ≤ i) : l.drop i = [] := List.drop_eq_nil_of_le h

end Go.Ab.Lw
