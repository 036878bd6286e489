import Derived.Test.YtnncaaakhfaacaaAbEv
import Derived.Test.YtnncaaakhfaacaaCodeB
/-
  The program's data.
  The makers: what their functions give.
  The makers: what their functions give.
-/
set_option linter.unusedVariables false
set_option linter.unusedSimpArgs false
namespace Go.Ab.Lw

/-- A type. -/
structure Ty where
  kind : Int
  name : List UInt8
  id : Int
  home : Int
  args : List Ty
  deriving Inhabited

noncomputable instance : DecidableEq Ty := fun _ _ => Classical.propDecidable _

mutual
def Ty.pv : Ty → PV
  | ⟨k, n, i, h, as⟩ => .agg [.int .i64 k, .str n, .int .i64 i, .int .i64 h, .lst (Ty.pvs as)]
def Ty.pvs : List Ty → List PV
  | [] => []
  | a :: r => a.pv :: Ty.pvs r
end

theorem Ty.pvs_map : ∀ l : List Ty, Ty.pvs l = l.map Ty.pv
  | [] => by simp [Ty.pvs]
  | a :: r => by simp [Ty.pvs, Ty.pvs_map r]

@[simp] theorem Ty.pv_eq (t : Ty) : t.pv = .agg [.int .i64 t.kind, .str t.name, .int .i64 t.id, .int .i64 t.home, .lst (t.args.map Ty.pv)] := by
  cases t; simp only [Ty.pv, Ty.pvs_map]

/-- A property of all types that are parts. -/
theorem Ty.rec1 {p : Ty → Prop} (h : ∀ t : Ty, (∀ x ∈ t.args, p x) → p t) : ∀ t, p t
  | ⟨k, n, i, hm, as⟩ => h _ (fun x _hx => Ty.rec1 h x)
termination_by t => sizeOf t
decreasing_by have := List.sizeOf_lt_of_mem _hx; simp at *; omega

/-- A constructor, and a data declaration. -/
structure Con where
  pos : Int
  name : List UInt8
  fields : List Ty
  deriving Inhabited
structure Dt where
  pos : Int
  name : List UInt8
  params : List (List UInt8)
  cons : List Con
  deriving Inhabited
def Con.pv (c : Con) : PV := .agg [.int .i64 c.pos, .str c.name, .lst (c.fields.map Ty.pv)]
def Dt.pv (d : Dt) : PV := .agg [.int .i64 d.pos, .str d.name, .lst (d.params.map .str), .lst (d.cons.map Con.pv)]
@[simp] theorem Con.pv_eq (c : Con) : c.pv = .agg [.int .i64 c.pos, .str c.name, .lst (c.fields.map Ty.pv)] := rfl
@[simp] theorem Dt.pv_eq (d : Dt) : d.pv = .agg [.int .i64 d.pos, .str d.name, .lst (d.params.map .str), .lst (d.cons.map Con.pv)] := rfl

/-- An assignment. -/
structure As where
  id : Int
  ty : Ty
  deriving Inhabited
def As.pv (a : As) : PV := .agg [.int .i64 a.id, .int .i64 a.ty.kind, .str a.ty.name, .int .i64 a.ty.id, .int .i64 a.ty.home, .lst (a.ty.args.map Ty.pv)]
@[simp] theorem As.pv_eq (a : As) : a.pv = .agg [.int .i64 a.id, .int .i64 a.ty.kind, .str a.ty.name, .int .i64 a.ty.id, .int .i64 a.ty.home, .lst (a.ty.args.map Ty.pv)] := rfl

@[simp] theorem Ty.eta (t : Ty) : Ty.mk t.kind t.name t.id t.home t.args = t := by cases t; rfl
@[simp] theorem As.eta (t : As) : As.mk t.id t.ty = t := rfl

abbrev vI (n : Int) : PV := .int .i64 n
def tp (L : List Int) (i : Int) : Sh := [some [.pv (.lst (L.map vI)), .pv (vI i)]]
@[simp] theorem tp_eq (L : List Int) (i : Int) : tp L i = [some [.pv (.lst (L.map vI)), .pv (vI i)]] := rfl

/-- Lists that any memory holds. -/
def Sm {α : Type} (l : List α) : Prop := l.length < 1099511627776

/-- Texts that any memory holds. -/
def SmS {α : Type} (l : List α) : Prop := l.length ≤ 9223372036854775807

@[simp] theorem natNeg (n : Nat) : ((n : Int) < 0) ↔ False := by simp
@[simp] theorem natNeg1 (n : Nat) : ((n : Int) + 1 < 0) ↔ False := by simp; omega

theorem dropC {α : Type} {l : List α} {i : Nat} {x : α} (h : l[i]? = some x) : l.drop i = x :: l.drop (i + 1) := by
  obtain ⟨hi, rfl⟩ := List.getElem?_eq_some_iff.1 h
  exact List.drop_eq_getElem_cons hi
theorem getO {α : Type} {l : List α} {i : Nat} (h : i < l.length) : ∃ x, l[i]? = some x := ⟨_, List.getElem?_eq_getElem h⟩
theorem memO {α : Type} {l : List α} {i : Nat} {x : α} (h : l[i]? = some x) : x ∈ l := List.mem_of_getElem? h
theorem dropN {α : Type} {l : List α} {i : Nat} (h : l.length ≤ i) : l.drop i = [] := List.drop_eq_nil_of_le h

end Go.Ab.Lw

namespace Go.Ab.Lw
open Ev
set_option maxRecDepth 10000
set_option linter.unusedSimpArgs false

theorem c26 {n m : Int} (h1 : 1 ≤ m) (h2 : m < 4611686018427387904) : ∃ r, (orcL AP).p 26 [vI n, vI m] = some [vI r] ∧ 0 ≤ r ∧ r < m := by
  rw [callP_body (af := g26) rfl rfl (by decide)]
  have a1 := Int.tmod_lt_of_pos n (show 0 < m by omega)
  have a2 := Int.lt_tmod_of_pos n (show 0 < m by omega)
  have e1 : ¬ m < 1 := by omega
  have e2 : ¬ m = 0 := by omega
  by_cases h : n.tmod m < 0
  · refine ⟨n.tmod m + m, ?_, by omega, by omega⟩
    simp (disch := omega) [g26, e1, e2, h, wrap_id]
  · refine ⟨n.tmod m, ?_, by omega, by omega⟩
    simp [g26, e1, e2, h]

/-- A choice off the tape. -/
theorem c68 {L : List Int} (hL : Sm L) {i : Nat} (hi : i ≤ L.length) {n : Int} (h1 : 1 ≤ n) (h2 : n < 4611686018427387904) :
    ∃ (r : Int) (j : Nat), (orcL AP).i 68 [.sptr 0 0, .pv (vI n)] (tp L i) [] = some ([.pv (vI r)], tp L j, []) ∧ 0 ≤ r ∧ r < n ∧ j ≤ L.length := by
  unfold Sm at hL
  rw [callI_body (af := g68) rfl (by simp [g68])]
  by_cases h : i < L.length
  · obtain ⟨x, hx⟩ := getO h
    obtain ⟨r, e, e1, e2⟩ := c26 (n := x) h1 h2
    refine ⟨r, i + 1, ?_, e1, e2, h⟩
    have h' : ¬ L.length ≤ i := by omega
    simp (disch := omega) [-getElem?_pos, g68, h', wrap_id, hx, e]
  · have h' : L.length ≤ i := by omega
    refine ⟨0, i, ?_, by omega, by omega, hi⟩
    simp [g68, h']

theorem c63 {n : Int} : (orcL AP).p 63 [vI n] = some [(Ty.mk 1 [] n 0 []).pv] := by
  rw [callP_body (af := g63) rfl rfl (by decide)]
  simp [g63]
theorem c71 {n m : Int} : (orcL AP).p 71 [vI n, vI m] = some [(Ty.mk 3 [] m n []).pv] := by
  rw [callP_body (af := g71) rfl rfl (by decide)]
  simp [g71]
theorem c72 {n : Int} : (orcL AP).p 72 [vI n] = some [(Ty.mk 2 [] n 0 []).pv] := by
  rw [callP_body (af := g72) rfl rfl (by decide)]
  simp [g72]
theorem c62 {s : List UInt8} {l : List Ty} (h : Sm l) : (orcL AP).p 62 [.str s, .lst (l.map Ty.pv)] = some [(Ty.mk 4 s 0 0 l).pv] := by
  unfold Sm at h
  rw [callP_body (af := g62) rfl rfl (by decide)]
  cases l with
  | nil => simp [g62]
  | cons a r =>
    have : (r.length + 1) * 64 ≤ 140737488355328 := by simp at h; omega
    simp [g62, this]
theorem c34 : (orcL AP).p 34 [] = some [(Ty.mk 4 [73, 110, 116] 0 0 []).pv] := by
  rw [callP_body (af := g34) rfl rfl (by decide)]
  have h := c62 (s := [73, 110, 116]) (l := []) (by simp [Sm])
  simp at h
  simp [g34, h]
theorem c69 {a b : Ty} : (orcL AP).p 69 [a.pv, b.pv] = some [(Ty.mk 4 [45, 62] 0 0 [a, b]).pv] := by
  rw [callP_body (af := g69) rfl rfl (by decide)]
  have h := c62 (s := [45, 62]) (l := [a, b]) (by simp [Sm])
  simp at h
  simp [g69, h]
theorem c15 {l : List Int} : (orcL AP).p 15 [.lst (l.map vI)] = some [.bool (decide (l.length ≤ 60))] := by
  rw [callP_body (af := g15) rfl rfl (by decide)]
  simp [g15]
  omega

end Go.Ab.Lw

namespace Go.Ab.Lw
open Ev
set_option maxRecDepth 10000
set_option linter.unusedSimpArgs false

/-- Shared memory without tokens. -/
def Calm (sh : Sh) : Prop := ∀ old ts, normS old ts sh = (sh, old, ts)
theorem calm_nil : Calm [] := fun _ _ => rfl
theorem calm_tp {L : List Int} {i : Int} : Calm (tp L i) := fun _ _ => rfl

def tyVar (n : Int) : Ty := ⟨1, [], n, 0, []⟩
def tyRigid (h n : Int) : Ty := ⟨3, [], n, h, []⟩
def tyBound (n : Int) : Ty := ⟨2, [], n, 0, []⟩
def tyInt : Ty := ⟨4, [73, 110, 116], 0, 0, []⟩

theorem c70_4 {sh : Sh} (h : Calm sh) : (orcL AP).i 70 [.pv (vI 4)] sh [] = some ([.own ([tyVar 0, tyVar 1, tyVar 2, tyVar 3].map Ty.pv) 0], sh, [4]) := by
  have hh := h
  unfold Calm at h
  rw [callI_body (af := g70) rfl (by decide)]
  have c0 := c63 (n := 0); have c1 := c63 (n := 1); have c2 := c63 (n := 2); have c3 := c63 (n := 3)
  simp at c0 c1 c2 c3
  simp (disch := omega) [-getElem?_pos, g70, g70L0_eq, g70B0, wrap_id, c0, c1, c2, c3, h, tyVar]
theorem c70_5 {sh : Sh} (h : Calm sh) : (orcL AP).i 70 [.pv (vI 5)] sh [] = some ([.own ([tyVar 0, tyVar 1, tyVar 2, tyVar 3, tyVar 4].map Ty.pv) 0], sh, [5]) := by
  unfold Calm at h
  rw [callI_body (af := g70) rfl (by decide)]
  have c0 := c63 (n := 0); have c1 := c63 (n := 1); have c2 := c63 (n := 2); have c3 := c63 (n := 3); have c4 := c63 (n := 4)
  simp at c0 c1 c2 c3 c4
  simp (disch := omega) [-getElem?_pos, g70, g70L0_eq, g70B0, wrap_id, c0, c1, c2, c3, c4, h, tyVar]

def leavesL : List Ty := [tyVar 0, tyVar 1, tyVar 2, tyVar 3, tyRigid 0 0, tyRigid 1 0, tyRigid (-1) 2, tyBound 0]
theorem c28 : (orcL AP).p 28 [] = some [.lst (leavesL.map Ty.pv)] := by
  rw [callP_body (af := g28) rfl rfl (by decide)]
  have h := c70_4 calm_nil
  have c1 := c71 (n := 0) (m := 0); have c2 := c71 (n := 1) (m := 0); have c3 := c71 (n := -1) (m := 2); have c4 := c72 (n := 0)
  simp [tyVar] at h c1 c2 c3 c4
  simp [g28, h, c1, c2, c3, c4, leavesL, tyVar, tyRigid, tyBound]

end Go.Ab.Lw

