import Derived.Test.YtkcgolcbhkociaaCodeA
import Derived.Test.YtkcgolcbhkociaaAbBridge
import Derived.Test.YtkcgolcbhkociaaAbForce
import Derived.KernelRfl
/-
  The program's data.
  The makers: what their functions give.
  The makers: what their functions give.
  The data declarations that programs are made of: what the reader makes of their text.
  The makers: data declarations, chosen by bits.
  The makers: types and substitutions off the tape.
  Types and substitutions: what replaces variables.
  Types: rebuilding with new leaves.
  Substitutions: composing; equality of types and of substitutions.
  Chapter 13: the plain laws, and the law that composition composes.
  Chapter 13: equality of substitutions; the laws SubstAssociates and SubstEqual.
  Functions of package slices over any elements.
  Ranges over a slice backward.
  Names, and which types are valid.
  Which types are valid.
  Contexts: their entries; looking names up.
  Valid types by the reference; small types.
  What the pure data of a parameter looks like.
  Chapter 3: what its laws make; the laws TypesValid and TypesEqual.
  The variables of types, by the program and by the reference.
  The reference's variables of types; they are the program's.
  Contexts: schemes, adding, hidden entries; what law 19 makes.
  Law 19 makes contexts; the law EnvironLooks.
  The maker of types over any list of data types.
  Correct types in declarations.
  Chapter 9: what its laws make.
  Chapter 9: declarations off the tape.
  Chapter 9: where a constructor is.
  Chapter 9: written type variables become quantified ones.
  Chapter 9: the scheme of a constructor.
  Chapter 9: the first error of a list of declarations, by the program.
  Chapter 9: the first error of a list of declarations, by the program: the fields.
  Law 9's first example.
  The laws DeclareFormed and DeclareCheck.
  The law DeclareFinds.
  Chapter 3: opening.
  Chapter 9: what a correct list of declarations is.
  The law DeclareSchemes.
-/
set_option linter.unusedVariables false
set_option linter.unusedSimpArgs false
namespace Go.Ab.Lw
/-- A type. -/
structure Ty where
  kind : Int
  name : List UInt8
  id : Int
  home : Int
  args : List Ty
  deriving Inhabited

noncomputable instance : DecidableEq Ty := fun _ _ => Classical.propDecidable _

mutual
def Ty.pv : Ty → PV
  | ⟨k, n, i, h, as⟩ => .agg [.int .i64 k, .str n, .int .i64 i, .int .i64 h, .lst (Ty.pvs as)]
def Ty.pvs : List Ty → List PV
  | [] => []
  | a :: r => a.pv :: Ty.pvs r
end

theorem Ty.pvs_map : ∀ l : List Ty, Ty.pvs l = l.map Ty.pv
  | [] => by simp [Ty.pvs]
  | a :: r => by simp [Ty.pvs, Ty.pvs_map r]

@[simp] theorem Ty.pv_eq (t : Ty) : t.pv = .agg [.int .i64 t.kind, .str t.name, .int .i64 t.id, .int .i64 t.home, .lst (t.args.map Ty.pv)] := by
  cases t; simp only [Ty.pv, Ty.pvs_map]

/-- A property of all types that are parts. -/
theorem Ty.rec1 {p : Ty → Prop} (h : ∀ t : Ty, (∀ x ∈ t.args, p x) → p t) : ∀ t, p t
  | ⟨k, n, i, hm, as⟩ => h _ (fun x _hx => Ty.rec1 h x)
termination_by t => SizeOf.sizeOf t
decreasing_by have := _root_.List.sizeOf_lt_of_mem _hx; simp at *; omega

/-- A constructor, and a data declaration. -/
structure Con where
  pos : Int
  name : List UInt8
  fields : List Ty
  deriving Inhabited
structure Dt where
  pos : Int
  name : List UInt8
  params : List (List UInt8)
  cons : List Con
  deriving Inhabited
def Con.pv (c : Con) : PV := .agg [.int .i64 c.pos, .str c.name, .lst (c.fields.map Ty.pv)]
def Dt.pv (d : Dt) : PV := .agg [.int .i64 d.pos, .str d.name, .lst (d.params.map .str), .lst (d.cons.map Con.pv)]
@[simp] theorem Con.pv_eq (c : Con) : c.pv = .agg [.int .i64 c.pos, .str c.name, .lst (c.fields.map Ty.pv)] := rfl
@[simp] theorem Dt.pv_eq (d : Dt) : d.pv = .agg [.int .i64 d.pos, .str d.name, .lst (d.params.map .str), .lst (d.cons.map Con.pv)] := rfl

/-- An assignment. -/
structure As where
  id : Int
  ty : Ty
  deriving Inhabited
def As.pv (a : As) : PV := .agg [.int .i64 a.id, .int .i64 a.ty.kind, .str a.ty.name, .int .i64 a.ty.id, .int .i64 a.ty.home, .lst (a.ty.args.map Ty.pv)]
@[simp] theorem As.pv_eq (a : As) : a.pv = .agg [.int .i64 a.id, .int .i64 a.ty.kind, .str a.ty.name, .int .i64 a.ty.id, .int .i64 a.ty.home, .lst (a.ty.args.map Ty.pv)] := rfl

@[simp] theorem Ty.eta (t : Ty) : Ty.mk t.kind t.name t.id t.home t.args = t := by cases t; rfl
@[simp] theorem As.eta (t : As) : As.mk t.id t.ty = t := rfl

abbrev vI (n : Int) : PV := .int .i64 n
def tp (L : List Int) (i : Int) : Sh := [some [.pv (.lst (L.map vI)), .pv (vI i)]]
@[simp] theorem tp_eq (L : List Int) (i : Int) : tp L i = [some [.pv (.lst (L.map vI)), .pv (vI i)]] := rfl

/-- Lists that any memory holds. -/
def Sm {α : Type} (l : List α) : Prop := l.length < 1099511627776

/-- Texts that any memory holds. -/
def SmS {α : Type} (l : List α) : Prop := l.length ≤ 9223372036854775807

@[simp] theorem natNeg (n : Nat) : ((n : Int) < 0) ↔ False := by simp
@[simp] theorem natNeg1 (n : Nat) : ((n : Int) + 1 < 0) ↔ False := by simp; omega

theorem dropC {α : Type} {l : List α} {i : Nat} {x : α} (h : l[i]? = some x) : l.drop i = x :: l.drop (i + 1) := by
  obtain ⟨hi, rfl⟩ := List.getElem?_eq_some_iff.1 h
  exact List.drop_eq_getElem_cons hi
theorem getO {α : Type} {l : List α} {i : Nat} (h : i < l.length) : ∃ x, l[i]? = some x := ⟨_, List.getElem?_eq_getElem h⟩
theorem memO {α : Type} {l : List α} {i : Nat} {x : α} (h : l[i]? = some x) : x ∈ l := List.mem_of_getElem? h
end Go.Ab.Lw
namespace Go.Ab.Lw
open Ev
set_option maxRecDepth 10000
set_option linter.unusedSimpArgs false
theorem c26 {n m : Int} (h1 : 1 ≤ m) (h2 : m < 4611686018427387904) : ∃ r, (orcL AP).p 26 [vI n, vI m] = some [vI r] ∧ 0 ≤ r ∧ r < m := by
  rw [callP_body (af := g26) rfl rfl (by decide)]
  have a1 := Int.tmod_lt_of_pos n (show 0 < m by omega)
  have a2 := Int.lt_tmod_of_pos n (show 0 < m by omega)
  have e1 : ¬ m < 1 := by omega
  have e2 : ¬ m = 0 := by omega
  by_cases h : n.tmod m < 0
  · refine ⟨n.tmod m + m, ?_, by omega, by omega⟩
    simp (disch := omega) [g26, e1, e2, h, wrap_id]
  · refine ⟨n.tmod m, ?_, by omega, by omega⟩
    simp [g26, e1, e2, h]

/-- A choice off the tape. -/
theorem c68 {L : List Int} (hL : Sm L) {i : Nat} (hi : i ≤ L.length) {n : Int} (h1 : 1 ≤ n) (h2 : n < 4611686018427387904) :
    ∃ (r : Int) (j : Nat), (orcL AP).i 68 [.sptr 0 0, .pv (vI n)] (tp L i) [] = some ([.pv (vI r)], tp L j, []) ∧ 0 ≤ r ∧ r < n ∧ j ≤ L.length := by
  unfold Sm at hL
  rw [callI_body (af := g68) rfl (by simp [g68])]
  by_cases h : i < L.length
  · obtain ⟨x, hx⟩ := getO h
    obtain ⟨r, e, e1, e2⟩ := c26 (n := x) h1 h2
    refine ⟨r, i + 1, ?_, e1, e2, h⟩
    have h' : ¬ L.length ≤ i := by omega
    simp (disch := omega) [-getElem?_pos, g68, h', wrap_id, hx, e]
  · have h' : L.length ≤ i := by omega
    refine ⟨0, i, ?_, by omega, by omega, hi⟩
    simp [g68, h']

theorem c62 {s : List UInt8} {l : List Ty} (h : Sm l) : (orcL AP).p 62 [.str s, .lst (l.map Ty.pv)] = some [(Ty.mk 4 s 0 0 l).pv] := by
  unfold Sm at h
  rw [callP_body (af := g62) rfl rfl (by decide)]
  cases l with
  | nil => simp [g62]
  | cons a r =>
    have : (r.length + 1) * 64 ≤ 140737488355328 := by simp at h; omega
    simp [g62, this]
theorem c34 : (orcL AP).p 34 [] = some [(Ty.mk 4 [73, 110, 116] 0 0 []).pv] := by
  rw [callP_body (af := g34) rfl rfl (by decide)]
  have h := c62 (s := [73, 110, 116]) (l := []) (by simp [Sm])
  simp at h
  simp [g34, h]
theorem c69 {a b : Ty} : (orcL AP).p 69 [a.pv, b.pv] = some [(Ty.mk 4 [45, 62] 0 0 [a, b]).pv] := by
  rw [callP_body (af := g69) rfl rfl (by decide)]
  have h := c62 (s := [45, 62]) (l := [a, b]) (by simp [Sm])
  simp at h
  simp [g69, h]
theorem c15 {l : List Int} : (orcL AP).p 15 [.lst (l.map vI)] = some [.bool (decide (l.length ≤ 60))] := by
  rw [callP_body (af := g15) rfl rfl (by decide)]
  simp [g15]
  omega

end Go.Ab.Lw
namespace Go.Ab.Lw
open Ev
set_option maxRecDepth 10000
set_option linter.unusedSimpArgs false
def tyBound (n : Int) : Ty := ⟨2, [], n, 0, []⟩
def tyInt : Ty := ⟨4, [73, 110, 116], 0, 0, []⟩

end Go.Ab.Lw
namespace Go.Ab.Lw
set_option maxRecDepth 100000
set_option linter.unusedVariables false
/-- All data declarations. -/
def allDatas : List Dt := [⟨0, [66, 111, 111, 108], [], [⟨12, [84, 114, 117, 101], []⟩, ⟨19, [70, 97, 108, 115, 101], []⟩]⟩,
  ⟨26, [79, 112, 116, 105, 111, 110], [[97]], [⟨42, [78, 111, 110, 101], []⟩, ⟨49, [83, 111, 109, 101], [⟨5, [97], 0, 0, []⟩]⟩]⟩,
  ⟨57, [76, 105, 115, 116], [[97]], [⟨71, [78, 105, 108], []⟩, ⟨77, [67, 111, 110, 115], [⟨5, [97], 0, 0, []⟩,⟨4, [76, 105, 115, 116], 0, 0, [⟨5, [97], 0, 0, []⟩]⟩]⟩]⟩,
  ⟨93, [80, 97, 105, 114], [[97], [98]], [⟨109, [80, 97, 105, 114], [⟨5, [97], 0, 0, []⟩,⟨5, [98], 0, 0, []⟩]⟩]⟩,
  ⟨119, [78, 97, 116], [], [⟨130, [90, 101, 114, 111], []⟩, ⟨137, [83, 117, 99, 99], [⟨4, [78, 97, 116], 0, 0, []⟩]⟩]⟩,
  ⟨147, [70, 117, 110], [[97], [98]], [⟨162, [70, 117, 110], [⟨4, [45, 62], 0, 0, [⟨5, [97], 0, 0, []⟩, ⟨5, [98], 0, 0, []⟩]⟩]⟩]⟩,
  ⟨176, [84, 119, 111], [[97]], [⟨189, [66, 111, 116, 104], [⟨5, [97], 0, 0, []⟩,⟨5, [97], 0, 0, []⟩]⟩, ⟨200, [79, 110, 101], [⟨4, [79, 112, 116, 105, 111, 110], 0, 0, [⟨5, [97], 0, 0, []⟩]⟩]⟩]⟩]

end Go.Ab.Lw
namespace Go.Ab.Lw
open Ev
set_option maxRecDepth 10000
set_option linter.unusedSimpArgs false
@[simp] theorem headSz_Dt {l : List Dt} : headSz 4 (l.map Dt.pv) = true := by cases l <;> simp
@[simp] theorem headSz_Ty {l : List Ty} : headSz 5 (l.map Ty.pv) = true := by cases l <;> simp
@[simp] theorem headSz_As {l : List As} : headSz 6 (l.map As.pv) = true := by cases l <;> simp

end Go.Ab.Lw
namespace Go.Ab.Lw
open Ev
set_option maxRecDepth 10000
set_option linter.unusedSimpArgs false
/-- A made type over leaves. -/
inductive Made (lv : Ty → Prop) : Ty → Prop
  | leaf {t : Ty} : lv t → Made lv t
  | int : Made lv tyInt
  | con {d : Dt} {args : List Ty} : d ∈ allDatas → args.length = d.params.length → (∀ x ∈ args, Made lv x) → Made lv ⟨4, d.name, 0, 0, args⟩
  | arrow {a b : Ty} : Made lv a → Made lv b → Made lv ⟨4, [45, 62], 0, 0, [a, b]⟩

/-- A type in its cells. -/
def Ty.av (t : Ty) : AV := .agg [.pv (vI t.kind), .pv (.str t.name), .pv (vI t.id), .pv (vI t.home), .pv (.lst (t.args.map Ty.pv))]
@[simp] theorem Ty.av_eq (t : Ty) : t.av = .agg [.pv (vI t.kind), .pv (.str t.name), .pv (vI t.id), .pv (vI t.home), .pv (.lst (t.args.map Ty.pv))] := rfl

theorem natI {r : Int} {n : Nat} (h0 : 0 ≤ r) (h1 : r < n) : ∃ m : Nat, r = m ∧ m < n := ⟨r.toNat, by omega, by omega⟩

end Go.Ab.Lw
namespace Go.Ab.Lw
open Ev
set_option maxRecDepth 10000
set_option linter.unusedSimpArgs false
/-- No list within is long. -/
inductive Ty.Ok : Ty → Prop
  | mk {t : Ty} : Sm t.args → (∀ x ∈ t.args, Ty.Ok x) → Ty.Ok t
theorem Ty.Ok.sm {t : Ty} (h : t.Ok) : Sm t.args := by cases h; assumption
theorem Ty.Ok.kid {t : Ty} (h : t.Ok) : ∀ x ∈ t.args, x.Ok := by cases h; assumption
/-- Variables have no parts. -/
inductive Ty.Wf : Ty → Prop
  | mk {t : Ty} : (t.kind = 1 → t.args = []) → (∀ x ∈ t.args, Ty.Wf x) → Ty.Wf t
theorem Ty.Wf.kid {t : Ty} (h : t.Wf) : ∀ x ∈ t.args, x.Wf := by cases h; assumption

/-- The first assignment of a variable. -/
def fnd : List As → Int → Option Ty
  | [], _ => none
  | a :: r, id => if a.id = id then some a.ty else fnd r id

mutual
def Ty.sub (s : List As) : Ty → Ty
  | ⟨k, n, i, h, as⟩ => if k = 1 then (fnd s i).getD ⟨k, n, i, h, as⟩ else ⟨k, n, i, h, Ty.subs s as⟩
def Ty.subs (s : List As) : List Ty → List Ty
  | [] => []
  | a :: r => a.sub s :: Ty.subs s r
end
theorem Ty.subs_map (s : List As) : ∀ l : List Ty, Ty.subs s l = l.map (Ty.sub s)
  | [] => by simp [Ty.subs]
  | a :: r => by simp [Ty.subs, Ty.subs_map s r]
theorem Ty.sub_eq (s : List As) (t : Ty) : t.sub s = if t.kind = 1 then (fnd s t.id).getD t else ⟨t.kind, t.name, t.id, t.home, t.args.map (Ty.sub s)⟩ := by
  cases t; simp only [Ty.sub, Ty.subs_map]

end Go.Ab.Lw
namespace Go.Ab.Lw
open Ev
set_option maxRecDepth 10000
set_option linter.unusedSimpArgs false
/-- Shared memory that holds plain data alone. -/
def Quiet (sh : Sh) : Prop := ∀ cs, some cs ∈ sh → ∀ v ∈ cs, ∃ p, v = AV.pv p

theorem normL_pv {old ts : Toks} : ∀ {cs : List AV}, (∀ v ∈ cs, ∃ p, v = AV.pv p) → normL old ts cs = (cs, old, ts)
  | [], _ => rfl
  | v :: r, h => by
    obtain ⟨p, rfl⟩ := h v (by simp)
    simp only [normL_cons, normV_pv, normL_pv (cs := r) (fun v hv => h v (by simp [hv]))]
theorem Quiet.norm : ∀ {sh : Sh}, Quiet sh → ∀ old ts, normS old ts sh = (sh, old, ts)
  | [], _, _, _ => rfl
  | none :: sh, h, old, ts => by
    simp only [normS_none, Quiet.norm (sh := sh) (fun cs hc => h cs (by simp [hc]))]
  | some cs :: sh, h, old, ts => by
    simp only [normS_some, normL_pv (h cs (by simp)), Quiet.norm (sh := sh) (fun cs hc => h cs (by simp [hc]))]
theorem shiftL_pv {n : Nat} : ∀ {cs : List AV}, (∀ v ∈ cs, ∃ p, v = AV.pv p) → cs.map (shiftV n) = cs
  | [], _ => rfl
  | v :: r, h => by
    obtain ⟨p, rfl⟩ := h v (by simp)
    simp only [List.map_cons, shiftV_pv, shiftL_pv (cs := r) (fun v hv => h v (by simp [hv]))]
theorem Quiet.shift : ∀ {sh : Sh}, Quiet sh → ∀ n, shiftS n sh = sh
  | [], _, _ => rfl
  | none :: sh, h, n => by
    simp only [shiftS_none, Quiet.shift (sh := sh) (fun cs hc => h cs (by simp [hc]))]
  | some cs :: sh, h, n => by
    simp only [shiftS_some, shiftL_pv (h cs (by simp)), Quiet.shift (sh := sh) (fun cs hc => h cs (by simp [hc]))]
theorem Quiet.one {cs : List AV} (h : ∀ v ∈ cs, ∃ p, v = AV.pv p) : Quiet [some cs] := by
  intro cs' hc
  simp at hc
  subst hc
  exact h

@[simp] theorem getEnd {α : Type} {l : List α} {x : α} : (l ++ [x])[l.length]? = some x := by simp
@[simp] theorem setEnd {α : Type} {l : List α} {x y : α} : (l ++ [x]).set l.length y = l ++ [y] := by simp [List.set_append]
@[simp] theorem takeEnd {α : Type} {l : List α} {x : α} : (l ++ [x]).take l.length = l := by simp

/-! ### An array of types under way -/

def Ty.cl (t : Ty) : List AV := [.pv (vI t.kind), .pv (.str t.name), .pv (vI t.id), .pv (vI t.home), .pv (.lst (t.args.map Ty.pv))]
def zcl : List AV := [.pv (vI 0), .pv (.str []), .pv (vI 0), .pv (vI 0), .pv (.lst [])]
def arrC (d : List Ty) (m : Nat) : List AV := d.flatMap Ty.cl ++ (List.replicate m zcl).flatten
theorem flat_len {d : List Ty} : (d.flatMap Ty.cl).length = d.length * 5 := by
  induction d with
  | nil => rfl
  | cons a r ih => simp [ih, Ty.cl, Nat.add_mul]
theorem rep_len {m : Nat} : ((List.replicate m zcl).flatten).length = m * 5 := by
  simp [zcl]
theorem arrC_len {d : List Ty} {m : Nat} : (arrC d m).length = (d.length + m) * 5 := by
  simp only [arrC, List.length_append, flat_len, rep_len, Nat.add_mul]
theorem arrC_set {d : List Ty} {m : Nat} {t : Ty} : setRange (arrC d (m + 1)) (d.length * 5) t.cl = arrC (d ++ [t]) m := by
  have e : arrC d (m + 1) = d.flatMap Ty.cl ++ (zcl ++ (List.replicate m zcl).flatten) := by simp [arrC, List.replicate_succ]
  have hl : (d.flatMap Ty.cl).length = d.length * 5 := flat_len
  rw [setRange_eq, e, ← hl, List.take_left, List.drop_append, List.drop_eq_nil_of_le (by omega)]
  have : (d.flatMap Ty.cl).length + t.cl.length - (d.flatMap Ty.cl).length = 5 := by simp [Ty.cl]
  rw [this]
  simp [arrC, zcl]
theorem arrC_pv {d : List Ty} {m : Nat} : ∀ v ∈ arrC d m, ∃ p, v = AV.pv p := by
  intro v hv
  simp only [arrC, List.mem_append, List.mem_flatMap, List.mem_flatten, List.mem_replicate] at hv
  rcases hv with ⟨t, _, hv⟩ | ⟨l, ⟨_, rfl⟩, hv⟩
  · simp [Ty.cl] at hv
    rcases hv with rfl | rfl | rfl | rfl | rfl <;> exact ⟨_, rfl⟩
  · simp [zcl] at hv
    rcases hv with rfl | rfl | rfl | rfl | rfl <;> exact ⟨_, rfl⟩
theorem mapB_pvs {l : List AV} (h : ∀ v ∈ l, ∃ p, v = .pv p) : mapB l = false := by
  cases l with
  | nil => rfl
  | cons c r => obtain ⟨p, rfl⟩ := h c (by simp); rfl
@[simp] theorem arrC_mapB {d : List Ty} {m : Nat} : mapB (arrC d m) = false := mapB_pvs arrC_pv

theorem frzL_app {a b : List AV} {x y : List PV} (ha : frzL a = some x) (hb : frzL b = some y) : frzL (a ++ b) = some (x ++ y) := by
  induction a generalizing x with
  | nil => simp at ha; subst ha; exact hb
  | cons v r ih =>
    simp only [frzL_cons] at ha
    simp only [List.cons_append, frzL_cons]
    cases h1 : frz0 v with
    | none => rw [h1] at ha; cases ha
    | some p =>
      cases h2 : frzL r with
      | none => rw [h1, h2] at ha; cases ha
      | some q =>
        rw [h1, h2] at ha
        simp at ha
        subst ha
        rw [ih h2]; rfl
theorem arrC_frz : ∀ {d : List Ty}, ((frzL (arrC d 0)).bind (arrEls 5 true d.length)).map PV.lst = some (.lst (d.map Ty.pv)) := by
  have key : ∀ d : List Ty, ∃ ps, frzL (d.flatMap Ty.cl) = some ps ∧ (chunk 5 d.length ps).map PV.agg = d.map Ty.pv := by
    intro d
    induction d with
    | nil => exact ⟨[], rfl, rfl⟩
    | cons t r ih =>
      obtain ⟨ps, h1, h2⟩ := ih
      refine ⟨[vI t.kind, .str t.name, vI t.id, vI t.home, .lst (t.args.map Ty.pv)] ++ ps, ?_, ?_⟩
      · rw [List.flatMap_cons]
        exact frzL_app (by simp [Ty.cl]) h1
      · simp only [List.length_cons, chunk]
        simp [h2]
  intro d
  obtain ⟨ps, h1, h2⟩ := key d
  have : arrC d 0 = d.flatMap Ty.cl := by simp [arrC]
  rw [this, h1]
  simp only [Option.bind_some, arrEls, if_true, Option.map_some, h2]

/-! ### Rebuilding -/

end Go.Ab.Lw
namespace Go.Ab.Lw
open Ev
set_option maxRecDepth 10000
set_option linter.unusedSimpArgs false
noncomputable instance : DecidableEq As := fun _ _ => Classical.propDecidable _

/-! ### Equal -/
end Go.Ab.Lw
namespace Go.Ab.Lw
open Ev
set_option maxRecDepth 10000
set_option linter.unusedSimpArgs false
theorem params_few : ∀ d ∈ allDatas, d.params.length ≤ 8 := by decide +kernel

theorem Made.ok {lv : Ty → Prop} (h : ∀ t, lv t → t.args = []) {t : Ty} (m : Made lv t) : t.Ok := by
  induction m with
  | leaf hl => exact ⟨by rw [h _ hl]; simp [Sm], by rw [h _ hl]; simp⟩
  | int => exact ⟨by simp [tyInt, Sm], by simp [tyInt]⟩
  | con hd hl _ ih => exact ⟨by have := params_few _ hd; simp only [Sm]; omega, ih⟩
  | arrow _ _ ha hb => exact ⟨by simp [Sm], by intro x hx; simp at hx; rcases hx with rfl | rfl <;> assumption⟩
theorem Made.wf {lv : Ty → Prop} (h : ∀ t, lv t → t.args = []) {t : Ty} (m : Made lv t) : t.Wf := by
  induction m with
  | leaf hl => exact ⟨fun _ => h _ hl, by rw [h _ hl]; simp⟩
  | int => exact ⟨by simp [tyInt], by simp [tyInt]⟩
  | con hd hl _ ih => exact ⟨by simp, ih⟩
  | arrow _ _ ha hb => exact ⟨by simp, by intro x hx; simp at hx; rcases hx with rfl | rfl <;> assumption⟩
theorem fnd_mem : ∀ {s : List As} {id : Int} {t : Ty}, fnd s id = some t → ∃ a ∈ s, a.ty = t
  | a :: r, id, t, h => by
    simp only [fnd] at h
    split at h
    · cases h; exact ⟨a, by simp, rfl⟩
    · obtain ⟨b, hb, e⟩ := fnd_mem h; exact ⟨b, by simp [hb], e⟩

theorem sub_ok {s : List As} (hs : ∀ a ∈ s, a.ty.Ok) {t : Ty} (h : t.Ok) : (t.sub s).Ok := by
  revert h
  refine Ty.rec1 (p := fun t => t.Ok → (t.sub s).Ok) ?_ t
  intro t ih h
  rw [Ty.sub_eq]
  split
  · cases hf : fnd s t.id with
    | none => simpa using h
    | some a => obtain ⟨b, hb, rfl⟩ := fnd_mem hf; simpa using hs b hb
  · refine ⟨by have := h.sm; unfold Sm at *; simpa using this, ?_⟩
    intro x hx
    simp at hx
    obtain ⟨y, hy, rfl⟩ := hx
    exact ih y hy (h.kid y hy)
end Go.Ab.Lw
namespace Go.Ab.Lw
open Ev
set_option maxRecDepth 10000
set_option linter.unusedSimpArgs false
/-- The first place where something holds. -/
def idxB {α : Type} (p : α → Bool) : List α → Option Nat
  | [] => none
  | a :: r => if p a = true then some 0 else (idxB p r).map (· + 1)
theorem idxB_none {α : Type} {p : α → Bool} : ∀ {l : List α}, idxB p l = none ↔ ∀ x ∈ l, p x = false
  | [] => by simp [idxB]
  | a :: r => by
    simp only [idxB]
    by_cases h : p a = true
    · simp [h]
    · have h : p a = false := by simpa using h
      simp [h, idxB_none]
end Go.Ab.Lw
namespace Go.Ab.Lw
open Ev
set_option maxRecDepth 10000
set_option linter.unusedSimpArgs false
/-- Elements of that many cells. -/
structure El {α : Type} (f : α → PV) (sz : Nat) (ag : Bool) : Prop where
  len : ∀ x, (cellsP (f x)).length = sz
  of : ∀ x, ofCellsP ag sz (cellsP (f x)) = some (.pv (f x))

theorem El.head {α : Type} {f : α → PV} {sz : Nat} {ag : Bool} (h : El f sz ag) (l : List α) : headSz sz (l.map f) = true := by
  cases l with
  | nil => rfl
  | cons x r => simp [headSz, h.len x]

theorem el_str : El PV.str 1 false := ⟨fun _ => rfl, fun _ => rfl⟩
theorem el_ty : El Ty.pv 5 true := ⟨fun x => by simp, fun x => by simp⟩
def idxI (o : Option Nat) : Int := match o with | some k => k | none => -1
theorem idxB_any {α : Type} {p : α → Bool} {s : List α} : decide (0 ≤ idxI (idxB p s)) = s.any p := by
  cases hi : idxB p s with
  | none =>
    have : s.any p = false := by rw [List.any_eq_false]; intro x hx; rw [idxB_none.1 hi x hx]; simp
    rw [this]; rfl
  | some k =>
    have : s.any p = true := by
      cases e : s.any p with
      | true => rfl
      | false => rw [List.any_eq_false] at e; have := idxB_none.2 (fun x hx => by simpa using e x hx); rw [hi] at this; cases this
    rw [this]; simp [idxI]

end Go.Ab.Lw
namespace Go.Ab.Lw
open Ev
set_option maxRecDepth 10000
set_option linter.unusedSimpArgs false
/-- Behind a round. -/
def backGo (f : St → Option (AExit × St)) (live : List Nat) (pi px sz : Nat) (ag : Bool) (env : List (Nat × AV)) (r : List (PV × Nat)) : Option (AExit × St) → Option (AExit × St)
  | some (.normal, st') => backN f live pi px sz ag env r st'
  | some (e, st') => some (e, { st' with env := env })
  | none => none
@[simp] theorem backGo_normal {f : St → Option (AExit × St)} {live : List Nat} {pi px sz : Nat} {ag : Bool} {env : List (Nat × AV)} {r : List (PV × Nat)} {st : St} : backGo f live pi px sz ag env r (some (.normal, st)) = backN f live pi px sz ag env r st := rfl
@[simp] theorem backGo_ret {f : St → Option (AExit × St)} {live : List Nat} {pi px sz : Nat} {ag : Bool} {env e : List (Nat × AV)} {r : List (PV × Nat)} {mem : List (Nat × List AV)} {sh : Sh} {toks : Toks} : backGo f live pi px sz ag env r (some (.ret, ⟨e, mem, sh, toks⟩)) = some (.ret, ⟨env, mem, sh, toks⟩) := rfl
@[simp] theorem backGo_exit {f : St → Option (AExit × St)} {live : List Nat} {pi px sz : Nat} {ag : Bool} {env e : List (Nat × AV)} {r : List (PV × Nat)} {mem : List (Nat × List AV)} {sh : Sh} {toks : Toks} {id : Nat} : backGo f live pi px sz ag env r (some (.exit id, ⟨e, mem, sh, toks⟩)) = some (.exit id, ⟨env, mem, sh, toks⟩) := rfl
@[simp] theorem backGo_ite {f : St → Option (AExit × St)} {live : List Nat} {pi px sz : Nat} {ag : Bool} {env : List (Nat × AV)} {r : List (PV × Nat)} {c : Prop} [Decidable c] {x y : Option (AExit × St)} : backGo f live pi px sz ag env r (if c then x else y) = if c then backGo f live pi px sz ag env r x else backGo f live pi px sz ag env r y := by split <;> rfl

@[simp] theorem backN_nil {f : St → Option (AExit × St)} {live : List Nat} {pi px sz : Nat} {ag : Bool} {env e : List (Nat × AV)} {mem : List (Nat × List AV)} {sh : Sh} {toks : Toks} : backN f live pi px sz ag env [] ⟨e, mem, sh, toks⟩ = some (.normal, ⟨env, mem, sh, toks⟩) := rfl
theorem backN_cons {α : Type} {g : α → PV} {f : St → Option (AExit × St)} {live : List Nat} {pi px sz : Nat} {ag : Bool} (he : El g sz ag) {env e : List (Nat × AV)} {mem : List (Nat × List AV)} {sh : Sh} {toks : Toks} {x : α} {i : Nat} {r : List (PV × Nat)} :
    backN f live pi px sz ag env ((g x, i) :: r) ⟨e, mem, sh, toks⟩ = backGo f live pi px sz ag env r (f (norm (restrict live ⟨putL (putL env pi (.pv (.int .i64 i))) px (.pv (g x)), mem, sh, toks⟩))) := by
  have h : elAV sz ag (g x) = some (.pv (g x)) := by simp [elAV, he.len, he.of]
  simp only [backN, h]
  generalize f (norm (restrict live ⟨putL (putL env pi (.pv (.int .i64 i))) px (.pv (g x)), mem, sh, toks⟩)) = q
  cases q with
  | none => rfl
  | some q => obtain ⟨e, s⟩ := q; cases e <;> rfl

/-- Two parts of a round. -/
def andK (g : St → Option (AExit × St)) : Option (AExit × St) → Option (AExit × St)
  | some (.normal, st') => g st'
  | _ => none
theorem andThen_eq {f g : St → Option (AExit × St)} {st : St} : andThen f g st = andK g (f st) := by
  unfold andThen andK
  cases f st with
  | none => rfl
  | some q => obtain ⟨e, s⟩ := q; cases e <;> rfl
@[simp] theorem andK_normal {g : St → Option (AExit × St)} {st : St} : andK g (some (.normal, st)) = g st := rfl

theorem backWith_eq {f : St → Option (AExit × St)} {gb s pi px sz : Nat} {ag : Bool} {live : List Nat} {env : List (Nat × AV)} {mem : List (Nat × List AV)} {sh : Sh} {toks : Toks} {l : List PV} (h : sh[s]? = some (some [.pv (.lst l)])) (hl : l.length < 4611686018427387904) :
    backWith f (some (.fn gb [.sptr s 0])) gb pi px sz ag live ⟨env, mem, sh, toks⟩ = backN f live pi px sz ag (backEnv live env) l.zipIdx.reverse ⟨env, mem, kill sh [s], toks⟩ := by
  unfold backWith
  simp only [if_true, h, hl]

theorem zipRev {α : Type} {l : List α} {k : Nat} {x : α} (h : l[k]? = some x) : (l.take (k + 1)).zipIdx.reverse = (x, k) :: (l.take k).zipIdx.reverse := by
  have hk := (List.getElem?_eq_some_iff.1 h).1
  rw [List.take_add_one, h]
  simp [List.zipIdx_append]
  omega

@[simp] theorem cl_backR {c : AOpd} {gb pi px sz : Nat} {ag : Bool} {live : List Nat} {x y : ACode} {env : List (Nat × AV)} {mem : List (Nat × List AV)} {sh : Sh} {toks : Toks} :
    cl AP (.back c gb pi px sz ag live x y) ⟨env, mem, sh, toks⟩ = backWith (andThen (cl AP x) (cl AP y)) (evOpd env c) gb pi px sz ag live ⟨env, mem, sh, toks⟩ := cl_back

end Go.Ab.Lw
namespace Go.Ab.Lw
open Ev
set_option maxRecDepth 10000
set_option linter.unusedSimpArgs false
abbrev vC (c : Int) : PV := .int .u8 c
def isLow (c : Int) : Bool := decide (97 ≤ c) && decide (c ≤ 122)
def isUp (c : Int) : Bool := decide (65 ≤ c) && decide (c ≤ 90)
def isDig (c : Int) : Bool := decide (48 ≤ c) && decide (c ≤ 57)
def isInn (c : Int) : Bool := isLow c || isUp c || isDig c || (c == 95)
def innAll (s : List UInt8) : Bool := s.all fun b => isInn b.toNat
def kws : List (List UInt8) := [[100, 97, 116, 97], [108, 101, 116], [114, 101, 99], [105, 110], [99, 97, 115, 101], [111, 102], [101, 110, 100]]
def isKw (s : List UInt8) : Bool := kws.contains s
/-- A name whose first letter lies between two. -/
def nameB (s : List UInt8) (lo hi : Int) : Bool := match s with
  | [] => false
  | b :: r => decide (lo ≤ b.toNat) && decide ((b.toNat : Int) ≤ hi) && decide ((b :: r).length ≤ 12) && innAll (b :: r) && !isKw (b :: r)

theorem c109 {c : Int} : (orcL AP).p 109 [vC c] = some [.bool (isLow c)] := by
  rw [callP_body (af := g109) rfl rfl (by decide)]
  by_cases h : 97 ≤ c <;> simp [g109, isLow, h]
theorem c111 {c : Int} : (orcL AP).p 111 [vC c] = some [.bool (isUp c)] := by
  rw [callP_body (af := g111) rfl rfl (by decide)]
  by_cases h : 65 ≤ c <;> simp [g111, isUp, h]
theorem c124 {c : Int} : (orcL AP).p 124 [vC c] = some [.bool (isDig c)] := by
  rw [callP_body (af := g124) rfl rfl (by decide)]
  by_cases h : 48 ≤ c <;> simp [g124, isDig, h]
theorem c117 {c : Int} : (orcL AP).p 117 [vC c] = some [.bool (isInn c)] := by
  have h1 := c109 (c := c)
  have h2 := c111 (c := c)
  have h3 := c124 (c := c)
  rw [callP_body (af := g117) rfl rfl (by decide)]
  cases e1 : isLow c
  · cases e2 : isUp c
    · cases e3 : isDig c
      · simp [e1, e2, e3] at h1 h2 h3
        simp [g117, h1, h2, h3, isInn, e1, e2, e3]
      · simp [e1, e2, e3] at h1 h2 h3
        simp [g117, h1, h2, h3, isInn, e1, e2, e3]
    · simp [e1, e2] at h1 h2
      simp [g117, h1, h2, isInn, e1, e2]
  · simp [e1] at h1
    simp [g117, h1, isInn, e1]

theorem innAll_cons {b : UInt8} {r : List UInt8} : innAll (b :: r) = (isInn b.toNat && innAll r) := rfl
theorem innAll_nil : innAll [] = true := rfl

theorem L108 {s : List UInt8} (hS : SmS s) : ∀ (n i : Nat), s.length - i = n → i ≤ s.length →
    cl AP g108L0 ⟨[(0, .pv (.str s)), (3, .pv (vI i))], [], [], []⟩ =
      if innAll (s.drop i) = true then some (.exit 0, ⟨[(0, .pv (.str s)), (3, .pv (vI s.length)), (7, .pv (.bool false))], [], [], []⟩)
      else some (.ret, ⟨[(2, .pv (.bool false))], [], [], []⟩)
  | 0, i, hn, hi => by
    have : i = s.length := by omega
    subst this
    rw [g108L0_eq]
    simp [g108B0, innAll_nil]
  | n + 1, i, hn, hi => by
    have hi : i < s.length := by omega
    obtain ⟨x, hx⟩ := getO hi
    unfold SmS at hS
    have ih := L108 hS n (i + 1) (by omega) (by omega)
    simp at ih
    have hc := c117 (c := x.toNat)
    rw [g108L0_eq, dropC hx, innAll_cons]
    cases e : isInn x.toNat
    · rw [e] at hc
      simp (disch := omega) [-getElem?_pos, g108B0, hx, hi, hc, e]
    · rw [e] at hc
      simp (disch := omega) [-getElem?_pos, g108B0, hx, hi, hc, e, wrap_id, ih]
theorem c108 {s : List UInt8} (hS : SmS s) : (orcL AP).p 108 [.str s] = some [.bool (innAll s && !(s == []))] := by
  have h := L108 hS _ 0 rfl (by omega)
  simp at h
  rw [callP_body (af := g108) rfl rfl (by decide)]
  cases e : innAll s <;> simp [e] at h <;> simp [g108, h]
theorem c110 {s : List UInt8} : (orcL AP).p 110 [.str s] = some [.bool (isKw s)] := by
  rw [callP_body (af := g110) rfl rfl (by decide)]
  by_cases h1 : s = [100, 97, 116, 97]
  · subst h1; simp (disch := omega) [-getElem?_pos, g110, g110L0_eq, g110B0, wrap_id, isKw, kws]
  · by_cases h2 : s = [108, 101, 116]
    · subst h2; simp (disch := omega) [-getElem?_pos, g110, g110L0_eq, g110B0, wrap_id, isKw, kws]
    · by_cases h3 : s = [114, 101, 99]
      · subst h3; simp (disch := omega) [-getElem?_pos, g110, g110L0_eq, g110B0, wrap_id, isKw, kws]
      · by_cases h4 : s = [105, 110]
        · subst h4; simp (disch := omega) [-getElem?_pos, g110, g110L0_eq, g110B0, wrap_id, isKw, kws]
        · by_cases h5 : s = [99, 97, 115, 101]
          · subst h5; simp (disch := omega) [-getElem?_pos, g110, g110L0_eq, g110B0, wrap_id, isKw, kws]
          · by_cases h6 : s = [111, 102]
            · subst h6; simp (disch := omega) [-getElem?_pos, g110, g110L0_eq, g110B0, wrap_id, isKw, kws]
            · by_cases h7 : s = [101, 110, 100]
              · subst h7; simp (disch := omega) [-getElem?_pos, g110, g110L0_eq, g110B0, wrap_id, isKw, kws]
              · have f1 := Ne.symm h1
                have f2 := Ne.symm h2
                have f3 := Ne.symm h3
                have f4 := Ne.symm h4
                have f5 := Ne.symm h5
                have f6 := Ne.symm h6
                have f7 := Ne.symm h7
                simp (disch := omega) [-getElem?_pos, g110, g110L0_eq, g110B0, wrap_id, isKw, kws, h1, h2, h3, h4, h5, h6, h7, f1, f2, f3, f4, f5, f6, f7]

theorem c77 {s : List UInt8} (hS : SmS s) : (orcL AP).p 77 [.str s] = some [.bool (nameB s 97 122)] := by
  have h1 := c108 hS
  have h3 := c110 (s := s)
  rw [callP_body (af := g77) rfl rfl (by decide)]
  cases s with
  | nil => simp [innAll_nil] at h1; simp [g77, h1, nameB]
  | cons b r =>
    have h2 := c109 (c := b.toNat)
    cases e1 : innAll (b :: r)
    · simp [e1] at h1; simp [g77, h1, nameB, e1]
    · simp [e1] at h1
      cases e2 : isLow b.toNat
      · rw [e2] at h2
        have : (decide ((97 : Int) ≤ b.toNat) && decide ((b.toNat : Int) ≤ 122)) = false := e2
        simp [g77, h1, h2, nameB, this]
      · rw [e2] at h2
        have : (decide ((97 : Int) ≤ b.toNat) && decide ((b.toNat : Int) ≤ 122)) = true := e2
        by_cases e3 : (b :: r).length ≤ 12
        · have e3' : (r.length : Int) + 1 ≤ 12 := by simp at e3; omega
          have e3'' : r.length + 1 ≤ 12 := by simpa using e3
          cases e4 : isKw (b :: r) <;> simp [e4] at h3 <;> simp [g77, h1, h2, h3, e3', e3'', e4, nameB, this, e1]
        · have e3' : ¬ ((r.length : Int) + 1 ≤ 12) := by simp at e3; omega
          have e3'' : ¬ (r.length + 1 ≤ 12) := by simpa using e3
          simp [g77, h1, h2, e3', e3'', nameB, this, e1]
theorem kw_low {b : UInt8} {r : List UInt8} (h : isKw (b :: r) = true) : isUp b.toNat = false := by
  simp only [isKw, kws, List.contains_iff_mem, List.mem_cons, List.not_mem_nil, or_false, List.cons.injEq] at h
  rcases h with ⟨rfl, _⟩ | ⟨rfl, _⟩ | ⟨rfl, _⟩ | ⟨rfl, _⟩ | ⟨rfl, _⟩ | ⟨rfl, _⟩ | ⟨rfl, _⟩ <;> rfl
theorem c78 {s : List UInt8} (hS : SmS s) : (orcL AP).p 78 [.str s] = some [.bool (nameB s 65 90)] := by
  have h1 := c108 hS
  rw [callP_body (af := g78) rfl rfl (by decide)]
  cases s with
  | nil => simp [innAll_nil] at h1; simp [g78, h1, nameB]
  | cons b r =>
    have h2 := c111 (c := b.toNat)
    cases e1 : innAll (b :: r)
    · simp [e1] at h1; simp [g78, h1, nameB, e1]
    · simp [e1] at h1
      cases e2 : isUp b.toNat
      · rw [e2] at h2
        have : (decide ((65 : Int) ≤ b.toNat) && decide ((b.toNat : Int) ≤ 90)) = false := e2
        simp [g78, h1, h2, nameB, this]
      · rw [e2] at h2
        have : (decide ((65 : Int) ≤ b.toNat) && decide ((b.toNat : Int) ≤ 90)) = true := e2
        have e4 : isKw (b :: r) = false := by
          cases e : isKw (b :: r)
          · rfl
          · rw [kw_low e] at e2; cases e2
        by_cases e3 : (b :: r).length ≤ 12
        · have e3' : (r.length : Int) + 1 ≤ 12 := by simp at e3; omega
          have e3'' : r.length + 1 ≤ 12 := by simpa using e3
          simp [g78, h1, h2, e3', e3'', e4, nameB, this, e1]
        · have e3' : ¬ ((r.length : Int) + 1 ≤ 12) := by simp at e3; omega
          have e3'' : ¬ (r.length + 1 ≤ 12) := by simpa using e3
          simp [g78, h1, h2, e3', e3'', nameB, this, e1]

/-! ### The program's names -/
end Go.Ab.Lw
namespace Go.Ab.Lw
open Ev
set_option maxRecDepth 10000
set_option linter.unusedSimpArgs false
def conB (s : List UInt8) (n : Nat) : Bool := if s = [45, 62] then decide (n = 2) else if s = [73, 110, 116] then decide (n = 0) else nameB s 65 90 && decide (n ≤ 4)

mutual
def validT : Ty → Bool
  | ⟨k, n, i, h, as⟩ =>
    if k = 1 ∨ k = 2 then decide (n = []) && decide (as = []) && decide (0 ≤ i) && decide (i ≤ 1000000) && (h == 0)
    else if k = 3 then decide (n = []) && decide (as = []) && decide (0 ≤ i) && decide (i ≤ 1000000) && decide (-1 ≤ h) && decide (h ≤ 1000000)
    else if k = 5 then decide (as = []) && (i == 0) && (h == 0) && nameB n 97 122
    else if k = 4 then (i == 0) && (h == 0) && conB n as.length && validL as
    else false
def validL : List Ty → Bool
  | [] => true
  | a :: r => validT a && validL r
end
theorem validL_all : ∀ l : List Ty, validL l = l.all validT
  | [] => by simp [validL]
  | a :: r => by simp [validL, validL_all r]
theorem validT_eq (t : Ty) : validT t = 
    if t.kind = 1 ∨ t.kind = 2 then decide (t.name = []) && decide (t.args = []) && decide (0 ≤ t.id) && decide (t.id ≤ 1000000) && (t.home == 0)
    else if t.kind = 3 then decide (t.name = []) && decide (t.args = []) && decide (0 ≤ t.id) && decide (t.id ≤ 1000000) && decide (-1 ≤ t.home) && decide (t.home ≤ 1000000)
    else if t.kind = 5 then decide (t.args = []) && (t.id == 0) && (t.home == 0) && nameB t.name 97 122
    else if t.kind = 4 then (t.id == 0) && (t.home == 0) && conB t.name t.args.length && t.args.all validT
    else false := by
  cases t; simp only [validT, validL_all]

/-! ### The first type where a function says so -/
/-- Names within are short, too. -/
inductive Ty.Nm : Ty → Prop
  | mk {t : Ty} : SmS t.name → (∀ x ∈ t.args, Ty.Nm x) → Ty.Nm t
theorem Ty.Nm.sm {t : Ty} (h : t.Nm) : SmS t.name := by cases h; assumption
theorem Ty.Nm.kid {t : Ty} (h : t.Nm) : ∀ x ∈ t.args, x.Nm := by cases h; assumption

end Go.Ab.Lw
namespace Go.Ab.Lw
open Ev
set_option maxRecDepth 10000
set_option linter.unusedSimpArgs false
/-- A scheme: its number of quantified variables, and its type. -/
abbrev Sc := As
/-- An entry of a context. -/
structure En where
  name : List UInt8
  sc : Sc
  deriving Inhabited
def En.pv (a : En) : PV := .agg [.str a.name, .int .i64 a.sc.id, .int .i64 a.sc.ty.kind, .str a.sc.ty.name, .int .i64 a.sc.ty.id, .int .i64 a.sc.ty.home, .lst (a.sc.ty.args.map Ty.pv)]
@[simp] theorem En.pv_eq (a : En) : a.pv = .agg [.str a.name, .int .i64 a.sc.id, .int .i64 a.sc.ty.kind, .str a.sc.ty.name, .int .i64 a.sc.ty.id, .int .i64 a.sc.ty.home, .lst (a.sc.ty.args.map Ty.pv)] := rfl
@[simp] theorem En.eta (t : En) : En.mk t.name t.sc = t := rfl
theorem el_en : El En.pv 7 true := ⟨fun x => by simp, fun x => by simp⟩
noncomputable instance : DecidableEq En := fun _ _ => Classical.propDecidable _
@[simp] theorem headSz_En {l : List En} : headSz 7 (l.map En.pv) = true := el_en.head l

def scZero : Sc := ⟨0, ⟨0, [], 0, 0, []⟩⟩

def rLk (o : Option Sc) : List PV := [(o.getD scZero).pv, .bool o.isSome]

theorem normS_app : ∀ {a b : Sh} {old ts : Toks}, normS old ts (a ++ b) = ((normS old ts a).1 ++ (normS (normS old ts a).2.1 (normS old ts a).2.2 b).1, (normS (normS old ts a).2.1 (normS old ts a).2.2 b).2)
  | [], _, _, _ => rfl
  | none :: a, b, old, ts => by simp only [List.cons_append, normS_none, normS_app (a := a)]
  | some cs :: a, b, old, ts => by simp only [List.cons_append, normS_some, normS_app (a := a)]

end Go.Ab.Lw
namespace Go.Ab.Lw
open Ev
set_option maxRecDepth 10000
set_option linter.unusedSimpArgs false
theorem L30 {t : Ty} (hS : Sm t.args) (h : ∀ x ∈ t.args, (orcL AP).p 30 [x.pv] = some [.bool (validT x)]) : ∀ (n i : Nat), t.args.length - i = n → i ≤ t.args.length →
    cl AP g30L0 ⟨[(1, .lptr 1 0), (3, .pv (vI i))], [(1, t.cl)], [], []⟩ =
      if (t.args.drop i).all validT = true then some (.exit 1, ⟨[(1, .lptr 1 0), (3, .pv (vI t.args.length)), (99, .pv (.bool false))], [(1, t.cl)], [], []⟩)
      else some (.ret, ⟨[(2, .pv (.bool false))], [], [], []⟩)
  | 0, i, hn, hi => by
    have : i = t.args.length := by omega
    subst this
    rw [g30L0_eq]
    simp [g30B0, Ty.cl]
  | n + 1, i, hn, hi => by
    have hi : i < t.args.length := by omega
    obtain ⟨x, hx⟩ := getO hi
    unfold Sm at hS
    have ih := L30 hS h n (i + 1) (by omega) (by omega)
    have hc := h x (memO hx)
    simp [Ty.cl] at ih hc
    rw [g30L0_eq, dropC hx]
    cases e : validT x
    · rw [e] at hc
      simp (disch := omega) [-getElem?_pos, g30B0, Ty.cl, hx, hi, hc, e]
    · rw [e] at hc
      simp (disch := omega) [-getElem?_pos, g30B0, Ty.cl, hx, hi, hc, e, wrap_id, ih]

theorem c30 {t : Ty} (hO : t.Ok) (hN : t.Nm) : (orcL AP).p 30 [t.pv] = some [.bool (validT t)] := by
  revert hO hN
  refine Ty.rec1 (p := fun t => t.Ok → t.Nm → (orcL AP).p 30 [t.pv] = some [.bool (validT t)]) ?_ t
  intro t ih hO hN
  have hl := c77 hN.sm
  have hu := c78 hN.sm
  rw [callP_body (af := g30) rfl rfl (by decide), validT_eq]
  have h0 : ((t.args.length : Int) == 0) = decide (t.args = []) := by rw [Bool.eq_iff_iff]; simp
  have h2 : ((t.args.length : Int) == 2) = decide (t.args.length = 2) := by rw [Bool.eq_iff_iff]; simp; omega
  have h4 : decide ((t.args.length : Int) ≤ 4) = decide (t.args.length ≤ 4) := by rw [Bool.eq_iff_iff]; simp; omega
  by_cases k1 : t.kind = 1
  · simp [g30, k1, h0]
    (repeat' split) <;> simp_all <;> omega
  · by_cases k2 : t.kind = 2
    · simp [g30, k2, h0]
      (repeat' split) <;> simp_all <;> omega
    · by_cases k3 : t.kind = 3
      · simp [g30, k3, h0]
        (repeat' split) <;> simp_all <;> omega
      · by_cases k5 : t.kind = 5
        · simp [g30, k5, h0, hl]
          (repeat' split) <;> simp_all <;> omega
        · by_cases k4 : t.kind = 4
          · by_cases ei : t.id = 0
            · by_cases eh : t.home = 0
              · have hL := L30 hO.sm (fun x hx => ih x hx (hO.kid x hx) (hN.kid x hx)) _ 0 rfl (by omega)
                rw [g30L0_eq] at hL
                simp [Ty.cl] at hL
                cases ea : t.args.all validT
                · have : ¬ ∀ x ∈ t.args, validT x = true := by rw [← List.all_eq_true, ea]; simp
                  simp [this, k4, ei, eh] at hL
                  simp [g30, k4, ei, eh, g30L0_eq, hL]
                · have : ∀ x ∈ t.args, validT x = true := by rw [← List.all_eq_true, ea]
                  have hL := hL
                  rw [if_pos this] at hL
                  simp [k4, ei, eh] at hL
                  by_cases n1 : t.name = [45, 62]
                  · simp [n1] at hL
                    simp [g30, k4, ei, eh, g30L0_eq, hL, n1, conB, h2]
                  · have b1 : (t.name == [45, 62]) = false := by simpa using n1
                    by_cases n2 : t.name = [73, 110, 116]
                    · simp [n2] at hL
                      simp [g30, k4, ei, eh, g30L0_eq, hL, n2, conB, h0]
                    · have b2 : (t.name == [73, 110, 116]) = false := by simpa using n2
                      cases eu : nameB t.name 65 90
                      · rw [eu] at hu
                        simp [g30, k4, ei, eh, g30L0_eq, hL, n1, n2, b1, b2, conB, hu, eu]
                      · rw [eu] at hu
                        simp [g30, k4, ei, eh, g30L0_eq, hL, n1, n2, b1, b2, conB, hu, eu, h4]
              · simp [g30, k4, ei, eh]
            · simp [g30, k4, ei]
          · simp [g30, k1, k2, k3, k4, k5]

end Go.Ab.Lw
namespace Go.Ab.Lw

section
variable {P : Program} {n : Nat} {t e : TypeId} {p : PV}

theorem shp_int (hu : P.underlying t = some (.int .i64)) (h : Shp P n t p) : ∃ i, p = vI i := by
  cases n with
  | zero => simp [Shp] at h
  | succ n => simp only [Shp, hu] at h; obtain ⟨i, rfl, _⟩ := h; exact ⟨i, rfl⟩
theorem shp_bool (hu : P.underlying t = some .bool) (h : Shp P n t p) : ∃ b, p = .bool b := by
  cases n with
  | zero => simp [Shp] at h
  | succ n => simp only [Shp, hu] at h; exact h
theorem shp_str (hu : P.underlying t = some .string) (h : Shp P n t p) : ∃ s, p = .str s := by
  cases n with
  | zero => simp [Shp] at h
  | succ n => simp only [Shp, hu] at h; obtain ⟨s, rfl, _⟩ := h; exact ⟨s, rfl⟩
/-- A slice of what a function of pure data makes. -/
theorem shp_list {α : Type} {f : α → PV} (hu : P.underlying t = some (.slice e)) (he : ∀ (m : Nat) (q : PV), Shp P m e q → ∃ x, q = f x) (h : Shp P n t p) : ∃ l : List α, p = .lst (l.map f) := by
  cases n with
  | zero => simp [Shp] at h
  | succ n =>
    simp only [Shp, hu] at h
    obtain ⟨els, rfl, _, h⟩ := h
    have key : ∀ els : List PV, (∀ q ∈ els, Shp P n e q) → ∃ l : List α, els = l.map f := by
      intro els
      induction els with
      | nil => intro _; exact ⟨[], rfl⟩
      | cons q r ih =>
        intro h
        obtain ⟨x, rfl⟩ := he n q (h q (by simp))
        obtain ⟨l, rfl⟩ := ih (fun q hq => h q (by simp [hq]))
        exact ⟨x :: l, rfl⟩
    obtain ⟨l, rfl⟩ := key els h
    exact ⟨l, rfl⟩
theorem shp_ints (hu : P.underlying t = some (.slice e)) (he : P.underlying e = some (.int .i64)) (h : Shp P n t p) : ∃ L : List Int, p = .lst (L.map vI) :=
  shp_list hu (fun _ _ h => shp_int he h) h

/-- A type. -/
theorem shp_ty {ti ts tl tt : TypeId} {f0 f1 f2 f3 f4 : Field} (hi : P.underlying ti = some (.int .i64)) (hs : P.underlying ts = some .string) (hl : P.underlying tl = some (.slice tt))
    (ht : P.underlying tt = some (.struct #[f0, f1, f2, f3, f4])) (e0 : f0.type = ti) (e1 : f1.type = ts) (e2 : f2.type = ti) (e3 : f3.type = ti) (e4 : f4.type = tl) :
    ∀ (n : Nat) (p : PV), Shp P n tt p → ∃ x : Ty, p = x.pv
  | 0, p, h => by simp [Shp] at h
  | n + 1, p, h => by
    simp only [Shp, ht] at h
    obtain ⟨ps, rfl, h⟩ := h
    match ps, h with
    | [p0, p1, p2, p3, p4], ⟨h0, h1, h2, h3, h4, _⟩ =>
      rw [e0] at h0; rw [e1] at h1; rw [e2] at h2; rw [e3] at h3; rw [e4] at h4
      obtain ⟨k, rfl⟩ := shp_int hi h0
      obtain ⟨s, rfl⟩ := shp_str hs h1
      obtain ⟨i, rfl⟩ := shp_int hi h2
      obtain ⟨m, rfl⟩ := shp_int hi h3
      cases n with
      | zero => simp [Shp] at h4
      | succ n =>
        simp only [Shp, hl] at h4
        obtain ⟨els, rfl, _, h4⟩ := h4
        have key : ∀ els : List PV, (∀ q ∈ els, Shp P n tt q) → ∃ l : List Ty, els = l.map Ty.pv := by
          intro els
          induction els with
          | nil => intro _; exact ⟨[], rfl⟩
          | cons q r ih =>
            intro h
            obtain ⟨x, rfl⟩ := shp_ty hi hs hl ht e0 e1 e2 e3 e4 n q (h q (by simp))
            obtain ⟨l, rfl⟩ := ih (fun q hq => h q (by simp [hq]))
            exact ⟨x :: l, rfl⟩
        obtain ⟨l, rfl⟩ := key els h4
        exact ⟨⟨k, s, i, m, l⟩, by simp [cellsP]⟩
  termination_by n => n
end
end Go.Ab.Lw

namespace Go.Ab.Lw
open Ev
set_option maxRecDepth 10000
set_option linter.unusedSimpArgs false
def tyNamed (s : List UInt8) : Ty := ⟨5, s, 0, 0, []⟩
theorem c106 {s : List UInt8} : (orcL AP).p 106 [.str s] = some [(tyNamed s).pv] := by
  rw [callP_body (af := g106) rfl rfl (by decide)]
  simp [g106, tyNamed]
def namedL : List Ty := [tyNamed [97], tyNamed [98], tyNamed [99]]
theorem c67 : (orcL AP).p 67 [] = some [.lst (namedL.map Ty.pv)] := by
  have h1 := c106 (s := [97]); have h2 := c106 (s := [98]); have h3 := c106 (s := [99])
  simp at h1 h2 h3
  rw [callP_body (af := g67) rfl rfl (by decide)]
  simp [g67, h1, h2, h3, namedL]
end Go.Ab.Lw
namespace Go.Ab.Lw
open Ev
set_option maxRecDepth 10000
set_option linter.unusedSimpArgs false

/-! ### Index and Contains of plain elements -/
def IxB : ACode :=
  (.seq
   (.reg [⟨some 9, none, [.t 8, .t 7], .v (.bin .lss)⟩] [0, 1, 7, 8, 9])
   (.seq
    (.cond (.t 9)
     .skip
     (.exit 0))
    (.seq
     (.block 1
      (.seq
       (.reg [⟨some 10, none, [.t 8], .v (.mv)⟩,
         ⟨some 5, none, [.t 10], .v (.mv)⟩] [0, 1, 5, 7, 8])
       (.seq
        (.reg [⟨some 11, none, [.t 1], .v (.mv)⟩,
          ⟨some 12, none, [.t 0], .v (.mv)⟩,
          ⟨some 13, none, [.t 5], .v (.mv)⟩,
          ⟨some 14, none, [.t 12, .t 13], .v (.iaddr 1)⟩,
          ⟨some 15, none, [.t 14], .v (.loadE 1 false)⟩,
          ⟨some 16, none, [.t 11, .t 15], .v (.bin .eql)⟩] [0, 1, 5, 7, 8, 16])
        (.cond (.t 16)
         (.seq
          (.reg [⟨some 17, none, [.t 5], .v (.mv)⟩,
            ⟨some 4, none, [.t 17], .v (.mv)⟩] [4])
          .ret)
         .skip))))
     (.reg [⟨some 18, none, [.t 8, .c (.pv (.int .i64 1))], .v (.bin .add)⟩,
       ⟨some 8, none, [.t 18], .v (.mv)⟩] [0, 1, 7, 8]))))
def IxL : ACode := .loop [0, 1, 7, 8] IxB
theorem IxL_eq {st : St} : cl AP IxL st = after (cl AP IxL) (cl AP IxB (norm (restrict [0, 1, 7, 8] st))) := cl_loop
def IxF : AFunc := ⟨2, 19, [.t 4],
  (.seq
   (.reg [⟨some 4, none, [.c (.pv (.int .i64 0))], .v (.mv)⟩] [0, 1])
   (.seq
    (.seq
     (.reg [⟨some 6, none, [.t 0], .v (.mv)⟩,
       ⟨some 7, none, [.t 6], .v (.len)⟩,
       ⟨some 8, none, [.c (.pv (.int .i64 0))], .v (.mv)⟩] [0, 1, 7, 8])
     (.block 0
      IxL))
    (.seq
     (.reg [⟨some 4, none, [.c (.pv (.int .i64 (-1)))], .v (.mv)⟩] [4])
     .ret))), none, false⟩
def CoF (g : Nat) : AFunc := ⟨2, 9, [.t 4],
  (.seq
   (.reg [⟨some 4, none, [.c (.pv (.bool false))], .v (.mv)⟩] [0, 1])
   (.seq
    (.reg [⟨some 5, none, [.t 0], .v (.mv)⟩,
      ⟨some 6, none, [.t 1], .v (.mv)⟩,
      ⟨some 7, none, [.t 5, .t 6], .callP g⟩,
      ⟨some 8, none, [.t 7, .c (.pv (.int .i64 0))], .v (.bin .geq)⟩,
      ⟨some 4, none, [.t 8], .v (.mv)⟩] [4])
    .ret)), none, false⟩

/-- Elements that are one cell and compared by '=='. -/
structure Eqs {α : Type} [DecidableEq α] (f : α → PV) : Prop where
  el : El f 1 false
  eq : ∀ x y, evV (.bin .eql) [.pv (f x), .pv (f y)] = some (.pv (.bool (decide (x = y))))
theorem eqs_str : Eqs PV.str := ⟨el_str, fun x y => by simp; rw [Bool.eq_iff_iff]; simp⟩

def RIx {α : Type} (f : α → PV) (s : List α) (y : α) (i : Nat) : Option Nat → Option (AExit × St)
  | some k => some (.ret, ⟨[(4, .pv (vI (i + k : Nat)))], [], [], []⟩)
  | none => some (.exit 0, ⟨[(0, .pv (.lst (s.map f))), (1, .pv (f y)), (7, .pv (vI s.length)), (8, .pv (vI s.length)), (9, .pv (.bool false))], [], [], []⟩)
theorem LIx {α : Type} [DecidableEq α] {f : α → PV} (he : Eqs f) {s : List α} (hS : Sm s) (y : α) : ∀ (n i : Nat), s.length - i = n → i ≤ s.length →
    cl AP IxL ⟨[(0, .pv (.lst (s.map f))), (1, .pv (f y)), (7, .pv (vI s.length)), (8, .pv (vI i))], [], [], []⟩ = RIx f s y i (idxB (fun x => decide (y = x)) (s.drop i))
  | 0, i, hn, hi => by
    have : i = s.length := by omega
    subst this
    rw [IxL_eq]
    simp [IxB, idxB, RIx]
  | n + 1, i, hn, hi => by
    have hi : i < s.length := by omega
    obtain ⟨x, hx⟩ := getO hi
    unfold Sm at hS
    have ih := LIx he hS y n (i + 1) (by omega) (by omega)
    simp at ih
    have h1 := he.el.len x
    have h2 := he.el.of x
    have h3 := he.eq y x
    rw [IxL_eq, dropC hx]
    by_cases e : y = x
    · rw [decide_eq_true e] at h3
      simp (disch := omega) [-getElem?_pos, IxB, hx, hi, e, idxB, RIx, h1, h2]
      rw [← e] at h3 ⊢
      simp [h3]
    · rw [decide_eq_false e] at h3
      simp (disch := omega) [-getElem?_pos, IxB, hx, hi, e, idxB, wrap_id, ih, h1, h2, h3]
      cases idxB (fun x => decide (y = x)) (s.drop (i + 1)) with
      | none => rfl
      | some k => simp [RIx]; omega

theorem cIx {α : Type} [DecidableEq α] {f : α → PV} (he : Eqs f) {k : Nat} (hk : AP k = some IxF) {s : List α} (hS : Sm s) {y : α} : (orcL AP).p k [.lst (s.map f), f y] = some [vI (idxI (idxB (fun x => decide (y = x)) s))] := by
  have h := LIx he hS y _ 0 rfl (by omega)
  simp at h
  rw [callP_body hk rfl (by simp [IxF])]
  cases hi : idxB (fun x => decide (y = x)) s with
  | none => rw [hi] at h; simp [RIx] at h; simp [IxF, h, idxI]
  | some k => rw [hi] at h; simp [RIx] at h; simp [IxF, h, idxI]

theorem any_mem {α : Type} [DecidableEq α] {s : List α} {y : α} : (s.any fun x => decide (y = x)) = decide (y ∈ s) := by
  rw [Bool.eq_iff_iff]; simp
theorem cCo {α : Type} [DecidableEq α] {f : α → PV} (he : Eqs f) {m k : Nat} (hm : AP m = some (CoF k)) (hk : AP k = some IxF) {s : List α} (hS : Sm s) {y : α} : (orcL AP).p m [.lst (s.map f), f y] = some [.bool (decide (y ∈ s))] := by
  have h := cIx he hk hS (y := y)
  rw [callP_body hm rfl (by simp [CoF]), ← any_mem, ← idxB_any]
  simp [CoF, h]

mutual
def Ty.nodes : Ty → List Ty
  | ⟨k, n, i, h, as⟩ => ⟨k, n, i, h, as⟩ :: Ty.nodess as
def Ty.nodess : List Ty → List Ty
  | [] => []
  | a :: r => a.nodes ++ Ty.nodess r
end
theorem Ty.nodess_eq : ∀ l : List Ty, Ty.nodess l = l.flatMap Ty.nodes
  | [] => by simp [Ty.nodess]
  | a :: r => by simp [Ty.nodess, Ty.nodess_eq r]
theorem Ty.nodes_eq (t : Ty) : t.nodes = t :: t.args.flatMap Ty.nodes := by cases t; simp only [Ty.nodes, Ty.nodess_eq]

theorem nodup_len {α : Type} [DecidableEq α] : ∀ {l S : List α}, l.Nodup → (∀ x ∈ l, x ∈ S) → l.length ≤ S.length
  | [], _, _, _ => by simp
  | x :: r, S, hn, h => by
    have hx := h x (by simp)
    have hr := nodup_len (l := r) (S := S.erase x) (List.nodup_cons.1 hn).2 (fun y hy => by
      rw [List.mem_erase_of_ne]
      · exact h y (by simp [hy])
      · rintro rfl; exact (List.nodup_cons.1 hn).1 hy)
    have := List.length_erase_of_mem hx
    have : 0 < S.length := List.length_pos_of_mem hx
    simp; omega

/-- One more variable. -/
def addI (out : List Int) (x : Ty) : List Int := if x.kind = 1 ∧ x.id ∉ out then out ++ [x.id] else out

/-- What was collected: without doubles, among few. -/
structure Coll (S out : List Int) : Prop where
  nodup : out.Nodup
  sub : ∀ x ∈ out, x ∈ S
  few : S.length < 1099511627776
theorem Coll.len {S out : List Int} (h : Coll S out) : Sm out := by
  have := nodup_len h.nodup h.sub
  have := h.few
  unfold Sm; omega
theorem Coll.add {S out : List Int} (h : Coll S out) {x : Ty} (hx : x.kind = 1 → x.id ∈ S) : Coll S (addI out x) := by
  unfold addI
  split
  · rename_i e
    refine ⟨?_, ?_, h.few⟩
    · rw [List.nodup_append]
      refine ⟨h.nodup, by simp, ?_⟩
      intro a ha b hb
      simp at hb; subst hb
      rintro rfl; exact e.2 ha
    · intro y hy
      simp at hy
      rcases hy with hy | rfl
      · exact h.sub y hy
      · exact hx e.1
  · exact h
/-- The variables of types. -/
def vars (l : List Ty) : List Int := (l.flatMap Ty.nodes).foldl addI []

end Go.Ab.Lw
namespace Go.Ab.Lw
open Ev
set_option maxRecDepth 10000
set_option linter.unusedSimpArgs false
mutual
/-- The leaves of a kind. -/
def Ty.lvs (k : Int) : Ty → List Ty
  | ⟨kd, n, i, h, as⟩ => if kd = k ∧ as.length = 0 then [⟨kd, n, i, h, as⟩] else Ty.lvss k as
def Ty.lvss (k : Int) : List Ty → List Ty
  | [] => []
  | a :: r => a.lvs k ++ Ty.lvss k r
end
theorem Ty.lvss_eq (k : Int) : ∀ l : List Ty, Ty.lvss k l = l.flatMap (Ty.lvs k)
  | [] => by simp [Ty.lvss]
  | a :: r => by simp [Ty.lvss, Ty.lvss_eq k r]
theorem Ty.lvs_eq (k : Int) (t : Ty) : t.lvs k = if t.kind = k ∧ t.args.length = 0 then [t] else t.args.flatMap (Ty.lvs k) := by cases t; simp only [Ty.lvs, Ty.lvss_eq]

noncomputable def addT (out : List Ty) (x : Ty) : List Ty := if x ∈ out then out else out ++ [x]

structure CollT (S out : List Ty) : Prop where
  nodup : out.Nodup
  sub : ∀ x ∈ out, x ∈ S
  few : S.length < 1099511627776
  ok : ∀ x ∈ S, x.Ok
theorem CollT.len {S out : List Ty} (h : CollT S out) : Sm out := by
  have := nodup_len h.nodup h.sub
  have := h.few
  unfold Sm; omega
theorem CollT.add {S out : List Ty} (h : CollT S out) {x : Ty} (hx : x ∈ S) : CollT S (addT out x) := by
  unfold addT
  split
  · exact h
  · rename_i e
    refine ⟨?_, ?_, h.few, h.ok⟩
    · rw [List.nodup_append]
      refine ⟨h.nodup, by simp, ?_⟩
      intro a ha b hb
      simp at hb; subst hb
      rintro rfl; exact e ha
    · intro y hy
      simp at hy
      rcases hy with hy | rfl
      · exact h.sub y hy
      · exact hx
end Go.Ab.Lw
namespace Go.Ab.Lw
open Ev
set_option maxRecDepth 10000
set_option linter.unusedSimpArgs false
@[simp] theorem takeEnd1 {α : Type} {l : List α} {x : α} : (l ++ [x]).take (l.length + 1) = l ++ [x] := by rw [List.take_of_length_le]; simp

def varNames : List (List UInt8) := [[120], [121], [122], [102], [103], [118, 49], [118, 50], [105, 100]]
/-- Quantifying some variables. -/
def closeS (ids : List Int) : List Int → List As → List As
  | [], acc => acc
  | v :: r, acc => closeS ids r (if v ∈ ids then acc ++ [⟨v, tyBound acc.length⟩] else acc)
def closeSc (ids : List Int) (t : Ty) (vs : List Int) : Sc := ⟨(closeS ids vs []).length, t.sub (closeS ids vs [])⟩

/-- Types whose variables are few. -/
structure FewV (t : Ty) : Prop where
  ok : t.Ok
  wf : t.Wf
  few : ∃ S : List Ty, S.length < 1099511627776 ∧ (∀ x ∈ S, x.Ok) ∧ ∀ x ∈ t.lvs 1, x ∈ S

end Go.Ab.Lw
namespace Go.Ab.Lw
open Ev
set_option maxRecDepth 10000
set_option linter.unusedSimpArgs false
/-- The leaves of a made type are among the leaves. -/
theorem Made.lvs {lv : Ty → Prop} (h : ∀ t, lv t → t.args = []) {t : Ty} (m : Made lv t) {k : Int} (hk : k ≠ 4) : ∀ x ∈ t.lvs k, lv x := by
  induction m with
  | leaf hl =>
    intro x hx
    rw [Ty.lvs_eq, h _ hl] at hx
    split at hx
    · simp at hx; subst hx; exact hl
    · simp at hx
  | int =>
    intro x hx
    rw [Ty.lvs_eq] at hx
    simp [tyInt] at hx
    exact absurd hx.1.symm hk
  | con hd hl _ ih =>
    intro x hx
    rw [Ty.lvs_eq] at hx
    split at hx
    · rename_i e; exact absurd e.1.symm hk
    · simp only [List.mem_flatMap] at hx
      obtain ⟨y, hy, hx⟩ := hx
      exact ih y hy x hx
  | arrow _ _ ha hb =>
    intro x hx
    rw [Ty.lvs_eq] at hx
    simp at hx
    rcases hx with hx | hx
    · exact ha x hx
    · exact hb x hx
theorem bare_ok {t : Ty} (h : t.args = []) : t.Ok := ⟨by rw [h]; simp [Sm], by rw [h]; simp⟩
theorem Made.few {lv : List Ty} (hl : lv.length < 1099511627776) (h : ∀ t, t ∈ lv → t.args = []) {t : Ty} (m : Made (· ∈ lv) t) : FewV t :=
  ⟨m.ok h, m.wf h, lv, hl, fun x hx => bare_ok (h x hx), m.lvs h (by decide)⟩

theorem closeS_ok {ids : List Int} : ∀ (vs : List Int) (acc : List As), (∀ a ∈ acc, a.ty.Ok) → ∀ a ∈ closeS ids vs acc, a.ty.Ok
  | [], acc, h => by simpa [closeS] using h
  | v :: r, acc, h => by
    simp only [closeS]
    refine closeS_ok r _ ?_
    split
    · intro a ha
      simp at ha
      rcases ha with ha | rfl
      · exact h a ha
      · exact bare_ok rfl
    · exact h
theorem closeSc_ok {ids vs : List Int} {t : Ty} (h : t.Ok) : (closeSc ids t vs).ty.Ok := sub_ok (closeS_ok vs [] (by simp)) h

/-- A made entry. -/
def MadeE (lv : List Ty) (x : En) : Prop := x.name ∈ varNames ∧ ∃ t, Made (· ∈ lv) t ∧ (x.sc = ⟨0, t⟩ ∨ ∃ ids : List Int, ids.length = 2 ∧ x.sc = closeSc ids t (vars [t]))
theorem MadeE.ok {lv : List Ty} (h : ∀ t, t ∈ lv → t.args = []) {x : En} (m : MadeE lv x) : x.sc.ty.Ok := by
  obtain ⟨_, t, mt, e | ⟨ids, _, e⟩⟩ := m
  · rw [e]; exact mt.ok h
  · rw [e]; exact closeSc_ok (mt.ok h)

end Go.Ab.Lw
namespace Go.Ab.Lw
open Ev
set_option maxRecDepth 10000
set_option linter.unusedSimpArgs false
/-- A made type over leaves and data types. -/
inductive MadeG (D : Dt → Prop) (lv : List Ty) : Nat → Ty → Prop
  | leaf {n : Nat} {t : Ty} : t ∈ lv → MadeG D lv n t
  | int {n : Nat} : MadeG D lv n tyInt
  | con {n : Nat} {d : Dt} {args : List Ty} : D d → args.length = d.params.length → (∀ x ∈ args, MadeG D lv n x) → MadeG D lv (n + 1) ⟨4, d.name, 0, 0, args⟩
  | arrow {n : Nat} {a b : Ty} : MadeG D lv n a → MadeG D lv n b → MadeG D lv (n + 1) ⟨4, [45, 62], 0, 0, [a, b]⟩

/-- What the maker of types gives at a depth. -/
def GivesG (L : List Int) (ds : List Dt) (lv : List Ty) (dep : Nat) : Prop := ∀ i : Nat, i ≤ L.length → ∃ (t : Ty) (j : Nat),
  (orcL AP).i 27 [.sptr 0 0, .pv (.lst (ds.map Dt.pv)), .pv (.lst (lv.map Ty.pv)), .pv (vI dep)] (tp L i) [] = some ([t.av], tp L j, []) ∧ MadeG (· ∈ ds) lv dep t ∧ j ≤ L.length

theorem L27g {L : List Int} {ds : List Dt} {lv : List Ty} {dep : Nat} (hdep : dep < 1000) (hg : GivesG L ds lv dep) {d : Dt} (hS : Sm d.params) : ∀ (n k : Nat), d.params.length - k = n → k ≤ d.params.length → ∀ (acc : List Ty) (i : Nat), acc.length = k → (∀ x ∈ acc, MadeG (· ∈ ds) lv dep x) → i ≤ L.length →
    ∃ (r : List Ty) (j : Nat), cl AP g27L0 ⟨[(0, .sptr 0 0), (1, .pv (.lst (ds.map Dt.pv))), (2, .pv (.lst (lv.map Ty.pv))), (3, .pv (vI (dep + 1))), (8, .lptr 8 0), (10, .lptr 10 0), (11, .own (acc.map Ty.pv) 0), (12, .pv (vI k))],
      [(8, [.pv (vI 0), .pv (.str []), .pv (vI 0), .pv (vI 0), .own [] 1]), (10, [.pv (vI d.pos), .pv (.str d.name), .pv (.lst (d.params.map .str)), .pv (.lst (d.cons.map Con.pv))])], tp L i, [acc.length, 0]⟩ =
      some (.exit 1, ⟨[(0, .sptr 0 0), (1, .pv (.lst (ds.map Dt.pv))), (2, .pv (.lst (lv.map Ty.pv))), (3, .pv (vI (dep + 1))), (8, .lptr 8 0), (10, .lptr 10 0), (11, .own (r.map Ty.pv) 0), (12, .pv (vI d.params.length)), (65, .pv (.bool false))],
      [(8, [.pv (vI 0), .pv (.str []), .pv (vI 0), .pv (vI 0), .own [] 1]), (10, [.pv (vI d.pos), .pv (.str d.name), .pv (.lst (d.params.map .str)), .pv (.lst (d.cons.map Con.pv))])], tp L j, [r.length, 0]⟩) ∧
      r.length = d.params.length ∧ (∀ x ∈ r, MadeG (· ∈ ds) lv dep x) ∧ j ≤ L.length
  | 0, k, hn, hk, acc, i, ha, hm, hi => by
    have : k = d.params.length := by omega
    subst this
    refine ⟨acc, i, ?_, ha, hm, hi⟩
    rw [g27L0_eq]
    simp [g27B0]
  | n + 1, k, hn, hk, acc, i, ha, hm, hi => by
    unfold Sm at hS
    have hk : k < d.params.length := by omega
    have hb : (acc.length + 1) * 64 ≤ 140737488355328 := by omega
    obtain ⟨t, j, e, mt, hj⟩ := hg i hi
    simp at e
    obtain ⟨r, j', e', hr, hm', hj'⟩ := L27g hdep hg hS n (k + 1) (by omega) (by omega) (acc ++ [t]) j (by simp; omega) (by
      intro x hx; simp at hx; rcases hx with hx | rfl
      · exact hm x hx
      · exact mt) hj
    simp at e'
    refine ⟨r, j', ?_, hr, hm', hj'⟩
    rw [g27L0_eq]
    have h1 : (dep : Int) + 1 - 1 = dep := by omega
    simp (disch := omega) [-getElem?_pos, g27B0, hk, wrap_id, h1, e, hb]
    rw [e']

theorem g27_0 {L : List Int} (hL : Sm L) {ds : List Dt} {lv : List Ty} (hlv : Sm lv) : GivesG L ds lv 0 := by
  intro i hi
  obtain ⟨k, j1, e1, k0, k7, hj1⟩ := c68 hL hi (n := 7) (by omega) (by omega)
  simp at e1
  unfold Sm at hlv
  by_cases h1 : k < 3
  · by_cases h2 : lv = []
    · subst h2
      refine ⟨tyInt, j1, ?_, .int, hj1⟩
      have c := c34
      simp at c
      rw [callI_body (af := g27) rfl (by simp [g27])]
      simp [-getElem?_pos, g27, e1, h1, c, tyInt]
    · have hp : 0 < lv.length := List.length_pos_iff.2 h2
      obtain ⟨r, j2, e2, r0, r1, hj2⟩ := c68 hL hj1 (n := lv.length) (by omega) (by omega)
      obtain ⟨m, rfl, hm⟩ := natI r0 r1
      obtain ⟨x, hx⟩ := getO hm
      simp at e2
      refine ⟨x, j2, ?_, .leaf (memO hx), hj2⟩
      rw [callI_body (af := g27) rfl (by simp [g27])]
      simp [-getElem?_pos, g27, e1, h1, hp, e2, hx]
  · refine ⟨tyInt, j1, ?_, .int, hj1⟩
    have c := c34
    simp at c
    rw [callI_body (af := g27) rfl (by simp [g27])]
    simp [-getElem?_pos, g27, e1, h1, c, tyInt]

theorem g27_s {L : List Int} (hL : Sm L) {ds : List Dt} (hds : ds.length ≤ 20) (hda : ∀ d ∈ ds, d.params.length ≤ 8) {lv : List Ty} (hlv : Sm lv) {dep : Nat} (hdep : dep < 1000) (hg : GivesG L ds lv dep) : GivesG L ds lv (dep + 1) := by
  intro i hi
  obtain ⟨k, j1, e1, k0, k7, hj1⟩ := c68 hL hi (n := 7) (by omega) (by omega)
  simp at e1
  unfold Sm at hlv
  have hd1 : ¬ ((dep : Int) + 1 < 1) := by omega
  have hd2 : (dep : Int) + 1 - 1 = dep := by omega
  have leafCase : ∀ h1 : k < 3, ∀ h2 : ¬ lv = [], ∃ (t : Ty) (j : Nat), (orcL AP).i 27 [.sptr 0 0, .pv (.lst (ds.map Dt.pv)), .pv (.lst (lv.map Ty.pv)), .pv (vI ((dep + 1 : Nat) : Int))] (tp L i) [] = some ([t.av], tp L j, []) ∧ MadeG (· ∈ ds) lv (dep + 1) t ∧ j ≤ L.length := by
    intro h1 h2
    have hp : 0 < lv.length := List.length_pos_iff.2 h2
    obtain ⟨r, j2, e2, r0, r1, hj2⟩ := c68 hL hj1 (n := lv.length) (by omega) (by omega)
    obtain ⟨m, rfl, hm⟩ := natI r0 r1
    obtain ⟨x, hx⟩ := getO hm
    simp at e2
    refine ⟨x, j2, ?_, .leaf (memO hx), hj2⟩
    rw [callI_body (af := g27) rfl (by simp [g27])]
    simp [-getElem?_pos, g27, e1, h1, hp, e2, hx]
  by_cases h1 : k < 3 ∧ ¬ lv = []
  · exact leafCase h1.1 h1.2
  · have h1' : ¬ k < 3 ∨ lv = [] := by
      by_cases h : k < 3
      · right; by_cases h' : lv = []
        · exact h'
        · exact absurd ⟨h, h'⟩ h1
      · exact .inl h
    by_cases h2 : k < 4
    · refine ⟨tyInt, j1, ?_, .int, hj1⟩
      have c := c34
      simp at c
      rw [callI_body (af := g27) rfl (by simp [g27])]
      rcases h1' with h | h
      · simp [-getElem?_pos, g27, e1, h, h2, c, tyInt]
      · subst h
        simp [-getElem?_pos, g27, e1, h2, c, tyInt]
    · have h3 : ¬ k < 3 := by omega
      by_cases h4 : (k = 4 ∨ k = 5) ∧ ¬ ds = []
      · obtain ⟨h4, h5⟩ := h4
        have hp : 0 < ds.length := List.length_pos_iff.2 h5
        obtain ⟨r, j2, e2, r0, r1, hj2⟩ := c68 hL hj1 (n := ds.length) (by omega) (by omega)
        obtain ⟨m, rfl, hm⟩ := natI r0 r1
        obtain ⟨d, hx⟩ := getO hm
        simp at e2
        have hdm := memO hx
        have hps : Sm d.params := by
          unfold Sm
          have := hda d hdm
          omega
        obtain ⟨as, j3, e3, ha, hm3, hj3⟩ := L27g hdep hg hps d.params.length 0 rfl (by omega) [] j2 rfl (by simp) hj2
        rw [g27L0_eq] at e3
        simp at e3
        have hsa : Sm as := by unfold Sm at hps ⊢; omega
        have c := c62 (s := d.name) (l := as) hsa
        simp at c
        refine ⟨⟨4, d.name, 0, 0, as⟩, j3, ?_, .con hdm ha hm3, hj3⟩
        rw [callI_body (af := g27) rfl (by simp [g27])]
        rcases h4 with rfl | rfl
        · simp [-getElem?_pos, g27, e1, hp, hd1, e2, hx, g27L0_eq, e3, c]
        · simp [-getElem?_pos, g27, e1, hp, hd1, e2, hx, g27L0_eq, e3, c]
      · obtain ⟨a, j2, ea, ma, hj2⟩ := hg j1 hj1
        obtain ⟨b, j3, eb, mb, hj3⟩ := hg j2 hj2
        simp at ea eb
        have c := c69 (a := a) (b := b)
        simp at c
        refine ⟨⟨4, [45, 62], 0, 0, [a, b]⟩, j3, ?_, .arrow ma mb, hj3⟩
        rw [callI_body (af := g27) rfl (by simp [g27])]
        by_cases h5 : ds = []
        · subst h5
          simp at ea eb
          simp (disch := omega) [-getElem?_pos, g27, e1, h2, h3, hd1, hd2, wrap_id, ea, eb, c]
        · have h6 : ¬ k = 4 ∧ ¬ k = 5 := by
            constructor
            · intro h; exact h4 ⟨.inl h, h5⟩
            · intro h; exact h4 ⟨.inr h, h5⟩
          simp (disch := omega) [-getElem?_pos, g27, e1, h2, h3, h6.1, h6.2, hd1, hd2, wrap_id, ea, eb, c]
theorem mk27 {L : List Int} (hL : Sm L) {ds : List Dt} (hds : ds.length ≤ 20) (hda : ∀ d ∈ ds, d.params.length ≤ 8) {lv : List Ty} (hlv : Sm lv) : ∀ dep : Nat, dep < 1000 → GivesG L ds lv dep
  | 0, _ => g27_0 hL hlv
  | dep + 1, h => g27_s hL hds hda hlv (by omega) (mk27 hL hds hda hlv dep (by omega))

theorem MadeG.ok {D : Dt → Prop} (hD : ∀ d, D d → d.params.length ≤ 8) {lv : List Ty} (h : ∀ t ∈ lv, t.args = []) {n : Nat} {t : Ty} (m : MadeG D lv n t) : t.Ok := by
  induction m with
  | leaf hl => exact bare_ok (h _ hl)
  | int => exact bare_ok rfl
  | con hd hl _ ih => exact ⟨by have := hD _ hd; unfold Sm; simp; omega, ih⟩
  | arrow _ _ ha hb => exact ⟨by simp [Sm], by intro x hx; simp at hx; rcases hx with rfl | rfl <;> assumption⟩
theorem sum_le {f : Ty → List Ty} {b : Nat} : ∀ {l : List Ty}, (∀ x ∈ l, (f x).length ≤ b) → (l.flatMap f).length ≤ l.length * b
  | [], _ => by simp
  | a :: r, h => by
    have h1 := h a (by simp)
    have h2 := sum_le (f := f) (b := b) (l := r) (fun x hx => h x (by simp [hx]))
    simp only [List.flatMap_cons, List.length_append, List.length_cons, Nat.add_mul]
    omega
/-- Made types are small. -/
theorem MadeG.small {D : Dt → Prop} (hD : ∀ d, D d → d.params.length ≤ 8) {lv : List Ty} (h : ∀ t ∈ lv, t.args = []) {n : Nat} {t : Ty} (m : MadeG D lv n t) : t.nodes.length ≤ 9 ^ n := by
  have one : ∀ n : Nat, 1 ≤ 9 ^ n := fun n => Nat.one_le_pow n 9 (by decide)
  induction m with
  | leaf hl => rw [Ty.nodes_eq, h _ hl]; simpa using one _
  | int => rw [Ty.nodes_eq]; simpa [tyInt] using one _
  | @con n d args hd hl _ ih =>
    rw [Ty.nodes_eq]
    have h1 := sum_le (f := Ty.nodes) (l := args) ih
    have h2 := hD _ hd
    have h3 := one n
    have h4 : args.length * 9 ^ n ≤ 8 * 9 ^ n := Nat.mul_le_mul_right _ (by omega)
    simp only [List.length_cons, Nat.pow_succ]
    omega
  | @arrow n a b _ _ ha hb =>
    rw [Ty.nodes_eq]
    have h3 := one n
    simp only [List.length_cons, List.flatMap_cons, List.flatMap_nil, List.append_nil, List.length_append, Nat.pow_succ]
    omega
end Go.Ab.Lw
namespace Go.Ab.Lw
open Ev
set_option maxRecDepth 10000
set_option linter.unusedSimpArgs false
abbrev Txt := List UInt8
theorem c214 {s : List Txt} (hS : Sm s) {y : Txt} : (orcL AP).p 214 [.lst (s.map .str), .str y] = some [.bool (decide (y ∈ s))] := by
  rw [cCo eqs_str (m := 214) (k := 223) rfl rfl hS]
  simp only [Option.some.injEq, List.cons.injEq, PV.bool.injEq, and_true]
  rw [Bool.eq_iff_iff]; simp

/-! ### The reference's index -/
/-- The place of a name, or -1. -/
def posS (s : List Txt) (y : Txt) : Int := idxI (idxB (fun x => decide (x = y)) s)
def lkD : List Dt → Txt → Option Dt
  | [], _ => none
  | d :: r, s => if d.name = s then some d else lkD r s
def conA (ds : List Dt) (s : Txt) : Option Nat := if s = [73, 110, 116] then some 0 else if s = [45, 62] then some 2 else (lkD ds s).map (·.params.length)
def rA : Option Nat → List PV
  | some n => [vI n, .bool true]
  | none => [vI 0, .bool false]

theorem L215 {ds : List Dt} (hS : Sm ds) (s : Txt) : ∀ (n i : Nat), ds.length - i = n → i ≤ ds.length →
    cl AP g215L0 ⟨[(1, .pv (.str s)), (13, .pv (.lst (ds.map Dt.pv))), (14, .pv (vI ds.length)), (15, .pv (vI i))], [], [], []⟩ =
      match lkD (ds.drop i) s with
      | some d => some (.ret, ⟨[(4, .pv (vI d.params.length)), (5, .pv (.bool true))], [], [], []⟩)
      | none => some (.exit 1, ⟨[(1, .pv (.str s)), (13, .pv (.lst (ds.map Dt.pv))), (14, .pv (vI ds.length)), (15, .pv (vI ds.length)), (16, .pv (.bool false))], [], [], []⟩)
  | 0, i, hn, hi => by
    have : i = ds.length := by omega
    subst this
    rw [g215L0_eq]
    simp [g215B0, lkD]
  | n + 1, i, hn, hi => by
    have hi : i < ds.length := by omega
    obtain ⟨x, hx⟩ := getO hi
    unfold Sm at hS
    have ih := L215 hS s n (i + 1) (by omega) (by omega)
    rw [g215L0_eq] at ih ⊢
    rw [dropC hx]
    simp at ih
    by_cases e : x.name = s
    · simp (disch := omega) [-getElem?_pos, g215B0, hx, hi, e, lkD]
    · simp (disch := omega) [-getElem?_pos, g215B0, hx, hi, e, lkD, wrap_id]
      rw [g215L0_eq]
      simp [ih]
theorem c215 {ds : List Dt} (hS : Sm ds) {s : Txt} : (orcL AP).p 215 [.lst (ds.map Dt.pv), .str s] = some (rA (conA ds s)) := by
  have h := L215 hS s _ 0 rfl (by omega)
  rw [callP_body (af := g215) rfl rfl (by decide)]
  rw [g215L0_eq] at h
  simp at h
  unfold conA
  by_cases e1 : s = [73, 110, 116]
  · simp [g215, e1, rA]
  · by_cases e2 : s = [45, 62]
    · simp [g215, e2, rA]
    · cases hl : lkD ds s with
      | none => rw [hl] at h; simp at h; simp [g215, e1, e2, g215L0_eq, h, rA]
      | some d => rw [hl] at h; simp at h; simp [g215, e1, e2, g215L0_eq, h, rA]

def headE (ds : List Dt) (l : List Txt) (t : Ty) : Int :=
  if t.kind = 5 then (if t.name ∈ l then 0 else 7)
  else if t.kind = 4 then (match conA ds t.name with | none => 7 | some n => if n = t.args.length then 0 else 8) else 0
mutual
def Ty.formed (ds : List Dt) (l : List Txt) : Ty → Int
  | ⟨k, n, i, h, as⟩ => if headE ds l ⟨k, n, i, h, as⟩ ≠ 0 then headE ds l ⟨k, n, i, h, as⟩ else Ty.formeds ds l as
def Ty.formeds (ds : List Dt) (l : List Txt) : List Ty → Int
  | [] => 0
  | a :: r => if a.formed ds l ≠ 0 then a.formed ds l else Ty.formeds ds l r
end
theorem Ty.formed_eq (ds : List Dt) (l : List Txt) (t : Ty) : t.formed ds l = if headE ds l t ≠ 0 then headE ds l t else Ty.formeds ds l t.args := by
  cases t; simp only [Ty.formed]

theorem L185 {ds : List Dt} {l : List Txt} {t : Ty} (hS : Sm t.args) (h : ∀ x ∈ t.args, (orcL AP).p 185 [.lst (ds.map Dt.pv), x.pv, .lst (l.map .str)] = some [vI (x.formed ds l)]) : ∀ (n i : Nat), t.args.length - i = n → i ≤ t.args.length →
    cl AP g185L0 ⟨[(0, .pv (.lst (ds.map Dt.pv))), (2, .pv (.lst (l.map .str))), (38, .pv (.lst (t.args.map Ty.pv))), (39, .pv (vI t.args.length)), (40, .pv (vI i))], [], [], []⟩ =
      if Ty.formeds ds l (t.args.drop i) ≠ 0 then some (.ret, ⟨[(6, .pv (vI (Ty.formeds ds l (t.args.drop i))))], [], [], []⟩)
      else some (.exit 1, ⟨[(0, .pv (.lst (ds.map Dt.pv))), (2, .pv (.lst (l.map .str))), (38, .pv (.lst (t.args.map Ty.pv))), (39, .pv (vI t.args.length)), (40, .pv (vI t.args.length)), (41, .pv (.bool false))], [], [], []⟩)
  | 0, i, hn, hi => by
    have : i = t.args.length := by omega
    subst this
    rw [g185L0_eq]
    simp [g185B0, Ty.formeds]
  | n + 1, i, hn, hi => by
    have hi : i < t.args.length := by omega
    obtain ⟨x, hx⟩ := getO hi
    unfold Sm at hS
    have k := h x (memO hx)
    have ih := L185 hS h n (i + 1) (by omega) (by omega)
    rw [g185L0_eq] at ih ⊢
    rw [dropC hx]
    simp at ih k
    by_cases e : x.formed ds l = 0
    · rw [e] at k
      simp (disch := omega) [-getElem?_pos, g185B0, hx, hi, k, Ty.formeds, e, wrap_id]
      rw [g185L0_eq]
      simp [ih]
    · simp (disch := omega) [-getElem?_pos, g185B0, hx, hi, k, Ty.formeds, e, wrap_id]

theorem c185 {ds : List Dt} (hd : Sm ds) {l : List Txt} (hl : Sm l) {t : Ty} (hO : t.Ok) : (orcL AP).p 185 [.lst (ds.map Dt.pv), t.pv, .lst (l.map .str)] = some [vI (t.formed ds l)] := by
  revert hO
  refine Ty.rec1 (p := fun t => t.Ok → (orcL AP).p 185 [.lst (ds.map Dt.pv), t.pv, .lst (l.map .str)] = some [vI (t.formed ds l)]) ?_ t
  intro t ih hO
  have h := L185 (ds := ds) (l := l) hO.sm (fun x hx => ih x hx (hO.kid x hx)) _ 0 rfl (by omega)
  have k1 := c214 hl (y := t.name)
  have k2 := c215 hd (s := t.name)
  rw [callP_body (af := g185) rfl rfl (by decide), Ty.formed_eq]
  rw [g185L0_eq] at h
  simp at h
  by_cases e1 : t.kind = 5
  · by_cases e2 : t.name ∈ l
    · rw [decide_eq_true e2] at k1
      by_cases e3 : Ty.formeds ds l t.args = 0
      · simp [e3] at h
        simp [g185, e1, e2, e3, k1, headE, g185L0_eq, h]
      · simp [e3] at h
        simp [g185, e1, e2, e3, k1, headE, g185L0_eq, h]
    · rw [decide_eq_false e2] at k1
      simp [g185, e1, e2, k1, headE]
  · by_cases e4 : t.kind = 4
    · cases hc : conA ds t.name with
      | none =>
        rw [hc] at k2
        simp [rA] at k2
        simp [g185, e1, e4, k2, headE, hc]
      | some m =>
        rw [hc] at k2
        simp [rA] at k2
        by_cases e5 : m = t.args.length
        · by_cases e3 : Ty.formeds ds l t.args = 0
          · simp [e3] at h
            simp [g185, e4, e5, e3, k2, headE, hc, g185L0_eq, h]
          · simp [e3] at h
            simp [g185, e4, e5, e3, k2, headE, hc, g185L0_eq, h]
        · have e5' : ¬ (m : Int) = t.args.length := by omega
          simp [g185, e4, e5, e5', k2, headE, hc]
    · by_cases e3 : Ty.formeds ds l t.args = 0
      · simp [e3] at h
        simp [g185, e1, e4, e3, headE, g185L0_eq, h]
      · simp [e3] at h
        simp [g185, e1, e4, e3, headE, g185L0_eq, h]

def tyC (t : Ty) : List AV := [.pv (vI t.kind), .pv (.str t.name), .pv (vI t.id), .pv (vI t.home), .pv (.lst (t.args.map Ty.pv))]
@[simp] theorem tyC_eq (t : Ty) : tyC t = [.pv (vI t.kind), .pv (.str t.name), .pv (vI t.id), .pv (vI t.home), .pv (.lst (t.args.map Ty.pv))] := rfl

/-- Only constructed types have parts. -/
inductive Ty.Cw : Ty → Prop
  | mk {t : Ty} : (t.kind ≠ 4 → t.args = []) → (∀ x ∈ t.args, Ty.Cw x) → Ty.Cw t
theorem Ty.Cw.kid {t : Ty} (h : t.Cw) : ∀ x ∈ t.args, x.Cw := by cases h; assumption
theorem MadeG.cw {D : Dt → Prop} {lv : List Ty} (h : ∀ t ∈ lv, t.args = []) {n : Nat} {t : Ty} (m : MadeG D lv n t) : t.Cw := by
  induction m with
  | leaf hl => exact ⟨fun _ => h _ hl, by rw [h _ hl]; simp⟩
  | int => exact ⟨by simp [tyInt], by simp [tyInt]⟩
  | con hd hl _ ih => exact ⟨by simp, ih⟩
  | arrow _ _ ha hb => exact ⟨by simp, by intro x hx; simp at hx; rcases hx with rfl | rfl <;> assumption⟩

end Go.Ab.Lw
namespace Go.Ab.Lw
open Ev
set_option maxRecDepth 10000
set_option linter.unusedSimpArgs false
def listD : Dt := ⟨0, [76, 105, 115, 116], [[97]], [⟨14, [78, 105, 108], []⟩, ⟨20, [67, 111, 110, 115], [⟨5, [97], 0, 0, []⟩, ⟨4, [76, 105, 115, 116], 0, 0, [⟨5, [97], 0, 0, []⟩]⟩]⟩]⟩
theorem c213i : (orcL AP).i 213 [] [] [] = some ([.own [listD.pv] 0], [], [1]) := Fc.i_of (k := 400) (n := 40) (by kernel_rfl)

def dT : Dt := ⟨0, [84], [[97]], []⟩
def dV : Dt := ⟨0, [86], [], []⟩
def ds9 : List Dt := [listD, dT, dV]
theorem namedL_bare : ∀ t, t ∈ namedL → t.args = [] := by
  intro t ht
  simp [namedL, tyNamed] at ht
  rcases ht with rfl | rfl | rfl <;> rfl

def nmT : List Txt := [[84], [85], [73, 110, 116], [76, 105, 115, 116], [86]]
def nmP : List Txt := [[97], [98], [99]]
def nmC : List Txt := [[65], [66], [67], [68], [69], [70]]
/-- A made type of chapter 9. -/
abbrev Md9 (t : Ty) : Prop := MadeG (· ∈ ds9) namedL 2 t
structure COk (c : Con) : Prop where
  len : c.fields.length ≤ 2
  md : ∀ t ∈ c.fields, Md9 t
structure DOk (d : Dt) : Prop where
  name : d.name ∈ nmT
  plen : d.params.length ≤ 2
  par : ∀ p ∈ d.params, p ∈ nmP
  clen : d.cons.length ≤ 3
  con : ∀ c ∈ d.cons, COk c

def dcC (pos : Int) (name : Txt) (ps : List Txt) (cs : List Con) : List AV := [.pv (vI pos), .pv (.str name), .own (ps.map .str) 1, .own (cs.map Con.pv) 2]
@[simp] theorem dcC_eq (pos : Int) (name : Txt) (ps : List Txt) (cs : List Con) : dcC pos name ps cs = [.pv (vI pos), .pv (.str name), .own (ps.map .str) 1, .own (cs.map Con.pv) 2] := rfl

/-- Parameters. -/
theorem L187p {L : List Int} (hL : Sm L) {out : List Dt} {N : Int} {I : Int} {pos : Int} {name : Txt} : ∀ (m : Nat), m ≤ 2 → ∀ (ps : List Txt) (i : Nat), ps.length + m ≤ 2 → (∀ p ∈ ps, p ∈ nmP) → i ≤ L.length → ∃ (r : List Txt) (j : Nat),
    cl AP g187L1 ⟨[(3, .sptr 0 0), (4, .own (out.map Dt.pv) 0), (5, .pv (vI N)), (6, .pv (vI I)), (7, .lptr 7 0), (8, .pv (vI m))], [(7, dcC pos name ps [])], tp L i, [out.length, ps.length, 0]⟩ =
      some (.exit 2, ⟨[(3, .sptr 0 0), (4, .own (out.map Dt.pv) 0), (5, .pv (vI N)), (6, .pv (vI I)), (7, .lptr 7 0), (8, .pv (vI 0)), (33, .pv (.bool false))], [(7, dcC pos name r [])], tp L j, [out.length, r.length, 0]⟩) ∧ r.length ≤ 2 ∧ (∀ p ∈ r, p ∈ nmP) ∧ j ≤ L.length
  | 0, _, ps, i, hl, hp, hi => by
    refine ⟨ps, i, ?_, by omega, hp, hi⟩
    rw [g187L1_eq]
    simp [g187B1]
  | m + 1, hm, ps, i, hl, hp, hi => by
    obtain ⟨k, j1, e1, k0, k3, hj1⟩ := c68 hL hi (n := 3) (by omega) (by omega)
    obtain ⟨q, rfl, hq⟩ := natI (n := nmP.length) k0 (by simpa [nmP] using k3)
    obtain ⟨s, hs⟩ := getO hq
    obtain ⟨r, j, e, hr, hpr, hj⟩ := L187p hL (out := out) (N := N) (I := I) (pos := pos) (name := name) m (by omega) (ps ++ [s]) j1 (by simp; omega) (by
      intro p h; simp at h; rcases h with h | rfl
      · exact hp p h
      · exact memO hs) hj1
    refine ⟨r, j, ?_, hr, hpr, hj⟩
    have hs' : ([PV.str [97], .str [98], .str [99]] : List PV)[q]? = some (.str s) := by
      have : ([PV.str [97], .str [98], .str [99]] : List PV) = nmP.map PV.str := rfl
      rw [this]; simp [hs]
    have hn1 : ((m : Int) + 1 - 1) = m := by omega
    have hn2 : (0 : Int) < (m : Int) + 1 := by omega
    have hb : (ps.length + 1) * 16 ≤ 140737488355328 := by omega
    have hh : headSz 1 (ps.map PV.str) = true := by cases ps <;> simp
    rw [g187L1_eq] at e ⊢
    simp at e1 e
    simp (disch := omega) [-getElem?_pos, g187B1, hn1, hn2, e1, hs', hb, hh, wrap_id]
    rw [g187L1_eq]
    simp [e]

/-- Fields. -/
theorem L187f {L : List Int} (hL : Sm L) {out : List Dt} {N : Int} {I K : Int} {pos cp : Int} {name cn : Txt} {ps : List Txt} {cs : List Con} : ∀ (m : Nat), m ≤ 2 → ∀ (fs : List Ty) (i : Nat), fs.length + m ≤ 2 → (∀ t ∈ fs, Md9 t) → i ≤ L.length → ∃ (r : List Ty) (j : Nat),
    cl AP g187L3 ⟨[(3, .sptr 0 0), (4, .own (out.map Dt.pv) 0), (5, .pv (vI N)), (6, .pv (vI I)), (7, .lptr 7 0), (9, .pv (vI K)), (10, .lptr 10 0), (11, .pv (vI m))], [(7, dcC pos name ps cs), (10, [.pv (vI cp), .pv (.str cn), .own (fs.map Ty.pv) 3])], tp L i, [out.length, ps.length, cs.length, fs.length]⟩ =
      some (.exit 6, ⟨[(3, .sptr 0 0), (4, .own (out.map Dt.pv) 0), (5, .pv (vI N)), (6, .pv (vI I)), (7, .lptr 7 0), (9, .pv (vI K)), (10, .lptr 10 0), (11, .pv (vI 0)), (66, .pv (.bool false))], [(7, dcC pos name ps cs), (10, [.pv (vI cp), .pv (.str cn), .own (r.map Ty.pv) 3])], tp L j, [out.length, ps.length, cs.length, r.length]⟩) ∧ r.length ≤ 2 ∧ (∀ t ∈ r, Md9 t) ∧ j ≤ L.length
  | 0, _, fs, i, hl, hp, hi => by
    refine ⟨fs, i, ?_, by omega, hp, hi⟩
    rw [g187L3_eq]
    simp [g187B3]
  | m + 1, hm, fs, i, hl, hp, hi => by
    have c1 := c213i
    have c2 := c67
    obtain ⟨t, j1, e1, mt, hj1⟩ := mk27 hL (ds := ds9) (by decide) (by decide +kernel) (lv := namedL) (by simp [Sm, namedL]) 2 (by omega) i hi
    obtain ⟨r, j, e, hr, hpr, hj⟩ := L187f hL (out := out) (N := N) (I := I) (K := K) (pos := pos) (cp := cp) (name := name) (cn := cn) (ps := ps) (cs := cs) m (by omega) (fs ++ [t]) j1 (by simp; omega) (by
      intro p h; simp at h; rcases h with h | rfl
      · exact hp p h
      · exact mt) hj1
    refine ⟨r, j, ?_, hr, hpr, hj⟩
    have hn1 : ((m : Int) + 1 - 1) = m := by omega
    have hn2 : (0 : Int) < (m : Int) + 1 := by omega
    have hb : (fs.length + 1) * 64 ≤ 140737488355328 := by omega
    rw [g187L3_eq] at e ⊢
    generalize hD : listD = D at c1 e1
    simp [ds9, hD, dT, dV] at e1
    simp at c1 c2 e
    simp (disch := omega) [-getElem?_pos, g187B3, hn1, hn2, c1, c2, e1, hb, wrap_id]
    rw [g187L3_eq]
    simp [e]
end Go.Ab.Lw
namespace Go.Ab.Lw
open Ev
set_option maxRecDepth 10000
set_option linter.unusedSimpArgs false
@[simp] theorem headSz_Con {l : List Con} : headSz 3 (l.map Con.pv) = true := by cases l <;> simp

/-- Constructors. -/
theorem L187c {L : List Int} (hL : Sm L) {out : List Dt} {N : Int} {I : Nat} (hI : I < 100) {pos : Int} {name : Txt} {ps : List Txt} : ∀ (m : Nat), m ≤ 3 → ∀ (cs : List Con) (i : Nat), cs.length + m ≤ 3 → (∀ c ∈ cs, COk c) → i ≤ L.length → ∃ (r : List Con) (j : Nat),
    cl AP g187L2 ⟨[(3, .sptr 0 0), (4, .own (out.map Dt.pv) 0), (5, .pv (vI N)), (6, .pv (vI I)), (7, .lptr 7 0), (9, .pv (vI m))], [(7, dcC pos name ps cs)], tp L i, [out.length, ps.length, cs.length]⟩ =
      some (.exit 4, ⟨[(3, .sptr 0 0), (4, .own (out.map Dt.pv) 0), (5, .pv (vI N)), (6, .pv (vI I)), (7, .lptr 7 0), (9, .pv (vI 0)), (50, .pv (.bool false))], [(7, dcC pos name ps r)], tp L j, [out.length, ps.length, r.length]⟩) ∧ r.length ≤ 3 ∧ (∀ c ∈ r, COk c) ∧ j ≤ L.length
  | 0, _, cs, i, hl, hp, hi => by
    refine ⟨cs, i, ?_, by omega, hp, hi⟩
    rw [g187L2_eq]
    simp [g187B2]
  | m + 1, hm, cs, i, hl, hp, hi => by
    obtain ⟨k, j1, e1, k0, k3, hj1⟩ := c68 hL hi (n := 6) (by omega) (by omega)
    obtain ⟨q, rfl, hq⟩ := natI (n := nmC.length) k0 (by simpa [nmC] using k3)
    obtain ⟨s, hs⟩ := getO hq
    obtain ⟨f, j2, e2, f0, f3, hj2⟩ := c68 hL hj1 (n := 3) (by omega) (by omega)
    obtain ⟨f, rfl, hf⟩ := natI (n := 3) f0 (by simpa using f3)
    obtain ⟨fs, j3, e3, hfl, hfm, hj3⟩ := L187f hL (out := out) (N := N) (I := I) (K := (m + 1 : Nat)) (pos := pos) (cp := 10 * I + (m + 1)) (name := name) (cn := s) (ps := ps) (cs := cs) f (by omega) [] j2 (by simp; omega) (by simp) hj2
    obtain ⟨r, j, e, hr, hpr, hj⟩ := L187c hL (out := out) (N := N) hI (pos := pos) (name := name) (ps := ps) m (by omega) (cs ++ [⟨10 * I + (m + 1), s, fs⟩]) j3 (by simp; omega) (by
      intro p h; simp at h; rcases h with h | rfl
      · exact hp p h
      · exact ⟨hfl, hfm⟩) hj3
    refine ⟨r, j, ?_, hr, hpr, hj⟩
    have hs' : ([PV.str [65], .str [66], .str [67], .str [68], .str [69], .str [70]] : List PV)[q]? = some (.str s) := by
      have : ([PV.str [65], .str [66], .str [67], .str [68], .str [69], .str [70]] : List PV) = nmC.map PV.str := rfl
      rw [this]; simp [hs]
    have hn1 : ((m : Int) + 1 - 1) = m := by omega
    have hn2 : (0 : Int) < (m : Int) + 1 := by omega
    have hb : (cs.length + 1) * 48 ≤ 140737488355328 := by omega
    rw [g187L2_eq] at e ⊢
    rw [g187L3_eq] at e3
    simp at e1 e2 e3 e
    simp (disch := omega) [-getElem?_pos, g187B2, hn1, hn2, e1, e2, hs', wrap_id]
    rw [g187L3_eq]
    simp (disch := omega) [e3, hb, hn1, wrap_id]
    rw [g187L2_eq]
    simp [e]

/-- Declarations. -/
theorem L187 {L : List Int} (hL : Sm L) {N : Nat} (hN : N ≤ 4) : ∀ (n k : Nat), N - k = n → k ≤ N → ∀ (out : List Dt) (i : Nat), out.length = k → (∀ d ∈ out, DOk d) → i ≤ L.length → ∃ (r : List Dt) (j : Nat),
    cl AP g187L0 ⟨[(3, .sptr 0 0), (4, .own (out.map Dt.pv) 0), (5, .pv (vI N)), (6, .pv (vI k))], [], tp L i, [out.length]⟩ =
      some (.exit 0, ⟨[(3, .sptr 0 0), (4, .own (r.map Dt.pv) 0), (5, .pv (vI N)), (6, .pv (vI N)), (19, .pv (.bool false))], [], tp L j, [r.length]⟩) ∧ r.length ≤ 4 ∧ (∀ d ∈ r, DOk d) ∧ j ≤ L.length
  | 0, k, hn, hk, out, i, hl, hp, hi => by
    have : k = N := by omega
    subst this
    refine ⟨out, i, ?_, by omega, hp, hi⟩
    rw [g187L0_eq]
    simp [g187B0]
  | n + 1, k, hn, hk, out, i, hl, hp, hi => by
    have hk : k < N := by omega
    obtain ⟨a, j1, e1, a0, a3, hj1⟩ := c68 hL hi (n := 5) (by omega) (by omega)
    obtain ⟨q, rfl, hq⟩ := natI (n := nmT.length) a0 (by simpa [nmT] using a3)
    obtain ⟨s, hs⟩ := getO hq
    obtain ⟨b, j2, e2, b0, b3, hj2⟩ := c68 hL hj1 (n := 3) (by omega) (by omega)
    obtain ⟨b, rfl, hb'⟩ := natI (n := 3) b0 (by simpa using b3)
    obtain ⟨ps, j3, e3, hpl, hpm, hj3⟩ := L187p hL (out := out) (N := N) (I := k) (pos := 10 * k) (name := s) b (by omega) [] j2 (by simp; omega) (by simp) hj2
    obtain ⟨c, j4, e4, c0, c3, hj4⟩ := c68 hL hj3 (n := 3) (by omega) (by omega)
    obtain ⟨c, rfl, hc'⟩ := natI (n := 3) c0 (by simpa using c3)
    obtain ⟨cs, j5, e5, hcl, hcm, hj5⟩ := L187c hL (out := out) (N := N) (I := k) (by omega) (pos := 10 * k) (name := s) (ps := ps) (c + 1) (by omega) [] j4 (by simp; omega) (by simp) hj4
    obtain ⟨r, j, e, hr, hpr, hj⟩ := L187 hL hN n (k + 1) (by omega) (by omega) (out ++ [⟨10 * k, s, ps, cs⟩]) j5 (by simp; omega) (by
      intro p h; simp at h; rcases h with h | rfl
      · exact hp p h
      · exact ⟨memO hs, hpl, hpm, hcl, hcm⟩) hj5
    refine ⟨r, j, ?_, hr, hpr, hj⟩
    have hs' : ([PV.str [84], .str [85], .str [73, 110, 116], .str [76, 105, 115, 116], .str [86]] : List PV)[q]? = some (.str s) := by
      have : ([PV.str [84], .str [85], .str [73, 110, 116], .str [76, 105, 115, 116], .str [86]] : List PV) = nmT.map PV.str := rfl
      rw [this]; simp [hs]
    have hb : (out.length + 1) * 72 ≤ 140737488355328 := by omega
    have hc1 : (1 : Int) + c = c + 1 := by omega
    rw [g187L0_eq] at e ⊢
    rw [g187L1_eq] at e3
    rw [g187L2_eq] at e5
    simp at e1 e2 e3 e4 e5 e
    simp (disch := omega) [-getElem?_pos, g187B0, hk, e1, e2, hs', wrap_id]
    rw [g187L1_eq]
    simp (disch := omega) [e3, e4, hc1, wrap_id]
    rw [g187L2_eq]
    simp (disch := omega) [e5, hb, wrap_id]
    rw [g187L0_eq]
    simp [e]

theorem c187 {L : List Int} (hL : Sm L) : ∃ ds : List Dt, (orcL AP).p 187 [.lst (L.map vI)] = some [.lst (ds.map Dt.pv)] ∧ ds.length ≤ 4 ∧ ∀ d ∈ ds, DOk d := by
  obtain ⟨k, j1, e1, k0, k4, hj1⟩ := c68 hL (i := 0) (by omega) (n := 4) (by omega) (by omega)
  obtain ⟨m, rfl, hm⟩ := natI (n := 4) k0 (by simpa using k4)
  obtain ⟨r, j, e, hr, hpr, hj⟩ := L187 hL (N := m) (by omega) m 0 rfl (by omega) [] j1 rfl (by simp) hj1
  refine ⟨r, ?_, hr, hpr⟩
  rw [g187L0_eq] at e
  simp at e1 e
  rw [callP_body (af := g187) rfl rfl (by decide)]
  simp [-getElem?_pos, g187, e1, g187L0_eq, e]

/-! ### What that says -/
theorem ds9_small : ∀ d : Dt, d ∈ ds9 → d.params.length ≤ 8 := by decide +kernel
theorem Md9.ok {t : Ty} (m : Md9 t) : t.Ok := MadeG.ok (D := (· ∈ ds9)) ds9_small namedL_bare m
theorem Md9.cw {t : Ty} (m : Md9 t) : t.Cw := MadeG.cw namedL_bare m
structure Small (ds : List Dt) : Prop where
  num : Sm ds
  par : ∀ d ∈ ds, Sm d.params
  con : ∀ d ∈ ds, Sm d.cons
  tot : Sm (ds.flatMap Dt.cons)
  fld : ∀ d ∈ ds, ∀ c ∈ d.cons, Sm c.fields ∧ (∀ x ∈ c.fields, x.Ok) ∧ ∀ x ∈ c.fields, x.Cw
theorem flat_le {l : List Dt} {b : Nat} (h : ∀ d ∈ l, d.cons.length ≤ b) : (l.flatMap Dt.cons).length ≤ l.length * b := by
  induction l with
  | nil => simp
  | cons a r ih =>
    have h1 := h a (by simp)
    have h2 := ih (fun x hx => h x (by simp [hx]))
    simp only [List.flatMap_cons, List.length_append, List.length_cons, Nat.add_mul]
    omega
theorem Small.of {ds : List Dt} (hl : ds.length ≤ 100) (h : ∀ d ∈ ds, d.params.length ≤ 100 ∧ d.cons.length ≤ 100 ∧ ∀ c ∈ d.cons, c.fields.length ≤ 100 ∧ (∀ x ∈ c.fields, x.Ok) ∧ ∀ x ∈ c.fields, x.Cw) : Small ds := by
  refine ⟨by unfold Sm; omega, fun d hd => by have := (h d hd).1; unfold Sm; omega, fun d hd => by have := (h d hd).2.1; unfold Sm; omega, ?_, ?_⟩
  · have := flat_le (l := ds) (b := 100) (fun d hd => (h d hd).2.1)
    unfold Sm; omega
  · intro d hd c hc
    obtain ⟨h1, h2, h3⟩ := (h d hd).2.2 c hc
    exact ⟨by unfold Sm; omega, h2, h3⟩
theorem DOk.small {d : Dt} (h : DOk d) : d.params.length ≤ 100 ∧ d.cons.length ≤ 100 ∧ ∀ c ∈ d.cons, c.fields.length ≤ 100 ∧ (∀ x ∈ c.fields, x.Ok) ∧ ∀ x ∈ c.fields, x.Cw := by
  have h1 := h.plen
  have h2 := h.clen
  refine ⟨by omega, by omega, fun c hc => ?_⟩
  have h3 := (h.con c hc).len
  exact ⟨by omega, fun x hx => Md9.ok ((h.con c hc).md x hx), fun x hx => Md9.cw ((h.con c hc).md x hx)⟩
end Go.Ab.Lw
namespace Go.Ab.Lw
open Ev
set_option maxRecDepth 10000
set_option linter.unusedSimpArgs false
/-- A constructor's place in a declaration, and in a list of declarations. -/
def fndC (cs : List Con) (s : Txt) : Option Nat := idxB (fun c => decide (c.name = s)) cs
def fndD : List Dt → Txt → Nat → Option (Nat × Nat)
  | [], _, _ => none
  | d :: r, s, i => match fndC d.cons s with
    | some k => some (i, k)
    | none => fndD r s (i + 1)
def rF : Option (Nat × Nat) → List PV
  | some (i, k) => [vI i, vI k, .bool true]
  | none => [vI 0, vI 0, .bool false]

theorem L190b {ds : List Dt} {s : Txt} {i : Nat} {cs : List Con} (hS : Sm cs) : ∀ (n k : Nat), cs.length - k = n → k ≤ cs.length →
    cl AP g190L1 ⟨[(1, .pv (.str s)), (7, .pv (vI i)), (11, .pv (.lst (ds.map Dt.pv))), (12, .pv (vI ds.length)), (13, .pv (vI i)), (19, .pv (.lst (cs.map Con.pv))), (20, .pv (vI cs.length)), (21, .pv (vI k))], [], [], []⟩ =
      match idxB (fun c => decide (c.name = s)) (cs.drop k) with
      | some j => some (.ret, ⟨[(4, .pv (vI i)), (5, .pv (vI (k + j : Nat))), (6, .pv (.bool true))], [], [], []⟩)
      | none => some (.exit 2, ⟨[(1, .pv (.str s)), (7, .pv (vI i)), (11, .pv (.lst (ds.map Dt.pv))), (12, .pv (vI ds.length)), (13, .pv (vI i)), (19, .pv (.lst (cs.map Con.pv))), (20, .pv (vI cs.length)), (21, .pv (vI cs.length)), (22, .pv (.bool false))], [], [], []⟩)
  | 0, k, hn, hk => by
    have : k = cs.length := by omega
    subst this
    rw [g190L1_eq]
    simp [g190B1, idxB]
  | n + 1, k, hn, hk => by
    have hk : k < cs.length := by omega
    obtain ⟨x, hx⟩ := getO hk
    unfold Sm at hS
    have ih := L190b (ds := ds) (s := s) (i := i) hS n (k + 1) (by omega) (by omega)
    rw [g190L1_eq] at ih ⊢
    rw [dropC hx]
    simp at ih
    by_cases e : x.name = s
    · simp (disch := omega) [-getElem?_pos, g190B1, hx, hk, e, idxB]
    · simp (disch := omega) [-getElem?_pos, g190B1, hx, hk, e, idxB, wrap_id]
      rw [g190L1_eq]
      simp [ih]
      cases idxB (fun c => decide (c.name = s)) (cs.drop (k + 1)) with
      | none => rfl
      | some j => simp; omega

theorem L190 {ds : List Dt} (hS : Sm ds) (hc : ∀ d ∈ ds, Sm d.cons) (s : Txt) : ∀ (n i : Nat), ds.length - i = n → i ≤ ds.length →
    cl AP g190L0 ⟨[(1, .pv (.str s)), (11, .pv (.lst (ds.map Dt.pv))), (12, .pv (vI ds.length)), (13, .pv (vI i))], [], [], []⟩ =
      match fndD (ds.drop i) s i with
      | some q => some (.ret, ⟨[(4, .pv (vI q.1)), (5, .pv (vI q.2)), (6, .pv (.bool true))], [], [], []⟩)
      | none => some (.exit 0, ⟨[(1, .pv (.str s)), (11, .pv (.lst (ds.map Dt.pv))), (12, .pv (vI ds.length)), (13, .pv (vI ds.length)), (14, .pv (.bool false))], [], [], []⟩)
  | 0, i, hn, hi => by
    have : i = ds.length := by omega
    subst this
    rw [g190L0_eq]
    simp [g190B0, fndD]
  | n + 1, i, hn, hi => by
    have hi : i < ds.length := by omega
    obtain ⟨d, hd⟩ := getO hi
    unfold Sm at hS
    have ih := L190 hS hc s n (i + 1) (by omega) (by omega)
    have h := L190b (ds := ds) (s := s) (i := i) (hc d (memO hd)) _ 0 rfl (by omega)
    rw [g190L1_eq] at h
    rw [g190L0_eq] at ih ⊢
    rw [dropC hd]
    simp at ih h
    cases e : idxB (fun c => decide (c.name = s)) d.cons with
    | some k =>
      rw [e] at h
      simp at h
      simp (disch := omega) [-getElem?_pos, g190B0, hd, hi, fndD, fndC, e, g190L1_eq, h]
    | none =>
      rw [e] at h
      simp at h
      simp (disch := omega) [-getElem?_pos, g190B0, hd, hi, fndD, fndC, e, g190L1_eq, h, wrap_id]
      rw [g190L0_eq]
      simp [ih]

theorem c190 {ds : List Dt} (hS : Sm ds) (hc : ∀ d ∈ ds, Sm d.cons) {s : Txt} : (orcL AP).p 190 [.lst (ds.map Dt.pv), .str s] = some (rF (fndD ds s 0)) := by
  have h := L190 hS hc s _ 0 rfl (by omega)
  rw [callP_body (af := g190) rfl rfl (by decide)]
  rw [g190L0_eq] at h
  simp at h
  cases e : fndD ds s 0 with
  | none => rw [e] at h; simp at h; simp [g190, g190L0_eq, h, rF]
  | some q => rw [e] at h; simp at h; simp [g190, g190L0_eq, h, rF]

theorem fndC_lt {cs : List Con} {s : Txt} {k : Nat} (h : fndC cs s = some k) : ∃ c, cs[k]? = some c ∧ c.name = s := by
  unfold fndC at h
  induction cs generalizing k with
  | nil => simp [idxB] at h
  | cons a r ih =>
    simp only [idxB] at h
    split at h
    · rename_i e
      cases h
      exact ⟨a, rfl, by simpa using e⟩
    · simp only [Option.map_eq_some_iff] at h
      obtain ⟨j, hj, rfl⟩ := h
      obtain ⟨c, h1, h2⟩ := ih hj
      exact ⟨c, by simpa using h1, h2⟩
theorem fndD_at {s : Txt} : ∀ {ds : List Dt} {n : Nat} {q : Nat × Nat}, fndD ds s n = some q → n ≤ q.1 ∧ ∃ d c, ds[q.1 - n]? = some d ∧ d.cons[q.2]? = some c ∧ c.name = s
  | [], n, q, h => by simp [fndD] at h
  | d :: r, n, q, h => by
    simp only [fndD] at h
    split at h
    · rename_i k e
      cases h
      obtain ⟨c, h1, h2⟩ := fndC_lt e
      exact ⟨Nat.le_refl _, d, c, by simp, h1, h2⟩
    · obtain ⟨h1, d', c, h2, h3, h4⟩ := fndD_at h
      refine ⟨by omega, d', c, ?_, h3, h4⟩
      rw [show q.1 - n = (q.1 - (n + 1)) + 1 from by omega]
      simpa using h2
end Go.Ab.Lw
namespace Go.Ab.Lw
open Ev
set_option maxRecDepth 10000
set_option linter.unusedSimpArgs false
theorem c223 {s : List Txt} (hS : Sm s) {y : Txt} : (orcL AP).p 223 [.lst (s.map .str), .str y] = some [vI (posS s y)] := by
  rw [cIx eqs_str (k := 223) rfl hS]
  unfold posS
  have : (fun x => decide (y = x)) = fun x : Txt => decide (x = y) := by funext x; exact decide_eq_decide.2 eq_comm
  rw [this]

mutual
def Ty.bnm (l : List Txt) : Ty → Ty
  | ⟨k, n, i, h, as⟩ => if k = 5 ∧ 0 ≤ posS l n then tyBound (posS l n) else ⟨k, n, i, h, Ty.bnms l as⟩
def Ty.bnms (l : List Txt) : List Ty → List Ty
  | [] => []
  | a :: r => a.bnm l :: Ty.bnms l r
end
theorem Ty.bnms_map (l : List Txt) : ∀ as : List Ty, Ty.bnms l as = as.map (Ty.bnm l)
  | [] => by simp [Ty.bnms]
  | a :: r => by simp [Ty.bnms, Ty.bnms_map l r]
theorem Ty.bnm_eq (l : List Txt) (t : Ty) : t.bnm l = if t.kind = 5 ∧ 0 ≤ posS l t.name then tyBound (posS l t.name) else ⟨t.kind, t.name, t.id, t.home, t.args.map (Ty.bnm l)⟩ := by
  cases t; simp only [Ty.bnm, Ty.bnms_map]

theorem L197 {l : List Txt} {t : Ty} (hS : Sm t.args) (h : ∀ x ∈ t.args, (orcL AP).p 197 [x.pv, .lst (l.map .str)] = some [(x.bnm l).pv]) : ∀ (n i : Nat), t.args.length - i = n → i ≤ t.args.length → ∀ d : List Ty, d = (t.args.take i).map (Ty.bnm l) →
    cl AP g197L0 ⟨[(1, .pv (.lst (l.map .str))), (2, .lptr 2 0), (4, .lptr 4 0), (6, .sarr 0 5 t.args.length true), (27, .pv (.lst (t.args.map Ty.pv))), (28, .pv (vI t.args.length)), (29, .pv (vI i))],
      [(2, t.cl), (4, [.pv (vI 0), .pv (.str []), .pv (vI 0), .pv (vI 0), .own [] 0])], [some (arrC d n)], [0]⟩ =
    some (.exit 0, ⟨[(1, .pv (.lst (l.map .str))), (2, .lptr 2 0), (4, .lptr 4 0), (6, .sarr 0 5 t.args.length true), (27, .pv (.lst (t.args.map Ty.pv))), (28, .pv (vI t.args.length)), (29, .pv (vI t.args.length)), (30, .pv (.bool false))],
      [(2, t.cl), (4, [.pv (vI 0), .pv (.str []), .pv (vI 0), .pv (vI 0), .own [] 0])], [some (arrC (t.args.map (Ty.bnm l)) 0)], [0]⟩)
  | 0, i, hn, hi, d, hd => by
    have : i = t.args.length := by omega
    subst this
    have hd' : d = t.args.map (Ty.bnm l) := by simpa using hd
    subst hd'
    have hQ := Quiet.one (arrC_pv (d := t.args.map (Ty.bnm l)) (m := 0))
    rw [g197L0_eq]
    simp [g197B0, hQ.norm, Ty.cl]
  | n + 1, i, hn, hi, d, hd => by
    have hi : i < t.args.length := by omega
    obtain ⟨x, hx⟩ := getO hi
    unfold Sm at hS
    have hdl : d.length = i := by rw [hd]; simp; omega
    have hQ := Quiet.one (arrC_pv (d := d) (m := n + 1))
    have hc := h x (memO hx)
    have ih := L197 hS h n (i + 1) (by omega) (by omega) (d ++ [x.bnm l]) (by rw [List.take_add_one, hx, hd]; simp)
    have hset : setRange (arrC d (n + 1)) (i * 5) (x.bnm l).cl = arrC (d ++ [x.bnm l]) n := by rw [← hdl]; exact arrC_set
    have hlen : i * 5 + 5 ≤ (arrC d (n + 1)).length := by rw [arrC_len]; omega
    have hQ2 := Quiet.one (arrC_pv (d := d ++ [x.bnm l]) (m := n))
    rw [g197L0_eq] at ih ⊢
    simp [Ty.cl, hQ2.norm] at ih hset hc
    simp (disch := omega) [-getElem?_pos, g197B0, hx, hi, hQ.norm, hQ.shift, Ty.cl, hc, hset, hlen, wrap_id]
    rw [g197L0_eq]
    simp [ih, hQ2.norm]

theorem c197 {l : List Txt} (hl : Sm l) {t : Ty} (hO : t.Ok) : (orcL AP).p 197 [t.pv, .lst (l.map .str)] = some [(t.bnm l).pv] := by
  revert hO
  refine Ty.rec1 (p := fun t => t.Ok → (orcL AP).p 197 [t.pv, .lst (l.map .str)] = some [(t.bnm l).pv]) ?_ t
  intro t ih hO
  have k1 := c223 hl (y := t.name)
  rw [callP_body (af := g197) rfl rfl (by decide), Ty.bnm_eq]
  by_cases e1 : t.kind = 5 ∧ 0 ≤ posS l t.name
  · simp [g197, k1, e1.1, e1.2, tyBound]
  · have hS := hO.sm
    have h := L197 hO.sm (fun x hx => ih x hx (hO.kid x hx)) t.args.length 0 (by omega) (by omega) [] (by simp)
    have hz : arrC [] t.args.length = (List.replicate t.args.length [.pv (vI 0), .pv (.str []), .pv (vI 0), .pv (vI 0), .pv (.lst [])]).flatten := by simp [arrC, zcl]
    have hQ := Quiet.one (arrC_pv (d := []) (m := t.args.length))
    rw [g197L0_eq] at h
    unfold Sm at hS
    have b1 : (t.args.length : Int) ≤ 9223372036854775807 := by omega
    have b2 : (t.args.length : Int) * 64 ≤ 140737488355328 := by omega
    rw [hz] at h hQ
    simp [hQ.norm, Ty.cl] at h
    have hQ2 := Quiet.one (arrC_pv (d := t.args.map (Ty.bnm l)) (m := 0))
    have hfr := arrC_frz (d := t.args.map (Ty.bnm l))
    have hle := arrC_len (d := t.args.map (Ty.bnm l)) (m := 0)
    simp at hfr hle
    by_cases e2 : t.kind = 5
    · have e3 : ¬ 0 ≤ posS l t.name := fun e => e1 ⟨e2, e⟩
      simp [e2] at h
      simp (disch := omega) [g197, k1, e2, e3, b1, b2, g197L0_eq, hQ.norm, h, hfr, hle]
    · simp (disch := omega) [g197, k1, e2, b1, b2, g197L0_eq, hQ.norm, h, hfr, hle]

end Go.Ab.Lw
namespace Go.Ab.Lw
open Ev
set_option maxRecDepth 10000
set_option linter.unusedSimpArgs false
def tyArr (a b : Ty) : Ty := ⟨4, [45, 62], 0, 0, [a, b]⟩
theorem c218 {s : List UInt8} {l : List Ty} (h : Sm l) : (orcL AP).p 218 [.str s, .lst (l.map Ty.pv)] = some [(Ty.mk 4 s 0 0 l).pv] := by
  unfold Sm at h
  rw [callP_body (af := g218) rfl rfl (by decide)]
  cases l with
  | nil => simp [g218]
  | cons a r =>
    have : (r.length + 1) * 64 ≤ 140737488355328 := by simp at h; omega
    simp [g218, this]
theorem c220 {a b : Ty} : (orcL AP).p 220 [a.pv, b.pv] = some [(tyArr a b).pv] := by
  rw [callP_body (af := g220) rfl rfl (by decide)]
  have h := c218 (s := [45, 62]) (l := [a, b]) (by simp [Sm])
  simp at h
  simp [g220, h, tyArr]

def bndL (n : Nat) : List Ty := (List.range n).map fun i : Nat => tyBound i
theorem bndL_len {n : Nat} : (bndL n).length = n := by simp [bndL]
theorem bndL_succ {n : Nat} : bndL (n + 1) = bndL n ++ [tyBound n] := by simp [bndL, List.range_succ]
def dtC (d : Dt) : List AV := [.pv (vI d.pos), .pv (.str d.name), .pv (.lst (d.params.map .str)), .pv (.lst (d.cons.map Con.pv))]
@[simp] theorem dtC_eq (d : Dt) : dtC d = [.pv (vI d.pos), .pv (.str d.name), .pv (.lst (d.params.map .str)), .pv (.lst (d.cons.map Con.pv))] := rfl
/-- The data type with its parameters quantified. -/
def resT (d : Dt) : Ty := ⟨4, d.name, 0, 0, bndL d.params.length⟩

/-- The type of a constructor. -/
def conT (ps : List Txt) (fs : List Ty) (t : Ty) : Ty := fs.foldr (fun f t => tyArr (f.bnm ps) t) t
theorem conT_snoc {ps : List Txt} {fs : List Ty} {k : Nat} {x t : Ty} (h : fs[k]? = some x) : conT ps (fs.take (k + 1)) t = conT ps (fs.take k) (tyArr (x.bnm ps) t) := by
  rw [List.take_add_one, h]
  simp [conT]
def conOf (ds : List Dt) (s : Txt) : Option Sc := (fndD ds s 0).bind fun q => (ds[q.1]?).bind fun d => (d.cons[q.2]?).map fun c => ⟨d.params.length, conT d.params c.fields (resT d)⟩

theorem L192 {d : Dt} {k m : Nat} (hm : m < 1099511627776) : ∀ (n i : Nat), m - i = n → i ≤ m →
    cl AP g192L0 ⟨[(4, .sptr 0 0), (7, .pv (vI k)), (9, .sptr 1 0), (10, .sarr 2 5 m true), (34, .pv (vI m)), (35, .pv (vI i))], [], [some [.pv (vI 0), .pv (vI 0), .pv (.str []), .pv (vI 0), .pv (vI 0), .own [] 0], some (dtC d), some (arrC (bndL i) n)], [0]⟩ =
      some (.exit 0, ⟨[(4, .sptr 0 0), (7, .pv (vI k)), (9, .sptr 1 0), (10, .sarr 2 5 m true), (34, .pv (vI m)), (35, .pv (vI m)), (36, .pv (.bool false))], [], [some [.pv (vI 0), .pv (vI 0), .pv (.str []), .pv (vI 0), .pv (vI 0), .own [] 0], some (dtC d), some (arrC (bndL m) 0)], [0]⟩)
  | 0, i, hn, hi => by
    have : i = m := by omega
    subst this
    have hN := fun o t => normL_pv (old := o) (ts := t) (arrC_pv (d := bndL i) (m := 0))
    rw [g192L0_eq]
    simp [g192B0, hN]
  | n + 1, i, hn, hi => by
    have hi : i < m := by omega
    have hN := fun o t => normL_pv (old := o) (ts := t) (arrC_pv (d := bndL i) (m := n + 1))
    have hN2 := fun o t => normL_pv (old := o) (ts := t) (arrC_pv (d := bndL i ++ [tyBound i]) (m := n))
    have ih := L192 (d := d) (k := k) hm n (i + 1) (by omega) (by omega)
    have hset : setRange (arrC (bndL i) (n + 1)) (i * 5) (tyBound i).cl = arrC (bndL i ++ [tyBound i]) n := by
      have := arrC_set (d := bndL i) (m := n) (t := tyBound i)
      rwa [bndL_len] at this
    have hlen : i * 5 + 5 ≤ (arrC (bndL i) (n + 1)).length := by rw [arrC_len, bndL_len]; omega
    rw [bndL_succ] at ih
    rw [g192L0_eq] at ih ⊢
    simp only [tyBound] at hN2 ih
    simp [Ty.cl, tyBound] at hset
    simp [hN2] at ih
    simp (disch := omega) [-getElem?_pos, g192B0, hi, hN, hset, hlen, wrap_id, tyBound]
    rw [g192L0_eq]
    simp [ih, hN2]

def z6 (a : Nat) : List AV := [.pv (vI 0), .pv (vI 0), .pv (.str []), .pv (vI 0), .pv (vI 0), .own [] a]
def sh192 (d : Dt) (a : Nat) (t : Ty) : Sh := [some (z6 a), some (dtC d), none, some t.cl, none]
def env192 : List (Nat × AV) := [(4, .sptr 0 0), (9, .sptr 1 0), (12, .sptr 3 0)]
theorem T192 {d : Dt} (hp : Sm d.params) {x t : Ty} (hx : x.Ok) {i a : Nat} {tk : Toks} (ha : tk[a]? = some 0) : ∃ e, andThen (cl AP g192X1) (cl AP g192Y1) (norm (restrict [4, 9, 12, 55, 56] ⟨putL (putL env192 55 (.pv (vI i))) 56 (.pv x.pv), [], sh192 d a t, tk⟩)) =
    some (.normal, ⟨e, [], sh192 d 0 (tyArr (x.bnm d.params) t), [0]⟩) := by
  have q1 := c197 hp hx
  have q2 := c220 (a := x.bnm d.params) (b := t)
  refine ⟨[(4, .sptr 0 0), (9, .sptr 1 0), (12, .sptr 3 0)], ?_⟩
  simp [tyArr] at q1 q2
  simp [-getElem?_pos, env192, sh192, z6, andThen_eq, g192X1, g192Y1, ha, Ty.cl, q1, q2, tyArr]
theorem L192b {d : Dt} (hp : Sm d.params) {fs : List Ty} (hO : ∀ x ∈ fs, x.Ok) : ∀ (k : Nat), k ≤ fs.length → ∀ (e : List (Nat × AV)) (a : Nat) (tk : Toks) (t : Ty), tk[a]? = some 0 → ∃ a' tk',
    backN (andThen (cl AP g192X1) (cl AP g192Y1)) [4, 9, 12, 55, 56] 55 56 5 true env192 (((fs.take k).map Ty.pv).zipIdx.reverse) ⟨e, [], sh192 d a t, tk⟩ =
      some (.normal, ⟨env192, [], sh192 d a' (conT d.params (fs.take k) t), tk'⟩) := by
  intro k
  induction k with
  | zero => intro _ e a tk t _; exact ⟨a, tk, by simp [conT]⟩
  | succ k ih =>
    intro hk e a tk t ha
    obtain ⟨x, hx⟩ := getO (l := fs) (i := k) (by omega)
    have hz := zipRev (l := fs.map Ty.pv) (k := k) (x := x.pv) (by simp [hx])
    obtain ⟨e1, h1⟩ := T192 (t := t) (i := k) hp (hO x (memO hx)) ha
    obtain ⟨a', tk', h⟩ := ih (by omega) e1 0 [0] (tyArr (x.bnm d.params) t) rfl
    rw [List.map_take] at h
    rw [List.map_take, hz, backN_cons el_ty, h1, conT_snoc hx]
    exact ⟨a', tk', by simp [h]⟩

theorem c219 {l : List Ty} {sh : Sh} {ts o : Toks} (hn : normS ts [] sh = (sh, o, ts)) : (orcL AP).i 219 [.pv (.lst (l.map Ty.pv))] sh ts = some ([.fn 236 [.sptr sh.length 0]], sh ++ [some [.pv (.lst (l.map Ty.pv))]], ts) := by
  rw [callI_body (af := g219) rfl (by simp [g219])]
  simp [g219, normS_app, hn]

theorem c192 {ds : List Dt} (hS : Sm ds) (hc : ∀ d ∈ ds, Sm d.cons) (hp : ∀ d ∈ ds, Sm d.params) (hf : ∀ d ∈ ds, ∀ c ∈ d.cons, Sm c.fields ∧ (∀ x ∈ c.fields, x.Ok)) {s : Txt} :
    (orcL AP).p 192 [.lst (ds.map Dt.pv), .str s] = some (rLk (conOf ds s)) := by
  have k := c190 hS hc (s := s)
  rw [callP_body (af := g192) rfl rfl (by decide)]
  cases e : fndD ds s 0 with
  | none =>
    rw [e] at k
    simp [rF] at k
    simp [g192, k, conOf, e, rLk, scZero]
  | some q =>
    rw [e] at k
    obtain ⟨_, d, c, hd, hcc, _⟩ := fndD_at e
    simp only [Nat.sub_zero] at hd
    obtain ⟨f1, f2⟩ := hf d (memO hd) c (memO hcc)
    have hpd := hp d (memO hd)
    have hpd' := hpd
    unfold Sm at hpd' f1
    have h := L192 (d := d) (k := q.2) (m := d.params.length) hpd' d.params.length 0 rfl (by omega)
    have hz : arrC (bndL 0) d.params.length = (List.replicate d.params.length [.pv (vI 0), .pv (.str []), .pv (vI 0), .pv (vI 0), .pv (.lst [])]).flatten := by simp [arrC, zcl, bndL]
    have hN := fun o t => normL_pv (old := o) (ts := t) (arrC_pv (d := bndL 0) (m := d.params.length))
    rw [hz] at h hN
    rw [g192L0_eq] at h
    have b1 : (d.params.length : Int) ≤ 9223372036854775807 := by omega
    have b2 : (d.params.length : Int) * 64 ≤ 140737488355328 := by omega
    have hfr := arrC_frz (d := bndL d.params.length)
    have hle := arrC_len (d := bndL d.params.length) (m := 0)
    have k2 := c218 (s := d.name) (l := bndL d.params.length) (by unfold Sm; rw [bndL_len]; omega)
    rw [bndL_len] at hfr hle
    have k3 := c219 (l := c.fields) (sh := [some [.pv (vI 0), .pv (vI 0), .pv (.str []), .pv (vI 0), .pv (vI 0), .own [] 0], some (dtC d), none, some (resT d).cl]) (ts := [0]) (o := [1]) (by simp [Ty.cl])
    have hw := fun f live => backWith_eq (f := f) (gb := 236) (s := 4) (pi := 55) (px := 56) (sz := 5) (ag := true) (live := live) (env := [(4, AV.sptr 0 0), (9, AV.sptr 1 0), (12, AV.sptr 3 0), (54, AV.fn 236 [AV.sptr 4 0])]) (mem := []) (sh := [some (z6 1), some (dtC d), none, some (resT d).cl, some [.pv (.lst (c.fields.map Ty.pv))]]) (toks := [1, 0]) (l := c.fields.map Ty.pv) rfl (by simp; omega)
    obtain ⟨a', tk', hL⟩ := L192b hpd f2 c.fields.length (Nat.le_refl _) [(4, AV.sptr 0 0), (9, AV.sptr 1 0), (12, AV.sptr 3 0), (54, AV.fn 236 [AV.sptr 4 0])] 1 [1, 0] (resT d) rfl
    rw [List.take_length] at hL
    have hb : backEnv [4, 9, 12, 55, 56] [(4, AV.sptr 0 0), (9, AV.sptr 1 0), (12, AV.sptr 3 0), (54, AV.fn 236 [AV.sptr 4 0])] = env192 := by simp [backEnv, env192]
    simp [rF] at k
    simp [resT] at k2
    simp [sh192, z6, Ty.cl, resT, env192] at hL
    simp [z6, Ty.cl, resT] at k3 hw
    simp [hN] at h
    simp at hfr hle
    simp (disch := omega) [-getElem?_pos, g192, k, hd, hcc, conOf, e, rLk, wrap_id, b1, b2, g192L0_eq, hN, h, hfr, hle, k2, k3, hw, hb, env192, hL, resT]
end Go.Ab.Lw
namespace Go.Ab.Lw
open Ev
set_option maxRecDepth 10000
set_option linter.unusedSimpArgs false
theorem slTo {sz : Nat} {l : List PV} {k : IntKind} {h : Int} (h0 : 0 ≤ h) (h1 : h ≤ l.length) : evSlice false sz false true false [.pv (.lst l), .pv (.int k h)] = some (.pv (.lst (l.take h.toNat))) := by
  simp [evSlice, elsOf, evBounds, h0, h1]

/-! ### A map that holds what was seen -/
def mpS (l : List Txt) : List (PV × PV) := l.map fun s => (.str s, .bool true)
def addS (l : List Txt) (s : Txt) : List Txt := if s ∈ l then l else l ++ [s]
theorem findKV_mpS {s : Txt} : ∀ {l : List Txt}, findKV .str (mpS l) (.str s) = some (if s ∈ l then some (.bool true) else none)
  | [] => rfl
  | a :: r => by
    have ih := findKV_mpS (s := s) (l := r)
    unfold mpS at ih ⊢
    simp only [List.map_cons, findKV, keyEq]
    by_cases e : s = a
    · subst e; simp
    · rw [show (s == a) = false from by simpa using e]
      simp only [ih, List.mem_cons, e, false_or]
theorem putKV_mpS {s : Txt} : ∀ {l : List Txt}, putKV .str (mpS l) (.str s) (.bool true) = some (mpS (addS l s))
  | [] => rfl
  | a :: r => by
    have ih := putKV_mpS (s := s) (l := r)
    unfold mpS addS at ih ⊢
    simp only [List.map_cons, putKV, keyEq]
    by_cases e : s = a
    · subst e; simp
    · rw [show (s == a) = false from by simpa using e]
      simp only [ih, List.mem_cons, e, false_or, Option.map_some]
      split <;> simp

/-! ### The first error -/
def dupR : List Txt → List Txt → Bool
  | _, [] => false
  | pre, s :: r => decide (s ∈ pre) || dupR (pre ++ [s]) r
def chkC (cons : List Txt) : List Con → Option Int × List Txt
  | [] => (none, cons)
  | c :: r => if c.name ∈ cons then (some c.pos, cons) else chkC (cons ++ [c.name]) r
def badN (types : List Txt) (d : Dt) : Bool := decide (d.name = [73, 110, 116] ∨ d.name ∈ types) || dupR [] d.params
def chkN (types cons : List Txt) : List Dt → Option Int
  | [] => none
  | d :: r => if badN types d = true then some d.pos
    else match chkC cons d.cons with
      | (some p, _) => some p
      | (none, cs) => chkN (types ++ [d.name]) cs r
def chkFC (ds : List Dt) (ps : List Txt) : List Con → Option (Int × Int)
  | [] => none
  | c :: r => if Ty.formeds ds ps c.fields ≠ 0 then some (Ty.formeds ds ps c.fields, c.pos) else chkFC ds ps r
def chkF (ds : List Dt) : List Dt → Option (Int × Int)
  | [] => none
  | d :: r => match chkFC ds d.params d.cons with
    | some q => some q
    | none => chkF ds r
def check (ds : List Dt) : Int × Int := match chkN [] [] ds with
  | some p => (6, p)
  | none => (chkF ds ds).getD (0, 0)

def mps (a b : List (PV × PV)) : Sh := [some [.mapc a], some [.mapc b]]
@[simp] theorem mps_eq (a b : List (PV × PV)) : mps a b = [some [.mapc a], some [.mapc b]] := rfl
def conC (c : Con) : List AV := [.pv (vI c.pos), .pv (.str c.name), .pv (.lst (c.fields.map Ty.pv))]
@[simp] theorem conC_eq (c : Con) : conC c = [.pv (vI c.pos), .pv (.str c.name), .pv (.lst (c.fields.map Ty.pv))] := rfl

theorem L188b {ds : List Dt} {d : Dt} {i : Nat} {A B : List (PV × PV)} (hS : Sm d.params) : ∀ (n k : Nat), d.params.length - k = n → k ≤ d.params.length → ∀ b : Bool,
    cl AP g188L1 ⟨[(0, .pv (.lst (ds.map Dt.pv))), (2, .lptr 2 0), (3, .mref 0), (4, .mref 1), (6, .lptr 6 0), (7, .pv (.bool b)), (22, .pv (.lst (ds.map Dt.pv))), (23, .pv (vI ds.length)), (24, .pv (vI i)), (36, .pv (.lst (d.params.map .str))), (37, .pv (vI d.params.length)), (38, .pv (vI k))],
      [(2, [.pv (vI 0), .pv (vI 0)]), (6, dtC d)], mps A B, []⟩ =
    some (.exit 2, ⟨[(0, .pv (.lst (ds.map Dt.pv))), (2, .lptr 2 0), (3, .mref 0), (4, .mref 1), (6, .lptr 6 0), (7, .pv (.bool (b || dupR (d.params.take k) (d.params.drop k)))), (22, .pv (.lst (ds.map Dt.pv))), (23, .pv (vI ds.length)), (24, .pv (vI i)), (36, .pv (.lst (d.params.map .str))), (37, .pv (vI d.params.length)), (38, .pv (vI d.params.length)), (39, .pv (.bool false))],
      [(2, [.pv (vI 0), .pv (vI 0)]), (6, dtC d)], mps A B, []⟩)
  | 0, k, hn, hk, b => by
    have : k = d.params.length := by omega
    subst this
    rw [g188L1_eq]
    simp [g188B1, dupR]
  | n + 1, k, hn, hk, b => by
    have hk : k < d.params.length := by omega
    have hk' : k ≤ d.params.length := by omega
    obtain ⟨x, hx⟩ := getO hk
    have hSt : Sm (d.params.take k) := by unfold Sm at hS ⊢; simp; omega
    unfold Sm at hS
    have q := c214 hSt (y := x)
    have sl := slTo (sz := 1) (l := d.params.map PV.str) (k := .i64) (h := k) (by omega) (by simp; omega)
    have ih := L188b (ds := ds) (d := d) (i := i) (A := A) (B := B) (by unfold Sm; exact hS) n (k + 1) (by omega) (by omega)
    have e1 : d.params.take (k + 1) = d.params.take k ++ [x] := by rw [List.take_add_one, hx]; rfl
    rw [e1] at ih
    rw [dropC hx]
    simp only [dupR]
    rw [List.map_take] at q
    simp at sl q
    cases b with
    | true =>
      have ih := ih true
      rw [g188L1_eq] at ih ⊢
      simp at ih
      simp (disch := omega) [-getElem?_pos, g188B1, hx, hk, wrap_id]
      rw [g188L1_eq]
      simp [ih]
    | false =>
      have ih := ih (decide (x ∈ d.params.take k))
      rw [g188L1_eq] at ih ⊢
      simp at ih
      simp (disch := omega) [-getElem?_pos, g188B1, hx, hk, hk', sl, q, wrap_id]
      rw [g188L1_eq]
      simp [ih]

theorem L188c {ds : List Dt} {i : Nat} {A : List (PV × PV)} {cs : List Con} (hS : Sm cs) : ∀ (n k : Nat), cs.length - k = n → k ≤ cs.length → ∀ cons : List Txt,
    cl AP g188L2 ⟨[(0, .pv (.lst (ds.map Dt.pv))), (2, .lptr 2 0), (3, .mref 0), (4, .mref 1), (22, .pv (.lst (ds.map Dt.pv))), (23, .pv (vI ds.length)), (24, .pv (vI i)), (58, .pv (.lst (cs.map Con.pv))), (59, .pv (vI cs.length)), (60, .pv (vI k))],
      [(2, [.pv (vI 0), .pv (vI 0)])], mps A (mpS cons), []⟩ =
    match chkC cons (cs.drop k) with
    | (some p, c2) => some (.ret, ⟨[(2, .lptr 2 0)], [(2, [.pv (vI 6), .pv (vI p)])], mps A (mpS c2), []⟩)
    | (none, c2) => some (.exit 4, ⟨[(0, .pv (.lst (ds.map Dt.pv))), (2, .lptr 2 0), (3, .mref 0), (4, .mref 1), (22, .pv (.lst (ds.map Dt.pv))), (23, .pv (vI ds.length)), (24, .pv (vI i)), (58, .pv (.lst (cs.map Con.pv))), (59, .pv (vI cs.length)), (60, .pv (vI cs.length)), (61, .pv (.bool false))],
      [(2, [.pv (vI 0), .pv (vI 0)])], mps A (mpS c2), []⟩)
  | 0, k, hn, hk, cons => by
    have : k = cs.length := by omega
    subst this
    rw [g188L2_eq]
    simp [g188B2, chkC]
  | n + 1, k, hn, hk, cons => by
    have hk : k < cs.length := by omega
    obtain ⟨x, hx⟩ := getO hk
    unfold Sm at hS
    have f1 := findKV_mpS (s := x.name) (l := cons)
    have f2 := putKV_mpS (s := x.name) (l := cons)
    have ih := L188c (ds := ds) (i := i) (A := A) (cs := cs) (by unfold Sm; exact hS) n (k + 1) (by omega) (by omega) (cons ++ [x.name])
    rw [dropC hx]
    simp only [chkC]
    rw [g188L2_eq] at ih ⊢
    by_cases e : x.name ∈ cons
    · simp [e] at f1
      simp (disch := omega) [-getElem?_pos, g188B2, hx, hk, f1, e]
    · simp [e, addS] at f1 f2
      simp at ih
      simp (disch := omega) [-getElem?_pos, g188B2, hx, hk, f1, f2, e, wrap_id]
      rw [g188L2_eq]
      simp [ih]

theorem L188 {ds : List Dt} (hS : Sm ds) (hp : ∀ d ∈ ds, Sm d.params) (hc : ∀ d ∈ ds, Sm d.cons) : ∀ (n i : Nat), ds.length - i = n → i ≤ ds.length → ∀ types cons : List Txt, ∃ A B,
    cl AP g188L0 ⟨[(0, .pv (.lst (ds.map Dt.pv))), (2, .lptr 2 0), (3, .mref 0), (4, .mref 1), (22, .pv (.lst (ds.map Dt.pv))), (23, .pv (vI ds.length)), (24, .pv (vI i))],
      [(2, [.pv (vI 0), .pv (vI 0)])], mps (mpS ([73, 110, 116] :: types)) (mpS cons), []⟩ =
    match chkN types cons (ds.drop i) with
    | some p => some (.ret, ⟨[(2, .lptr 2 0)], [(2, [.pv (vI 6), .pv (vI p)])], mps A B, []⟩)
    | none => some (.exit 0, ⟨[(0, .pv (.lst (ds.map Dt.pv))), (2, .lptr 2 0), (3, .mref 0), (4, .mref 1), (22, .pv (.lst (ds.map Dt.pv))), (23, .pv (vI ds.length)), (24, .pv (vI ds.length)), (25, .pv (.bool false))],
      [(2, [.pv (vI 0), .pv (vI 0)])], mps A B, []⟩)
  | 0, i, hn, hi, types, cons => by
    have : i = ds.length := by omega
    subst this
    refine ⟨mpS ([73, 110, 116] :: types), mpS cons, ?_⟩
    rw [g188L0_eq]
    simp [g188B0, chkN]
  | n + 1, i, hn, hi, types, cons => by
    have hi : i < ds.length := by omega
    obtain ⟨d, hd⟩ := getO hi
    unfold Sm at hS
    have hpd := hp d (memO hd)
    have f1 := findKV_mpS (s := d.name) (l := [73, 110, 116] :: types)
    have f2 := putKV_mpS (s := d.name) (l := [73, 110, 116] :: types)
    have k1 := L188b (ds := ds) (d := d) (i := i) (A := mpS (addS ([73, 110, 116] :: types) d.name)) (B := mpS cons) hpd _ 0 rfl (by omega) (decide (d.name ∈ [73, 110, 116] :: types))
    have k2 := L188c (ds := ds) (i := i) (A := mpS (addS ([73, 110, 116] :: types) d.name)) (hc d (memO hd)) _ 0 rfl (by omega) cons
    have eb : (decide (d.name ∈ [73, 110, 116] :: types) || dupR (d.params.take 0) (d.params.drop 0)) = badN types d := by
      simp [badN]
    rw [eb] at k1
    rw [dropC hd]
    simp only [chkN]
    rw [g188L1_eq] at k1
    rw [g188L2_eq] at k2
    have hv : (if d.name ∈ [73, 110, 116] :: types then some (PV.bool true) else none).getD (.bool false) = .bool (decide (d.name ∈ [73, 110, 116] :: types)) := by
      by_cases e : d.name ∈ [73, 110, 116] :: types <;> simp only [e, if_true, if_false, decide_true, decide_false] <;> rfl
    by_cases e : badN types d = true
    · refine ⟨mpS (addS ([73, 110, 116] :: types) d.name), mpS cons, ?_⟩
      rw [if_pos e, g188L0_eq]
      rw [e] at k1
      generalize [73, 110, 116] :: types = T at f1 f2 hv k1 ⊢
      generalize addS T d.name = T' at f2 k1 ⊢
      simp [g188L1_eq] at k1
      simp (disch := omega) [-getElem?_pos, g188B0, hd, hi, f1, f2, hv]
      rw [g188L1_eq]
      simp [k1]
    · have e' : badN types d = false := by simpa using e
      have ea : addS ([73, 110, 116] :: types) d.name = [73, 110, 116] :: (types ++ [d.name]) := by
        unfold addS
        rw [if_neg]
        · rfl
        · intro h
          apply e
          simp only [badN, Bool.or_eq_true, decide_eq_true_eq]
          left
          simpa using h
      rw [if_neg e]
      rw [e'] at k1
      rw [ea] at f2 k1 k2
      cases hC : chkC cons d.cons with
      | mk o cs =>
        rw [List.drop_zero, hC] at k2
        cases o with
        | some p =>
          refine ⟨mpS ([73, 110, 116] :: (types ++ [d.name])), mpS cs, ?_⟩
          rw [g188L0_eq]
          generalize [73, 110, 116] :: types = T at f1 f2 hv k1 ⊢
          generalize [73, 110, 116] :: (types ++ [d.name]) = T' at f2 k1 k2 ⊢
          simp at k1 k2
          simp (disch := omega) [-getElem?_pos, g188B0, hd, hi, f1, f2, hv]
          rw [g188L1_eq]
          simp [k1]
          rw [g188L2_eq]
          simp [k2]
        | none =>
          obtain ⟨A, B, ih⟩ := L188 (ds := ds) (by unfold Sm; exact hS) hp hc n (i + 1) (by omega) (by omega) (types ++ [d.name]) cs
          refine ⟨A, B, ?_⟩
          rw [g188L0_eq] at ih ⊢
          generalize [73, 110, 116] :: types = T at f1 f2 hv k1 ⊢
          generalize [73, 110, 116] :: (types ++ [d.name]) = T' at f2 k1 k2 ih ⊢
          simp at k1 k2 ih
          simp (disch := omega) [-getElem?_pos, g188B0, hd, hi, f1, f2, hv]
          rw [g188L1_eq]
          simp [k1]
          rw [g188L2_eq]
          simp (disch := omega) [k2, wrap_id]
          rw [g188L0_eq]
          simp [ih]
end Go.Ab.Lw
namespace Go.Ab.Lw
open Ev
set_option maxRecDepth 10000
set_option linter.unusedSimpArgs false
theorem L188f {ds : List Dt} (hds : Sm ds) {d : Dt} (hp : Sm d.params) {c : Con} {i k : Nat} {A B : List (PV × PV)} (hS : Sm c.fields) (hO : ∀ x ∈ c.fields, x.Ok) : ∀ (n j : Nat), c.fields.length - j = n → j ≤ c.fields.length →
    cl AP g188L5 ⟨[(0, .pv (.lst (ds.map Dt.pv))), (2, .lptr 2 0), (13, .lptr 13 0), (15, .lptr 15 0), (76, .pv (.lst (ds.map Dt.pv))), (77, .pv (vI ds.length)), (78, .pv (vI i)), (83, .pv (.lst (d.cons.map Con.pv))), (84, .pv (vI d.cons.length)), (85, .pv (vI k)), (90, .pv (.lst (c.fields.map Ty.pv))), (91, .pv (vI c.fields.length)), (92, .pv (vI j))],
      [(2, [.pv (vI 0), .pv (vI 0)]), (13, dtC d), (15, conC c)], mps A B, []⟩ =
    if Ty.formeds ds d.params (c.fields.drop j) ≠ 0 then some (.ret, ⟨[(2, .lptr 2 0)], [(2, [.pv (vI (Ty.formeds ds d.params (c.fields.drop j))), .pv (vI c.pos)])], mps A B, []⟩)
    else some (.exit 10, ⟨[(0, .pv (.lst (ds.map Dt.pv))), (2, .lptr 2 0), (13, .lptr 13 0), (15, .lptr 15 0), (76, .pv (.lst (ds.map Dt.pv))), (77, .pv (vI ds.length)), (78, .pv (vI i)), (83, .pv (.lst (d.cons.map Con.pv))), (84, .pv (vI d.cons.length)), (85, .pv (vI k)), (90, .pv (.lst (c.fields.map Ty.pv))), (91, .pv (vI c.fields.length)), (92, .pv (vI c.fields.length)), (93, .pv (.bool false))],
      [(2, [.pv (vI 0), .pv (vI 0)]), (13, dtC d), (15, conC c)], mps A B, []⟩)
  | 0, j, hn, hj => by
    have : j = c.fields.length := by omega
    subst this
    rw [g188L5_eq]
    simp [g188B5, Ty.formeds]
  | n + 1, j, hn, hj => by
    have hj : j < c.fields.length := by omega
    obtain ⟨x, hx⟩ := getO hj
    have q := c185 hds hp (hO x (memO hx))
    unfold Sm at hS
    have ih := L188f hds hp (c := c) (i := i) (k := k) (A := A) (B := B) (by unfold Sm; exact hS) hO n (j + 1) (by omega) (by omega)
    rw [dropC hx]
    simp only [Ty.formeds]
    rw [g188L5_eq] at ih ⊢
    simp at ih q
    by_cases e : x.formed ds d.params = 0
    · rw [e] at q
      simp (disch := omega) [-getElem?_pos, g188B5, hx, hj, q, e, wrap_id]
      rw [g188L5_eq]
      simp [ih]
    · simp (disch := omega) [-getElem?_pos, g188B5, hx, hj, q, e]

theorem L188g {ds : List Dt} (hds : Sm ds) {d : Dt} (hp : Sm d.params) {i : Nat} {A B : List (PV × PV)} (hS : Sm d.cons) (hf : ∀ c ∈ d.cons, Sm c.fields ∧ ∀ x ∈ c.fields, x.Ok) : ∀ (n k : Nat), d.cons.length - k = n → k ≤ d.cons.length →
    cl AP g188L4 ⟨[(0, .pv (.lst (ds.map Dt.pv))), (2, .lptr 2 0), (13, .lptr 13 0), (76, .pv (.lst (ds.map Dt.pv))), (77, .pv (vI ds.length)), (78, .pv (vI i)), (83, .pv (.lst (d.cons.map Con.pv))), (84, .pv (vI d.cons.length)), (85, .pv (vI k))],
      [(2, [.pv (vI 0), .pv (vI 0)]), (13, dtC d)], mps A B, []⟩ =
    match chkFC ds d.params (d.cons.drop k) with
    | some q => some (.ret, ⟨[(2, .lptr 2 0)], [(2, [.pv (vI q.1), .pv (vI q.2)])], mps A B, []⟩)
    | none => some (.exit 8, ⟨[(0, .pv (.lst (ds.map Dt.pv))), (2, .lptr 2 0), (13, .lptr 13 0), (76, .pv (.lst (ds.map Dt.pv))), (77, .pv (vI ds.length)), (78, .pv (vI i)), (83, .pv (.lst (d.cons.map Con.pv))), (84, .pv (vI d.cons.length)), (85, .pv (vI d.cons.length)), (86, .pv (.bool false))],
      [(2, [.pv (vI 0), .pv (vI 0)]), (13, dtC d)], mps A B, []⟩)
  | 0, k, hn, hk => by
    have : k = d.cons.length := by omega
    subst this
    rw [g188L4_eq]
    simp [g188B4, chkFC]
  | n + 1, k, hn, hk => by
    have hk : k < d.cons.length := by omega
    obtain ⟨c, hx⟩ := getO hk
    obtain ⟨f1, f2⟩ := hf c (memO hx)
    have h := L188f hds hp (c := c) (i := i) (k := k) (A := A) (B := B) f1 f2 _ 0 rfl (by omega)
    unfold Sm at hS
    have ih := L188g hds hp (i := i) (A := A) (B := B) (by unfold Sm; exact hS) hf n (k + 1) (by omega) (by omega)
    rw [dropC hx]
    simp only [chkFC]
    rw [g188L4_eq] at ih ⊢
    rw [g188L5_eq] at h
    simp at ih h
    by_cases e : Ty.formeds ds d.params c.fields = 0
    · simp [e] at h
      simp (disch := omega) [-getElem?_pos, g188B4, hx, hk, e]
      rw [g188L5_eq]
      simp (disch := omega) [h, wrap_id]
      rw [g188L4_eq]
      simp [ih]
    · simp [e] at h
      simp (disch := omega) [-getElem?_pos, g188B4, hx, hk, e]
      rw [g188L5_eq]
      simp [h]

theorem L188h {ds : List Dt} (hds : Sm ds) (hp : ∀ d ∈ ds, Sm d.params) (hc : ∀ d ∈ ds, Sm d.cons) (hf : ∀ d ∈ ds, ∀ c ∈ d.cons, Sm c.fields ∧ ∀ x ∈ c.fields, x.Ok) {A B : List (PV × PV)} : ∀ (n i : Nat), ds.length - i = n → i ≤ ds.length →
    cl AP g188L3 ⟨[(0, .pv (.lst (ds.map Dt.pv))), (2, .lptr 2 0), (76, .pv (.lst (ds.map Dt.pv))), (77, .pv (vI ds.length)), (78, .pv (vI i))],
      [(2, [.pv (vI 0), .pv (vI 0)])], mps A B, []⟩ =
    match chkF ds (ds.drop i) with
    | some q => some (.ret, ⟨[(2, .lptr 2 0)], [(2, [.pv (vI q.1), .pv (vI q.2)])], mps A B, []⟩)
    | none => some (.exit 6, ⟨[(0, .pv (.lst (ds.map Dt.pv))), (2, .lptr 2 0), (76, .pv (.lst (ds.map Dt.pv))), (77, .pv (vI ds.length)), (78, .pv (vI ds.length)), (79, .pv (.bool false))],
      [(2, [.pv (vI 0), .pv (vI 0)])], mps A B, []⟩)
  | 0, i, hn, hi => by
    have : i = ds.length := by omega
    subst this
    rw [g188L3_eq]
    simp [g188B3, chkF]
  | n + 1, i, hn, hi => by
    have hi : i < ds.length := by omega
    obtain ⟨d, hd⟩ := getO hi
    have h := L188g hds (hp d (memO hd)) (i := i) (A := A) (B := B) (hc d (memO hd)) (hf d (memO hd)) _ 0 rfl (by omega)
    have ih := L188h hds hp hc hf (A := A) (B := B) n (i + 1) (by omega) (by omega)
    have hds' := hds
    unfold Sm at hds'
    rw [dropC hd]
    simp only [chkF]
    rw [g188L3_eq] at ih ⊢
    rw [g188L4_eq] at h
    simp at ih h
    cases e : chkFC ds d.params d.cons with
    | none =>
      rw [e] at h
      simp at h
      simp (disch := omega) [-getElem?_pos, g188B3, hd, hi]
      rw [g188L4_eq]
      simp (disch := omega) [h, wrap_id]
      rw [g188L3_eq]
      simp [ih]
    | some q =>
      rw [e] at h
      simp at h
      simp (disch := omega) [-getElem?_pos, g188B3, hd, hi]
      rw [g188L4_eq]
      simp [h]

/-- **Check, by the program.** -/
theorem c188 {ds : List Dt} (hds : Sm ds) (hp : ∀ d ∈ ds, Sm d.params) (hc : ∀ d ∈ ds, Sm d.cons) (hf : ∀ d ∈ ds, ∀ c ∈ d.cons, Sm c.fields ∧ ∀ x ∈ c.fields, x.Ok) :
    (orcL AP).p 188 [.lst (ds.map Dt.pv)] = some [.agg [vI (check ds).1, vI (check ds).2]] := by
  obtain ⟨A, B, h1⟩ := L188 hds hp hc _ 0 rfl (by omega) [] []
  have h2 := L188h hds hp hc hf (A := A) (B := B) _ 0 rfl (by omega)
  rw [callP_body (af := g188) rfl rfl (by decide)]
  unfold check
  rw [g188L0_eq] at h1
  rw [g188L3_eq] at h2
  have f1 : putKV .str [] (.str [73, 110, 116]) (.bool true) = some [(.str [73, 110, 116], .bool true)] := rfl
  simp [mpS] at h1 h2
  cases e1 : chkN [] [] ds with
  | some p =>
    rw [e1] at h1
    simp at h1
    simp [g188, f1, g188L0_eq, h1]
  | none =>
    rw [e1] at h1
    simp at h1
    cases e2 : chkF ds ds with
    | none =>
      rw [e2] at h2
      simp at h2
      simp [g188, f1, g188L0_eq, h1, g188L3_eq, h2]
    | some q =>
      rw [e2] at h2
      simp at h2
      simp [g188, f1, g188L0_eq, h1, g188L3_eq, h2]
end Go.Ab.Lw
namespace Go.Ab.Lw
open Ev
set_option maxRecDepth 10000
theorem c184 : (orcL AP).p 184 [] = some [.bool true] := Fc.p_of (k := 400) (n := 40) (by kernel_rfl)
end Go.Ab.Lw
namespace Go.Ab.Lw
open Ev
set_option maxRecDepth 10000
set_option linter.unusedSimpArgs false
theorem Small.c188 {ds : List Dt} (h : Small ds) : (orcL AP).p 188 [.lst (ds.map Dt.pv)] = some [.agg [vI (check ds).1, vI (check ds).2]] :=
  Lw.c188 h.num h.par h.con (fun d hd c hc => ⟨(h.fld d hd c hc).1, (h.fld d hd c hc).2.1⟩)
end Go.Ab.Lw
namespace Go.Ab.Lw
open Ev
set_option maxRecDepth 10000
set_option linter.unusedSimpArgs false
theorem bnm_ok {l : List Txt} {t : Ty} (h : t.Ok) : (t.bnm l).Ok := by
  revert h
  refine Ty.rec1 (p := fun t => t.Ok → (t.bnm l).Ok) ?_ t
  intro t ih h
  rw [Ty.bnm_eq]
  split
  · exact bare_ok rfl
  · refine ⟨by have := h.sm; unfold Sm at this ⊢; simpa using this, ?_⟩
    intro x hx
    simp only [List.mem_map] at hx
    obtain ⟨y, hy, rfl⟩ := hx
    exact ih y hy (h.kid y hy)
theorem resT_ok {d : Dt} (h : Sm d.params) : (resT d).Ok := by
  refine ⟨by unfold Sm at h ⊢; show (bndL d.params.length).length < _; rw [bndL_len]; exact h, ?_⟩
  intro x hx
  have hx : x ∈ bndL d.params.length := hx
  simp only [bndL, List.mem_map] at hx
  obtain ⟨i, _, rfl⟩ := hx
  exact bare_ok rfl
theorem conT_ok {ps : List Txt} {t : Ty} (ht : t.Ok) : ∀ {fs : List Ty}, (∀ x ∈ fs, x.Ok) → (conT ps fs t).Ok
  | [], _ => ht
  | a :: r, h => by
    have ih := conT_ok (ps := ps) ht (fs := r) (fun x hx => h x (by simp [hx]))
    show (tyArr (a.bnm ps) (conT ps r t)).Ok
    refine ⟨by simp [tyArr, Sm], ?_⟩
    intro x hx
    simp [tyArr] at hx
    rcases hx with rfl | rfl
    · exact bnm_ok (h a (by simp))
    · exact ih
end Go.Ab.Lw
namespace Go.Ab.Lw
open Ev
set_option maxRecDepth 10000
set_option linter.unusedSimpArgs false
/-- Types where places have no parts. -/
inductive Ty.Wb : Ty → Prop
  | mk {t : Ty} : (t.kind = 2 → t.args = []) → (∀ x ∈ t.args, Ty.Wb x) → Ty.Wb t
theorem Ty.Wb.kid {t : Ty} (h : t.Wb) : ∀ x ∈ t.args, x.Wb := by cases h; assumption
end Go.Ab.Lw
namespace Go.Ab.Lw
open Ev
set_option maxRecDepth 10000
set_option linter.unusedSimpArgs false
def cnames (ds : List Dt) : List Txt := ds.flatMap fun d => d.cons.map Con.name
theorem chkC_none : ∀ {cs : List Con} {cons : List Txt}, (chkC cons cs).1 = none → cons.Nodup → (cons ++ cs.map Con.name).Nodup ∧ (chkC cons cs).2 = cons ++ cs.map Con.name
  | [], cons, _, hn => by simp [chkC, hn]
  | a :: r, cons, h, hn => by
    simp only [chkC] at h ⊢
    by_cases e : a.name ∈ cons
    · rw [if_pos e] at h; simp at h
    · rw [if_neg e] at h ⊢
      have hn' : (cons ++ [a.name]).Nodup := by
        rw [List.nodup_append]
        refine ⟨hn, by simp, ?_⟩
        intro x hx y hy
        simp at hy; subst hy
        rintro rfl; exact e hx
      obtain ⟨h1, h2⟩ := chkC_none h hn'
      rw [h2]
      simp only [List.map_cons]
      rw [List.append_assoc] at h1 ⊢
      exact ⟨h1, rfl⟩
theorem chkN_none : ∀ {ds : List Dt} {types cons : List Txt}, chkN types cons ds = none → cons.Nodup → (cons ++ cnames ds).Nodup ∧ ∀ d ∈ ds, d.name ≠ [73, 110, 116]
  | [], _, cons, _, hn => by simp [cnames, hn]
  | d :: r, types, cons, h, hn => by
    simp only [chkN] at h
    by_cases e : badN types d = true
    · rw [if_pos e] at h; cases h
    · rw [if_neg e] at h
      cases hC : chkC cons d.cons with
      | mk o cs =>
        rw [hC] at h
        cases o with
        | some p => cases h
        | none =>
          obtain ⟨h1, h2⟩ := chkC_none (cs := d.cons) (cons := cons) (by rw [hC]) hn
          rw [hC] at h2
          simp only at h2
          subst h2
          obtain ⟨h3, h4⟩ := chkN_none h h1
          refine ⟨by simpa [cnames, List.append_assoc] using h3, ?_⟩
          intro x hx
          simp only [List.mem_cons] at hx
          rcases hx with rfl | hx
          · intro he; apply e; simp [badN, he]
          · exact h4 x hx
theorem fndC_nodup {c : Con} : ∀ {cs : List Con} {k : Nat}, (cs.map Con.name).Nodup → cs[k]? = some c → fndC cs c.name = some k
  | [], k, _, h => by simp at h
  | a :: r, k, hn, h => by
    simp only [List.map_cons, List.nodup_cons] at hn
    unfold fndC
    simp only [idxB]
    cases k with
    | zero => simp at h; subst h; simp
    | succ k =>
      have h : r[k]? = some c := by simpa using h
      have hne : ¬ a.name = c.name := fun e => hn.1 (by rw [e]; exact List.mem_map_of_mem (memO h))
      have ih := fndC_nodup hn.2 h
      unfold fndC at ih
      simp [hne, ih]
theorem fndD_nodup {d : Dt} {c : Con} {k : Nat} (hc : d.cons[k]? = some c) : ∀ {ds : List Dt} {i n : Nat}, (cnames ds).Nodup → ds[i]? = some d → fndD ds c.name n = some (n + i, k)
  | [], i, _, _, h => by simp at h
  | a :: r, i, n, hn, h => by
    have hn' : (a.cons.map Con.name ++ cnames r).Nodup := by simpa [cnames] using hn
    rw [List.nodup_append] at hn'
    obtain ⟨h1, h2, h3⟩ := hn'
    simp only [fndD]
    cases i with
    | zero =>
      simp at h; subst h
      rw [fndC_nodup h1 hc]
      rfl
    | succ i =>
      have h : r[i]? = some d := by simpa using h
      have hnone : fndC a.cons c.name = none := by
        unfold fndC
        rw [idxB_none]
        intro x hx
        simp only [decide_eq_false_iff_not]
        intro e
        have hm : c.name ∈ cnames r := by
          simp only [cnames, List.mem_flatMap, List.mem_map]
          exact ⟨d, memO h, c, memO hc, rfl⟩
        exact h3 _ (List.mem_map_of_mem hx) _ hm e
      rw [hnone]
      have := fndD_nodup hc (i := i) (n := n + 1) h2 h
      simp only [this]
      congr 2
      omega

/-! ### Valid types -/
theorem idxB_lt {α : Type} {p : α → Bool} : ∀ {l : List α} {k : Nat}, idxB p l = some k → k < l.length
  | [], k, h => by simp [idxB] at h
  | a :: r, k, h => by
    simp only [idxB] at h
    split at h
    · cases h; simp
    · simp only [Option.map_eq_some_iff] at h
      obtain ⟨j, hj, rfl⟩ := h
      have := idxB_lt hj
      simp; omega
theorem posS_lt {s : List Txt} {y : Txt} : posS s y < s.length ∨ posS s y < 0 := by
  unfold posS
  cases e : idxB (fun x => decide (x = y)) s with
  | none => right; simp [idxI]
  | some k => left; have := idxB_lt e; simp [idxI]; exact this
theorem bound_valid {i : Int} (h0 : 0 ≤ i) (h1 : i ≤ 1000000) : validT (tyBound i) = true ∧ (tyBound i).Nm := by
  refine ⟨by rw [validT_eq]; simp [tyBound, h0, h1], ⟨by simp [tyBound, SmS], by simp [tyBound]⟩⟩
theorem data9 : ∀ d : Dt, d ∈ ds9 → conB d.name d.params.length = true ∧ d.name.length ≤ 20 := by decide +kernel
theorem MadeG.bval {l : List Txt} (hl : l.length ≤ 100) {n : Nat} {t : Ty} (m : MadeG (· ∈ ds9) namedL n t) : validT (t.bnm l) = true ∧ (t.bnm l).Nm := by
  induction m with
  | @leaf n t hl' =>
    rw [Ty.bnm_eq]
    split
    · rename_i h
      have := posS_lt (s := l) (y := t.name)
      exact bound_valid h.2 (by omega)
    · simp [namedL] at hl'
      rcases hl' with rfl | rfl | rfl
      · show validT (tyNamed [97]) = true ∧ (tyNamed [97]).Nm
        exact ⟨by rw [validT_eq]; decide +kernel, ⟨by simp [tyNamed, SmS], by simp [tyNamed]⟩⟩
      · show validT (tyNamed [98]) = true ∧ (tyNamed [98]).Nm
        exact ⟨by rw [validT_eq]; decide +kernel, ⟨by simp [tyNamed, SmS], by simp [tyNamed]⟩⟩
      · show validT (tyNamed [99]) = true ∧ (tyNamed [99]).Nm
        exact ⟨by rw [validT_eq]; decide +kernel, ⟨by simp [tyNamed, SmS], by simp [tyNamed]⟩⟩
  | int =>
    rw [Ty.bnm_eq, if_neg (by simp [tyInt])]
    show validT tyInt = true ∧ tyInt.Nm
    exact ⟨by rw [validT_eq]; decide +kernel, ⟨by simp [tyInt, SmS], by simp [tyInt]⟩⟩
  | @con n d args hd hlen _ ih =>
    rw [Ty.bnm_eq, if_neg (by simp)]
    obtain ⟨h1, h2⟩ := data9 d hd
    refine ⟨?_, ⟨by unfold SmS; simp only; omega, ?_⟩⟩
    · rw [validT_eq]
      simp [hlen, h1]
      intro x hx
      exact (ih x hx).1
    · intro x hx
      simp only [List.mem_map] at hx
      obtain ⟨y, hy, rfl⟩ := hx
      exact (ih y hy).2
  | @arrow n a b _ _ ha hb =>
    rw [Ty.bnm_eq, if_neg (by simp)]
    refine ⟨?_, ⟨by simp [SmS], ?_⟩⟩
    · rw [validT_eq]
      simp [conB, ha.1, hb.1]
    · intro x hx
      simp at hx
      rcases hx with rfl | rfl
      · exact ha.2
      · exact hb.2
theorem names_T : ∀ s : Txt, s ∈ nmT → s ≠ [73, 110, 116] → (nameB s 65 90 = true ∧ s ≠ [45, 62]) ∧ s.length ≤ 20 := by decide +kernel
theorem resT_valid {d : Dt} (h : DOk d) (hi : d.name ≠ [73, 110, 116]) : validT (resT d) = true ∧ (resT d).Nm := by
  obtain ⟨⟨h1, h2⟩, h3⟩ := names_T d.name h.name hi
  have hp := h.plen
  have hb : ∀ x ∈ bndL d.params.length, validT x = true ∧ x.Nm := by
    intro x hx
    simp only [bndL, List.mem_map, List.mem_range] at hx
    obtain ⟨i, hi, rfl⟩ := hx
    exact bound_valid (by omega) (by omega)
  refine ⟨?_, ⟨by show d.name.length ≤ _; omega, fun x hx => (hb x hx).2⟩⟩
  rw [validT_eq]
  simp [resT, conB, h1, h2, hi, bndL_len]
  exact ⟨by omega, fun x hx => (hb x hx).1⟩
theorem conT_valid {ps : List Txt} (hp : ps.length ≤ 100) {t : Ty} (ht : validT t = true ∧ t.Nm) : ∀ {fs : List Ty}, (∀ x ∈ fs, Md9 x) → validT (conT ps fs t) = true ∧ (conT ps fs t).Nm
  | [], _ => ht
  | a :: r, h => by
    obtain ⟨i1, i2⟩ := conT_valid hp ht (fs := r) (fun x hx => h x (by simp [hx]))
    obtain ⟨j1, j2⟩ := MadeG.bval hp (h a (by simp))
    show validT (tyArr (a.bnm ps) (conT ps r t)) = true ∧ (tyArr (a.bnm ps) (conT ps r t)).Nm
    refine ⟨?_, ⟨by simp [tyArr, SmS], ?_⟩⟩
    · rw [validT_eq]
      simp [tyArr, conB, i1, j1]
    · intro x hx
      simp [tyArr] at hx
      rcases hx with rfl | rfl
      · exact j2
      · exact i2
end Go.Ab.Lw
namespace Go.Ab.Lw
open Ev
set_option maxRecDepth 10000
set_option linter.unusedSimpArgs false
theorem c194 {a b : Ty} : (orcL AP).p 194 [(tyArr a b).pv] = some [a.pv, b.pv, .bool true] := by
  rw [callP_body (af := g194) rfl rfl (by decide)]
  simp [g194, tyArr]

def scCl (c : Sc) : List AV := [.pv (vI c.id), .pv (vI c.ty.kind), .pv (.str c.ty.name), .pv (vI c.ty.id), .pv (vI c.ty.home), .pv (.lst (c.ty.args.map Ty.pv))]
@[simp] theorem scCl_eq (c : Sc) : scCl c = [.pv (vI c.id), .pv (vI c.ty.kind), .pv (.str c.ty.name), .pv (vI c.ty.id), .pv (vI c.ty.home), .pv (.lst (c.ty.args.map Ty.pv))] := rfl

theorem L168c {ds : List Dt} {i k : Nat} {d : Dt} {c : Con} (hd : ds[i]? = some d) (hc : d.cons[k]? = some c) (hS : Sm c.fields) {C : Sc} {R : Ty} : ∀ (n j : Nat), c.fields.length - j = n → j ≤ c.fields.length →
    cl AP g168L2 ⟨[(3, .pv (.lst (ds.map Dt.pv))), (4, .pv (vI i)), (5, .pv (vI k)), (6, .lptr 6 0), (7, .pv (.bool true)), (8, .lptr 8 0), (9, .pv (vI j))], [(6, scCl C), (8, tyC (conT d.params (c.fields.drop j) R))], [], []⟩ =
      some (.exit 4, ⟨[(3, .pv (.lst (ds.map Dt.pv))), (4, .pv (vI i)), (5, .pv (vI k)), (6, .lptr 6 0), (7, .pv (.bool true)), (8, .lptr 8 0), (9, .pv (vI c.fields.length)), (67, .pv (.bool false))], [(6, scCl C), (8, tyC R)], [], []⟩)
  | 0, j, hn, hj => by
    have : j = c.fields.length := by omega
    subst this
    rw [g168L2_eq]
    simp [-getElem?_pos, g168B2, conT, hd, hc]
  | n + 1, j, hn, hj => by
    have hj : j < c.fields.length := by omega
    obtain ⟨x, hx⟩ := getO hj
    have e1 : conT d.params (c.fields.drop j) R = tyArr (x.bnm d.params) (conT d.params (c.fields.drop (j + 1)) R) := by rw [dropC hx]; rfl
    have q := c194 (a := x.bnm d.params) (b := conT d.params (c.fields.drop (j + 1)) R)
    unfold Sm at hS
    have ih := L168c hd hc (by unfold Sm; exact hS) (C := C) (R := R) n (j + 1) (by omega) (by omega)
    rw [e1]
    generalize conT d.params (c.fields.drop (j + 1)) R = v at q ih ⊢
    rw [g168L2_eq] at ih ⊢
    simp [tyArr] at q ih
    simp (disch := omega) [-getElem?_pos, g168B2, hd, hc, hj, q, wrap_id, tyArr]
    rw [g168L2_eq]
    simp [ih]

theorem L168b {ds : List Dt} (h : Small ds) (hok : ∀ d ∈ ds, DOk d) (hnd : (cnames ds).Nodup) (hint : ∀ d ∈ ds, d.name ≠ [73, 110, 116]) {i : Nat} {d : Dt} (hd : ds[i]? = some d) : ∀ (n k : Nat), d.cons.length - k = n → k ≤ d.cons.length →
    cl AP g168L1 ⟨[(3, .pv (.lst (ds.map Dt.pv))), (4, .pv (vI i)), (5, .pv (vI k))], [], [], []⟩ =
      some (.exit 2, ⟨[(3, .pv (.lst (ds.map Dt.pv))), (4, .pv (vI i)), (5, .pv (vI d.cons.length)), (34, .pv (.bool false))], [], [], []⟩)
  | 0, k, hn, hk => by
    have : k = d.cons.length := by omega
    subst this
    rw [g168L1_eq]
    simp [-getElem?_pos, g168B1, hd]
  | n + 1, k, hn, hk => by
    have hk : k < d.cons.length := by omega
    obtain ⟨c, hc⟩ := getO hk
    have hdm := memO hd
    have hcm := memO hc
    obtain ⟨f1, f2, f3⟩ := h.fld d hdm c hcm
    have hf1 : ∀ d ∈ ds, ∀ c ∈ d.cons, Sm c.fields ∧ (∀ x ∈ c.fields, x.Ok) := fun d hd c hc => ⟨(h.fld d hd c hc).1, (h.fld d hd c hc).2.1⟩
    have hcl := (hok d hdm).clen
    have hpl := (hok d hdm).plen
    have k1 := c192 h.num h.con h.par hf1 (s := c.name)
    have ef := fndD_nodup hc (ds := ds) (i := i) (n := 0) hnd hd
    have ec : conOf ds c.name = some ⟨d.params.length, conT d.params c.fields (resT d)⟩ := by
      unfold conOf
      rw [ef]
      simp [-getElem?_pos, hd, hc]
    obtain ⟨v1, v2⟩ := conT_valid (ps := d.params) (by omega) (resT_valid (hok d hdm) (hint d hdm)) ((hok d hdm).con c hcm).md
    have k2 := c30 (conT_ok (ps := d.params) (resT_ok (h.par d hdm)) f2) v2
    have k3 := L168c hd hc f1 (C := ⟨d.params.length, conT d.params c.fields (resT d)⟩) (R := resT d) _ 0 rfl (by omega)
    have ih := L168b h hok hnd hint hd n (k + 1) (by omega) (by omega)
    rw [ec] at k1
    rw [v1] at k2
    rw [List.drop_zero] at k3
    have hrn : (resT d).name = d.name := rfl
    have hra : (resT d).args.length = d.params.length := by show (bndL _).length = _; exact bndL_len
    generalize conT d.params c.fields (resT d) = T at k1 k2 k3
    generalize resT d = R at k3 hrn hra
    rw [g168L1_eq] at ih ⊢
    rw [g168L2_eq] at k3
    simp [rLk] at k1 k2 k3 ih
    simp (disch := omega) [-getElem?_pos, g168B1, hd, hc, hk, k1, wrap_id]
    rw [g168L2_eq]
    simp (disch := omega) [-getElem?_pos, k3, k2, hd, hrn, hra, wrap_id]
    rw [g168L1_eq]
    simp [ih]

theorem L168 {ds : List Dt} (h : Small ds) (hok : ∀ d ∈ ds, DOk d) (hnd : (cnames ds).Nodup) (hint : ∀ d ∈ ds, d.name ≠ [73, 110, 116]) : ∀ (n i : Nat), ds.length - i = n → i ≤ ds.length →
    cl AP g168L0 ⟨[(3, .pv (.lst (ds.map Dt.pv))), (4, .pv (vI i))], [], [], []⟩ =
      some (.exit 0, ⟨[(3, .pv (.lst (ds.map Dt.pv))), (4, .pv (vI ds.length)), (24, .pv (.bool false))], [], [], []⟩)
  | 0, i, hn, hi => by
    have : i = ds.length := by omega
    subst this
    rw [g168L0_eq]
    simp [g168B0]
  | n + 1, i, hn, hi => by
    have hi : i < ds.length := by omega
    obtain ⟨d, hd⟩ := getO hi
    have hS := h.num
    unfold Sm at hS
    have kb := L168b h hok hnd hint hd _ 0 rfl (by omega)
    have ih := L168 h hok hnd hint n (i + 1) (by omega) (by omega)
    rw [g168L0_eq] at ih ⊢
    rw [g168L1_eq] at kb
    simp at kb ih
    simp (disch := omega) [-getElem?_pos, g168B0, hd, hi, wrap_id]
    rw [g168L1_eq]
    simp (disch := omega) [kb, wrap_id]
    rw [g168L0_eq]
    simp [ih]

/-- **The law DeclareSchemes.** -/
theorem law168 (L : List Int) : (orcL AP).p 168 [.lst (L.map vI)] = some [.bool true] := by
  have c0 := c184
  have c1 := c15 (l := L)
  rw [callP_body (af := g168) rfl rfl (by decide)]
  by_cases hL : L.length ≤ 60
  · simp [hL] at c1
    have hLs : Sm L := by unfold Sm; omega
    obtain ⟨ls, e1, hll, hlo⟩ := c187 hLs
    have hls : Small ls := Small.of (by omega) (fun d hd => (hlo d hd).small)
    have k1 := hls.c188
    by_cases e : (check ls).1 = 0
    · have hn : chkN [] [] ls = none := by
        unfold check at e
        cases e2 : chkN [] [] ls with
        | none => rfl
        | some p => rw [e2] at e; simp at e
      obtain ⟨h1, h2⟩ := chkN_none hn (by simp)
      have k2 := L168 hls hlo (by simpa using h1) h2 _ 0 rfl (by omega)
      rw [e] at k1
      rw [g168L0_eq] at k2
      simp at e1 k1 k2
      simp (disch := omega) [-getElem?_pos, g168, c0, c1, e1, k1, g168L0_eq, k2]
    · simp (disch := omega) [-getElem?_pos, g168, c0, c1, e1, k1, e]
  · simp [hL] at c1
    simp [g168, c0, c1]
end Go.Ab.Lw
