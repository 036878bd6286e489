import Derived.Test.YtnncaaakhfaacaaLM
import Derived.Test.YtnncaaakhfaacaaAbBridge
/-
  What the pure data of a parameter looks like.
-/
set_option linter.unusedVariables false
set_option linter.unusedSimpArgs false
namespace Go.Ab.Lw

section
variable {P : Program} {n : Nat} {t e : TypeId} {p : PV}

theorem shp_int (hu : P.underlying t = some (.int .i64)) (h : Shp P n t p) : ∃ i, p = vI i := by
  cases n with
  | zero => simp [Shp] at h
  | succ n => simp only [Shp, hu] at h; obtain ⟨i, rfl, _⟩ := h; exact ⟨i, rfl⟩
theorem shp_bool (hu : P.underlying t = some .bool) (h : Shp P n t p) : ∃ b, p = .bool b := by
  cases n with
  | zero => simp [Shp] at h
  | succ n => simp only [Shp, hu] at h; exact h
theorem shp_str (hu : P.underlying t = some .string) (h : Shp P n t p) : ∃ s, p = .str s := by
  cases n with
  | zero => simp [Shp] at h
  | succ n => simp only [Shp, hu] at h; obtain ⟨s, rfl, _⟩ := h; exact ⟨s, rfl⟩
/-- A slice of what a function of pure data makes. -/
theorem shp_list {α : Type} {f : α → PV} (hu : P.underlying t = some (.slice e)) (he : ∀ (m : Nat) (q : PV), Shp P m e q → ∃ x, q = f x) (h : Shp P n t p) : ∃ l : List α, p = .lst (l.map f) := by
  cases n with
  | zero => simp [Shp] at h
  | succ n =>
    simp only [Shp, hu] at h
    obtain ⟨els, rfl, _, h⟩ := h
    have key : ∀ els : List PV, (∀ q ∈ els, Shp P n e q) → ∃ l : List α, els = l.map f := by
      intro els
      induction els with
      | nil => intro _; exact ⟨[], rfl⟩
      | cons q r ih =>
        intro h
        obtain ⟨x, rfl⟩ := he n q (h q (by simp))
        obtain ⟨l, rfl⟩ := ih (fun q hq => h q (by simp [hq]))
        exact ⟨x :: l, rfl⟩
    obtain ⟨l, rfl⟩ := key els h
    exact ⟨l, rfl⟩
theorem shp_ints (hu : P.underlying t = some (.slice e)) (he : P.underlying e = some (.int .i64)) (h : Shp P n t p) : ∃ L : List Int, p = .lst (L.map vI) :=
  shp_list hu (fun _ _ h => shp_int he h) h

/-- A type. -/
theorem shp_ty {ti ts tl tt : TypeId} {f0 f1 f2 f3 f4 : Field} (hi : P.underlying ti = some (.int .i64)) (hs : P.underlying ts = some .string) (hl : P.underlying tl = some (.slice tt))
    (ht : P.underlying tt = some (.struct #[f0, f1, f2, f3, f4])) (e0 : f0.type = ti) (e1 : f1.type = ts) (e2 : f2.type = ti) (e3 : f3.type = ti) (e4 : f4.type = tl) :
    ∀ (n : Nat) (p : PV), Shp P n tt p → ∃ x : Ty, p = x.pv
  | 0, p, h => by simp [Shp] at h
  | n + 1, p, h => by
    simp only [Shp, ht] at h
    obtain ⟨ps, rfl, h⟩ := h
    match ps, h with
    | [p0, p1, p2, p3, p4], ⟨h0, h1, h2, h3, h4, _⟩ =>
      rw [e0] at h0; rw [e1] at h1; rw [e2] at h2; rw [e3] at h3; rw [e4] at h4
      obtain ⟨k, rfl⟩ := shp_int hi h0
      obtain ⟨s, rfl⟩ := shp_str hs h1
      obtain ⟨i, rfl⟩ := shp_int hi h2
      obtain ⟨m, rfl⟩ := shp_int hi h3
      cases n with
      | zero => simp [Shp] at h4
      | succ n =>
        simp only [Shp, hl] at h4
        obtain ⟨els, rfl, _, h4⟩ := h4
        have key : ∀ els : List PV, (∀ q ∈ els, Shp P n tt q) → ∃ l : List Ty, els = l.map Ty.pv := by
          intro els
          induction els with
          | nil => intro _; exact ⟨[], rfl⟩
          | cons q r ih =>
            intro h
            obtain ⟨x, rfl⟩ := shp_ty hi hs hl ht e0 e1 e2 e3 e4 n q (h q (by simp))
            obtain ⟨l, rfl⟩ := ih (fun q hq => h q (by simp [hq]))
            exact ⟨x :: l, rfl⟩
        obtain ⟨l, rfl⟩ := key els h4
        exact ⟨⟨k, s, i, m, l⟩, by simp [cellsP]⟩
  termination_by n => n
end
end Go.Ab.Lw

