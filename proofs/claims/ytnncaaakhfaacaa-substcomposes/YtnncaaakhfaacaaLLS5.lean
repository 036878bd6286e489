import Derived.Test.YtnncaaakhfaacaaLLS4
/-
  Chapter 13: the plain laws, and the law that composition composes.
-/
set_option linter.unusedVariables false
set_option linter.unusedSimpArgs false
namespace Go.Ab.Lw
open Ev
set_option maxRecDepth 10000
set_option linter.unusedSimpArgs false

theorem params_few : ∀ d ∈ allDatas, d.params.length ≤ 8 := by decide +kernel

theorem Made.ok {lv : Ty → Prop} (h : ∀ t, lv t → t.args = []) {t : Ty} (m : Made lv t) : t.Ok := by
  induction m with
  | leaf hl => exact ⟨by rw [h _ hl]; simp [Sm], by rw [h _ hl]; simp⟩
  | int => exact ⟨by simp [tyInt, Sm], by simp [tyInt]⟩
  | con hd hl _ ih => exact ⟨by have := params_few _ hd; simp only [Sm]; omega, ih⟩
  | arrow _ _ ha hb => exact ⟨by simp [Sm], by intro x hx; simp at hx; rcases hx with rfl | rfl <;> assumption⟩
theorem Made.wf {lv : Ty → Prop} (h : ∀ t, lv t → t.args = []) {t : Ty} (m : Made lv t) : t.Wf := by
  induction m with
  | leaf hl => exact ⟨fun _ => h _ hl, by rw [h _ hl]; simp⟩
  | int => exact ⟨by simp [tyInt], by simp [tyInt]⟩
  | con hd hl _ ih => exact ⟨by simp, ih⟩
  | arrow _ _ ha hb => exact ⟨by simp, by intro x hx; simp at hx; rcases hx with rfl | rfl <;> assumption⟩
theorem leavesL_bare : ∀ t, t ∈ leavesL → t.args = [] := by
  intro t ht
  simp [leavesL] at ht
  rcases ht with rfl | rfl | rfl | rfl | rfl | rfl | rfl | rfl <;> rfl
theorem leavesS_bare : ∀ t, t ∈ leavesS → t.args = [] := by
  intro t ht
  simp [leavesS] at ht
  rcases ht with rfl | rfl | rfl | rfl | rfl | rfl <;> rfl

theorem fnd_mem : ∀ {s : List As} {id : Int} {t : Ty}, fnd s id = some t → ∃ a ∈ s, a.ty = t
  | a :: r, id, t, h => by
    simp only [fnd] at h
    split at h
    · cases h; exact ⟨a, by simp, rfl⟩
    · obtain ⟨b, hb, e⟩ := fnd_mem h; exact ⟨b, by simp [hb], e⟩

theorem sub_ok {s : List As} (hs : ∀ a ∈ s, a.ty.Ok) {t : Ty} (h : t.Ok) : (t.sub s).Ok := by
  revert h
  refine Ty.rec1 (p := fun t => t.Ok → (t.sub s).Ok) ?_ t
  intro t ih h
  rw [Ty.sub_eq]
  split
  · cases hf : fnd s t.id with
    | none => simpa using h
    | some a => obtain ⟨b, hb, rfl⟩ := fnd_mem hf; simpa using hs b hb
  · refine ⟨by have := h.sm; unfold Sm at *; simpa using this, ?_⟩
    intro x hx
    simp at hx
    obtain ⟨y, hy, rfl⟩ := hx
    exact ih y hy (h.kid y hy)
theorem sub_wf {s : List As} (hs : ∀ a ∈ s, a.ty.Wf) {t : Ty} (h : t.Wf) : (t.sub s).Wf := by
  revert h
  refine Ty.rec1 (p := fun t => t.Wf → (t.sub s).Wf) ?_ t
  intro t ih h
  rw [Ty.sub_eq]
  split
  · cases hf : fnd s t.id with
    | none => simpa using h
    | some a => obtain ⟨b, hb, rfl⟩ := fnd_mem hf; simpa using hs b hb
  · rename_i hk
    refine ⟨fun e => absurd e hk, ?_⟩
    intro x hx
    simp at hx
    obtain ⟨y, hy, rfl⟩ := hx
    exact ih y hy (h.kid y hy)

theorem fnd_app : ∀ {a b : List As} {id : Int}, fnd (a ++ b) id = (fnd a id).or (fnd b id)
  | [], b, id => by simp [fnd]
  | x :: a, b, id => by
    simp only [List.cons_append, fnd]
    split
    · rfl
    · exact fnd_app
theorem fnd_map {b : List As} : ∀ {a : List As} {id : Int}, fnd (a.map fun x => ⟨x.id, x.ty.sub b⟩) id = (fnd a id).map (Ty.sub b)
  | [], id => rfl
  | x :: a, id => by
    simp only [List.map_cons, fnd]
    split
    · rfl
    · exact fnd_map
theorem fnd_filter {a : List As} {id : Int} (h : fnd a id = none) : ∀ {b : List As}, fnd (b.filter fun x => !hasA a x.id) id = fnd b id
  | [] => rfl
  | x :: b => by
    simp only [List.filter_cons, fnd]
    by_cases e : x.id = id
    · have : hasA a id = false := by simp [hasA, h]
      simp [e, this, fnd]
    · cases hh : hasA a x.id
      · simp only [Bool.not_false, if_true, fnd, if_neg e]; exact fnd_filter h
      · simp only [Bool.not_true, Bool.false_eq_true, if_false, if_neg e]; exact fnd_filter h
theorem fnd_comp {a b : List As} {id : Int} : fnd (comp a b) id = match fnd a id with | some t => some (t.sub b) | none => fnd b id := by
  unfold comp
  rw [fnd_app, fnd_map]
  cases h : fnd a id with
  | none => simp only [Option.map_none, Option.none_or]; exact fnd_filter h
  | some t => rfl

/-- **Applying a composition is applying both.** -/
theorem comp_sub {a b : List As} (t : Ty) : t.sub (comp a b) = (t.sub a).sub b := by
  refine Ty.rec1 (p := fun t => t.sub (comp a b) = (t.sub a).sub b) ?_ t
  intro t ih
  by_cases hk : t.kind = 1
  · rw [Ty.sub_eq (comp a b), Ty.sub_eq a, if_pos hk, if_pos hk, fnd_comp]
    cases h : fnd a t.id with
    | none => simp only [Option.getD_none]; rw [Ty.sub_eq, if_pos hk]
    | some x => rfl
  · rw [Ty.sub_eq (comp a b), Ty.sub_eq a, if_neg hk, if_neg hk, Ty.sub_eq b, if_neg hk]
    simp only [List.map_map]
    congr 1
    exact List.map_congr_left fun x hx => ih x hx

theorem comp_ok {a b : List As} (ha : ∀ x ∈ a, x.ty.Ok) (hb : ∀ x ∈ b, x.ty.Ok) : ∀ x ∈ comp a b, x.ty.Ok := by
  intro x hx
  simp only [comp, List.mem_append, List.mem_map, List.mem_filter] at hx
  rcases hx with ⟨y, hy, rfl⟩ | ⟨hx, _⟩
  · exact sub_ok hb (ha y hy)
  · exact hb x hx
theorem comp_wf {a b : List As} (ha : ∀ x ∈ a, x.ty.Wf) (hb : ∀ x ∈ b, x.ty.Wf) : ∀ x ∈ comp a b, x.ty.Wf := by
  intro x hx
  simp only [comp, List.mem_append, List.mem_map, List.mem_filter] at hx
  rcases hx with ⟨y, hy, rfl⟩ | ⟨hx, _⟩
  · exact sub_wf hb (ha y hy)
  · exact hb x hx
theorem comp_len {a b : List As} : (comp a b).length ≤ a.length + b.length := by
  simp only [comp, List.length_append, List.length_map]
  have := List.length_filter_le (fun x => !hasA a x.id) b
  omega

theorem c14 : (orcL AP).p 14 [] = some [.bool true] := Fc.p_of (k := 40) (n := 20) (by kernel_rfl)

/-- **The law SubstComposes.** -/
theorem law4 (bits : Int) (L : List Int) : (orcL AP).p 4 [vI bits, .lst (L.map vI)] = some [.bool true] := by
  have c0 := c14
  have c1 := c15 (l := L)
  rw [callP_body (af := g4) rfl rfl (by decide)]
  by_cases hL : L.length ≤ 60
  · obtain ⟨a, b, t, j, e, ⟨a1, a2, _⟩, ⟨b1, b2, _⟩, mt, _⟩ := c16 (L := L) (by unfold Sm; omega) bits
    have ao : ∀ x ∈ a, x.ty.Ok := fun x hx => (a2 x hx).1.ok leavesS_bare
    have aw : ∀ x ∈ a, x.ty.Wf := fun x hx => (a2 x hx).1.wf leavesS_bare
    have bo : ∀ x ∈ b, x.ty.Ok := fun x hx => (b2 x hx).1.ok leavesS_bare
    have bw : ∀ x ∈ b, x.ty.Wf := fun x hx => (b2 x hx).1.wf leavesS_bare
    have to := mt.ok leavesL_bare
    have tw := mt.wf leavesL_bare
    have cl := comp_len (a := a) (b := b)
    have d1 := c17 (a := a) (b := b) (by omega) (fun x hx => ⟨ao x hx, aw x hx⟩)
    have d2 := c19 (a := a) (b := b) (by omega) ao
    have d3 := c18 (as := comp a b) (bs := comp a b) (by unfold Sm; omega) (comp_ok ao bo)
    have d4 := c21 (s := comp a b) (by unfold Sm; omega) to tw
    have d5 := c22 (s := a) (by unfold Sm; omega) to
    have d6 := c22 (s := b) (by unfold Sm; omega) (sub_ok ao to)
    have d7 := c20 (a := t.sub (comp a b)) (b := (t.sub a).sub b) (sub_ok (comp_ok ao bo) to)
    rw [comp_sub] at d4 d7
    simp at e d3 d4 d5 d6 d7
    simp [hL] at c1
    simp [g4, c0, c1, e, d1, d2, d3, d4, d5, d6, d7]
  · simp [hL] at c1
    simp [g4, c0, c1]
end Go.Ab.Lw
