import Derived.Test.YtnncaaakhfaacaaLLM3
/-
  The makers: types and substitutions off the tape.
-/
set_option linter.unusedVariables false
set_option linter.unusedSimpArgs false
namespace Go.Ab.Lw
open Ev
set_option maxRecDepth 10000
set_option linter.unusedSimpArgs false

/-- A made type over leaves. -/
inductive Made (lv : Ty → Prop) : Ty → Prop
  | leaf {t : Ty} : lv t → Made lv t
  | int : Made lv tyInt
  | con {d : Dt} {args : List Ty} : d ∈ allDatas → args.length = d.params.length → (∀ x ∈ args, Made lv x) → Made lv ⟨4, d.name, 0, 0, args⟩
  | arrow {a b : Ty} : Made lv a → Made lv b → Made lv ⟨4, [45, 62], 0, 0, [a, b]⟩

theorem Made.mono {lv lv' : Ty → Prop} (h : ∀ t, lv t → lv' t) {t : Ty} (m : Made lv t) : Made lv' t := by
  induction m with
  | leaf h' => exact .leaf (h _ h')
  | int => exact .int
  | con hd hl _ ih => exact .con hd hl ih
  | arrow _ _ ha hb => exact .arrow ha hb

/-- A type in its cells. -/
def Ty.av (t : Ty) : AV := .agg [.pv (vI t.kind), .pv (.str t.name), .pv (vI t.id), .pv (vI t.home), .pv (.lst (t.args.map Ty.pv))]
@[simp] theorem Ty.av_eq (t : Ty) : t.av = .agg [.pv (vI t.kind), .pv (.str t.name), .pv (vI t.id), .pv (vI t.home), .pv (.lst (t.args.map Ty.pv))] := rfl

/-- What the maker of types gives at a depth. -/
def Gives (L : List Int) (ds : List Dt) (lv : List Ty) (dep : Nat) : Prop := ∀ i : Nat, i ≤ L.length → ∃ (t : Ty) (j : Nat),
  (orcL AP).i 27 [.sptr 0 0, .pv (.lst (ds.map Dt.pv)), .pv (.lst (lv.map Ty.pv)), .pv (vI dep)] (tp L i) [] = some ([t.av], tp L j, []) ∧ Made (· ∈ lv) t ∧ j ≤ L.length

theorem L27 {L : List Int} {ds : List Dt} {lv : List Ty} {dep : Nat} (hdep : dep < 1000) (hg : Gives L ds lv dep) {d : Dt} (hS : Sm d.params) : ∀ (n k : Nat), d.params.length - k = n → k ≤ d.params.length → ∀ (acc : List Ty) (i : Nat), acc.length = k → (∀ x ∈ acc, Made (· ∈ lv) x) → i ≤ L.length →
    ∃ (r : List Ty) (j : Nat), cl AP g27L0 ⟨[(0, .sptr 0 0), (1, .pv (.lst (ds.map Dt.pv))), (2, .pv (.lst (lv.map Ty.pv))), (3, .pv (vI (dep + 1))), (8, .lptr 8 0), (10, .lptr 10 0), (11, .own (acc.map Ty.pv) 0), (12, .pv (vI k))],
      [(8, [.pv (vI 0), .pv (.str []), .pv (vI 0), .pv (vI 0), .own [] 1]), (10, [.pv (vI d.pos), .pv (.str d.name), .pv (.lst (d.params.map .str)), .pv (.lst (d.cons.map Con.pv))])], tp L i, [acc.length, 0]⟩ =
      some (.exit 1, ⟨[(0, .sptr 0 0), (1, .pv (.lst (ds.map Dt.pv))), (2, .pv (.lst (lv.map Ty.pv))), (3, .pv (vI (dep + 1))), (8, .lptr 8 0), (10, .lptr 10 0), (11, .own (r.map Ty.pv) 0), (12, .pv (vI d.params.length)), (65, .pv (.bool false))],
      [(8, [.pv (vI 0), .pv (.str []), .pv (vI 0), .pv (vI 0), .own [] 1]), (10, [.pv (vI d.pos), .pv (.str d.name), .pv (.lst (d.params.map .str)), .pv (.lst (d.cons.map Con.pv))])], tp L j, [r.length, 0]⟩) ∧
      r.length = d.params.length ∧ (∀ x ∈ r, Made (· ∈ lv) x) ∧ j ≤ L.length
  | 0, k, hn, hk, acc, i, ha, hm, hi => by
    have : k = d.params.length := by omega
    subst this
    refine ⟨acc, i, ?_, ha, hm, hi⟩
    rw [g27L0_eq]
    simp [g27B0]
  | n + 1, k, hn, hk, acc, i, ha, hm, hi => by
    unfold Sm at hS
    have hk : k < d.params.length := by omega
    have hb : (acc.length + 1) * 64 ≤ 140737488355328 := by omega
    obtain ⟨t, j, e, mt, hj⟩ := hg i hi
    simp at e
    obtain ⟨r, j', e', hr, hm', hj'⟩ := L27 hdep hg hS n (k + 1) (by omega) (by omega) (acc ++ [t]) j (by simp; omega) (by
      intro x hx; simp at hx; rcases hx with hx | rfl
      · exact hm x hx
      · exact mt) hj
    simp at e'
    refine ⟨r, j', ?_, hr, hm', hj'⟩
    rw [g27L0_eq]
    have h1 : (dep : Int) + 1 - 1 = dep := by omega
    simp (disch := omega) [-getElem?_pos, g27B0, hk, wrap_id, h1, e, hb]
    rw [e']

theorem natI {r : Int} {n : Nat} (h0 : 0 ≤ r) (h1 : r < n) : ∃ m : Nat, r = m ∧ m < n := ⟨r.toNat, by omega, by omega⟩

theorem c27_0 {L : List Int} (hL : Sm L) {ds : List Dt} {lv : List Ty} (hlv : Sm lv) : Gives L ds lv 0 := by
  intro i hi
  obtain ⟨k, j1, e1, k0, k7, hj1⟩ := c68 hL hi (n := 7) (by omega) (by omega)
  simp at e1
  unfold Sm at hlv
  by_cases h1 : k < 3
  · by_cases h2 : lv = []
    · subst h2
      refine ⟨tyInt, j1, ?_, .int, hj1⟩
      have c := c34
      simp at c
      rw [callI_body (af := g27) rfl (by simp [g27])]
      simp [-getElem?_pos, g27, e1, h1, c, tyInt]
    · have hp : 0 < lv.length := List.length_pos_iff.2 h2
      obtain ⟨r, j2, e2, r0, r1, hj2⟩ := c68 hL hj1 (n := lv.length) (by omega) (by omega)
      obtain ⟨m, rfl, hm⟩ := natI r0 r1
      obtain ⟨x, hx⟩ := getO hm
      simp at e2
      refine ⟨x, j2, ?_, .leaf (memO hx), hj2⟩
      rw [callI_body (af := g27) rfl (by simp [g27])]
      simp [-getElem?_pos, g27, e1, h1, hp, e2, hx]
  · refine ⟨tyInt, j1, ?_, .int, hj1⟩
    have c := c34
    simp at c
    rw [callI_body (af := g27) rfl (by simp [g27])]
    simp [-getElem?_pos, g27, e1, h1, c, tyInt]

theorem c27_s {L : List Int} (hL : Sm L) {ds : List Dt} (hds : ds.length ≤ 8) (hda : ∀ d ∈ ds, d ∈ allDatas) {lv : List Ty} (hlv : Sm lv) {dep : Nat} (hdep : dep < 1000) (hg : Gives L ds lv dep) : Gives L ds lv (dep + 1) := by
  intro i hi
  obtain ⟨k, j1, e1, k0, k7, hj1⟩ := c68 hL hi (n := 7) (by omega) (by omega)
  simp at e1
  unfold Sm at hlv
  have hd1 : ¬ ((dep : Int) + 1 < 1) := by omega
  have hd2 : (dep : Int) + 1 - 1 = dep := by omega
  have leafCase : ∀ h1 : k < 3, ∀ h2 : ¬ lv = [], ∃ (t : Ty) (j : Nat), (orcL AP).i 27 [.sptr 0 0, .pv (.lst (ds.map Dt.pv)), .pv (.lst (lv.map Ty.pv)), .pv (vI ((dep + 1 : Nat) : Int))] (tp L i) [] = some ([t.av], tp L j, []) ∧ Made (· ∈ lv) t ∧ j ≤ L.length := by
    intro h1 h2
    have hp : 0 < lv.length := List.length_pos_iff.2 h2
    obtain ⟨r, j2, e2, r0, r1, hj2⟩ := c68 hL hj1 (n := lv.length) (by omega) (by omega)
    obtain ⟨m, rfl, hm⟩ := natI r0 r1
    obtain ⟨x, hx⟩ := getO hm
    simp at e2
    refine ⟨x, j2, ?_, .leaf (memO hx), hj2⟩
    rw [callI_body (af := g27) rfl (by simp [g27])]
    simp [-getElem?_pos, g27, e1, h1, hp, e2, hx]
  by_cases h1 : k < 3 ∧ ¬ lv = []
  · exact leafCase h1.1 h1.2
  · have h1' : ¬ k < 3 ∨ lv = [] := by
      by_cases h : k < 3
      · right; by_cases h' : lv = []
        · exact h'
        · exact absurd ⟨h, h'⟩ h1
      · exact .inl h
    by_cases h2 : k < 4
    · refine ⟨tyInt, j1, ?_, .int, hj1⟩
      have c := c34
      simp at c
      rw [callI_body (af := g27) rfl (by simp [g27])]
      rcases h1' with h | h
      · simp [-getElem?_pos, g27, e1, h, h2, c, tyInt]
      · subst h
        simp [-getElem?_pos, g27, e1, h2, c, tyInt]
    · have h3 : ¬ k < 3 := by omega
      by_cases h4 : (k = 4 ∨ k = 5) ∧ ¬ ds = []
      · obtain ⟨h4, h5⟩ := h4
        have hp : 0 < ds.length := List.length_pos_iff.2 h5
        obtain ⟨r, j2, e2, r0, r1, hj2⟩ := c68 hL hj1 (n := ds.length) (by omega) (by omega)
        obtain ⟨m, rfl, hm⟩ := natI r0 r1
        obtain ⟨d, hx⟩ := getO hm
        simp at e2
        have hdm := hda d (memO hx)
        have hps : Sm d.params := by
          unfold Sm
          have : ∀ d ∈ allDatas, d.params.length ≤ 8 := by decide +kernel
          have := this d hdm
          omega
        obtain ⟨as, j3, e3, ha, hm3, hj3⟩ := L27 hdep hg hps d.params.length 0 rfl (by omega) [] j2 rfl (by simp) hj2
        rw [g27L0_eq] at e3
        simp at e3
        have hsa : Sm as := by unfold Sm at hps ⊢; omega
        have c := c62 (s := d.name) (l := as) hsa
        simp at c
        refine ⟨⟨4, d.name, 0, 0, as⟩, j3, ?_, .con hdm ha hm3, hj3⟩
        rw [callI_body (af := g27) rfl (by simp [g27])]
        rcases h4 with rfl | rfl
        · simp [-getElem?_pos, g27, e1, hp, hd1, e2, hx, g27L0_eq, e3, c]
        · simp [-getElem?_pos, g27, e1, hp, hd1, e2, hx, g27L0_eq, e3, c]
      · obtain ⟨a, j2, ea, ma, hj2⟩ := hg j1 hj1
        obtain ⟨b, j3, eb, mb, hj3⟩ := hg j2 hj2
        simp at ea eb
        have c := c69 (a := a) (b := b)
        simp at c
        refine ⟨⟨4, [45, 62], 0, 0, [a, b]⟩, j3, ?_, .arrow ma mb, hj3⟩
        rw [callI_body (af := g27) rfl (by simp [g27])]
        by_cases h5 : ds = []
        · subst h5
          simp at ea eb
          simp (disch := omega) [-getElem?_pos, g27, e1, h2, h3, hd1, hd2, wrap_id, ea, eb, c]
        · have h6 : ¬ k = 4 ∧ ¬ k = 5 := by
            constructor
            · intro h; exact h4 ⟨.inl h, h5⟩
            · intro h; exact h4 ⟨.inr h, h5⟩
          simp (disch := omega) [-getElem?_pos, g27, e1, h2, h3, h6.1, h6.2, hd1, hd2, wrap_id, ea, eb, c]
end Go.Ab.Lw
