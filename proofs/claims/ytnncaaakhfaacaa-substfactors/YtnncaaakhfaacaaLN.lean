import Derived.Test.YtnncaaakhfaacaaLM
import Derived.Test.YtnncaaakhfaacaaLA
/-
  The makers: data declarations, chosen by bits.
  The makers: types and substitutions off the tape.
  The makers: substitutions off the tape; what law 13 makes.
-/
set_option linter.unusedVariables false
set_option linter.unusedSimpArgs false
namespace Go.Ab.Lw
open Ev
set_option maxRecDepth 10000
set_option linter.unusedSimpArgs false

@[simp] theorem headSz_Dt {l : List Dt} : headSz 4 (l.map Dt.pv) = true := by cases l <;> simp
@[simp] theorem headSz_Ty {l : List Ty} : headSz 5 (l.map Ty.pv) = true := by cases l <;> simp
@[simp] theorem headSz_As {l : List As} : headSz 6 (l.map As.pv) = true := by cases l <;> simp

theorem wrapU_id {n : Int} (h1 : 0 ≤ n) (h2 : n < 18446744073709551616) : IntKind.u64.wrap n = n := by
  simp [IntKind.wrap, IntKind.bits, IntKind.signed]
  omega

def R32 (bits : Int) (ds : List Dt) : Option (AExit × St) :=
  some (.exit 0, ⟨[(0, .pv (vI bits)), (3, .pv (.lst (allDatas.map Dt.pv))), (4, .own (ds.map Dt.pv) 0), (5, .pv (vI 7)), (24, .pv (.bool false))], [], [], [ds.length]⟩)
theorem L32 (bits : Int) : ∀ (n i : Nat), 7 - i = n → i ≤ 7 → ∀ acc : List Dt, (∀ d ∈ acc, d ∈ allDatas) → acc.length ≤ 1 + i →
    ∃ ds : List Dt, cl AP g32L0 ⟨[(0, .pv (vI bits)), (3, .pv (.lst (allDatas.map Dt.pv))), (4, .own (acc.map Dt.pv) 0), (5, .pv (vI i))], [], [], [acc.length]⟩ = R32 bits ds ∧
      (∀ d ∈ ds, d ∈ allDatas) ∧ ds.length ≤ 8
  | 0, i, hn, hi, acc, ha, hl => by
    have : i = 7 := by omega
    subst this
    refine ⟨acc, ?_, ha, by omega⟩
    rw [g32L0_eq]
    have h7 : allDatas.length = 7 := rfl
    simp [g32B0, h7, R32]
  | n + 1, i, hn, hi, acc, ha, hl => by
    have h7 : allDatas.length = 7 := rfl
    have hi : i < 7 := by omega
    obtain ⟨x, hx⟩ := getO (l := allDatas) (i := i) (by omega)
    have hb : (acc.length + 1) * 72 ≤ 140737488355328 := by omega
    obtain ⟨d1, e1, m1, l1⟩ := L32 bits n (i + 1) (by omega) (by omega) (acc ++ [x]) (by
      intro d hd; simp at hd; rcases hd with hd | rfl
      · exact ha d hd
      · exact memO hx) (by simp; omega)
    obtain ⟨d2, e2, m2, l2⟩ := L32 bits n (i + 1) (by omega) (by omega) acc ha (by omega)
    simp at e1 e2
    have hi' : (i : Int) < 7 := by omega
    have key : ∀ S, S = cl AP g32L0 ⟨[(0, .pv (vI bits)), (3, .pv (.lst (allDatas.map Dt.pv))), (4, .own (acc.map Dt.pv) 0), (5, .pv (vI i))], [], [], [acc.length]⟩ → S = R32 bits d1 ∨ S = R32 bits d2 := by
      intro S hS
      rw [g32L0_eq] at hS
      simp (disch := omega) [-getElem?_pos, g32B0, h7, hi', hx, wrap_id, wrapU_id, hb, e1, e2] at hS
      subst hS
      (repeat' split) <;> simp
    rcases key _ rfl with h | h
    · exact ⟨d1, h, m1, l1⟩
    · exact ⟨d2, h, m2, l2⟩

theorem c32 (bits : Int) : ∃ ds : List Dt, (orcL AP).p 32 [vI bits] = some [.lst (ds.map Dt.pv)] ∧ (∀ d ∈ ds, d ∈ allDatas) ∧ ds.length ≤ 8 := by
  have hp := c79
  have h7 : allDatas.length = 7 := rfl
  obtain ⟨x, hx⟩ := getO (l := allDatas) (i := 1) (by decide)
  obtain ⟨d1, e1, m1, l1⟩ := L32 bits 7 0 rfl (by omega) [x] (by intro d hd; simp at hd; subst hd; exact memO hx) (by simp)
  obtain ⟨d2, e2, m2, l2⟩ := L32 bits 7 0 rfl (by omega) [] (by simp) (by simp)
  rw [g32L0_eq] at e1 e2
  simp at e1 e2
  have key : ∀ S, S = (orcL AP).p 32 [vI bits] → S = some [.lst (d1.map Dt.pv)] ∨ S = some [.lst (d2.map Dt.pv)] := by
    intro S hS
    rw [callP_body (af := g32) rfl rfl (by decide)] at hS
    simp [-getElem?_pos, g32, hp, g32L0_eq, hx, e1, e2, R32] at hS
    subst hS
    (repeat' split) <;> simp
  rcases key _ rfl with h | h
  · exact ⟨d1, h, m1, l1⟩
  · exact ⟨d2, h, m2, l2⟩
end Go.Ab.Lw

namespace Go.Ab.Lw
open Ev
set_option maxRecDepth 10000
set_option linter.unusedSimpArgs false

/-- A made type over leaves. -/
inductive Made (lv : Ty → Prop) : Ty → Prop
  | leaf {t : Ty} : lv t → Made lv t
  | int : Made lv tyInt
  | con {d : Dt} {args : List Ty} : d ∈ allDatas → args.length = d.params.length → (∀ x ∈ args, Made lv x) → Made lv ⟨4, d.name, 0, 0, args⟩
  | arrow {a b : Ty} : Made lv a → Made lv b → Made lv ⟨4, [45, 62], 0, 0, [a, b]⟩

theorem Made.mono {lv lv' : Ty → Prop} (h : ∀ t, lv t → lv' t) {t : Ty} (m : Made lv t) : Made lv' t := by
  induction m with
  | leaf h' => exact .leaf (h _ h')
  | int => exact .int
  | con hd hl _ ih => exact .con hd hl ih
  | arrow _ _ ha hb => exact .arrow ha hb

/-- A type in its cells. -/
def Ty.av (t : Ty) : AV := .agg [.pv (vI t.kind), .pv (.str t.name), .pv (vI t.id), .pv (vI t.home), .pv (.lst (t.args.map Ty.pv))]
@[simp] theorem Ty.av_eq (t : Ty) : t.av = .agg [.pv (vI t.kind), .pv (.str t.name), .pv (vI t.id), .pv (vI t.home), .pv (.lst (t.args.map Ty.pv))] := rfl

/-- What the maker of types gives at a depth. -/
def Gives (L : List Int) (ds : List Dt) (lv : List Ty) (dep : Nat) : Prop := ∀ i : Nat, i ≤ L.length → ∃ (t : Ty) (j : Nat),
  (orcL AP).i 27 [.sptr 0 0, .pv (.lst (ds.map Dt.pv)), .pv (.lst (lv.map Ty.pv)), .pv (vI dep)] (tp L i) [] = some ([t.av], tp L j, []) ∧ Made (· ∈ lv) t ∧ j ≤ L.length

theorem L27 {L : List Int} {ds : List Dt} {lv : List Ty} {dep : Nat} (hdep : dep < 1000) (hg : Gives L ds lv dep) {d : Dt} (hS : Sm d.params) : ∀ (n k : Nat), d.params.length - k = n → k ≤ d.params.length → ∀ (acc : List Ty) (i : Nat), acc.length = k → (∀ x ∈ acc, Made (· ∈ lv) x) → i ≤ L.length →
    ∃ (r : List Ty) (j : Nat), cl AP g27L0 ⟨[(0, .sptr 0 0), (1, .pv (.lst (ds.map Dt.pv))), (2, .pv (.lst (lv.map Ty.pv))), (3, .pv (vI (dep + 1))), (8, .lptr 8 0), (10, .lptr 10 0), (11, .own (acc.map Ty.pv) 0), (12, .pv (vI k))],
      [(8, [.pv (vI 0), .pv (.str []), .pv (vI 0), .pv (vI 0), .own [] 1]), (10, [.pv (vI d.pos), .pv (.str d.name), .pv (.lst (d.params.map .str)), .pv (.lst (d.cons.map Con.pv))])], tp L i, [acc.length, 0]⟩ =
      some (.exit 1, ⟨[(0, .sptr 0 0), (1, .pv (.lst (ds.map Dt.pv))), (2, .pv (.lst (lv.map Ty.pv))), (3, .pv (vI (dep + 1))), (8, .lptr 8 0), (10, .lptr 10 0), (11, .own (r.map Ty.pv) 0), (12, .pv (vI d.params.length)), (65, .pv (.bool false))],
      [(8, [.pv (vI 0), .pv (.str []), .pv (vI 0), .pv (vI 0), .own [] 1]), (10, [.pv (vI d.pos), .pv (.str d.name), .pv (.lst (d.params.map .str)), .pv (.lst (d.cons.map Con.pv))])], tp L j, [r.length, 0]⟩) ∧
      r.length = d.params.length ∧ (∀ x ∈ r, Made (· ∈ lv) x) ∧ j ≤ L.length
  | 0, k, hn, hk, acc, i, ha, hm, hi => by
    have : k = d.params.length := by omega
    subst this
    refine ⟨acc, i, ?_, ha, hm, hi⟩
    rw [g27L0_eq]
    simp [g27B0]
  | n + 1, k, hn, hk, acc, i, ha, hm, hi => by
    unfold Sm at hS
    have hk : k < d.params.length := by omega
    have hb : (acc.length + 1) * 64 ≤ 140737488355328 := by omega
    obtain ⟨t, j, e, mt, hj⟩ := hg i hi
    simp at e
    obtain ⟨r, j', e', hr, hm', hj'⟩ := L27 hdep hg hS n (k + 1) (by omega) (by omega) (acc ++ [t]) j (by simp; omega) (by
      intro x hx; simp at hx; rcases hx with hx | rfl
      · exact hm x hx
      · exact mt) hj
    simp at e'
    refine ⟨r, j', ?_, hr, hm', hj'⟩
    rw [g27L0_eq]
    have h1 : (dep : Int) + 1 - 1 = dep := by omega
    simp (disch := omega) [-getElem?_pos, g27B0, hk, wrap_id, h1, e, hb]
    rw [e']

theorem natI {r : Int} {n : Nat} (h0 : 0 ≤ r) (h1 : r < n) : ∃ m : Nat, r = m ∧ m < n := ⟨r.toNat, by omega, by omega⟩

theorem c27_0 {L : List Int} (hL : Sm L) {ds : List Dt} {lv : List Ty} (hlv : Sm lv) : Gives L ds lv 0 := by
  intro i hi
  obtain ⟨k, j1, e1, k0, k7, hj1⟩ := c68 hL hi (n := 7) (by omega) (by omega)
  simp at e1
  unfold Sm at hlv
  by_cases h1 : k < 3
  · by_cases h2 : lv = []
    · subst h2
      refine ⟨tyInt, j1, ?_, .int, hj1⟩
      have c := c34
      simp at c
      rw [callI_body (af := g27) rfl (by simp [g27])]
      simp [-getElem?_pos, g27, e1, h1, c, tyInt]
    · have hp : 0 < lv.length := List.length_pos_iff.2 h2
      obtain ⟨r, j2, e2, r0, r1, hj2⟩ := c68 hL hj1 (n := lv.length) (by omega) (by omega)
      obtain ⟨m, rfl, hm⟩ := natI r0 r1
      obtain ⟨x, hx⟩ := getO hm
      simp at e2
      refine ⟨x, j2, ?_, .leaf (memO hx), hj2⟩
      rw [callI_body (af := g27) rfl (by simp [g27])]
      simp [-getElem?_pos, g27, e1, h1, hp, e2, hx]
  · refine ⟨tyInt, j1, ?_, .int, hj1⟩
    have c := c34
    simp at c
    rw [callI_body (af := g27) rfl (by simp [g27])]
    simp [-getElem?_pos, g27, e1, h1, c, tyInt]

theorem c27_s {L : List Int} (hL : Sm L) {ds : List Dt} (hds : ds.length ≤ 8) (hda : ∀ d ∈ ds, d ∈ allDatas) {lv : List Ty} (hlv : Sm lv) {dep : Nat} (hdep : dep < 1000) (hg : Gives L ds lv dep) : Gives L ds lv (dep + 1) := by
  intro i hi
  obtain ⟨k, j1, e1, k0, k7, hj1⟩ := c68 hL hi (n := 7) (by omega) (by omega)
  simp at e1
  unfold Sm at hlv
  have hd1 : ¬ ((dep : Int) + 1 < 1) := by omega
  have hd2 : (dep : Int) + 1 - 1 = dep := by omega
  have leafCase : ∀ h1 : k < 3, ∀ h2 : ¬ lv = [], ∃ (t : Ty) (j : Nat), (orcL AP).i 27 [.sptr 0 0, .pv (.lst (ds.map Dt.pv)), .pv (.lst (lv.map Ty.pv)), .pv (vI ((dep + 1 : Nat) : Int))] (tp L i) [] = some ([t.av], tp L j, []) ∧ Made (· ∈ lv) t ∧ j ≤ L.length := by
    intro h1 h2
    have hp : 0 < lv.length := List.length_pos_iff.2 h2
    obtain ⟨r, j2, e2, r0, r1, hj2⟩ := c68 hL hj1 (n := lv.length) (by omega) (by omega)
    obtain ⟨m, rfl, hm⟩ := natI r0 r1
    obtain ⟨x, hx⟩ := getO hm
    simp at e2
    refine ⟨x, j2, ?_, .leaf (memO hx), hj2⟩
    rw [callI_body (af := g27) rfl (by simp [g27])]
    simp [-getElem?_pos, g27, e1, h1, hp, e2, hx]
  by_cases h1 : k < 3 ∧ ¬ lv = []
  · exact leafCase h1.1 h1.2
  · have h1' : ¬ k < 3 ∨ lv = [] := by
      by_cases h : k < 3
      · right; by_cases h' : lv = []
        · exact h'
        · exact absurd ⟨h, h'⟩ h1
      · exact .inl h
    by_cases h2 : k < 4
    · refine ⟨tyInt, j1, ?_, .int, hj1⟩
      have c := c34
      simp at c
      rw [callI_body (af := g27) rfl (by simp [g27])]
      rcases h1' with h | h
      · simp [-getElem?_pos, g27, e1, h, h2, c, tyInt]
      · subst h
        simp [-getElem?_pos, g27, e1, h2, c, tyInt]
    · have h3 : ¬ k < 3 := by omega
      by_cases h4 : (k = 4 ∨ k = 5) ∧ ¬ ds = []
      · obtain ⟨h4, h5⟩ := h4
        have hp : 0 < ds.length := List.length_pos_iff.2 h5
        obtain ⟨r, j2, e2, r0, r1, hj2⟩ := c68 hL hj1 (n := ds.length) (by omega) (by omega)
        obtain ⟨m, rfl, hm⟩ := natI r0 r1
        obtain ⟨d, hx⟩ := getO hm
        simp at e2
        have hdm := hda d (memO hx)
        have hps : Sm d.params := by
          unfold Sm
          have : ∀ d ∈ allDatas, d.params.length ≤ 8 := by decide +kernel
          have := this d hdm
          omega
        obtain ⟨as, j3, e3, ha, hm3, hj3⟩ := L27 hdep hg hps d.params.length 0 rfl (by omega) [] j2 rfl (by simp) hj2
        rw [g27L0_eq] at e3
        simp at e3
        have hsa : Sm as := by unfold Sm at hps ⊢; omega
        have c := c62 (s := d.name) (l := as) hsa
        simp at c
        refine ⟨⟨4, d.name, 0, 0, as⟩, j3, ?_, .con hdm ha hm3, hj3⟩
        rw [callI_body (af := g27) rfl (by simp [g27])]
        rcases h4 with rfl | rfl
        · simp [-getElem?_pos, g27, e1, hp, hd1, e2, hx, g27L0_eq, e3, c]
        · simp [-getElem?_pos, g27, e1, hp, hd1, e2, hx, g27L0_eq, e3, c]
      · obtain ⟨a, j2, ea, ma, hj2⟩ := hg j1 hj1
        obtain ⟨b, j3, eb, mb, hj3⟩ := hg j2 hj2
        simp at ea eb
        have c := c69 (a := a) (b := b)
        simp at c
        refine ⟨⟨4, [45, 62], 0, 0, [a, b]⟩, j3, ?_, .arrow ma mb, hj3⟩
        rw [callI_body (af := g27) rfl (by simp [g27])]
        by_cases h5 : ds = []
        · subst h5
          simp at ea eb
          simp (disch := omega) [-getElem?_pos, g27, e1, h2, h3, hd1, hd2, wrap_id, ea, eb, c]
        · have h6 : ¬ k = 4 ∧ ¬ k = 5 := by
            constructor
            · intro h; exact h4 ⟨.inl h, h5⟩
            · intro h; exact h4 ⟨.inr h, h5⟩
          simp (disch := omega) [-getElem?_pos, g27, e1, h2, h3, h6.1, h6.2, hd1, hd2, wrap_id, ea, eb, c]
end Go.Ab.Lw

namespace Go.Ab.Lw
open Ev
set_option maxRecDepth 10000
set_option linter.unusedSimpArgs false

theorem c27 {L : List Int} (hL : Sm L) {ds : List Dt} (hds : ds.length ≤ 8) (hda : ∀ d ∈ ds, d ∈ allDatas) {lv : List Ty} (hlv : Sm lv) : ∀ dep : Nat, dep < 1000 → Gives L ds lv dep
  | 0, _ => c27_0 hL hlv
  | dep + 1, h => c27_s hL hds hda hlv (by omega) (c27 hL hds hda hlv dep (by omega))

def leavesS : List Ty := [tyVar 0, tyVar 1, tyVar 2, tyVar 3, tyVar 4, tyRigid (-1) 0]

/-- A made substitution of variables from i on. -/
def MadeS (i : Nat) (s : List As) : Prop := ∀ a ∈ s, Made (· ∈ leavesS) a.ty ∧ (0 ≤ a.id ∧ a.id < i)

def R37 (L : List Int) (ds : List Dt) (s : List As) (j : Nat) : Option (AExit × St) :=
  some (.exit 0, ⟨[(0, .sptr 0 0), (1, .pv (.lst (ds.map Dt.pv))), (2, .pv (vI 4)), (7, .own (s.map As.pv) 0), (8, .pv (vI 4)), (11, .pv (.bool false))], [], tp L j, [s.length]⟩)
theorem L37 {L : List Int} (hL : Sm L) {ds : List Dt} (hds : ds.length ≤ 8) (hda : ∀ d ∈ ds, d ∈ allDatas) : ∀ (n k : Nat), 4 - k = n → k ≤ 4 → ∀ (acc : List As) (i : Nat), acc.length ≤ k → MadeS k acc → (acc.map As.id).Nodup → i ≤ L.length →
    ∃ (s : List As) (j : Nat), cl AP g37L0 ⟨[(0, .sptr 0 0), (1, .pv (.lst (ds.map Dt.pv))), (2, .pv (vI 4)), (7, .own (acc.map As.pv) 0), (8, .pv (vI k))], [], tp L i, [acc.length]⟩ = R37 L ds s j ∧
      s.length ≤ 4 ∧ MadeS 4 s ∧ (s.map As.id).Nodup ∧ j ≤ L.length
  | 0, k, hn, hk, acc, i, ha, hm, hd, hi => by
    have : k = 4 := by omega
    subst this
    refine ⟨acc, i, ?_, ha, hm, hd, hi⟩
    rw [g37L0_eq]
    simp [g37B0, R37]
  | n + 1, k, hn, hk, acc, i, ha, hm, hd, hi => by
    have hk : k < 4 := by omega
    obtain ⟨r, j1, e1, r0, r3, hj1⟩ := c68 hL hi (n := 3) (by omega) (by omega)
    simp at e1
    have hk' : (k : Int) < 4 := by omega
    have hb : (acc.length + 1) * 72 ≤ 140737488355328 := by omega
    by_cases hr : 0 < r
    · obtain ⟨t, j2, e2, mt, hj2⟩ := c27 hL hds hda (lv := leavesS) (by simp [Sm, leavesS]) 1 (by omega) j1 hj1
      have v5 := c70_5 (sh := tp L j1) calm_tp
      have cr := c71 (n := -1) (m := 0)
      simp [leavesS, tyVar, tyRigid] at e2 v5 cr
      obtain ⟨s, j, e, hs, hms, hds', hj⟩ := L37 hL hds hda n (k + 1) (by omega) (by omega) (acc ++ [⟨k, t⟩]) j2 (by simp; omega) (by
        intro a h
        simp at h
        rcases h with h | rfl
        · have := hm a h; exact ⟨this.1, this.2.1, by omega⟩
        · exact ⟨mt, by simp, by simp; omega⟩) (by
        rw [List.map_append, List.nodup_append]
        refine ⟨hd, by simp, ?_⟩
        intro x hx y hy
        simp at hx hy
        obtain ⟨a, ha, rfl⟩ := hx
        subst hy
        have := (hm a ha).2.2
        omega) hj2
      rw [g37L0_eq] at e
      simp at e
      refine ⟨s, j, ?_, hs, hms, hds', hj⟩
      rw [g37L0_eq]
      simp (disch := omega) [-getElem?_pos, g37B0, hk', e1, hr, v5, cr, e2, hb, wrap_id]
      rw [g37L0_eq]
      simp [e]
    · obtain ⟨s, j, e, hs, hms, hds', hj⟩ := L37 hL hds hda n (k + 1) (by omega) (by omega) acc j1 (by omega) (fun a h => ⟨(hm a h).1, (hm a h).2.1, by have := (hm a h).2.2; omega⟩) hd hj1
      simp at e
      refine ⟨s, j, ?_, hs, hms, hds', hj⟩
      rw [g37L0_eq]
      simp (disch := omega) [-getElem?_pos, g37B0, hk', e1, hr, wrap_id, e]

theorem c37 {L : List Int} (hL : Sm L) {ds : List Dt} (hds : ds.length ≤ 8) (hda : ∀ d ∈ ds, d ∈ allDatas) {i : Nat} (hi : i ≤ L.length) :
    ∃ (s : List As) (j : Nat), (orcL AP).i 37 [.sptr 0 0, .pv (.lst (ds.map Dt.pv)), .pv (vI 4)] (tp L i) [] = some ([.own (s.map As.pv) 0], tp L j, [s.length]) ∧
      s.length ≤ 4 ∧ MadeS 4 s ∧ (s.map As.id).Nodup ∧ j ≤ L.length := by
  obtain ⟨s, j, e, hs⟩ := L37 hL hds hda 4 0 rfl (by omega) [] i (by simp) (by intro a h; simp at h) (by simp) hi
  rw [g37L0_eq] at e
  simp [R37] at e
  refine ⟨s, j, ?_, hs⟩
  rw [callI_body (af := g37) rfl (by simp [g37])]
  simp [g37, g37L0_eq, e]

/-- What law 13 makes. -/
theorem c16 {L : List Int} (hL : Sm L) (bits : Int) : ∃ (a b : List As) (t : Ty) (j : Nat),
    (orcL AP).i 16 [.pv (vI bits), .pv (.lst (L.map vI))] [] [] = some ([.own (a.map As.pv) 0, .own (b.map As.pv) 1, t.av, .sptr 0 0], tp L j, [a.length, b.length]) ∧
      (a.length ≤ 4 ∧ MadeS 4 a ∧ (a.map As.id).Nodup) ∧ (b.length ≤ 4 ∧ MadeS 4 b ∧ (b.map As.id).Nodup) ∧ Made (· ∈ leavesL) t ∧ j ≤ L.length := by
  obtain ⟨ds, ed, hda, hds⟩ := c32 bits
  obtain ⟨a, j1, e1, ha1, ha2, ha3, hj1⟩ := c37 hL hds hda (i := 0) (by omega)
  obtain ⟨b, j2, e2, hb1, hb2, hb3, hj2⟩ := c37 hL hds hda (i := j1) hj1
  obtain ⟨t, j3, e3, mt, hj3⟩ := c27 hL hds hda (lv := leavesL) (by simp [Sm, leavesL]) 3 (by omega) j2 hj2
  have c := c28
  refine ⟨a, b, t, j3, ?_, ⟨ha1, ha2, ha3⟩, ⟨hb1, hb2, hb3⟩, mt, hj3⟩
  simp at e1 e2 e3 ed
  rw [callI_body (af := g16) rfl (by simp [g16])]
  simp [-getElem?_pos, g16, ed, e1, e2, c, e3]
end Go.Ab.Lw

