import Derived.Test.YtnncaaakhfaacaaLC
/-
  Names, and which types are valid.
  Names of the program, and which types are valid.
  Which types are valid.
  Valid types by the reference; small types.
-/
set_option linter.unusedVariables false
set_option linter.unusedSimpArgs false
namespace Go.Ab.Lw
open Ev
set_option maxRecDepth 10000
set_option linter.unusedSimpArgs false

abbrev vC (c : Int) : PV := .int .u8 c
def isLow (c : Int) : Bool := decide (97 ≤ c) && decide (c ≤ 122)
def isUp (c : Int) : Bool := decide (65 ≤ c) && decide (c ≤ 90)
def isDig (c : Int) : Bool := decide (48 ≤ c) && decide (c ≤ 57)
def isInn (c : Int) : Bool := isLow c || isUp c || isDig c || (c == 95)
def innAll (s : List UInt8) : Bool := s.all fun b => isInn b.toNat
def kws : List (List UInt8) := [[100, 97, 116, 97], [108, 101, 116], [114, 101, 99], [105, 110], [99, 97, 115, 101], [111, 102], [101, 110, 100]]
def isKw (s : List UInt8) : Bool := kws.contains s
/-- A name whose first letter lies between two. -/
def nameB (s : List UInt8) (lo hi : Int) : Bool := match s with
  | [] => false
  | b :: r => decide (lo ≤ b.toNat) && decide ((b.toNat : Int) ≤ hi) && decide ((b :: r).length ≤ 12) && innAll (b :: r) && !isKw (b :: r)

theorem c109 {c : Int} : (orcL AP).p 109 [vC c] = some [.bool (isLow c)] := by
  rw [callP_body (af := g109) rfl rfl (by decide)]
  by_cases h : 97 ≤ c <;> simp [g109, isLow, h]
theorem c111 {c : Int} : (orcL AP).p 111 [vC c] = some [.bool (isUp c)] := by
  rw [callP_body (af := g111) rfl rfl (by decide)]
  by_cases h : 65 ≤ c <;> simp [g111, isUp, h]
theorem c124 {c : Int} : (orcL AP).p 124 [vC c] = some [.bool (isDig c)] := by
  rw [callP_body (af := g124) rfl rfl (by decide)]
  by_cases h : 48 ≤ c <;> simp [g124, isDig, h]
theorem c117 {c : Int} : (orcL AP).p 117 [vC c] = some [.bool (isInn c)] := by
  have h1 := c109 (c := c)
  have h2 := c111 (c := c)
  have h3 := c124 (c := c)
  rw [callP_body (af := g117) rfl rfl (by decide)]
  cases e1 : isLow c
  · cases e2 : isUp c
    · cases e3 : isDig c
      · simp [e1, e2, e3] at h1 h2 h3
        simp [g117, h1, h2, h3, isInn, e1, e2, e3]
      · simp [e1, e2, e3] at h1 h2 h3
        simp [g117, h1, h2, h3, isInn, e1, e2, e3]
    · simp [e1, e2] at h1 h2
      simp [g117, h1, h2, isInn, e1, e2]
  · simp [e1] at h1
    simp [g117, h1, isInn, e1]

theorem innAll_cons {b : UInt8} {r : List UInt8} : innAll (b :: r) = (isInn b.toNat && innAll r) := rfl
theorem innAll_nil : innAll [] = true := rfl

theorem L108 {s : List UInt8} (hS : SmS s) : ∀ (n i : Nat), s.length - i = n → i ≤ s.length →
    cl AP g108L0 ⟨[(0, .pv (.str s)), (3, .pv (vI i))], [], [], []⟩ =
      if innAll (s.drop i) = true then some (.exit 0, ⟨[(0, .pv (.str s)), (3, .pv (vI s.length)), (7, .pv (.bool false))], [], [], []⟩)
      else some (.ret, ⟨[(2, .pv (.bool false))], [], [], []⟩)
  | 0, i, hn, hi => by
    have : i = s.length := by omega
    subst this
    rw [g108L0_eq]
    simp [g108B0, innAll_nil]
  | n + 1, i, hn, hi => by
    have hi : i < s.length := by omega
    obtain ⟨x, hx⟩ := getO hi
    unfold SmS at hS
    have ih := L108 hS n (i + 1) (by omega) (by omega)
    simp at ih
    have hc := c117 (c := x.toNat)
    rw [g108L0_eq, dropC hx, innAll_cons]
    cases e : isInn x.toNat
    · rw [e] at hc
      simp (disch := omega) [-getElem?_pos, g108B0, hx, hi, hc, e]
    · rw [e] at hc
      simp (disch := omega) [-getElem?_pos, g108B0, hx, hi, hc, e, wrap_id, ih]
theorem c108 {s : List UInt8} (hS : SmS s) : (orcL AP).p 108 [.str s] = some [.bool (innAll s && !(s == []))] := by
  have h := L108 hS _ 0 rfl (by omega)
  simp at h
  rw [callP_body (af := g108) rfl rfl (by decide)]
  cases e : innAll s <;> simp [e] at h <;> simp [g108, h]
theorem c110 {s : List UInt8} : (orcL AP).p 110 [.str s] = some [.bool (isKw s)] := by
  rw [callP_body (af := g110) rfl rfl (by decide)]
  by_cases h1 : s = [100, 97, 116, 97]
  · subst h1; simp (disch := omega) [-getElem?_pos, g110, g110L0_eq, g110B0, wrap_id, isKw, kws]
  · by_cases h2 : s = [108, 101, 116]
    · subst h2; simp (disch := omega) [-getElem?_pos, g110, g110L0_eq, g110B0, wrap_id, isKw, kws]
    · by_cases h3 : s = [114, 101, 99]
      · subst h3; simp (disch := omega) [-getElem?_pos, g110, g110L0_eq, g110B0, wrap_id, isKw, kws]
      · by_cases h4 : s = [105, 110]
        · subst h4; simp (disch := omega) [-getElem?_pos, g110, g110L0_eq, g110B0, wrap_id, isKw, kws]
        · by_cases h5 : s = [99, 97, 115, 101]
          · subst h5; simp (disch := omega) [-getElem?_pos, g110, g110L0_eq, g110B0, wrap_id, isKw, kws]
          · by_cases h6 : s = [111, 102]
            · subst h6; simp (disch := omega) [-getElem?_pos, g110, g110L0_eq, g110B0, wrap_id, isKw, kws]
            · by_cases h7 : s = [101, 110, 100]
              · subst h7; simp (disch := omega) [-getElem?_pos, g110, g110L0_eq, g110B0, wrap_id, isKw, kws]
              · have f1 := Ne.symm h1
                have f2 := Ne.symm h2
                have f3 := Ne.symm h3
                have f4 := Ne.symm h4
                have f5 := Ne.symm h5
                have f6 := Ne.symm h6
                have f7 := Ne.symm h7
                simp (disch := omega) [-getElem?_pos, g110, g110L0_eq, g110B0, wrap_id, isKw, kws, h1, h2, h3, h4, h5, h6, h7, f1, f2, f3, f4, f5, f6, f7]

theorem c77 {s : List UInt8} (hS : SmS s) : (orcL AP).p 77 [.str s] = some [.bool (nameB s 97 122)] := by
  have h1 := c108 hS
  have h3 := c110 (s := s)
  rw [callP_body (af := g77) rfl rfl (by decide)]
  cases s with
  | nil => simp [innAll_nil] at h1; simp [g77, h1, nameB]
  | cons b r =>
    have h2 := c109 (c := b.toNat)
    cases e1 : innAll (b :: r)
    · simp [e1] at h1; simp [g77, h1, nameB, e1]
    · simp [e1] at h1
      cases e2 : isLow b.toNat
      · rw [e2] at h2
        have : (decide ((97 : Int) ≤ b.toNat) && decide ((b.toNat : Int) ≤ 122)) = false := e2
        simp [g77, h1, h2, nameB, this]
      · rw [e2] at h2
        have : (decide ((97 : Int) ≤ b.toNat) && decide ((b.toNat : Int) ≤ 122)) = true := e2
        by_cases e3 : (b :: r).length ≤ 12
        · have e3' : (r.length : Int) + 1 ≤ 12 := by simp at e3; omega
          have e3'' : r.length + 1 ≤ 12 := by simpa using e3
          cases e4 : isKw (b :: r) <;> simp [e4] at h3 <;> simp [g77, h1, h2, h3, e3', e3'', e4, nameB, this, e1]
        · have e3' : ¬ ((r.length : Int) + 1 ≤ 12) := by simp at e3; omega
          have e3'' : ¬ (r.length + 1 ≤ 12) := by simpa using e3
          simp [g77, h1, h2, e3', e3'', nameB, this, e1]
theorem kw_low {b : UInt8} {r : List UInt8} (h : isKw (b :: r) = true) : isUp b.toNat = false := by
  simp only [isKw, kws, List.contains_iff_mem, List.mem_cons, List.not_mem_nil, or_false, List.cons.injEq] at h
  rcases h with ⟨rfl, _⟩ | ⟨rfl, _⟩ | ⟨rfl, _⟩ | ⟨rfl, _⟩ | ⟨rfl, _⟩ | ⟨rfl, _⟩ | ⟨rfl, _⟩ <;> rfl
theorem c78 {s : List UInt8} (hS : SmS s) : (orcL AP).p 78 [.str s] = some [.bool (nameB s 65 90)] := by
  have h1 := c108 hS
  rw [callP_body (af := g78) rfl rfl (by decide)]
  cases s with
  | nil => simp [innAll_nil] at h1; simp [g78, h1, nameB]
  | cons b r =>
    have h2 := c111 (c := b.toNat)
    cases e1 : innAll (b :: r)
    · simp [e1] at h1; simp [g78, h1, nameB, e1]
    · simp [e1] at h1
      cases e2 : isUp b.toNat
      · rw [e2] at h2
        have : (decide ((65 : Int) ≤ b.toNat) && decide ((b.toNat : Int) ≤ 90)) = false := e2
        simp [g78, h1, h2, nameB, this]
      · rw [e2] at h2
        have : (decide ((65 : Int) ≤ b.toNat) && decide ((b.toNat : Int) ≤ 90)) = true := e2
        have e4 : isKw (b :: r) = false := by
          cases e : isKw (b :: r)
          · rfl
          · rw [kw_low e] at e2; cases e2
        by_cases e3 : (b :: r).length ≤ 12
        · have e3' : (r.length : Int) + 1 ≤ 12 := by simp at e3; omega
          have e3'' : r.length + 1 ≤ 12 := by simpa using e3
          simp [g78, h1, h2, e3', e3'', e4, nameB, this, e1]
        · have e3' : ¬ ((r.length : Int) + 1 ≤ 12) := by simp at e3; omega
          have e3'' : ¬ (r.length + 1 ≤ 12) := by simpa using e3
          simp [g78, h1, h2, e3', e3'', nameB, this, e1]

/-! ### The program's names -/
theorem L73 {s : List UInt8} (hS : SmS s) : ∀ (n i : Nat), s.length - i = n → i ≤ s.length →
    cl AP g73L0 ⟨[(0, .pv (.str s)), (31, .pv (vI s.length)), (32, .pv (vI i))], [], [], []⟩ =
      if innAll (s.drop i) = true then some (.exit 0, ⟨[(0, .pv (.str s)), (31, .pv (vI s.length)), (32, .pv (vI s.length)), (33, .pv (.bool false))], [], [], []⟩)
      else some (.ret, ⟨[(6, .pv (.bool false))], [], [], []⟩)
  | 0, i, hn, hi => by
    have : i = s.length := by omega
    subst this
    rw [g73L0_eq]
    simp [g73B0, innAll_nil]
  | n + 1, i, hn, hi => by
    have hi : i < s.length := by omega
    obtain ⟨x, hx⟩ := getO hi
    unfold SmS at hS
    have ih := L73 hS n (i + 1) (by omega) (by omega)
    simp at ih
    rw [g73L0_eq, dropC hx, innAll_cons]
    have key : isInn x.toNat = ((decide (97 ≤ (x.toNat : Int)) && decide ((x.toNat : Int) ≤ 122)) || (decide (65 ≤ (x.toNat : Int)) && decide ((x.toNat : Int) ≤ 90)) || (decide (48 ≤ (x.toNat : Int)) && decide ((x.toNat : Int) ≤ 57)) || ((x.toNat : Int) == 95)) := rfl
    rw [key]
    have hc : ∃ c : Int, c = x.toNat := ⟨_, rfl⟩
    obtain ⟨c, hc⟩ := hc
    have e97 : (97 ≤ (x.toNat : Int)) = (97 ≤ c) := by rw [hc]
    rw [← hc]
    have goOn : ∀ b1 b2 b3 b4 b5 b6 b7 : Bool, decide (97 ≤ c) = b1 → decide (c ≤ 122) = b2 → decide (65 ≤ c) = b3 → decide (c ≤ 90) = b4 → decide (48 ≤ c) = b5 → decide (c ≤ 57) = b6 → (c == 95) = b7 →
        after (cl AP g73L0) (cl AP g73B0 (norm (restrict [0, 31, 32] ⟨[(0, .pv (.str s)), (31, .pv (vI s.length)), (32, .pv (vI i))], [], [], []⟩))) =
        if (((b1 && b2) || (b3 && b4) || (b5 && b6) || b7) && innAll (s.drop (i + 1))) = true then some (.exit 0, ⟨[(0, .pv (.str s)), (31, .pv (vI s.length)), (32, .pv (vI s.length)), (33, .pv (.bool false))], [], [], []⟩)
        else some (.ret, ⟨[(6, .pv (.bool false))], [], [], []⟩) := by
      intro b1 b2 b3 b4 b5 b6 b7 h1 h2 h3 h4 h5 h6 h7
      have g8 : decide (c < 48) = !b5 := by rw [← h5, ← decide_not]; simp [Int.not_le]
      have g9 : decide (57 < c) = !b6 := by rw [← h6, ← decide_not]; simp [Int.not_le]
      cases b1 <;> cases b3 <;> cases b5 <;> cases b2 <;> cases b4 <;> cases b6 <;> cases b7 <;>
        (have k1 := h1; have k2 := h2; have k3 := h3; have k4 := h4; have k5 := h5; have k6 := h6; have k7 := h7
         simp only [decide_eq_true_eq, decide_eq_false_iff_not, beq_iff_eq, beq_eq_false_iff_ne, ne_eq] at k1 k2 k3 k4 k5 k6 k7
         first
         | (exfalso; omega)
         | (simp (disch := omega) [-getElem?_pos, g73B0, hx, hi, ← hc, k1, k2, k3, k4, k5, k6, k7, g8, g9, wrap_id, ih]; done))
    exact goOn _ _ _ _ _ _ _ rfl rfl rfl rfl rfl rfl rfl
end Go.Ab.Lw

namespace Go.Ab.Lw
open Ev
set_option maxRecDepth 10000
set_option linter.unusedSimpArgs false

theorem c73 {s : List UInt8} (hS : SmS s) {lo hi : Int} : (orcL AP).p 73 [.str s, vC lo, vC hi] = some [.bool (nameB s lo hi)] := by
  have h := L73 hS _ 0 rfl (by omega)
  simp at h
  rw [callP_body (af := g73) rfl rfl (by decide)]
  cases s with
  | nil => simp [g73, nameB]
  | cons b r =>
    by_cases e3 : r.length + 1 ≤ 12
    · have e3' : ¬ ((12 : Int) < r.length + 1) := by omega
      have e0 : ¬ ((r.length : Int) + 1 < 1) := by omega
      by_cases e1 : (b.toNat : Int) < lo
      · have e1' : ¬ (lo ≤ (b.toNat : Int)) := by omega
        simp [g73, nameB, e0, e3', e1, e1']
      · have e1' : lo ≤ (b.toNat : Int) := by omega
        by_cases e2 : hi < (b.toNat : Int)
        · have e2' : ¬ ((b.toNat : Int) ≤ hi) := by omega
          simp [g73, nameB, e0, e3', e1, e2, e2']
        · have e2' : (b.toNat : Int) ≤ hi := by omega
          cases e4 : innAll (b :: r)
          · simp [e4] at h
            simp [g73, nameB, e0, e3', e1, e2, e1', e2', h, e4]
          · simp [e4] at h
            cases e5 : isKw (b :: r)
            · have k : ∀ k ∈ kws, ¬ (b :: r) = k := by
                intro k hk e
                rw [e] at e5
                simp only [isKw] at e5
                rw [List.contains_eq_mem] at e5
                simp at e5
                exact e5 hk
              have k1 := k [100, 97, 116, 97] (by simp [kws])
              have k2 := k [108, 101, 116] (by simp [kws])
              have k3 := k [114, 101, 99] (by simp [kws])
              have k4 := k [105, 110] (by simp [kws])
              have k5 := k [99, 97, 115, 101] (by simp [kws])
              have k6 := k [111, 102] (by simp [kws])
              have k7 := k [101, 110, 100] (by simp [kws])
              have b1 : ((b :: r) == [100, 97, 116, 97]) = false := by simpa using k1
              have b2 : ((b :: r) == [108, 101, 116]) = false := by simpa using k2
              have b3 : ((b :: r) == [114, 101, 99]) = false := by simpa using k3
              have b4 : ((b :: r) == [105, 110]) = false := by simpa using k4
              have b5 : ((b :: r) == [99, 97, 115, 101]) = false := by simpa using k5
              have b6 : ((b :: r) == [111, 102]) = false := by simpa using k6
              have b7 : ((b :: r) == [101, 110, 100]) = false := by simpa using k7
              simp [g73, nameB, e0, e3', e1, e2, e1', e2', h, e4, e5, e3, -List.cons_beq_cons, b1, b2, b3, b4, b5, b6, b7]
            · simp only [isKw, kws, List.contains_iff_mem, List.mem_cons, List.not_mem_nil, or_false] at e5
              rcases e5 with e | e | e | e | e | e | e <;> (simp only [List.cons.injEq] at e; obtain ⟨rfl, rfl⟩ := e) <;>
                simp [nameB, isKw, kws] <;> (simp at e1 e2 h e1' e2'; simp [g73, h, e1, e2])
    · have e3' : (12 : Int) < r.length + 1 := by omega
      simp [g73, nameB, e3', e3]
end Go.Ab.Lw

namespace Go.Ab.Lw
open Ev
set_option maxRecDepth 10000
set_option linter.unusedSimpArgs false

def conB (s : List UInt8) (n : Nat) : Bool := if s = [45, 62] then decide (n = 2) else if s = [73, 110, 116] then decide (n = 0) else nameB s 65 90 && decide (n ≤ 4)

theorem c74 {s : List UInt8} (hS : SmS s) {n : Nat} : (orcL AP).p 74 [.str s, vI n] = some [.bool (conB s n)] := by
  have h := c73 hS (lo := 65) (hi := 90)
  rw [callP_body (af := g74) rfl rfl (by decide)]
  by_cases e1 : s = [45, 62]
  · have : ((n : Int) == 2) = decide (n = 2) := by rw [Bool.eq_iff_iff]; simp; omega
    subst e1
    simp [g74, conB, this]
  · have b1 : (s == [45, 62]) = false := by simpa using e1
    by_cases e2 : s = [73, 110, 116]
    · have : ((n : Int) == 0) = decide (n = 0) := by rw [Bool.eq_iff_iff]; simp
      subst e2
      simp [g74, conB, this]
    · have b2 : (s == [73, 110, 116]) = false := by simpa using e2
      have : decide ((n : Int) ≤ 4) = decide (n ≤ 4) := by rw [Bool.eq_iff_iff]; simp; omega
      cases e3 : nameB s 65 90 <;> simp [e3] at h <;> simp [g74, conB, e1, e2, b1, b2, h, e3, this]

mutual
def validT : Ty → Bool
  | ⟨k, n, i, h, as⟩ =>
    if k = 1 ∨ k = 2 then decide (n = []) && decide (as = []) && decide (0 ≤ i) && decide (i ≤ 1000000) && (h == 0)
    else if k = 3 then decide (n = []) && decide (as = []) && decide (0 ≤ i) && decide (i ≤ 1000000) && decide (-1 ≤ h) && decide (h ≤ 1000000)
    else if k = 5 then decide (as = []) && (i == 0) && (h == 0) && nameB n 97 122
    else if k = 4 then (i == 0) && (h == 0) && conB n as.length && validL as
    else false
def validL : List Ty → Bool
  | [] => true
  | a :: r => validT a && validL r
end
theorem validL_all : ∀ l : List Ty, validL l = l.all validT
  | [] => by simp [validL]
  | a :: r => by simp [validL, validL_all r]
theorem validT_eq (t : Ty) : validT t = 
    if t.kind = 1 ∨ t.kind = 2 then decide (t.name = []) && decide (t.args = []) && decide (0 ≤ t.id) && decide (t.id ≤ 1000000) && (t.home == 0)
    else if t.kind = 3 then decide (t.name = []) && decide (t.args = []) && decide (0 ≤ t.id) && decide (t.id ≤ 1000000) && decide (-1 ≤ t.home) && decide (t.home ≤ 1000000)
    else if t.kind = 5 then decide (t.args = []) && (t.id == 0) && (t.home == 0) && nameB t.name 97 122
    else if t.kind = 4 then (t.id == 0) && (t.home == 0) && conB t.name t.args.length && t.args.all validT
    else false := by
  cases t; simp only [validT, validL_all]

/-! ### The first type where a function says so -/
def R107 (F : AV) (s : List Ty) (sh : Sh) (i : Nat) : Option Nat → Option (AExit × St)
  | some k => some (.ret, ⟨[(4, .pv (vI (i + k : Nat)))], [], sh, []⟩)
  | none => some (.exit 0, ⟨[(0, .pv (.lst (s.map Ty.pv))), (1, F), (7, .pv (vI s.length)), (8, .pv (vI s.length)), (9, .pv (.bool false))], [], sh, []⟩)
theorem L107 {s : List Ty} (hS : Sm s) {sh : Sh} (hq : Quiet sh) {g : Nat} {cap : List AV} {p : Ty → Bool} (hcap : flatB.flatL cap = true) (hpass : passB.passL cap = true) (harg : argsOf [] 1 cap = cap) (hnrm : ∀ old ts, normL old ts cap = (cap, old, ts)) (hpo : cap.all passO = true)
    (hf : ∀ x ∈ s, (orcL AP).i g (.pv x.pv :: cap) sh [] = some ([.pv (.bool (p x))], sh, [])) : ∀ (n i : Nat), s.length - i = n → i ≤ s.length →
    cl AP g107L0 ⟨[(0, .pv (.lst (s.map Ty.pv))), (1, .fn g cap), (7, .pv (vI s.length)), (8, .pv (vI i))], [], sh, []⟩ = R107 (.fn g cap) s sh i (idxB p (s.drop i))
  | 0, i, hn, hi => by
    have : i = s.length := by omega
    subst this
    rw [g107L0_eq]
    simp [g107B0, idxB, R107, hq.norm, hcap]
  | n + 1, i, hn, hi => by
    have hi : i < s.length := by omega
    obtain ⟨x, hx⟩ := getO hi
    unfold Sm at hS
    have ih := L107 hS hq hcap hpass harg hnrm hpo hf n (i + 1) (by omega) (by omega)
    simp at ih
    have hc := hf x (memO hx)
    simp at hc
    rw [g107L0_eq, dropC hx]
    cases e : p x with
    | true =>
      rw [e] at hc
      simp (disch := omega) [-getElem?_pos, g107B0, hx, hi, e, idxB, R107, hq.norm, hq.shift, hc, hcap, hpass, harg, hnrm, hpo]
    | false =>
      rw [e] at hc
      simp (disch := omega) [-getElem?_pos, g107B0, hx, hi, e, idxB, wrap_id, hq.norm, hq.shift, hc, ih, hcap, hpass, harg, hnrm, hpo]
      cases idxB p (s.drop (i + 1)) with
      | none => rfl
      | some k => simp [R107]; omega
theorem c75 {s : List Ty} (hS : Sm s) {sh : Sh} (hq : Quiet sh) {g : Nat} {cap : List AV} {p : Ty → Bool} (hcap : flatB.flatL cap = true) (hpass : passB.passL cap = true) (harg : argsOf [] 1 cap = cap) (hnrm : ∀ old ts, normL old ts cap = (cap, old, ts)) (hpo : cap.all passO = true)
    (hf : ∀ x ∈ s, (orcL AP).i g (.pv x.pv :: cap) sh [] = some ([.pv (.bool (p x))], sh, [])) : (orcL AP).i 75 [.pv (.lst (s.map Ty.pv)), .fn g cap] sh [] = some ([.pv (.bool (s.any p))], sh, []) := by
  have h := L107 hS hq hcap hpass harg hnrm hpo hf _ 0 rfl (by omega)
  simp at h
  have c107 : (orcL AP).i 107 [.pv (.lst (s.map Ty.pv)), .fn g cap] sh [] = some ([.pv (vI (match idxB p s with | some k => k | none => -1))], sh, []) := by
    rw [callI_body (af := g107) rfl (by simp [g107])]
    cases hi : idxB p s with
    | none => rw [hi] at h; simp [R107] at h; simp [g107, h, hq.norm, hcap]
    | some k => rw [hi] at h; simp [R107] at h; simp [g107, h, hq.norm, hcap]
  rw [callI_body (af := g75) rfl (by simp [g75])]
  cases hi : idxB p s with
  | none =>
    rw [hi] at c107
    have : s.any p = false := by rw [List.any_eq_false]; intro x hx; rw [idxB_none.1 hi x hx]; simp
    simp [g75, c107, hq.norm, hq.shift, hcap, hpass, hnrm, this]
  | some k =>
    rw [hi] at c107
    have : s.any p = true := by
      cases e : s.any p with
      | true => rfl
      | false => rw [List.any_eq_false] at e; have := idxB_none.2 (fun x hx => by simpa using e x hx); rw [hi] at this; cases this
    simp [g75, c107, hq.norm, hq.shift, hcap, hpass, hnrm, this]

/-- Names within are short, too. -/
inductive Ty.Nm : Ty → Prop
  | mk {t : Ty} : SmS t.name → (∀ x ∈ t.args, Ty.Nm x) → Ty.Nm t
theorem Ty.Nm.sm {t : Ty} (h : t.Nm) : SmS t.name := by cases h; assumption
theorem Ty.Nm.kid {t : Ty} (h : t.Nm) : ∀ x ∈ t.args, x.Nm := by cases h; assumption

theorem c29 {t : Ty} (hO : t.Ok) (hN : t.Nm) : (orcL AP).p 29 [t.pv] = some [.bool (validT t)] := by
  revert hO hN
  refine Ty.rec1 (p := fun t => t.Ok → t.Nm → (orcL AP).p 29 [t.pv] = some [.bool (validT t)]) ?_ t
  intro t ih hO hN
  have ht := c74 hN.sm (n := t.args.length)
  have hl := c73 hN.sm (lo := 97) (hi := 122)
  have hc := c75 hO.sm (sh := []) (by intro cs h; simp at h) (g := 76) (cap := []) (p := fun x => !validT x) rfl rfl rfl (fun _ _ => rfl) rfl (by
    intro x hx
    have hx' := ih x hx (hO.kid x hx) (hN.kid x hx)
    simp at hx'
    rw [callI_body (af := g76) rfl (by simp [g76])]
    simp [g76, hx'])
  have hany := any_not (p := validT) (l := t.args)
  rw [callP_body (af := g29) rfl rfl (by decide), validT_eq]
  have h0 : ((t.args.length : Int) == 0) = decide (t.args = []) := by rw [Bool.eq_iff_iff]; simp
  by_cases k1 : t.kind = 1
  · simp [g29, k1, h0]
    (repeat' split) <;> simp_all <;> omega
  · by_cases k2 : t.kind = 2
    · simp [g29, k2, h0]
      (repeat' split) <;> simp_all <;> omega
    · by_cases k3 : t.kind = 3
      · simp [g29, k3, h0]
        (repeat' split) <;> simp_all <;> omega
      · by_cases k5 : t.kind = 5
        · simp [g29, k5, h0, hl]
          (repeat' split) <;> simp_all <;> omega
        · by_cases k4 : t.kind = 4
          · simp [g29, k4, h0, ht, hc]
            (repeat' split) <;> simp_all <;> omega
          · simp [g29, k1, k2, k3, k4, k5, h0]
end Go.Ab.Lw

namespace Go.Ab.Lw
open Ev
set_option maxRecDepth 10000
set_option linter.unusedSimpArgs false

theorem L30 {t : Ty} (hS : Sm t.args) (h : ∀ x ∈ t.args, (orcL AP).p 30 [x.pv] = some [.bool (validT x)]) : ∀ (n i : Nat), t.args.length - i = n → i ≤ t.args.length →
    cl AP g30L0 ⟨[(1, .lptr 1 0), (3, .pv (vI i))], [(1, t.cl)], [], []⟩ =
      if (t.args.drop i).all validT = true then some (.exit 1, ⟨[(1, .lptr 1 0), (3, .pv (vI t.args.length)), (99, .pv (.bool false))], [(1, t.cl)], [], []⟩)
      else some (.ret, ⟨[(2, .pv (.bool false))], [], [], []⟩)
  | 0, i, hn, hi => by
    have : i = t.args.length := by omega
    subst this
    rw [g30L0_eq]
    simp [g30B0, Ty.cl]
  | n + 1, i, hn, hi => by
    have hi : i < t.args.length := by omega
    obtain ⟨x, hx⟩ := getO hi
    unfold Sm at hS
    have ih := L30 hS h n (i + 1) (by omega) (by omega)
    have hc := h x (memO hx)
    simp [Ty.cl] at ih hc
    rw [g30L0_eq, dropC hx]
    cases e : validT x
    · rw [e] at hc
      simp (disch := omega) [-getElem?_pos, g30B0, Ty.cl, hx, hi, hc, e]
    · rw [e] at hc
      simp (disch := omega) [-getElem?_pos, g30B0, Ty.cl, hx, hi, hc, e, wrap_id, ih]

theorem c30 {t : Ty} (hO : t.Ok) (hN : t.Nm) : (orcL AP).p 30 [t.pv] = some [.bool (validT t)] := by
  revert hO hN
  refine Ty.rec1 (p := fun t => t.Ok → t.Nm → (orcL AP).p 30 [t.pv] = some [.bool (validT t)]) ?_ t
  intro t ih hO hN
  have hl := c77 hN.sm
  have hu := c78 hN.sm
  rw [callP_body (af := g30) rfl rfl (by decide), validT_eq]
  have h0 : ((t.args.length : Int) == 0) = decide (t.args = []) := by rw [Bool.eq_iff_iff]; simp
  have h2 : ((t.args.length : Int) == 2) = decide (t.args.length = 2) := by rw [Bool.eq_iff_iff]; simp; omega
  have h4 : decide ((t.args.length : Int) ≤ 4) = decide (t.args.length ≤ 4) := by rw [Bool.eq_iff_iff]; simp; omega
  by_cases k1 : t.kind = 1
  · simp [g30, k1, h0]
    (repeat' split) <;> simp_all <;> omega
  · by_cases k2 : t.kind = 2
    · simp [g30, k2, h0]
      (repeat' split) <;> simp_all <;> omega
    · by_cases k3 : t.kind = 3
      · simp [g30, k3, h0]
        (repeat' split) <;> simp_all <;> omega
      · by_cases k5 : t.kind = 5
        · simp [g30, k5, h0, hl]
          (repeat' split) <;> simp_all <;> omega
        · by_cases k4 : t.kind = 4
          · by_cases ei : t.id = 0
            · by_cases eh : t.home = 0
              · have hL := L30 hO.sm (fun x hx => ih x hx (hO.kid x hx) (hN.kid x hx)) _ 0 rfl (by omega)
                rw [g30L0_eq] at hL
                simp [Ty.cl] at hL
                cases ea : t.args.all validT
                · have : ¬ ∀ x ∈ t.args, validT x = true := by rw [← List.all_eq_true, ea]; simp
                  simp [this, k4, ei, eh] at hL
                  simp [g30, k4, ei, eh, g30L0_eq, hL]
                · have : ∀ x ∈ t.args, validT x = true := by rw [← List.all_eq_true, ea]
                  have hL := hL
                  rw [if_pos this] at hL
                  simp [k4, ei, eh] at hL
                  by_cases n1 : t.name = [45, 62]
                  · simp [n1] at hL
                    simp [g30, k4, ei, eh, g30L0_eq, hL, n1, conB, h2]
                  · have b1 : (t.name == [45, 62]) = false := by simpa using n1
                    by_cases n2 : t.name = [73, 110, 116]
                    · simp [n2] at hL
                      simp [g30, k4, ei, eh, g30L0_eq, hL, n2, conB, h0]
                    · have b2 : (t.name == [73, 110, 116]) = false := by simpa using n2
                      cases eu : nameB t.name 65 90
                      · rw [eu] at hu
                        simp [g30, k4, ei, eh, g30L0_eq, hL, n1, n2, b1, b2, conB, hu, eu]
                      · rw [eu] at hu
                        simp [g30, k4, ei, eh, g30L0_eq, hL, n1, n2, b1, b2, conB, hu, eu, h4]
              · simp [g30, k4, ei, eh]
            · simp [g30, k4, ei]
          · simp [g30, k1, k2, k3, k4, k5]

theorem c31 {t : Ty} (hO : t.Ok) (hN : t.Nm) : (orcL AP).p 31 [t.pv] = some [(if validT t = true then t else tyInt).pv] := by
  have h := c30 hO hN
  have h2 := c34
  simp at h h2
  rw [callP_body (af := g31) rfl rfl (by decide)]
  cases e : validT t
  · rw [e] at h; simp [g31, h, h2, e, tyInt]
  · rw [e] at h; simp [g31, h, e]

/-! ### Small types -/
mutual
def smT : Ty → Int → Int
  | ⟨_, _, _, _, as⟩, l => max (smL as (l - 1)) 0
def smL : List Ty → Int → Int
  | [], l => l
  | a :: r, l => if 0 < l then smL r (smT a l) else l
end
theorem smT_eq (t : Ty) (l : Int) : smT t l = max (smL t.args (l - 1)) 0 := by cases t; simp only [smT]
theorem smT_le (t : Ty) : ∀ l : Int, 0 < l → 0 ≤ smT t l ∧ smT t l ≤ l - 1 := by
  refine Ty.rec1 (p := fun t => ∀ l : Int, 0 < l → 0 ≤ smT t l ∧ smT t l ≤ l - 1) ?_ t
  intro t ih l hl
  have key : ∀ (as : List Ty), (∀ x ∈ as, ∀ l : Int, 0 < l → 0 ≤ smT x l ∧ smT x l ≤ l - 1) → ∀ l : Int, 0 ≤ l → 0 ≤ smL as l ∧ smL as l ≤ l := by
    intro as
    induction as with
    | nil => intro _ l h; simp [smL, h]
    | cons a r ih =>
      intro h l h0
      simp only [smL]
      split
      · rename_i hp
        have := h a (by simp) l hp
        have := ih (fun x hx => h x (by simp [hx])) (smT a l) this.1
        omega
      · omega
  rw [smT_eq]
  have := key t.args ih (l - 1) (by omega)
  omega
theorem smL_le : ∀ (as : List Ty) (l : Int), 0 ≤ l → 0 ≤ smL as l ∧ smL as l ≤ l
  | [], l, h => by simp [smL, h]
  | a :: r, l, h => by
    simp only [smL]
    split
    · rename_i hp
      have h1 := smT_le a l hp
      have := smL_le r (smT a l) h1.1
      omega
    · omega
theorem smL_few : ∀ (as : List Ty) (l : Int), 0 ≤ l → 0 < smL as l → (as.length : Int) < l ∧ ∀ x ∈ as, ∃ l' : Int, 0 < l' ∧ l' ≤ l ∧ 0 < smT x l'
  | [], l, h, hp => by simp [smL] at hp ⊢; exact hp
  | a :: r, l, h, hp => by
    simp only [smL] at hp
    split at hp
    · rename_i h0
      have h1 := smT_le a l h0
      have h2 := smL_few r (smT a l) h1.1 hp
      have h3 : 0 < smT a l := by
        have := smL_le r (smT a l) h1.1
        omega
      refine ⟨by simp; omega, ?_⟩
      intro x hx
      simp at hx
      rcases hx with rfl | hx
      · exact ⟨l, h0, by omega, h3⟩
      · obtain ⟨l', a1, a2, a3⟩ := h2.2 x hx
        exact ⟨l', a1, by omega, a3⟩
    · omega
theorem smT_ok (t : Ty) : ∀ l : Int, 0 < l → l ≤ 100000 → 0 < smT t l → t.Ok := by
  refine Ty.rec1 (p := fun t => ∀ l : Int, 0 < l → l ≤ 100000 → 0 < smT t l → t.Ok) ?_ t
  intro t ih l h0 h1 hp
  rw [smT_eq] at hp
  have hp' : 0 < smL t.args (l - 1) := by omega
  obtain ⟨k1, k2⟩ := smL_few t.args (l - 1) (by omega) hp'
  refine ⟨by unfold Sm; omega, fun x hx => ?_⟩
  obtain ⟨l', a1, a2, a3⟩ := k2 x hx
  exact ih x hx l' a1 (by omega) a3

theorem L88 {t : Ty} (h : ∀ x ∈ t.args, ∀ l : Int, 0 < l → l ≤ 4611686018427387904 → (orcL AP).p 88 [x.pv, vI l] = some [vI (smT x l)]) : ∀ (n i : Nat), t.args.length - i = n → i ≤ t.args.length → ∀ l : Int, 0 ≤ l → i + l ≤ 4611686018427387904 →
    ∃ (k : Nat) (b : Bool), cl AP g88L0 ⟨[(1, .pv (vI l)), (2, .lptr 2 0), (5, .pv (vI i))], [(2, t.cl)], [], []⟩ =
      some (.exit 0, ⟨[(1, .pv (vI (smL (t.args.drop i) l))), (2, .lptr 2 0), (5, .pv (vI k)), (16, .pv (.bool b))], [(2, t.cl)], [], []⟩)
  | 0, i, hn, hi, l, hl, hb => by
    have : i = t.args.length := by omega
    subst this
    refine ⟨t.args.length, false, ?_⟩
    rw [g88L0_eq]
    simp [g88B0, Ty.cl, smL]
  | n + 1, i, hn, hi, l, hl, hb => by
    have hi : i < t.args.length := by omega
    obtain ⟨x, hx⟩ := getO hi
    rw [g88L0_eq, dropC hx]
    by_cases hp : 0 < l
    · have hc := h x (memO hx) l hp (by omega)
      have hle := smT_le x l hp
      obtain ⟨k, b, ih⟩ := L88 h n (i + 1) (by omega) (by omega) (smT x l) hle.1 (by omega)
      refine ⟨k, b, ?_⟩
      simp [Ty.cl] at ih hc
      simp (disch := omega) [-getElem?_pos, g88B0, Ty.cl, hx, hi, hc, hp, smL, wrap_id, ih]
    · refine ⟨i, false, ?_⟩
      simp (disch := omega) [-getElem?_pos, g88B0, Ty.cl, hx, hi, hp, smL]
theorem c88 (t : Ty) : ∀ l : Int, 0 < l → l ≤ 4611686018427387904 → (orcL AP).p 88 [t.pv, vI l] = some [vI (smT t l)] := by
  refine Ty.rec1 (p := fun t => ∀ l : Int, 0 < l → l ≤ 4611686018427387904 → (orcL AP).p 88 [t.pv, vI l] = some [vI (smT t l)]) ?_ t
  intro t ih l h0 h1
  obtain ⟨k, b, h⟩ := L88 ih _ 0 rfl (by omega) (l - 1) (by omega) (by omega)
  rw [g88L0_eq] at h
  simp [Ty.cl] at h
  rw [callP_body (af := g88) rfl rfl (by decide), smT_eq]
  simp (disch := omega) [g88, wrap_id, g88L0_eq, h]
  omega
theorem c40 {t : Ty} {n : Int} (h0 : 0 ≤ n) (h1 : n < 1000000) : (orcL AP).p 40 [t.pv, vI n] = some [.bool (decide (0 < smT t (n + 1)))] := by
  have h := c88 t (n + 1) (by omega) (by omega)
  simp at h
  rw [callP_body (af := g40) rfl rfl (by decide)]
  simp (disch := omega) [g40, wrap_id, h]
end Go.Ab.Lw

