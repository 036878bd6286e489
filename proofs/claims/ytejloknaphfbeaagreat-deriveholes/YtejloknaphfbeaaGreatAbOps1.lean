import Derived.Test.YtejloknaphfbeaaGreatAbSim
import Derived.Test.YtejloknaphfbeaaGreatAbComp
import Derived.Laws.Cells
import Derived.Laws.CopyRow
import Derived.Laws.Entries
import Derived.Laws.Strings
/-
  Operations on values alone: what the slim operation gives is what the model's gives.
-/
set_option linter.unusedVariables false
set_option linter.unusedSimpArgs false
namespace Go.Ab

section
variable {P : Program} {ns : Names} {G : Gh} {w : World}

abbrev num (ns : Names) : Nums := fun g f => ns.of f = some g

theorem run_szOf {t n : Nat} (h : szOf P t = some n) (w : World) : (sizeOf t).run P w = .ok n w := by
  unfold szOf at h
  cases hi : P.info? t with
  | none => simp [hi] at h
  | some i => simp [hi] at h; simp [sizeOf, typeInfo, hi, h]

theorem run_bytesAt {t n : Nat} (h : bytesAt P t = some n) (w : World) : ∃ i, P.info? t = some i ∧ i.bytes = n ∧ (typeInfo t).run P w = .ok i w := by
  unfold bytesAt at h
  cases hi : P.info? t with
  | none => simp [hi] at h
  | some i => simp [hi] at h; exact ⟨i, rfl, h, by simp [typeInfo, hi]⟩

theorem run_aggOf {t : Nat} {b : Bool} (h : aggOf P t = some b) (w : World) : (isAgg t).run P w = .ok b w := by
  unfold aggOf at h
  cases hu : P.underlying t with
  | none => simp [hu] at h
  | some d =>
    simp [hu] at h
    simp only [isAgg, Sem.run_bind, run_underlying hu, Result.andThen_ok]
    cases d <;> simp_all

theorem constP_rel {K : Know} {v : Value} {p : PV} (h : constP v = some p) : R K false p [v] ∧ leafP p = true := by
  cases v with
  | bool b => simp [constP] at h; subst h; simp [R, leafP]
  | int k n => simp [constP] at h; subst h; simp [R, leafP]
  | string s => simp [constP] at h; subst h; simp [R, leafP]
  | slice a l c =>
    cases a with
    | some a => simp [constP] at h
    | none =>
      cases l with
      | succ l => simp [constP] at h
      | zero =>
        cases c with
        | succ c => simp [constP] at h
        | zero =>
          simp [constP] at h; subst h
          refine ⟨?_, rfl⟩
          simp only [R]
          exact ⟨none, 0, 0, rfl, Nat.le_refl _, rfl, by simp⟩
  | _ => simp [constP] at h

theorem constA_rel {v : Value} {x : AV} (h : constA v = some x) : RelA (num ns) G x v := by
  unfold constA at h
  split at h
  · simp at h; subst h; simp only [RelA]; exact ⟨none, 0, rfl, rfl, .inl rfl⟩
  · simp at h; subst h; simp [RelA]
  · simp at h; subst h; simp [RelA]
  · cases hc : constP v with
    | none => simp [hc] at h
    | some p => simp [hc] at h; subst h; simp only [RelA]; exact Rel.ofR (constP_rel hc).1

theorem opd_rel {N : Nat} {env : List (Nat × AV)} {a : Act} (he : EnvOk (num ns) G N env a) {x : Operand} {ax : AOpd} {v : AV}
    (hc : compOpd ns x = some ax) (hv : evOpd env ax = some v) : RelA (num ns) G v (a.eval x) := by
  cases x with
  | tmp t =>
    simp [compOpd] at hc; subst hc
    obtain ⟨rv, h1, h2⟩ := he.env t v (by simpa [evOpd] using hv)
    have : a.eval (.tmp t) = rv := by simp [Act.eval, h1]
    rw [this]; exact h2
  | const c =>
    simp only [compOpd, Option.map_eq_some_iff] at hc
    obtain ⟨x, h1, rfl⟩ := hc
    simp [evOpd] at hv; subst hv
    exact constA_rel h1
  | func f =>
    simp only [compOpd, Option.map_eq_some_iff] at hc
    obtain ⟨g, h1, rfl⟩ := hc
    simp [evOpd] at hv; subst hv
    simp only [RelA]
    exact ⟨f, [], h1, rfl, by simp [RelAs]⟩
  | global g => simp [compOpd] at hc

theorem opds_rel {N : Nat} {env : List (Nat × AV)} {a : Act} (he : EnvOk (num ns) G N env a) : ∀ {xs : List Operand} {as : List AOpd} {vs : List AV},
    mapO (compOpd ns) xs = some as → evOpds env as = some vs → RelAs (num ns) G vs (xs.map a.eval)
  | [], as, vs, hc, hv => by
    simp [mapO] at hc; subst hc; simp [evOpds] at hv; subst hv; simp [RelAs]
  | x :: xs, as, vs, hc, hv => by
    simp only [mapO] at hc
    split at hc
    · rename_i ax axs h1 h2
      simp at hc; subst hc
      simp only [evOpds] at hv
      split at hv
      · rename_i v vs' g1 g2
        simp at hv; subst hv
        simp only [List.map_cons, RelAs]
        exact ⟨_, _, rfl, opd_rel he h1 g1, opds_rel he h2 g2⟩
      · simp at hv
    · simp at hc

/-! ### Binary operations -/

theorem toList_mk (l : List UInt8) : (ByteArray.mk l.toArray).toList = l := by
  rw [ByteArray.toList_eq]

theorem bytesLt_eq : ∀ (a b : List UInt8), evBin.bytesLt a b = Op.bytesLess a b
  | _, [] => by simp [evBin.bytesLt, Op.bytesLess]
  | [], _ :: _ => by simp [evBin.bytesLt, Op.bytesLess]
  | a :: x, b :: y => by simp [evBin.bytesLt, Op.bytesLess, bytesLt_eq x y]

theorem rel_int {K : Know} {k : IntKind} {n : Int} {v : Value} : Rel K (.int k n) v ↔ v = .int k n := by simp [Rel, R]
theorem rel_bool {K : Know} {b : Bool} {v : Value} : Rel K (.bool b) v ↔ v = .bool b := by simp [Rel, R]
theorem rel_str {K : Know} {s : List UInt8} {v : Value} : Rel K (.str s) v ↔ v = .string ⟨s.toArray⟩ := by simp [Rel, R]

theorem relA_int {ρ : Nums} {k : IntKind} {n : Int} : RelA ρ G (.pv (.int k n)) (.int k n) := by simp only [RelA]; exact rel_int.2 rfl
theorem relA_bool {ρ : Nums} {b : Bool} : RelA ρ G (.pv (.bool b)) (.bool b) := by simp only [RelA]; exact rel_bool.2 rfl
theorem relA_str {ρ : Nums} {s : List UInt8} : RelA ρ G (.pv (.str s)) (.string ⟨s.toArray⟩) := by simp only [RelA]; exact rel_str.2 rfl

theorem evBin_sound {op : BinOp} {t : TypeId} {x y z : AV} {vx vy : Value} (hx : RelA (num ns) G x vx) (hy : RelA (num ns) G y vy)
    (h : evBin op x y = some z) (ox oy : Operand) : ∃ v, (do eqGuard op t ox oy vx vy; binOp op t vx vy : Sem Value).run P w = .ok v w ∧ RelA (num ns) G z v := by
  unfold evBin at h
  split at h
  · rename_i k a k' b
    simp only [RelA, rel_int] at hx hy
    subst hx; subst hy
    have hg : (eqGuard op t ox oy (.int k a) (.int k' b)).run P w = .ok () w := by cases op <;> simp [eqGuard]
    simp only [Sem.run_bind, hg, Result.andThen_ok]
    split at h
    · rename_i hk
      cases op <;> simp only [reduceCtorEq, or_false, or_self, or_true] at hk <;> simp at h
      case add => subst hk; subst h; exact ⟨_, by simp [binOp, Op.intArith], relA_int⟩
      case sub => subst hk; subst h; exact ⟨_, by simp [binOp, Op.intArith], relA_int⟩
      case mul => subst hk; subst h; exact ⟨_, by simp [binOp, Op.intArith], relA_int⟩
      case quo => subst hk; obtain ⟨h1, h⟩ := h; subst h; exact ⟨_, by simp [binOp, Op.intDiv, h1], relA_int⟩
      case rem => subst hk; obtain ⟨h1, h⟩ := h; subst h; exact ⟨_, by simp [binOp, Op.intDiv, h1], relA_int⟩
      case and => subst hk; subst h; exact ⟨_, by simp [binOp, Op.intBits], relA_int⟩
      case shl => obtain ⟨h1, h⟩ := h; subst h; exact ⟨_, by simp [binOp, Op.shift, Int.not_lt.2 h1], relA_int⟩
      case shr => obtain ⟨h1, h⟩ := h; subst h; exact ⟨_, by simp [binOp, Op.shift, Int.not_lt.2 h1], relA_int⟩
      all_goals (subst hk; subst h; exact ⟨_, by simp [binOp, Op.intCmp], relA_bool⟩)
    · simp at h
  · rename_i a b
    simp only [RelA, rel_str] at hx hy
    subst hx; subst hy
    have hg : (eqGuard op t ox oy (.string ⟨a.toArray⟩) (.string ⟨b.toArray⟩)).run P w = .ok () w := by cases op <;> simp [eqGuard]
    simp only [Sem.run_bind, hg, Result.andThen_ok]
    cases op <;> simp at h
    case add =>
      obtain ⟨h1, h⟩ := h; subst h
      have h2 : ¬ ((((ByteArray.mk a.toArray).size + (ByteArray.mk b.toArray).size : Nat) : Int) > IntKind.i64.max) := by
        have e1 : (ByteArray.mk a.toArray).size = a.length := by simp [ByteArray.size]
        have e2 : (ByteArray.mk b.toArray).size = b.length := by simp [ByteArray.size]
        rw [e1, e2]
        have : IntKind.i64.max = 9223372036854775807 := by decide
        rw [this]; omega
      have h3 : (ByteArray.mk a.toArray) ++ (ByteArray.mk b.toArray) = ByteArray.mk (a ++ b).toArray := by
        apply ByteArray.ext
        simp
      exact ⟨_, by simp only [binOp, Op.stringOp, if_neg h2, h3]; rfl, relA_str⟩
    all_goals (subst h; exact ⟨_, by simp only [binOp, Op.stringOp, toList_mk, ← bytesLt_eq, Sem.run_pure, Bool.not_or], relA_bool⟩)
  · simp at h

theorem run_equalIn_bool (d : Nat) {t : TypeId} (hu : P.underlying t = some .bool) (a b : Bool) : (Op.equalIn (d + 1) t (.bool a) (.bool b)).run P w = .ok (a == b) w := by
  simp only [Op.equalIn, Sem.run_bind, run_underlying hu, Result.andThen_ok, Sem.run_pure]

theorem run_equal_bool {t : TypeId} (hu : P.underlying t = some .bool) (a b : Bool) : (Op.equal t (.bool a) (.bool b)).run P w = .ok (a == b) w :=
  run_equalIn_bool 9999 hu a b

theorem evBeq_sound {op : BinOp} {t : TypeId} {neg : Bool} (hu : P.underlying t = some .bool) (hop : (op = .eql ∧ neg = false) ∨ (op = .neq ∧ neg = true)) (a b : Bool) (ox oy : Operand) :
    (do eqGuard op t ox oy (.bool a) (.bool b); binOp op t (.bool a) (.bool b) : Sem Value).run P w = .ok (.bool (if neg then !(a == b) else (a == b))) w := by
  rcases hop with ⟨rfl, rfl⟩ | ⟨rfl, rfl⟩
  · have hg : (eqGuard .eql t ox oy (.bool a) (.bool b)).run P w = .ok () w := by simp [eqGuard]
    simp only [Sem.run_bind, hg, Result.andThen_ok, binOp, run_equal_bool hu, Sem.run_pure]
    rfl
  · have hg : (eqGuard .neq t ox oy (.bool a) (.bool b)).run P w = .ok () w := by simp [eqGuard]
    simp only [Sem.run_bind, hg, Result.andThen_ok, binOp, run_equal_bool hu, Sem.run_pure]
    rfl

end
end Go.Ab
