import Derived.Test.YtejloknaphfbeaaGreatAbGive
/-
  One operation of a region: what the evaluator gives is what the model does.
-/
set_option linter.unusedVariables false
set_option linter.unusedSimpArgs false
namespace Go.Ab

section
variable {P : Program} {ns : Names} {G : Gh} {w : World}

theorem relL_of_relAs {xs : List AV} {vs : List Value} {ps : List PV} (h : frzAll [] xs = some ps) (hr : RelAs (num ns) G xs vs) : RelL G.K ps vs := frzAll_rel h hr

theorem relA_resP {rs : List PV} {v : Value} (h : RelRes G.K rs v) : RelA (num ns) G (resP rs) v := by
  match rs, h with
  | [r], h => simp only [RelRes] at h; simp only [resP, RelA]; exact h
  | [], h => simp only [RelRes] at h; simp only [resP, RelA]; obtain ⟨vs, e, h⟩ := h; exact ⟨vs, e, relAs_of_relL h⟩
  | _ :: _ :: _, h => simp only [RelRes] at h; simp only [resP, RelA]; obtain ⟨vs, e, h⟩ := h; exact ⟨vs, e, relAs_of_relL h⟩

theorem relA_resA {rs : List AV} {v : Value} (h : RelResA (num ns) G rs v) : RelA (num ns) G (resA rs) v := by
  match rs, h with
  | [r], h => simp only [RelResA] at h; simp only [resA]; exact h
  | [], h => simp only [RelResA] at h; simp only [resA, RelA]; exact h
  | _ :: _ :: _, h => simp only [RelResA] at h; simp only [resA, RelA]; exact h

theorem relResA_pass {G' : Gh} (hK : G.K.le G'.K) (hs : ∀ s b, G.sm s = some b → G'.sm s = some b) {rs : List AV} {v : Value} (hp : rs.all passB = true) (h : RelResA (num ns) G rs v) : RelResA (num ns) G' rs v := by
  unfold RelResA at *
  split at h
  · simp only [List.all_cons, List.all_nil, Bool.and_true] at hp
    exact passB_rel hK hs hp h
  · rename_i hn
    obtain ⟨vs, e, h⟩ := h
    exact ⟨vs, e, passL_rel hK hs (passAll hp) h⟩

theorem argOf_rel {v : AV} {rv : Value} (h : RelA (num ns) G v rv) : RelA (num ns) G (argOf v) rv := by
  unfold argOf
  split
  · rename_i p hp; simp only [RelA]; exact frz_rel hp h
  · exact h

theorem argsOf_rel {own : List Nat} : ∀ {i : Nat} {xs : List AV} {vs : List Value}, RelAs (num ns) G xs vs → RelAs (num ns) G (argsOf own i xs) vs
  | _, [], _, h => by simpa [argsOf, RelAs] using h
  | i, x :: xs, _, h => by
    simp only [RelAs] at h
    obtain ⟨v, r, rfl, e1, e2⟩ := h
    simp only [argsOf, RelAs]
    refine ⟨v, r, rfl, ?_, argsOf_rel e2⟩
    split
    · exact e1
    · exact argOf_rel e1

/-- What a call of a function of the program is compiled to. -/
theorem compCall {A : Ann} {dst : Option Nat} {c : Call} {k : AK} {args : List Operand} (h : compK P ns A dst (.call c) = some (k, args)) (hk : k.calls = true) :
    (∃ f g, c.callee = .value (.func f) ∧ ns.of f = some g ∧ args = c.args.toList ∧ (k = .callP g ∨ k = .callPS g ∨ (∃ own, k = .callI g own) ∨ (∃ sz by_, k = .clone sz by_ ∧ look ns.cl g = some (sz, by_)) ∨ k = .callQ g)) ∨
    (∃ t, c.callee = .value (.tmp t) ∧ args = .tmp t :: c.args.toList ∧ k = .callV) := by
  obtain ⟨callee, cargs, ctypes⟩ := c
  simp only [compK] at h
  split at h
  · split at h <;> simp at h <;> (obtain ⟨rfl, _⟩ := h; simp [AK.calls] at hk)
  · split at h <;> simp at h; obtain ⟨rfl, _⟩ := h; simp [AK.calls] at hk
  · split at h <;> simp at h; obtain ⟨rfl, _⟩ := h; simp [AK.calls] at hk
  · split at h
    · split at h
      · rw [Option.ite_none_right_eq_some] at h
        obtain ⟨_, h⟩ := h
        split at h
        · simp only [Option.map_eq_some_iff, Prod.mk.injEq] at h
          obtain ⟨_, _, rfl, _⟩ := h; simp [AK.calls] at hk
        · simp at h; obtain ⟨rfl, _⟩ := h; simp [AK.calls] at hk
      · simp at h
    · simp at h
  · split at h
    · split at h
      · split at h <;> simp at h
        obtain ⟨rfl, _⟩ := h; simp [AK.calls] at hk
      · simp at h
    · simp at h
  · rename_i f
    left
    split at h
    · rename_i g hg
      split at h
      · rename_i sz by_ hcl
        simp only [Option.ite_none_right_eq_some, Option.some.injEq, Prod.mk.injEq] at h
        exact ⟨f, g, rfl, hg, h.2.2.symm, .inr (.inr (.inr (.inl ⟨sz, by_, h.2.1.symm, hcl⟩)))⟩
      · split at h
        · simp at h; exact ⟨f, g, rfl, hg, h.2.symm, .inr (.inr (.inr (.inr h.1.symm)))⟩
        · split at h
          · simp at h; exact ⟨f, g, rfl, hg, h.2.symm, .inr (.inr (.inl ⟨_, h.1.symm⟩))⟩
          · split at h
            · simp at h; exact ⟨f, g, rfl, hg, h.2.symm, .inr (.inl h.1.symm)⟩
            · simp at h; exact ⟨f, g, rfl, hg, h.2.symm, .inl h.1.symm⟩
    · simp at h
  · rename_i t
    right
    simp at h
    exact ⟨t, rfl, h.2.symm, h.1.symm⟩
  · simp at h

theorem execCall_sound {orc : Orc} (horc : OrcOk P ns orc) {f g : Nat} {own : List Nat} (hg : ns.of f = some g) {vals : List AV} {vs : List Value} {x : AV} {mem : List (Nat × List AV)} {sh sh' : Sh} {toks toks' : Toks}
    (hr : RelAs (num ns) G vals vs) (hi : Inv (num ns) G w mem sh toks) (h : execCall orc g own vals sh toks = some (x, sh', toks')) :
    Calls P f vs.toArray w fun e w' => ∃ v G', e = .returned v ∧ RelA (num ns) G' x v ∧ Inv (num ns) G' w' mem sh' toks' ∧ G.le G' ∧ Evo G w G' w' := by
  unfold execCall at h
  simp only [Option.ite_none_right_eq_some, Option.map_eq_some_iff] at h
  obtain ⟨hp, ⟨rs, sh1, ts1⟩, h1, h2⟩ := h
  simp only [Prod.mk.injEq] at h2
  obtain ⟨rfl, rfl, rfl⟩ := h2
  obtain ⟨hC, hpr⟩ := horc.i g f _ _ rs _ sh1 ts1 hg (normL_passO hp) h1
  obtain ⟨m, tks, hN, hto, hargs⟩ := hi.give hp (argsOf_rel (own := own) (i := 0) hr)
  refine (hC (G.to m tks) w vs hto hargs).mono ?_
  rintro e w' ⟨v, G1, rfl, hres, hi1, hevo⟩
  obtain ⟨g1, g2, g3⟩ := hi.back hN giveN_len hi1 hevo
  exact ⟨v, _, rfl, relA_resA (backRes_rel hpr hres), g1, g2, g3⟩

/-- A call that sees no shared memory. -/
theorem execQ_sound {orc : Orc} (horc : OrcOk P ns orc) {f g : Nat} (hg : ns.of f = some g) {pvs : List PV} {vs : List Value} {rs : List AV} {ts1 : Toks} {mem : List (Nat × List AV)} {sh : Sh} {toks : Toks}
    (hr : RelL G.K pvs vs) (hi : Inv (num ns) G w mem sh toks) (h : orc.i g (pvs.map .pv) [] [] = some (rs, [], ts1)) :
    Calls P f vs.toArray w fun e w' => ∃ v G', e = .returned v ∧ RelA (num ns) G' (resA (rs.map (shiftV toks.length))) v ∧ Inv (num ns) G' w' mem sh (toks ++ ts1) ∧ G.le G' ∧ Evo G w G' w' := by
  have hpass : (pvs.map AV.pv).all passO = true := by
    rw [List.all_eq_true]
    intro x hx
    obtain ⟨p, _, rfl⟩ := List.mem_map.1 hx
    rfl
  obtain ⟨hC, hpr⟩ := horc.i g f _ _ rs _ _ ts1 hg hpass h
  refine (hC G.hid w vs hi.hid (relAs_of_relL (ρ := num ns) (G := G.hid) hr)).mono ?_
  rintro e w' ⟨v, G1, rfl, hres, hi1, hevo⟩
  obtain ⟨g1, g2, g3⟩ := hi.backQ hi1 hevo
  exact ⟨v, _, rfl, relA_resA (backQ_rel hi1 hpr hres), g1, g2, g3⟩

/-- An operation's weakest precondition, whatever it is. -/
theorem exec_wp (hB : Bodies P ns) {orc : Orc} (horc : OrcOk P ns orc) {A : Ann} {o : Oper} {k : AK} {args : List Operand} (hc : compK P ns A o.dst o.op = some (k, args)) {a : Act} {vals : List AV} {out : Out}
    {mem : List (Nat × List AV)} {sh : Sh} {toks : Toks} (hr : RelAs (num ns) G vals (args.map a.eval)) (hi : Inv (num ns) G w mem sh toks)
    (h : exec orc k vals (k.key.bind (look mem)) sh toks = some out) {next : Act → World → Prop} {Q : Exit → Act → World → Prop}
    (hn : ∀ v w' G', RelA (num ns) G' out.val v → Inv (num ns) G' w' (putC mem k.key out.cells) out.sh out.toks → G.le G' → Evo G w G' w' → next (a.put o.dst v) w') : o.wp P a w next Q := by
  cases hk : k.calls with
  | false =>
    obtain ⟨n, v, w', G', g1, g2, g3, g4, g5, g6⟩ := execM_sound hc hk hr hi h
    unfold Oper.wp
    rw [g1]
    rcases g2 with rfl | ⟨rfl, rfl⟩
    · exact hn v w' G' g3 g4 g5 g6
    · exact hn undef w' G' g3 g4 g5 g6
  | true =>
    obtain ⟨dst, op, type, pos, after, guard⟩ := o
    have hcall : ∃ c, op = .call c := compK_call (k := k) (by cases k <;> simp_all [AK.calls]) hc
    obtain ⟨c, rfl⟩ := hcall
    rcases compCall hc hk with ⟨f, g, hcal, hg, rfl, hk'⟩ | ⟨t, hcal, rfl, rfl⟩
    · have hrun : (execOp a.eval ⟨dst, .call c, type, pos, after, guard⟩).run P w = .ok (.enter f ((c.args.toList.map a.eval).toArray)) w := by
        obtain ⟨callee, cargs, ctypes⟩ := c
        simp only at hcal; subst hcal
        simp only [execOp, resolve, Sem.run_bind, Act.eval, Deferred.ofValue, Sem.run_pure, Result.andThen_ok, invoke]
        rw [callFunc_run hB hg]
        congr 2
        apply Array.ext'
        simp
      rcases hk' with rfl | rfl | ⟨own, rfl⟩ | ⟨sz, by_, rfl, hcl⟩ | rfl
      · -- for pure data
        simp only [exec] at h
        split at h
        · rename_i pvs hp
          simp only [Option.map_eq_some_iff] at h
          obtain ⟨rs, h1, rfl⟩ := h
          have hC := horc.p g f pvs rs hg h1 G.K w _ hi.known (frzAll_rel hp hr)
          unfold Oper.wp
          rw [hrun]
          refine hC.mono ?_
          rintro e w' ⟨v, K', rfl, hres, hK, hold, hkk, hb⟩
          obtain ⟨g1, g2, g3⟩ := hi.pure hK hold hkk hb
          exact hn v w' _ (relA_resP hres) (by simpa [AK.key, putC] using g1) g2 g3
        · simp at h
      · -- for pure data, arrays frozen
        simp only [exec] at h
        split at h
        · rename_i pvs hp
          simp only [Option.map_eq_some_iff] at h
          obtain ⟨rs, h1, rfl⟩ := h
          obtain ⟨G1, k1, k2, k3, k4, k5⟩ := Inv.kill (vals.flatMap arrs) hi
          have hC := horc.p g f pvs rs hg h1 G1.K w _ k1.known (frzAllS_rel k2 k4 hi.shLeaf (fun s hs => hs) hp hr)
          unfold Oper.wp
          rw [hrun]
          refine hC.mono ?_
          rintro e w' ⟨v, K', rfl, hres, hK, hold, hkk, hb⟩
          obtain ⟨g1, g2, g3⟩ := k1.pure hK hold hkk hb
          exact hn v w' _ (relA_resP hres) (by simpa [AK.key, putC, killAll] using g1) (Gh.le_trans k2 g2) (k3.trans g3)
        · simp at h
      · -- with the shared memory
        simp only [exec, Option.map_eq_some_iff] at h
        obtain ⟨⟨x, sh', ts'⟩, h1, rfl⟩ := h
        have hC := execCall_sound horc hg hr hi h1
        unfold Oper.wp
        rw [hrun]
        refine hC.mono ?_
        rintro e w' ⟨v, G', rfl, g1, g2, g3, g4⟩
        exact hn v w' G' g1 (by simpa [AK.key, putC] using g2) g3 g4
      · -- slices.Clone
        rcases vals with _ | ⟨x, _ | ⟨_, _⟩⟩
        · simp [exec] at h
        · simp only [exec, Option.map_eq_some_iff] at h
          obtain ⟨⟨y, ts'⟩, h1, rfl⟩ := h
          have hl := hr.length
          obtain ⟨v, hv⟩ : ∃ v, c.args.toList.map a.eval = [v] := List.length_eq_one_iff.1 (by simpa using hl)
          rw [hv] at hr
          simp only [RelAs] at hr
          obtain ⟨v', r, e, hx, rfl⟩ := hr
          cases e
          have hC := horc.c g sz by_ f hcl hg G w mem sh toks ts' x y v hi hx h1
          unfold Oper.wp
          rw [hrun, hv]
          refine hC.mono ?_
          rintro e w' ⟨u, G', rfl, g1, g2, g3, g4⟩
          exact hn u w' G' g1 (by simpa [AK.key, putC] using g2) g3 g4
        · simp [exec] at h
      · -- without the shared memory
        simp only [exec] at h
        split at h
        · rename_i pvs hp
          split at h
          · rename_i rs ts1 h1
            cases h
            have hC := execQ_sound horc hg (frzAll_rel hp hr) hi h1
            unfold Oper.wp
            rw [hrun]
            refine hC.mono ?_
            rintro e w' ⟨v, G', rfl, g1, g2, g3, g4⟩
            exact hn v w' G' g1 (by simpa [AK.key, putC] using g2) g3 g4
          · simp at h
        · simp at h
    · -- a function value
      cases vals with
      | nil => simp [RelAs] at hr
      | cons x0 vals =>
        simp only [List.map_cons, RelAs] at hr
        obtain ⟨fv, r, e, hf, hr⟩ := hr
        simp only [List.cons.injEq] at e
        obtain ⟨rfl, rfl⟩ := e
        cases x0 with
        | fn g cap =>
          simp only [exec, Option.map_eq_some_iff] at h
          obtain ⟨⟨x, sh', ts'⟩, h1, rfl⟩ := h
          simp only [RelA] at hf
          obtain ⟨f, vs, hg, hv, hcap⟩ := hf
          have hrun : (execOp a.eval ⟨dst, .call c, type, pos, after, guard⟩).run P w = .ok (.enter f ((c.args.toList.map a.eval ++ vs).toArray)) w := by
            obtain ⟨callee, cargs, ctypes⟩ := c
            simp only at hcal; subst hcal
            simp only [execOp, resolve, Sem.run_bind]
            rw [hv]
            simp only [Deferred.ofValue, Sem.run_pure, Result.andThen_ok, invoke]
            rw [callFunc_run hB hg]
            congr 2
            apply Array.ext'
            simp
          have hC := execCall_sound horc hg (RelAs.append hr hcap) hi h1
          unfold Oper.wp
          rw [hrun]
          refine hC.mono ?_
          rintro e w' ⟨v, G', rfl, g1, g2, g3, g4⟩
          exact hn v w' G' g1 (by simpa [AK.key, putC] using g2) g3 g4
        | _ => simp [exec] at h

end
end Go.Ab
