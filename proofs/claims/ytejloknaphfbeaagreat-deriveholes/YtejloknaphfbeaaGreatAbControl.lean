import Derived.Test.YtejloknaphfbeaaGreatAbBack
/-
  Code and functions: what the evaluator gives is what the model does.
-/
set_option linter.unusedVariables false
set_option linter.unusedSimpArgs false
namespace Go.Ab

section
variable {n0 : Nat} {P : Program} {ns : Names} {ro : Option Nat}

theorem loopN_sound {c : Code} {Q : Exit → Act → World → Prop} {f : St → Option (AExit × St)} {pre : St → St} {N : Nat}
    (hpre : ∀ {st : St} {G : Gh} {a : Act} {w : World}, Sim (num ns) n0 N G st a w → ∃ G', Sim (num ns) n0 N G' (pre st) a w ∧ Evo G w G' w)
    (hf : ∀ {st st' : St} {e : AExit} {G : Gh} {a : Act} {w : World} {Q : Exit → Act → World → Prop}, f st = some (e, st') → Sim (num ns) n0 N G st a w →
      (∀ G' a' w', Sim (num ns) n0 N G' st' a' w' → Evo G w G' w' → Q (exitOf e) a' w') → c.wpIn (fnc ro) 0 P Q a w) :
    ∀ (n : Nat) {st st' : St} {e : AExit} {G : Gh} {a : Act} {w : World}, loopN f pre n st = some (e, st') → Sim (num ns) n0 N G st a w →
      (∀ G' a' w', Sim (num ns) n0 N G' st' a' w' → Evo G w G' w' → Q (exitOf e) a' w') → Code.roundsIn (fnc ro) 0 P c Q n a w
  | 0, st, st', e, G, a, w, h, _, _ => by simp [loopN] at h
  | n + 1, st, st', e, G, a, w, h, hs, hq => by
    rw [roundsIn_succ]
    obtain ⟨G0, hs0, he0⟩ := hpre hs
    simp only [loopN] at h
    split at h
    · rename_i st1 h1
      refine hf h1 hs0 fun G' a' w' hs' he' => ?_
      exact loopN_sound hpre hf n h hs' fun G'' a'' w'' hs'' he'' => hq G'' a'' w'' hs'' ((he0.trans he').trans he'')
    · rename_i r hr
      have hne : e ≠ .normal := by
        rintro rfl
        exact hr st' h
      refine hf h hs0 fun G' a' w' hs' he' => ?_
      have := hq G' a' w' hs' (he0.trans he')
      cases e with
      | normal => exact absurd rfl hne
      | ret => exact this
      | exit id => exact this

/-- What is written no more is known for good. -/
theorem frzM_sound {N : Nat} {v : AV} {st : St} {G : Gh} {a : Act} {w : World} (h : Sim (num ns) n0 N G st a w) : ∃ G', Sim (num ns) n0 N G' (frzM v st) a w ∧ Evo G w G' w := by
  unfold frzM
  split
  · rename_i st' d
    split
    · rename_i cs hcs
      split
      · rename_i ps hps
        obtain ⟨G1, k1, k2, k3, k4, k5⟩ := Inv.kill ([.agg cs].flatMap arrs) h.inv
        obtain ⟨b, e1, ⟨e2, c, t, e3, e4⟩, e5⟩ := h.inv.memOk d cs hcs
        obtain ⟨b', f1, ⟨f2, c', t', f3, f4⟩, f5⟩ := k1.memOk d cs hcs
        have hb : b = b' := by have := k2.pm d b e1; rw [f1] at this; simpa using this.symm
        subst hb
        have hcc : c = c' := by rw [e3] at f3; cases f3; rfl
        subst hcc
        have hrl : RLs G1.K ps c.toList := frzLsS_rel k2 k4 h.inv.shLeaf (fun s hs => by simpa using hs) hps e4
        have hlf : (ps.map AV.pv).all leafB = true := by
          rw [List.all_eq_true]
          intro x hx
          rw [List.mem_map] at hx
          obtain ⟨p, hp, rfl⟩ := hx
          have := rls_leafP hrl p hp
          cases p <;> first | rfl | simp [leafP] at this
        refine ⟨G1, ⟨⟨h.env.size, fun t' x hx => ?_⟩, ?_, h.marks.evo k3 rfl⟩, k3⟩
        · obtain ⟨u', g1, g2⟩ := h.env.env t' x hx
          exact ⟨u', g1, g2.mono k2⟩
        · refine ⟨k1.known, k1.known_role, k1.fresh, ?_, ?_, k1.shOk, k1.smOk, k1.tokOk, k1.tkOk⟩
          · intro d' cs' hd'
            by_cases hdd : d = d'
            · subst hdd
              rw [look_put_same] at hd'
              cases hd'
              exact ⟨b, f1, ⟨f2, c, t', f3, relAs_pv hrl⟩, hlf⟩
            · rw [look_put_other _ _ _ _ hdd] at hd'
              exact k1.memOk d' cs' hd'
          · intro d' b' hd'
            by_cases hdd : d = d'
            · subst hdd; rw [look_put_same]; rfl
            · rw [look_put_other _ _ _ _ hdd]; exact k1.pmOk d' b' hd'
      · exact ⟨G, h, Evo.refl G w⟩
    · exact ⟨G, h, Evo.refl G w⟩
  · exact ⟨G, h, Evo.refl G w⟩

theorem frzT_sound {N : Nat} : ∀ {ts : List Nat} {st : St} {G : Gh} {a : Act} {w : World}, Sim (num ns) n0 N G st a w → ∃ G', Sim (num ns) n0 N G' (frzT ts st) a w ∧ Evo G w G' w
  | [], st, G, a, w, h => ⟨G, h, Evo.refl G w⟩
  | t :: r, st, G, a, w, h => by
    simp only [frzT]
    split
    · rename_i v hv
      split
      · rename_i p hp
        obtain ⟨G1, k1, k2, k3, k4, k5⟩ := Inv.kill ([v].flatMap arrs) h.inv
        obtain ⟨u, hu, hr⟩ := h.env.env t v hv
        have hrel : Rel G1.K p u := frzS_rel k2 k4 h.inv.shLeaf (fun s hs => by simpa using hs) hp hr
        have h1 : Sim (num ns) n0 N G1 { st with env := putL st.env t (.pv p), sh := killAll st.sh [v] } a w := by
          refine ⟨⟨h.env.size, fun t' x hx => ?_⟩, k1, h.marks.evo k3 rfl⟩
          by_cases ht : t' = t
          · subst ht
            rw [Ev.look_putL, if_pos rfl] at hx
            cases hx
            exact ⟨u, hu, by simpa only [RelA] using hrel⟩
          · rw [Ev.look_putL, if_neg ht] at hx
            obtain ⟨u', f1, f2⟩ := h.env.env t' x hx
            exact ⟨u', f1, f2.mono k2⟩
        obtain ⟨G2, h2, he⟩ := frzT_sound (ts := r) h1
        exact ⟨G2, h2, k3.trans he⟩
      · obtain ⟨G1, h1, e1⟩ := frzM_sound (v := v) h
        obtain ⟨G2, h2, e2⟩ := frzT_sound (ts := r) h1
        exact ⟨G2, h2, e1.trans e2⟩
    · exact frzT_sound h

/-- Each iterator that is named bears the iterator's code. -/
def BacksOk (P : Program) (ns : Names) : Prop := ∀ gb sz ag, look ns.bk gb = some (sz, ag) → ∀ f, ns.of f = some gb → Nonempty (BackDat P ns f sz ag)

theorem code_in (hm : P.follows .mixedOrders = true) (hB : Bodies P ns) {orc : Orc} (horc : OrcOk P ns orc) (hBk : BacksOk P ns) {A : Ann} {N k : Nat} : ∀ {c : Code} {ac : ACode}, compC P ns A N c = some ac →
    ∀ {n0 : Nat} {ro : Option Nat}, (ro = none ∨ ac.noBack = true) → ∀ {st st' : St} {e : AExit} {G : Gh} {a : Act} {w : World} {Q : Exit → Act → World → Prop}, evC orc k ac st = some (e, st') → Sim (num ns) n0 N G st a w →
      (∀ G' a' w', Sim (num ns) n0 N G' st' a' w' → Evo G w G' w' → Q (exitOf e) a' w') → c.wpIn (fnc ro) 0 P Q a w
  | .skip, ac, hc, n0, ro, hro, st, st', e, G, a, w, Q, hev, hs, hq => by
    simp [compC] at hc; subst hc
    simp [evC] at hev; obtain ⟨rfl, rfl⟩ := hev
    exact wpIn_skip (hq G a w hs (Evo.refl G w))
  | .region id ops draw, ac, hc, n0, ro, hro, st, st', e, G, a, w, Q, hev, hs, hq => by
    simp only [compC] at hc
    split at hc
    · rename_i as has
      have key : ∀ o live, ac = withFrz o (.reg as live) → (draw = true → drawOk ops.toList as = true) → (Code.region id ops draw).wpIn (fnc ro) 0 P Q a w := by
        rintro o live rfl hd
        cases o with
        | none =>
          simp only [withFrz, evC] at hev
          split at hev
          · rename_i st1 h1
            simp at hev; obtain ⟨rfl, rfl⟩ := hev
            refine region_in hm hB horc has hd hs h1 fun G' a' w' hs' he' => ?_
            exact hq (G'.keep live) a' w' (hs'.restrict live) (he'.trans (Evo.keep live))
          · simp at hev
        | some ts =>
          simp only [withFrz, evC] at hev
          split at hev
          · rename_i st1 h1
            simp at hev; obtain ⟨rfl, rfl⟩ := hev
            obtain ⟨G2, h2, he2⟩ := frzT_sound (ts := ts) hs
            refine region_in hm hB horc has hd h2 h1 fun G' a' w' hs' he' => ?_
            exact hq (G'.keep live) a' w' (hs'.restrict live) (he2.trans (he'.trans (Evo.keep live)))
          · simp at hev
      split at hc
      · rename_i hdr
        split at hc
        · rename_i hok
          simp at hc
          exact key _ _ hc.symm (fun _ => hok)
        · simp at hc
      · rename_i hdr
        simp at hc
        exact key _ _ hc.symm (fun h => absurd h hdr)
    · simp at hc
  | .seq x y, ac, hc, n0, ro, hro, st, st', e, G, a, w, Q, hev, hs, hq => by
    simp only [compC] at hc
    split at hc
    · rename_i ax ay hx hy
      simp at hc; subst hc
      have hrx : ro = none ∨ ax.noBack = true := hro.imp_right fun h => by simp only [ACode.noBack, Bool.and_eq_true] at h; exact h.1
      have hry : ro = none ∨ ay.noBack = true := hro.imp_right fun h => by simp only [ACode.noBack, Bool.and_eq_true] at h; exact h.2
      simp only [evC] at hev
      refine wpIn_seq ?_
      split at hev
      · rename_i st1 h1
        refine code_in hm hB horc hBk hx hrx h1 hs fun G' a' w' hs' he' => ?_
        exact code_in hm hB horc hBk hy hry hev hs' fun G'' a'' w'' hs'' he'' => hq G'' a'' w'' hs'' (he'.trans he'')
      · rename_i r hr
        refine code_in hm hB horc hBk hx hrx hev hs fun G' a' w' hs' he' => ?_
        have := hq G' a' w' hs' he'
        cases e with
        | normal => exact absurd hev (hr st')
        | ret => exact this
        | exit id => exact this
    · simp at hc
  | .cond c x y, ac, hc, n0, ro, hro, st, st', e, G, a, w, Q, hev, hs, hq => by
    simp only [compC] at hc
    split at hc
    · rename_i acnd ax ay hcn hx hy
      simp at hc; subst hc
      have hrx : ro = none ∨ ax.noBack = true := hro.imp_right fun h => by simp only [ACode.noBack, Bool.and_eq_true] at h; exact h.1
      have hry : ro = none ∨ ay.noBack = true := hro.imp_right fun h => by simp only [ACode.noBack, Bool.and_eq_true] at h; exact h.2
      simp only [evC] at hev
      split at hev
      · rename_i t ht
        have hrel := opd_rel hs.env hcn ht
        simp only [RelA, rel_bool] at hrel
        refine wpIn_cond hrel ?_
        cases t with
        | true => exact code_in hm hB horc hBk hx hrx (by simpa using hev) hs hq
        | false => exact code_in hm hB horc hBk hy hry (by simpa using hev) hs hq
      · simp at hev
    · simp at hc
  | .block id b, ac, hc, n0, ro, hro, st, st', e, G, a, w, Q, hev, hs, hq => by
    simp only [compC, Option.map_eq_some_iff] at hc
    obtain ⟨ab, hb, rfl⟩ := hc
    have hrb : ro = none ∨ ab.noBack = true := hro.imp_right fun h => by simpa only [ACode.noBack] using h
    refine wpIn_block ?_
    simp only [evC] at hev
    split at hev
    · rename_i id' st1 h1
      refine code_in hm hB horc hBk hb hrb h1 hs fun G' a' w' hs' he' => ?_
      split at hev
      · rename_i hid
        simp at hev; obtain ⟨rfl, rfl⟩ := hev
        simp only [exitOf, Exit.inBlock, hid, if_true]
        exact hq G' a' w' hs' he'
      · rename_i hid
        simp at hev; obtain ⟨rfl, rfl⟩ := hev
        simp only [exitOf, Exit.inBlock, hid, if_false]
        exact hq G' a' w' hs' he'
    · rename_i r hr
      refine code_in hm hB horc hBk hb hrb hev hs fun G' a' w' hs' he' => ?_
      have := hq G' a' w' hs' he'
      cases e with
      | normal => exact this
      | ret => exact this
      | exit id' => exact absurd hev (hr id' st')
  | .loop b, ac, hc, n0, ro, hro, st, st', e, G, a, w, Q, hev, hs, hq => by
    simp only [compC, Option.map_eq_some_iff] at hc
    obtain ⟨ab, hb, rfl⟩ := hc
    have hrb : ro = none ∨ ab.noBack = true := hro.imp_right fun h => by simpa only [ACode.noBack] using h
    simp only [evC] at hev
    refine wpIn_loop_rounds k ?_
    exact loopN_sound (fun h => h.head _) (fun h1 h2 h3 => code_in hm hB horc hBk hb hrb h1 h2 h3) k hev hs hq
  | .exit id, ac, hc, n0, ro, hro, st, st', e, G, a, w, Q, hev, hs, hq => by
    simp [compC] at hc; subst hc
    simp [evC] at hev; obtain ⟨rfl, rfl⟩ := hev
    exact wpIn_exit (hq G a w hs (Evo.refl G w))
  | .ret, ac, hc, n0, ro, hro, st, st', e, G, a, w, Q, hev, hs, hq => by
    simp [compC] at hc; subst hc
    simp [evC] at hev; obtain ⟨rfl, rfl⟩ := hev
    exact wpIn_ret (hq G a w hs (Evo.refl G w))
  | .rangeFunc f ps x y, ac, hc, n0, ro, hro, st, st', e, G, a, w, Q, hev, hs, hq => by
    cases f with
    | tmp t =>
      simp only [compC] at hc
      split at hc
      · rename_i pi px gb hps hgb
        split at hc
        · rename_i sz ag ax ay hbk hx hy
          split at hc
          · rename_i hok

            obtain ⟨nx, ny, hpi, hpx⟩ := hok
            simp at hc; subst hc
            have hro' : ro = none := hro.resolve_right (by simp [ACode.noBack])
            subst hro'
            have hps' : ps = #[pi, px] := by
              have := congrArg List.toArray hps
              simpa using this
            subst hps'
            simp only [evC] at hev
            exact back_range hB horc (hBk gb _ _ hbk)
              (fun h1 h2 h3 => code_in hm hB horc hBk hx (.inr nx) h1 h2 h3) (fun h1 h2 h3 => code_in hm hB horc hBk hy (.inr ny) h1 h2 h3) hpi hpx hev hs hq
          · simp at hc
        · simp at hc
      · simp at hc
    | _ => simp [compC] at hc
  | .scope _, ac, hc, n0, ro, hro, st, st', e, G, a, w, Q, hev, hs, hq => by simp [compC] at hc
  | .label _, ac, hc, n0, ro, hro, st, st', e, G, a, w, Q, hev, hs, hq => by simp [compC] at hc
  | .goto _, ac, hc, n0, ro, hro, st, st', e, G, a, w, Q, hev, hs, hq => by simp [compC] at hc
  | .refuse _, ac, hc, n0, ro, hro, st, st', e, G, a, w, Q, hev, hs, hq => by simp [compC] at hc

theorem code_sound (hm : P.follows .mixedOrders = true) (hB : Bodies P ns) {orc : Orc} (horc : OrcOk P ns orc) (hBk : BacksOk P ns) {A : Ann} {N k : Nat} {c : Code} {ac : ACode} (hc : compC P ns A N c = some ac)
    {st st' : St} {e : AExit} {G : Gh} {a : Act} {w : World} {Q : Exit → Act → World → Prop} (hev : evC orc k ac st = some (e, st')) (hs : Sim (num ns) n0 N G st a w)
    (hq : ∀ G' a' w', Sim (num ns) n0 N G' st' a' w' → Evo G w G' w' → Q (exitOf e) a' w') : c.wp P Q a w :=
  wpIn_wide (n := 0).1 (code_in (ro := none) hm hB horc hBk hc (.inl rfl) hev hs hq)

end
end Go.Ab
