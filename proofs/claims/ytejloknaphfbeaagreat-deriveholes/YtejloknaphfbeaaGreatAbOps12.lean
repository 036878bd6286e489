import Derived.Test.YtejloknaphfbeaaGreatAbOps11
/-
  Each operation that calls nothing.
-/
set_option linter.unusedVariables false
set_option linter.unusedSimpArgs false
namespace Go.Ab

section
variable {P : Program} {ns : Names} {G : Gh} {w : World}

def AK.calls : AK → Bool
  | .callP _ | .callPS _ | .callI .. | .callQ _ | .callV | .clone .. => true
  | _ => false

theorem putC_none {mem : List (Nat × List AV)} (k : Option Nat) : putC mem k none = mem := by cases k <;> rfl

theorem shCells_rel {v : AV} {rv : Value} (h : RelA (num ns) G v rv) (hl : (shCells v).all leafB = true) : RelAs (num ns) G (shCells v) rv.cells.toList := by
  cases v with
  | clp l => exact RelA.cells (x := .clp l) h hl
  | own l τ => exact RelA.cells (x := .own l τ) h hl
  | _ =>
    simp only [shCells] at hl ⊢
    split
    · rename_i p hp
      simp only [hp] at hl
      exact RelA.cells (by simp only [RelA]; exact frz_rel hp h) hl
    · rename_i hp
      simp only [hp] at hl
      exact h.cells hl

theorem does_value {mem : List (Nat × List AV)} {sh : Sh} {toks : Toks} {s : Sem Value} {s' : Sem Next} {x : AV} {v : Value} {w' : World} {G' : Gh} (hs : s' = (do pure (.value (← s)))) (h1 : s.run P w = .ok v w') (h2 : RelA (num ns) G' x v)
    (h3 : Inv (num ns) G' w' mem sh toks) (h4 : G.le G') (h5 : Evo G w G' w') : Does ns P G w mem sh toks s' x :=
  ⟨.value v, v, w', G', by rw [hs]; simp only [Sem.run_bind, h1, Result.andThen_ok, Sem.run_pure], .inl rfl, h2, h3, h4, h5⟩

set_option maxHeartbeats 1000000 in
theorem execM_sound {A : Ann} {o : Oper} {k : AK} {args : List Operand} {orc : Orc} (hc : compK P ns A o.dst o.op = some (k, args)) (hk : k.calls = false) {a : Act} {vals : List AV} {out : Out}
    {mem : List (Nat × List AV)} {sh : Sh} {toks : Toks} (hr : RelAs (num ns) G vals (args.map a.eval)) (hi : Inv (num ns) G w mem sh toks)
    (h : exec orc k vals (k.key.bind (look mem)) sh toks = some out) :
    Does ns P G w (putC mem k.key out.cells) out.sh out.toks (execOp a.eval o) out.val := by
  obtain ⟨dst, op, type, pos, after, guard⟩ := o
  cases k with
  | v vo =>
    simp only [exec, Option.map_eq_some_iff] at h
    obtain ⟨x, h1, rfl⟩ := h
    obtain ⟨v, w', G', g1, g2, g3, g4, g5⟩ := execV_sound hc hr hi h1
    exact ⟨.value v, v, w', G', g1, .inl rfl, g2, by simpa [putC_none] using g3, g4, g5⟩
  | callP g => simp [AK.calls] at hk
  | callPS g => simp [AK.calls] at hk
  | callI g own => simp [AK.calls] at hk
  | callQ g => simp [AK.calls] at hk
  | callV => simp [AK.calls] at hk
  | clone sz by_ => simp [AK.calls] at hk
  | makeM =>
    obtain ⟨t, rfl, rfl⟩ := compK_makeM hc
    obtain ⟨rfl, rfl⟩ := exec_makeM h
    obtain ⟨g1, g2, g3⟩ := hi.allocMap
    refine does_value (s := Instr.makeMap t none) (v := .map (some w.heap.size)) rfl ?_ ?_ g1 g2 g3
    · rfl
    · simp only [RelA]; exact ⟨(w.heap.size, 0), by simp [Gh.newShr], rfl⟩
  | lookM c ok z =>
    obtain ⟨t, x, i, kt, et, rfl, rfl, hu, hk1, hz⟩ := compK_lookM hc
    obtain ⟨s, k, kvs, r, rfl, hs, hf, rfl⟩ := exec_lookM h
    obtain ⟨x1, x2, e, h1, h2⟩ := relAs_two (by simpa using hr)
    cases e
    simp only [RelA] at h1 h2
    obtain ⟨b, hp, hv⟩ := h1
    obtain ⟨b', hp', hblk, _⟩ := hi.shOk _ _ hs
    rw [hp] at hp'; cases hp'
    obtain ⟨_, o, hh, hold⟩ := hblk
    rcases hold with ⟨_, _, _, _, _, _, _, hbad⟩ | ⟨es, clock, kvs', rfl, e, hm⟩
    · exact absurd (relAs_mapB hbad) (by simp [mapB])
    · cases e
      obtain ⟨zv, hz1, hz2⟩ := zeroOf_run (P := P) (w := w) (K := G.K) hz
      obtain ⟨d, hd⟩ := kindOf_under hk1
      have hget : (getObj b.1).run P w = .ok (.map es clock) w := by simp [getObj, Sem.run, hh]
      have key : ∃ u, (Instr.lookup t (a.eval x) (a.eval i) ok).run P w = .ok u w ∧ RelA (num ns) G (lookRes ok z r) u := by
        rcases findNow_rel hk1 hd h2 0 hm hf with ⟨rfl, hfn⟩ | ⟨p, v, j, rfl, hfn, hpv⟩
        · refine ⟨if ok then .tuple #[zv, .bool false] else zv, ?_, ?_⟩
          · rw [hv]
            simp only [Instr.lookup, Sem.run_bind, run_underlying hu, Result.andThen_ok, hget, Sem.run_pure, checkKey_plain hk1, findKey_run hd hfn, hz1]
          · unfold lookRes
            cases ok
            · simpa [RelA] using hz2
            · simp only [if_true, RelA]
              exact ⟨[zv, .bool false], by simp, by simp only [RelAs, RelA]; exact ⟨_, _, rfl, by simpa using hz2, _, _, rfl, rel_bool.2 rfl, rfl⟩⟩
        · refine ⟨if ok then .tuple #[v, .bool true] else v, ?_, ?_⟩
          · rw [hv]
            simp only [Instr.lookup, Sem.run_bind, run_underlying hu, Result.andThen_ok, hget, Sem.run_pure, checkKey_plain hk1, findKey_run hd hfn]
          · unfold lookRes
            cases ok
            · simpa [RelA] using hpv
            · simp only [if_true, RelA]
              exact ⟨[v, .bool true], by simp, by simp only [RelAs, RelA]; exact ⟨_, _, rfl, by simpa using hpv, _, _, rfl, rel_bool.2 rfl, rfl⟩⟩
      obtain ⟨u, g1, g2⟩ := key
      exact does_value (s := Instr.lookup t (a.eval x) (a.eval i) ok) (v := u) (w' := w) rfl g1 g2 (by simpa [putC_none] using hi) G.le_refl (Evo.refl G w)
  | putM c =>
    obtain ⟨t, m, i, x, kt, et, hop, rfl, hu, hk1⟩ := compK_putM hc
    obtain ⟨s, k, v, kvs, p, kvs', rfl, hs, hfz, hput, rfl⟩ := exec_putM h
    obtain ⟨x1, x2, x3, e, h1, h2, h3⟩ := relAs_three (by simpa using hr)
    cases e
    have h3 := frz_rel hfz h3
    simp only [RelA] at h1 h2
    obtain ⟨b, hp, hv⟩ := h1
    obtain ⟨b', hp', hblk, _⟩ := hi.shOk _ _ hs
    rw [hp] at hp'; cases hp'
    obtain ⟨_, o, hh, hold⟩ := hblk
    rcases hold with ⟨_, _, _, _, _, _, _, hbad⟩ | ⟨es, clock, kvs0, rfl, e, hm⟩
    · exact absurd (relAs_mapB hbad) (by simp [mapB])
    · cases e
      obtain ⟨d, hd⟩ := kindOf_under hk1
      obtain ⟨es', clock', hrun, hm'⟩ := mapUpdate_run (P := P) (w := w) hu hk1 hd hh h2 h3 hm hput
      obtain ⟨g1, g2⟩ := hi.writeMap (es := es') (clock := clock') hs hp hm'
      have : (execOp a.eval ⟨dst, op, type, pos, after, guard⟩).run P w = .ok .skip (w.putObj b.1 (.map es' clock')) := by
        rcases hop with rfl | rfl <;> simp [execOp, hv, hrun]
      exact ⟨.skip, undef, _, G, this, .inr ⟨rfl, rfl⟩, by simp [RelA], by simpa [AK.key, putC] using g1, G.le_refl, g2⟩
  | loadL key off sz ag =>
    obtain ⟨t, tx, rfl, rfl, hsz, hag⟩ := compK_loadL hc
    obtain ⟨cs, x, rfl, hcs, hx, rfl⟩ := exec_loadL h
    simp only [AK.key, Option.bind_some] at hcs
    obtain ⟨x', e, h1⟩ := relAs_one (by simpa using hr)
    cases e
    simp only [RelA] at h1
    obtain ⟨b, hp, hv⟩ := h1
    obtain ⟨b', hp', hblk, _⟩ := hi.memOk _ _ hcs
    rw [hp] at hp'; cases hp'
    obtain ⟨_, c, ty, hh, hrel⟩ := hblk
    obtain ⟨u, g1, g2⟩ := ofCells_load (w := w) hsz hag hx hrel (cells_of_heap hh)
    refine does_value (s := Instr.loadAt t (a.eval (.tmp tx))) (v := u) (w' := w) rfl ?_ g2 (by simpa [putC_none] using hi) G.le_refl (Evo.refl G w)
    rw [hv]; simp [Instr.loadAt, Instr.sureAddr, g1]
  | loadS sz ag =>
    obtain ⟨t, tx, rfl, rfl, hsz, hag⟩ := compK_loadS hc
    obtain ⟨p, x, rfl, rfl, hor⟩ := exec_loadS h
    obtain ⟨x', e, h1⟩ := relAs_one (by simpa using hr)
    cases e
    rcases hor with ⟨cs, rfl, hx⟩ | ⟨s, off, cs, rfl, hcs, hx⟩
    · simp only [RelA] at h1
      obtain ⟨b, o, vs, hv, ha, hrl⟩ := h1
      obtain ⟨u, g1, g2⟩ := ofCellsP_load (ns := ns) (w := w) hsz hag hx hrl (fun j v hj => hi.known _ _ _ (ha j v hj))
      refine does_value (s := Instr.loadAt t (a.eval (.tmp tx))) (v := u) (w' := w) rfl ?_ g2 (by simpa [putC_none] using hi) G.le_refl (Evo.refl G w)
      rw [hv]; simp [Instr.loadAt, Instr.sureAddr, g1]
    · obtain ⟨hmb, hx⟩ := hx
      simp only [RelA] at h1
      obtain ⟨b, hp, hv⟩ := h1
      obtain ⟨b', hp', hblk, _⟩ := hi.shOk _ _ hcs
      rw [hp] at hp'; cases hp'
      obtain ⟨_, c, ty, vs, suf, hh, _, hsp, hrel⟩ := hblk.cells hmb
      obtain ⟨u, g1, g2⟩ := ofCells_load (w := w) hsz hag hx hrel (cells_of_pre hh hsp)
      refine does_value (s := Instr.loadAt t (a.eval (.tmp tx))) (v := u) (w' := w) rfl ?_ g2 (by simpa [putC_none] using hi) G.le_refl (Evo.refl G w)
      rw [hv]; simp [Instr.loadAt, Instr.sureAddr, g1]
  | storeL key off sz =>
    obtain ⟨t, tx, v, rfl, rfl, hsz⟩ := compK_storeL hc
    obtain ⟨cs, x, rfl, hcs, hl, hlf, hle, rfl⟩ := exec_storeL h
    simp only [AK.key, Option.bind_some] at hcs
    obtain ⟨x1, x2, e, h1, h2⟩ := relAs_two (by simpa using hr)
    cases e
    simp only [RelA] at h1
    obtain ⟨b, hp, hv⟩ := h1
    obtain ⟨b', hp', hblk, hcl⟩ := hi.memOk _ _ hcs
    rw [hp] at hp'; cases hp'
    obtain ⟨_, c, ty, hh, hrel⟩ := hblk
    have hcells := h2.cells hlf
    have hcsz : (a.eval v).cells.size = sz := by have := hcells.length; simp at this; omega
    have hsize := hrel.length
    simp at hsize
    have hrun := storeVar_run (P := P) (w := w) hsz hcsz hh (off := off) (by omega) (leaves_one hcells hlf)
    obtain ⟨g1, g2⟩ := hi.writePriv (cells' := setRange cs off (cellsA x)) hcs hp (c' := (c.toList.take off ++ (a.eval v).cells.toList ++ c.toList.drop (off + (a.eval v).cells.toList.length)).toArray)
      (by simpa using relAs_setRange off hrel hcells) (setRange_all hcl hlf)
    refine ⟨.skip, undef, _, G, ?_, .inr ⟨rfl, rfl⟩, by simp [RelA], g1, G.le_refl, g2⟩
    simp [execOp, hv, Instr.storeAt, Instr.sureAddr, hrun]
  | storeS sz =>
    obtain ⟨t, tx, v, rfl, rfl, hsz⟩ := compK_storeS hc
    obtain ⟨s, off, x, cs, rfl, hcs, hmb, hl, hle, hlf, hrf, rfl⟩ := exec_storeS h
    obtain ⟨x1, x2, e, h1, h2⟩ := relAs_two (by simpa using hr)
    cases e
    simp only [RelA] at h1
    obtain ⟨b, hp, hv⟩ := h1
    obtain ⟨b', hp', hblk, hcl, hcr⟩ := hi.shOk _ _ hcs
    rw [hp] at hp'; cases hp'
    obtain ⟨_, c, ty, vs, suf, hh, hcz, hsp, hrel⟩ := hblk.cells hmb
    have hcells := shCells_rel h2 (leafS_B hlf)
    have hcsz : (a.eval v).cells.size = sz := by have := hcells.length; simp at this; omega
    have hsize := hrel.length
    have hcl2 : c.size = vs.length + suf.length := by rw [← Array.length_toList, hsp, List.length_append]
    have hnl : (a.eval v).cells.toList.length = sz := by simpa using hcsz
    have hrun := storeVar_run (P := P) (w := w) hsz hcsz hh (off := off) (by omega) (leaves_one hcells (leafS_B hlf))
    obtain ⟨g1, g2⟩ := hi.writeShr (cells' := setRange cs off (shCells x)) hcs hp hh (c' := (c.toList.take off ++ (a.eval v).cells.toList ++ c.toList.drop (off + (a.eval v).cells.toList.length)).toArray)
      (suf := suf) (vs := vs.take off ++ (a.eval v).cells.toList ++ vs.drop (off + (a.eval v).cells.toList.length))
      (by rw [← hcz]; simp; omega)
      (by
        show c.toList.take off ++ (a.eval v).cells.toList ++ c.toList.drop (off + (a.eval v).cells.toList.length) = _
        rw [hsp, List.take_append_of_le_length (by omega), List.drop_append_of_le_length (by omega)]
        simp [List.append_assoc])
      (relAs_setRange off hrel hcells) (setRange_all hcl hlf) (setRange_all hcr hrf)
    refine ⟨.skip, undef, _, G, ?_, .inr ⟨rfl, rfl⟩, by simp [RelA], by simpa [AK.key, putC] using g1, G.le_refl, g2⟩
    simp [execOp, hv, Instr.storeAt, Instr.sureAddr, hrun]
  | alloc key z =>
    obtain ⟨t, rfl, rfl, hz, rfl⟩ := compK_alloc hc
    obtain ⟨rfl, hcs, rfl⟩ := exec_alloc h
    simp only [AK.key, Option.bind_some] at hcs
    obtain ⟨zv, hz1, hz2⟩ := zeros_run (P := P) (w := w) hz
    obtain ⟨zr, zl⟩ := zeroCells_rel (G := G) (ρ := num ns) hz2
    obtain ⟨g1, g2, g3⟩ := hi.allocPriv (c := zv.cells) t hcs zr zl
    refine does_value (s := Instr.alloc t true (.tuple #[])) (v := .pointer (some ⟨w.heap.size, 0, none⟩)) rfl ?_ ?_ g1 g2 g3
    · simp only [Instr.alloc, Sem.run_bind, hz1, Result.andThen_ok, newVar_run, Sem.run_pure]
    · simp only [RelA]; exact ⟨_, by simp [Gh.newPriv], rfl⟩
  | box key sz =>
    obtain ⟨t, y, rfl, rfl, hsz, rfl⟩ := compK_box hc
    obtain ⟨x, rfl, hcs, hl, hlf, rfl⟩ := exec_box h
    simp only [AK.key, Option.bind_some] at hcs
    obtain ⟨x', e, h1⟩ := relAs_one (by simpa using hr)
    cases e
    have hcells := h1.cells hlf
    obtain ⟨g1, g2, g3⟩ := hi.allocPriv (c := (a.eval y).cells) t hcs hcells hlf
    refine does_value (s := Instr.box t (a.eval y)) (v := .pointer (some ⟨w.heap.size, 0, none⟩)) rfl ?_ ?_ g1 g2 g3
    · simp only [Instr.box, Sem.run_bind, newVar_run, Result.andThen_ok, Sem.run_pure]
    · simp only [RelA]; exact ⟨_, by simp [Gh.newPriv], rfl⟩
  | allocS z =>
    obtain ⟨t, rfl, rfl, hz⟩ := compK_allocS hc
    obtain ⟨rfl, rfl⟩ := exec_allocS h
    obtain ⟨zv, hz1, hz2⟩ := zeros_run (P := P) (w := w) hz
    obtain ⟨zr, zl⟩ := zeroCells_rel (G := G) (ρ := num ns) hz2
    obtain ⟨g1, g2, g3⟩ := hi.allocShr (c := zv.cells) t zr zl (refs_zero _ z)
    refine does_value (s := Instr.alloc t true (.tuple #[])) (v := .pointer (some ⟨w.heap.size, 0, none⟩)) rfl ?_ ?_ g1 g2 g3
    · simp only [Instr.alloc, Sem.run_bind, hz1, Result.andThen_ok, newVar_run, Sem.run_pure]
    · simp only [RelA]; exact ⟨(w.heap.size, zv.cells.size), by simp [Gh.newShr], rfl⟩
  | boxS sz =>
    obtain ⟨t, y, rfl, rfl, hsz⟩ := compK_boxS hc
    obtain ⟨x, rfl, hl, hlf, hrf, rfl⟩ := exec_boxS h
    obtain ⟨x', e, h1⟩ := relAs_one (by simpa using hr)
    cases e
    have hcells := shCells_rel h1 (leafS_B hlf)
    obtain ⟨g1, g2, g3⟩ := hi.allocShr (c := (a.eval y).cells) t hcells hlf (refsAll_mono (Nat.le_succ _) hrf)
    refine does_value (s := Instr.box t (a.eval y)) (v := .pointer (some ⟨w.heap.size, 0, none⟩)) rfl ?_ ?_ g1 g2 g3
    · simp only [Instr.box, Sem.run_bind, newVar_run, Result.andThen_ok, Sem.run_pure]
    · simp only [RelA]; exact ⟨(w.heap.size, (a.eval y).cells.size), by simp [Gh.newShr], rfl⟩
  | makeS sz by_ ag z =>
    obtain ⟨t, e, l, c, rfl, rfl, hu, hsz, hby, hz, hzl, h0⟩ := compK_makeS hc
    obtain ⟨k, k', n, rfl, h1, h2, h3, _, rfl⟩ := exec_makeS h
    obtain ⟨x1, x2, e', r1, r2⟩ := relAs_two (by simpa using hr)
    cases e'
    obtain ⟨v, w', G', g1, g2, g3, g4, g5⟩ := makeS_sound (k := k) (k' := k') (ag := ag) hu hsz hby hz hzl h0 h1 h2 h3 hi
    refine does_value (s := Instr.makeSlice t (a.eval l) (a.eval c)) rfl ?_ g2 g3 g4 g5
    rw [rel_int_inv r1, rel_int_inv r2]; exact g1
  | append sz by_ =>
    obtain ⟨c, rfl⟩ := compK_append hc
    obtain ⟨x, y, t, e, t1, e1, z, hcal, hargs, rfl, h0, h1, hu, hu1, hsz, hby, hz, hzl, hs0, hb0⟩ := compAppend hc
    obtain ⟨s, x', y', ts, rfl, happ, rfl⟩ := exec_append h
    obtain ⟨x1, x2, e', r1, r2⟩ := relAs_two (by simpa using hr)
    cases e'
    obtain ⟨v, w', G', g1, g2, g3, g4, g5⟩ := append_sound (type := type) h0 h1 hu hu1 hsz hby hz hzl hb0 r1 r2 hi happ
    refine does_value (s := Builtin.append_ c.argTypes type #[a.eval x, a.eval y]) ?_ g1 g2 g3 g4 g5
    obtain ⟨callee, cargs, ctypes⟩ := c
    simp only at hcal hargs
    subst hcal; subst hargs
    simp [execOp, resolve, invoke, builtin]
  | appendS sz by_ ag =>
    obtain ⟨c, rfl⟩ := compK_appendS hc
    obtain ⟨x, y, t, e, t1, e1, z, hcal, hargs, rfl, h0, h1, hu, hu1, hsz, hby, hz, hzl, hs0, hb0⟩ := compAppendS hc
    obtain ⟨s, x', xs, y', sh', rfl, hxs, hhx, happ, rfl⟩ := exec_appendS h
    obtain ⟨x1, x2, e', r1, r2⟩ := relAs_two (by simpa using hr)
    cases e'
    obtain ⟨v, w', G', g1, g2, g3, g4, g5⟩ := appendS_sound (type := type) h0 h1 hu hu1 hsz hby hz hzl hb0 r1 r2 hi hxs hhx happ
    refine does_value (s := Builtin.append_ c.argTypes type #[a.eval x, a.eval y]) ?_ g1 g2 g3 g4 g5
    obtain ⟨callee, cargs, ctypes⟩ := c
    simp only at hcal hargs
    subst hcal; subst hargs
    simp [execOp, resolve, invoke, builtin]
  | clearS sz z =>
    obtain ⟨c, rfl⟩ := compK_clearS hc
    obtain ⟨x, t, e, hcal, hargs, rfl, h0, hu, hsz, hz, hzl, hs0⟩ := compClearS hc
    obtain ⟨x', sh', rfl, hcl, rfl⟩ := exec_clearS h
    obtain ⟨x1, e', r1⟩ := relAs_one (by simpa using hr)
    cases e'
    obtain ⟨w', g1, g2, g3⟩ := clearS_sound (type := type) h0 hu hz hzl hs0 r1 hi hcl
    refine does_value (s := Builtin.clear_ c.argTypes type #[a.eval x]) (v := .tuple #[]) ?_ g1 (by simp only [RelA]; exact ⟨[], rfl, by simp [RelAs]⟩) g2 G.le_refl g3
    obtain ⟨callee, cargs, ctypes⟩ := c
    simp only at hcal hargs
    subst hcal; subst hargs
    simp [execOp, resolve, invoke, builtin]

end
end Go.Ab
