import Derived.Test.YtejloknaphfbeaaGreatAbOps2
/-
  Literals, cuts, and the rest of the operations on values.
-/
set_option linter.unusedVariables false
set_option linter.unusedSimpArgs false
namespace Go.Ab

section
variable {P : Program} {ns : Names} {G : Gh} {w : World}

theorem mapO_length {α β : Type} {f : α → Option β} : ∀ {l : List α} {r : List β}, mapO f l = some r → r.length = l.length
  | [], _, h => by simp [mapO] at h; subst h; rfl
  | x :: l, r, h => by
    simp only [mapO] at h
    split at h
    · rename_i y ys h1 h2
      simp at h; subst h
      simp [mapO_length h2]
    · simp at h

theorem mapO_get {α β : Type} {f : α → Option β} : ∀ {l : List α} {r : List β}, mapO f l = some r → ∀ {i : Nat} {x : α}, l[i]? = some x → ∃ y, r[i]? = some y ∧ f x = some y
  | [], _, _, i, x, hx => by simp at hx
  | a :: l, r, h, i, x, hx => by
    simp only [mapO] at h
    split at h
    · rename_i y ys h1 h2
      simp at h; subst h
      cases i with
      | zero => simp at hx; subst hx; exact ⟨y, by simp, h1⟩
      | succ i => simpa using mapO_get h2 (by simpa using hx)
    · simp at h

theorem run_mapM {α β : Type} {f : α → Sem β} {g : α → Option β} (hf : ∀ x y, g x = some y → (f x).run P w = .ok y w) : ∀ {l : List α} {r : List β},
    mapO g l = some r → (l.mapM f).run P w = .ok r w
  | [], _, h => by simp [mapO] at h; subst h; simp
  | x :: l, r, h => by
    simp only [mapO] at h
    split at h
    · rename_i y ys h1 h2
      simp at h; subst h
      simp only [List.mapM_cons, Sem.run_bind, hf x y h1, Result.andThen_ok, run_mapM hf h2, Sem.run_pure]
    · simp at h

theorem zeros_run {t : Nat} {z : List PV} (h : zerosOf P t = some z) : ∃ zv, (zeroValue t).run P w = .ok zv w ∧ mapO constP zv.cells.toList = some z := by
  unfold zerosOf at h
  split at h
  · rename_i zv hz
    cases hi : P.info? t with
    | none => simp [hi] at hz
    | some i =>
      simp [hi] at hz
      exact ⟨zv, by simp [zeroValue, typeInfo, hi, hz], h⟩
  · simp at h

theorem zeroCell_rel {ρ : Nums} {v : Value} {p : PV} (h : constP v = some p) : RelA ρ G (evV.zeroCell p) v ∧ leafB (evV.zeroCell p) = true := by
  obtain ⟨h1, h2⟩ := constP_rel (K := G.K) h
  unfold evV.zeroCell
  split
  · refine ⟨?_, rfl⟩
    cases v with
    | slice a l c =>
      cases a with
      | some a => simp [constP] at h
      | none =>
        cases l with
        | succ l => simp [constP] at h
        | zero =>
          cases c with
          | succ c => simp [constP] at h
          | zero => simp only [RelA]; exact ⟨none, 0, rfl, rfl, .inl rfl⟩
    | _ => simp [constP] at h
  · refine ⟨by simp only [RelA]; exact Rel.ofR h1, ?_⟩
    cases p <;> simp_all [leafB, leafP]

theorem zeroCells_rel {ρ : Nums} : ∀ {l : List Value} {z : List PV}, mapO constP l = some z → RelAs ρ G (z.map evV.zeroCell) l ∧ (z.map evV.zeroCell).all leafB = true
  | [], _, h => by simp [mapO] at h; subst h; simp [RelAs]
  | v :: l, z, h => by
    simp only [mapO] at h
    split at h
    · rename_i y ys h1 h2
      simp at h; subst h
      obtain ⟨g1, g2⟩ := zeroCells_rel (ρ := ρ) h2
      obtain ⟨g3, g4⟩ := zeroCell_rel (G := G) (ρ := ρ) h1
      simp only [List.map_cons, RelAs, List.all_cons, g4, g2, Bool.and_true, and_true]
      exact ⟨v, l, rfl, g3, g1⟩
    · simp at h

theorem foldl_seg (off : Nat) : ∀ (l : List Value) (k : Nat) (cs : Array Value), off + k + l.length ≤ cs.size →
    ((l.zipIdx k).foldl (fun cs (x : Value × Nat) => cs.setIfInBounds (off + x.2) x.1) cs).toList = cs.toList.take (off + k) ++ l ++ cs.toList.drop (off + k + l.length)
  | [], k, cs, _ => by simp
  | v :: l, k, cs, h => by
    simp only [List.zipIdx_cons, List.foldl_cons]
    have h' : off + (k + 1) + l.length ≤ (cs.setIfInBounds (off + k) v).size := by simp at h ⊢; omega
    rw [foldl_seg off l (k + 1) _ h']
    have := list_seg_step cs.toList (off + k) v l (by simp at h ⊢; omega)
    simpa [Array.toList_setIfInBounds, Nat.add_assoc] using this

theorem relAs_setRange {ρ : Nums} {cs : List AV} {l : List Value} (off : Nat) {us : List AV} {vs : List Value} (h : RelAs ρ G cs l) (k : RelAs ρ G us vs) :
    RelAs ρ G (setRange cs off us) (l.take off ++ vs ++ l.drop (off + vs.length)) := by
  unfold setRange
  rw [← k.length]
  exact RelAs.append (RelAs.append (h.take off) k) (h.drop _)

theorem setRange_all {B : AV → Bool} {cs us : List AV} {off : Nat} (h : cs.all B = true) (k : us.all B = true) : (setRange cs off us).all B = true := by
  unfold setRange
  rw [List.all_eq_true] at *
  intro x hx
  simp only [List.mem_append] at hx
  rcases hx with (hx | hx) | hx
  · exact h x (List.mem_of_mem_take hx)
  · exact k x hx
  · exact h x (List.mem_of_mem_drop hx)

/-- The parts of a literal laid into its cells. -/
theorem fill_sound {place : Nat → Option (Nat × Nat)} : ∀ {is : List Nat} {pl : List (Nat × Nat)} {vals : List AV} {rvs : List Value} {cells : List AV} {rc : Array Value} {cs : List AV},
    mapO place is = some pl → RelAs (num ns) G vals rvs → RelAs (num ns) G cells rc.toList → cells.all leafB = true → is.length = rvs.length → fillA cells pl vals = some cs →
    ∃ rc', Instr.fill place rc (is.zip rvs) = some rc' ∧ RelAs (num ns) G cs rc'.toList ∧ cs.all leafB = true
  | [], pl, vals, rvs, cells, rc, cs, hp, hv, hc, hb, hl, h => by
    simp [mapO] at hp; subst hp
    have : rvs = [] := by cases rvs <;> simp_all
    subst this
    have := hv.length
    have : vals = [] := by cases vals <;> simp_all
    subst this
    simp [fillA] at h; subst h
    exact ⟨rc, by simp [Instr.fill], hc, hb⟩
  | i :: is, pl, vals, rvs, cells, rc, cs, hp, hv, hc, hb, hl, h => by
    simp only [mapO] at hp
    split at hp
    · rename_i y ys h1 h2
      simp at hp; subst hp
      obtain ⟨off, sz⟩ := y
      cases vals with
      | nil => simp [fillA] at h
      | cons v vals =>
        simp only [RelAs] at hv
        obtain ⟨rv, rr, rfl, e1, e2⟩ := hv
        simp only [fillA, Option.ite_none_right_eq_some] at h
        obtain ⟨⟨g1, g2, g3⟩, h⟩ := h
        have hcells := e1.cells g3
        have hlen := hcells.length
        have hsz : rv.cells.size = sz := by rw [← g1, ← hlen]; simp
        have hrc : rc.size = cells.length := by have := hc.length; simpa using this
        simp only [List.zip_cons_cons, Instr.fill, h1]
        have hcond : (decide (rv.cells.size ≠ sz) || decide (off + rv.cells.size > rc.size)) = false := by
          simp [hsz]; omega
        have hfold : (rv.cells.zipIdx.foldl (fun cs (x : Value × Nat) => cs.setIfInBounds (off + x.2) x.1) rc).toList = rc.toList.take off ++ rv.cells.toList ++ rc.toList.drop (off + rv.cells.toList.length) := by
          have := foldl_seg off rv.cells.toList 0 rc (by simp; omega)
          rw [← Array.foldl_toList]
          simpa using this
        rw [if_neg (by simp [hsz]; omega)]
        refine fill_sound (is := is) h2 e2 (cells := setRange cells off (cellsA v)) ?_ (setRange_all hb g3) (by simpa using hl) h
        rw [hfold]
        exact relAs_setRange off hc hcells
    · simp at hp


/-! ### Literals -/

theorem fieldsOf_run {t : Nat} {all : List (Nat × Nat)} (h : fieldsOf P t = some all) : ∃ fs, P.underlying t = some (.struct fs) ∧
    (fs.mapM fun f => (do pure (f.offset, ← sizeOf f.type) : Sem (Nat × Nat))).run P w = .ok all.toArray w := by
  unfold fieldsOf at h
  split at h
  · rename_i fs hu
    refine ⟨fs, hu, ?_⟩
    rw [Array.mapM_eq_mapM_toList]
    simp only [Sem.run_map]
    rw [run_mapM (g := fun f => (szOf P f.type).map fun s => (f.offset, s)) ?_ h]
    · rfl
    · intro f y hy
      simp only [Option.map_eq_some_iff] at hy
      obtain ⟨s, h1, rfl⟩ := hy
      simp only [Sem.run_bind, run_szOf h1, Result.andThen_ok, Sem.run_pure]
  · simp at h

theorem build_sound {t : Nat} {z : List PV} {is : List Nat} {pl : List (Nat × Nat)} {vals : List AV} {rvs : List Value} {x : AV} 
    (hz : zerosOf P t = some z) (hp : placesOf P t is = some pl) (hr : RelAs (num ns) G vals rvs) (hl : is.length = rvs.length) (h : evV (.build z pl) vals = some x) :
    ∃ v, (Instr.build t (is.zip rvs).toArray).run P w = .ok v w ∧ RelA (num ns) G x v := by
  obtain ⟨zv, hz1, hz2⟩ := zeros_run (w := w) hz
  unfold placesOf at hp
  split at hp
  · rename_i all hall
    obtain ⟨fs, hu, hm⟩ := fieldsOf_run (w := w) hall
    simp only [evV, Option.map_eq_some_iff] at h
    obtain ⟨cs, h1, rfl⟩ := h
    obtain ⟨g1, g2⟩ := zeroCells_rel (G := G) (ρ := num ns) hz2
    obtain ⟨rc, e1, e2, _⟩ := fill_sound (place := (all.toArray[·]?)) (rc := zv.cells) (by simpa using hp) hr g1 g2 hl h1
    refine ⟨.agg rc, ?_, ?_⟩
    · simp only [Instr.build, Sem.run_bind, hz1, Result.andThen_ok, run_underlying hu, hm]
      simp only [e1, Sem.run_pure]
    · simp only [RelA]
      exact ⟨rc.toList, by simp, e2⟩
  · simp at hp

/-! ### Freezing -/

theorem Rel.toR {K : Know} {p : PV} {v : Value} (h : Rel K p v) : R K true p v.cells.toList := by
  cases p with
  | agg cs => obtain ⟨vs, rfl, h⟩ := h; simp only [R, Value.cells]; exact ⟨trivial, by simpa using h⟩
  | bool b => have h' := h; simp only [Rel, R] at h'; simp at h'; subst h'; simpa [Value.cells] using R.top h
  | int k n => have h' := h; simp only [Rel, R] at h'; simp at h'; subst h'; simpa [Value.cells] using R.top h
  | str s => have h' := h; simp only [Rel, R] at h'; simp at h'; subst h'; simpa [Value.cells] using R.top h
  | lst els =>
    have h' := h
    obtain ⟨b, l, c, rfl, _⟩ := rel_lst.1 h'
    simpa [Value.cells] using R.top h

theorem frz0_rel {x : AV} {p : PV} {v : Value} (h : frz0 x = some p) (hr : RelA (num ns) G x v) : Rel G.K p v := by
  unfold frz0 at h
  split at h <;> simp at h <;> subst h
  · simpa only [RelA] using hr
  · exact elsOf_rel (x := .clp _) rfl hr
  · exact elsOf_rel (x := .own _ _) rfl hr

theorem frzLeaf_nil {x : AV} : frzLeaf [] x = frz0 x := by
  cases x <;> simp [frzLeaf, frz0]

theorem frz0_leaf {x : AV} {p : PV} (h : frz0 x = some p) (hl : leafB x = true) : leafP p = true := by
  cases x with
  | pv q => simp [frz0] at h; subst h; cases q <;> simp_all [leafB, leafP]
  | clp _ => simp [frz0] at h; subst h; rfl
  | own _ _ => simp [frz0] at h; subst h; rfl
  | _ => simp [frz0] at h

theorem Rel.leafR {K : Know} {p : PV} {v : Value} (h : Rel K p v) (hl : leafP p = true) : R K false p [v] := (rel_leaf hl).1 h

/-- A list of frozen cells (each a leaf). -/
theorem frzLs_rel : ∀ {cs : List AV} {ps : List PV} {vs : List Value}, frzLs [] cs = some ps → RelAs (num ns) G cs vs → RLs G.K ps vs
  | [], ps, vs, h, hr => by simp [frzLs] at h; subst h; simp only [RelAs] at hr; simp [RLs, hr]
  | c :: cs, ps, vs, h, hr => by
    simp only [frzLs, frzLeaf_nil, Option.ite_none_right_eq_some] at h
    obtain ⟨hl, h⟩ := h
    split at h
    · rename_i p ps' h1 h2
      simp at h; subst h
      simp only [RelAs] at hr
      obtain ⟨v, r, rfl, e1, e2⟩ := hr
      simp only [RLs]
      exact ⟨v, r, rfl, (frz0_rel h1 e1).leafR (frz0_leaf h1 hl), frzLs_rel h2 e2⟩
    · simp at h

theorem frz_rel {x : AV} {p : PV} {v : Value} (h : frz [] x = some p) (hr : RelA (num ns) G x v) : Rel G.K p v := by
  cases x with
  | agg cs =>
    simp only [frz, Option.map_eq_some_iff] at h
    obtain ⟨ps, h1, rfl⟩ := h
    simp only [RelA] at hr
    obtain ⟨vs, rfl, hr⟩ := hr
    simp only [Rel]
    exact ⟨vs, rfl, frzLs_rel h1 hr⟩
  | _ => simp only [frz, frzLeaf_nil] at h; exact frz0_rel h hr

theorem frzAll_rel : ∀ {xs : List AV} {ps : List PV} {vs : List Value}, frzAll [] xs = some ps → RelAs (num ns) G xs vs → RelL G.K ps vs
  | [], ps, vs, h, hr => by simp [frzAll] at h; subst h; simp only [RelAs] at hr; exact hr
  | c :: cs, ps, vs, h, hr => by
    simp only [frzAll] at h
    split at h
    · rename_i p ps' h1 h2
      simp at h; subst h
      simp only [RelAs] at hr
      obtain ⟨v, r, rfl, e1, e2⟩ := hr
      exact ⟨v, r, rfl, frz_rel h1 e1, frzAll_rel h2 e2⟩
    · simp at h

/-! ### A new block that is never written again -/

def Gh.know (G : Gh) (b : Nat) (c : Array Value) : Gh := { G with K := fun b' o => if b' = b then c[o]? else G.K b' o }

theorem Inv.known_lt {ρ : Nums} {mem : List (Nat × List AV)} {sh : Sh} {toks : Toks} (h : Inv ρ G w mem sh toks) {b o : Nat} {v : Value} (hk : G.K b o = some v) : b < w.heap.size :=
  World.block_lt_of_cell? _ _ (h.known b o v hk)

theorem Gh.know_le {ρ : Nums} {mem : List (Nat × List AV)} {sh : Sh} {toks : Toks} (h : Inv ρ G w mem sh toks) (c : Array Value) : G.le (G.know w.heap.size c) where
  K := fun b o v hk => by
    have := h.known_lt hk
    simp only [Gh.know]
    rw [if_neg (by omega)]
    exact hk
  pm := fun _ _ h => h
  sm := fun _ _ h => h
  tk := fun _ t h => ⟨t, h, Nat.le_refl _, fun _ => rfl⟩

theorem heap_alloc_lt {o : Obj} {b : Nat} (h : b < w.heap.size) : (w.alloc o).heap[b]? = w.heap[b]? := RowKit.Below.heap_alloc w o b h

theorem heap_alloc_new {o : Obj} : (w.alloc o).heap[w.heap.size]? = some o := by
  show (w.heap.push o)[w.heap.size]? = some o
  simp

theorem lt_of_heap {b : Nat} {o : Obj} (h : w.heap[b]? = some o) : b < w.heap.size := by
  rcases Nat.lt_or_ge b w.heap.size with h' | h'
  · exact h'
  · simp [Array.getElem?_eq_none h'] at h

theorem Blk.mono {ρ : Nums} {G' : Gh} {w' : World} {b : Nat} {r : Role} {cells : List AV} (h : Blk ρ G w b r cells) (hle : G.le G') (hr : G'.role b = G.role b) (hh : w'.heap[b]? = w.heap[b]?) : Blk ρ G' w' b r cells := by
  obtain ⟨h1, c, t, h2, h3⟩ := h
  exact ⟨hr.trans h1, c, t, hh.trans h2, RelAs.mono hle h3⟩

theorem SBlk.mono {ρ : Nums} {G' : Gh} {w' : World} {b : Nat × Nat} {r : Role} {cells : List AV} (h : SBlk ρ G w b r cells) (hle : G.le G') (hr : G'.role b.1 = G.role b.1) (hh : w'.heap[b.1]? = w.heap[b.1]?) : SBlk ρ G' w' b r cells := by
  obtain ⟨h1, o, h2, h3⟩ := h
  exact ⟨hr.trans h1, o, hh.trans h2, h3.mono hle⟩

theorem SBlk.lt {ρ : Nums} {b : Nat × Nat} {r : Role} {cells : List AV} (h : SBlk ρ G w b r cells) : b.1 < w.heap.size := by
  obtain ⟨_, o, h2, _⟩ := h
  exact lt_of_heap h2

theorem Inv.allocImm {ρ : Nums} {mem : List (Nat × List AV)} {sh : Sh} {toks : Toks} (h : Inv ρ G w mem sh toks) (c : Array Value) (t : TypeId) :
    Inv ρ (G.know w.heap.size c) (w.alloc (.cells c t)) mem sh toks := by
  have hle := Gh.know_le h c
  constructor
  · intro b o v hk
    simp only [Gh.know] at hk
    split at hk
    · rename_i hb; subst hb
      simp [hk]
    · rw [World.cell?_alloc_old]
      · exact h.known b o v hk
      · simpa using ‹¬ b = w.heap.size›
  · intro b o v hk
    simp only [Gh.know] at hk
    split at hk
    · rename_i hb; subst hb
      exact .inl (h.fresh _ (Nat.le_refl _))
    · exact h.known_role b o v hk
  · intro b hb
    simp at hb
    exact h.fresh b (by omega)
  · intro d cells hd
    obtain ⟨b, e1, e2, e3⟩ := h.memOk d cells hd
    have hb : b < w.heap.size := by obtain ⟨c, t, hh, _⟩ := e2.at_; exact lt_of_heap hh
    exact ⟨b, e1, e2.mono hle rfl (heap_alloc_lt hb), e3⟩
  · exact h.pmOk
  · intro d cells hd
    obtain ⟨b, e1, e2, e3⟩ := h.shOk d cells hd
    have hb : b.1 < w.heap.size := e2.lt
    exact ⟨b, e1, e2.mono hle rfl (heap_alloc_lt hb), e3⟩
  · exact h.smOk
  · intro τ n hn
    obtain ⟨tk, e1, e2, e3⟩ := h.tokOk τ n hn
    refine ⟨tk, e1, e2, e3.cap, e3.zero, fun hlt => ?_⟩
    obtain ⟨b, o, cc, ty, f1, f2, f3, f4, f5⟩ := e3.spare hlt
    have hb := lt_of_heap f3
    refine ⟨b, o, cc, ty, f1, f2, (heap_alloc_lt hb).trans f3, f4, fun j v hk => f5 j v ?_⟩
    simp only [Gh.know] at hk
    rwa [if_neg (by omega)] at hk
  · exact h.tkOk

theorem Evo.allocImm {ρ : Nums} {mem : List (Nat × List AV)} {sh : Sh} {toks : Toks} (h : Inv ρ G w mem sh toks) (c : Array Value) (t : TypeId) :
    Evo G w (G.know w.heap.size c) (w.alloc (.cells c t)) where
  size := by simp
  os := rfl
  tape := rfl
  output := rfl
  K := (Gh.know_le h c).K
  sm := fun _ _ h => h
  imm := fun b hb hr => ⟨hr, heap_alloc_lt hb⟩
  tokr := fun b τ _ hr => .inr ⟨τ, hr⟩
  Kimm := fun b o v hb _ hk => by
    simp only [Gh.know] at hk
    rwa [if_neg (by omega)] at hk

theorem at_know {b : Nat} {l : List Value} : At (G.know b l.toArray).K b 0 l := by
  intro j v hj
  simp only [Gh.know, if_true, Nat.zero_add]
  simpa using hj

end
end Go.Ab
