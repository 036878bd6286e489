import Derived.Test.YtejloknaphfbeaaGreatAbHot
/-
  What an operation was compiled from, and what its run looked at.
-/
set_option linter.unusedVariables false
set_option linter.unusedSimpArgs false
namespace Go.Ab

section
variable {P : Program} {ns : Names} {A : Ann} {dst : Option Nat} {op : Op} {args : List Operand}

set_option maxHeartbeats 1000000

theorem compK_loadL {k o sz : Nat} {ag : Bool} (h : compK P ns A dst op = some (.loadL k o sz ag, args)) :
    ∃ t tx, op = .load t (.tmp tx) ∧ args = [.tmp tx] ∧ szOf P t = some sz ∧ aggOf P t = some ag := by
  cases op <;> simp only [compK] at h
  all_goals (repeat' (split at h))
  all_goals (try (simp at h; done))
  all_goals
    simp only [Option.some.injEq, Prod.mk.injEq, AK.loadL.injEq] at h
    obtain ⟨⟨rfl, rfl, rfl, rfl⟩, rfl⟩ := h
    exact ⟨_, _, rfl, rfl, by assumption, by assumption⟩

theorem compK_loadS {sz : Nat} {ag : Bool} (h : compK P ns A dst op = some (.loadS sz ag, args)) :
    ∃ t tx, op = .load t (.tmp tx) ∧ args = [.tmp tx] ∧ szOf P t = some sz ∧ aggOf P t = some ag := by
  cases op <;> simp only [compK] at h
  all_goals (repeat' (split at h))
  all_goals (try (simp at h; done))
  all_goals
    simp only [Option.some.injEq, Prod.mk.injEq, AK.loadS.injEq] at h
    obtain ⟨⟨rfl, rfl⟩, rfl⟩ := h
    exact ⟨_, _, rfl, rfl, by assumption, by assumption⟩

theorem compK_storeL {k o sz : Nat} (h : compK P ns A dst op = some (.storeL k o sz, args)) :
    ∃ t tx v, op = .store t (.tmp tx) v ∧ args = [.tmp tx, v] ∧ szOf P t = some sz := by
  cases op <;> simp only [compK] at h
  all_goals (repeat' (split at h))
  all_goals (try (simp at h; done))
  all_goals
    simp only [Option.some.injEq, Prod.mk.injEq, AK.storeL.injEq] at h
    obtain ⟨⟨rfl, rfl, rfl⟩, rfl⟩ := h
    exact ⟨_, _, _, rfl, rfl, by assumption⟩

theorem compK_storeS {sz : Nat} (h : compK P ns A dst op = some (.storeS sz, args)) :
    ∃ t tx v, op = .store t (.tmp tx) v ∧ args = [.tmp tx, v] ∧ szOf P t = some sz := by
  cases op <;> simp only [compK] at h
  all_goals (repeat' (split at h))
  all_goals (try (simp at h; done))
  all_goals
    simp only [Option.some.injEq, Prod.mk.injEq, AK.storeS.injEq] at h
    obtain ⟨rfl, rfl⟩ := h
    exact ⟨_, _, _, rfl, rfl, by assumption⟩

theorem compK_alloc {k : Nat} {z : List PV} (h : compK P ns A dst op = some (.alloc k z, args)) :
    ∃ t, op = .alloc t ∧ args = [] ∧ zerosOf P t = some z ∧ dst = some k := by
  cases op <;> simp only [compK] at h
  all_goals (repeat' (split at h))
  all_goals (try (simp at h; done))
  all_goals
    simp only [Option.some.injEq, Prod.mk.injEq, AK.alloc.injEq] at h
    obtain ⟨⟨rfl, rfl⟩, rfl⟩ := h
    exact ⟨_, rfl, rfl, by assumption, rfl⟩

theorem compK_allocS {z : List PV} (h : compK P ns A dst op = some (.allocS z, args)) :
    ∃ t, op = .alloc t ∧ args = [] ∧ zerosOf P t = some z := by
  cases op <;> simp only [compK] at h
  all_goals (repeat' (split at h))
  all_goals (try (simp at h; done))
  all_goals
    simp only [Option.some.injEq, Prod.mk.injEq, AK.allocS.injEq] at h
    obtain ⟨rfl, rfl⟩ := h
    exact ⟨_, rfl, rfl, by assumption⟩

theorem compK_box {k sz : Nat} (h : compK P ns A dst op = some (.box k sz, args)) :
    ∃ t x, op = .box t x ∧ args = [x] ∧ szOf P t = some sz ∧ dst = some k := by
  cases op <;> simp only [compK] at h
  all_goals (repeat' (split at h))
  all_goals (try (simp at h; done))
  all_goals
    simp only [Option.some.injEq, Prod.mk.injEq, AK.box.injEq] at h
    obtain ⟨⟨rfl, rfl⟩, rfl⟩ := h
    exact ⟨_, _, rfl, rfl, by assumption, rfl⟩

theorem compK_boxS {sz : Nat} (h : compK P ns A dst op = some (.boxS sz, args)) :
    ∃ t x, op = .box t x ∧ args = [x] ∧ szOf P t = some sz := by
  cases op <;> simp only [compK] at h
  all_goals (repeat' (split at h))
  all_goals (try (simp at h; done))
  all_goals
    simp only [Option.some.injEq, Prod.mk.injEq, AK.boxS.injEq] at h
    obtain ⟨rfl, rfl⟩ := h
    exact ⟨_, _, rfl, rfl, by assumption⟩

theorem compK_makeS {sz by_ : Nat} {ag : Bool} {z : List PV} (h : compK P ns A dst op = some (.makeS sz by_ ag z, args)) :
    ∃ t e l c, op = .makeSlice t l c ∧ args = [l, c] ∧ P.underlying t = some (.slice e) ∧ szOf P e = some sz ∧ bytesAt P e = some by_ ∧ zerosOf P e = some z ∧ z.length = sz ∧ 0 < sz := by
  cases op <;> simp only [compK] at h
  all_goals (repeat' (split at h))
  all_goals (try (simp at h; done))
  all_goals
    simp only [Option.some.injEq, Prod.mk.injEq, AK.makeS.injEq] at h
    obtain ⟨⟨rfl, rfl, rfl, rfl⟩, rfl⟩ := h
    rename_i hc
    exact ⟨_, _, _, _, rfl, rfl, elemOf_run (by assumption), by assumption, by assumption, by assumption, hc.1, hc.2⟩

theorem compK_append {sz by_ : Nat} (h : compK P ns A dst op = some (.append sz by_, args)) : ∃ c, op = .call c := by
  cases op <;> simp only [compK] at h
  all_goals (repeat' (split at h))
  all_goals (try (simp at h; done))
  all_goals exact ⟨_, rfl⟩

theorem compK_appendS {sz by_ : Nat} {ag : Bool} (h : compK P ns A dst op = some (.appendS sz by_ ag, args)) : ∃ c, op = .call c := by
  cases op <;> simp only [compK] at h
  all_goals (repeat' (split at h))
  all_goals (try (simp at h; done))
  all_goals exact ⟨_, rfl⟩

theorem compK_clearS {sz : Nat} {z : List PV} (h : compK P ns A dst op = some (.clearS sz z, args)) : ∃ c, op = .call c := by
  cases op <;> simp only [compK] at h
  all_goals (repeat' (split at h))
  all_goals (try (simp at h; done))
  all_goals exact ⟨_, rfl⟩

theorem compK_makeM (h : compK P ns A dst op = some (.makeM, args)) : ∃ t, op = .makeMap t none ∧ args = [] := by
  cases op <;> simp only [compK] at h
  case makeMap t r =>
    split at h
    · rename_i hr
      cases r with
      | none => simp only [Option.some.injEq, Prod.mk.injEq, true_and] at h; exact ⟨_, rfl, h.symm⟩
      | some _ => simp at hr
    · simp at h
  all_goals (repeat' (split at h))
  all_goals (try (simp at h; done))

theorem compK_lookM {c : CK} {ok : Bool} {z : PV} (h : compK P ns A dst op = some (.lookM c ok z, args)) :
    ∃ t x i k e, op = .lookup t x i ok ∧ args = [x, i] ∧ P.underlying t = some (.map k e) ∧ kindOf P k = some c ∧ zeroOf P e = some z := by
  cases op <;> simp only [compK] at h
  all_goals (repeat' (split at h))
  all_goals (try (simp at h; done))
  all_goals
    simp only [Option.some.injEq, Prod.mk.injEq, AK.lookM.injEq] at h
    obtain ⟨⟨rfl, rfl, rfl⟩, rfl⟩ := h
    exact ⟨_, _, _, _, _, rfl, rfl, by assumption, by assumption, by assumption⟩

theorem compK_putM {c : CK} (h : compK P ns A dst op = some (.putM c, args)) :
    ∃ t m i x k e, (op = .mapUpdate t m i x ∨ op = .insert t m i x) ∧ args = [m, i, x] ∧ P.underlying t = some (.map k e) ∧ kindOf P k = some c := by
  cases op <;> simp only [compK] at h
  case mapUpdate t m i x =>
    split at h
    · rename_i k e hu
      simp only [Option.map_eq_some_iff, Prod.mk.injEq, AK.putM.injEq] at h
      obtain ⟨c', h1, rfl, rfl⟩ := h
      exact ⟨_, _, _, _, _, _, .inl rfl, rfl, hu, h1⟩
    · simp at h
  case insert t m i x =>
    split at h
    · rename_i k e hu
      simp only [Option.map_eq_some_iff, Prod.mk.injEq, AK.putM.injEq] at h
      obtain ⟨c', h1, rfl, rfl⟩ := h
      exact ⟨_, _, _, _, _, _, .inr rfl, rfl, hu, h1⟩
    · simp at h
  all_goals (repeat' (split at h))
  all_goals (try (simp at h; done))

theorem compK_call {k : AK} (hk : (match k with | .callP _ | .callPS _ | .callI .. | .callQ _ | .callV | .clone .. => true | _ => false) = true) (h : compK P ns A dst op = some (k, args)) : ∃ c, op = .call c := by
  cases op <;> simp only [compK] at h
  all_goals (repeat' (split at h))
  all_goals (try (simp at h; done))
  all_goals (first | exact ⟨_, rfl⟩ | skip)
  all_goals (simp at h; first | (obtain ⟨rfl, _⟩ := h; simp at hk; done) | (obtain ⟨_, _, rfl, _⟩ := h; simp at hk; done))

end

section
variable {orc : Orc} {vals : List AV} {cells : Option (List AV)} {sh : Sh} {toks : Toks} {out : Out}

theorem exec_loadL {key off sz : Nat} {ag : Bool} (h : exec orc (.loadL key off sz ag) vals cells sh toks = some out) :
    ∃ cs x, vals = [.lptr key off] ∧ cells = some cs ∧ ofCells ag sz cs off = some x ∧ out = ⟨x, none, sh, toks⟩ := by
  rcases vals with _ | ⟨v, _ | ⟨u, r⟩⟩
  · simp [exec] at h
  · cases v with
    | lptr d o =>
      simp only [exec, Option.ite_none_right_eq_some] at h
      obtain ⟨⟨rfl, rfl⟩, h⟩ := h
      cases cells with
      | none => simp at h
      | some cs =>
        simp only [Option.map_eq_some_iff] at h
        obtain ⟨x, h1, rfl⟩ := h
        exact ⟨cs, x, rfl, rfl, h1, rfl⟩
    | _ => simp [exec] at h
  · cases v <;> simp [exec] at h

theorem exec_storeL {key off sz : Nat} (h : exec orc (.storeL key off sz) vals cells sh toks = some out) :
    ∃ cs v, vals = [.lptr key off, v] ∧ cells = some cs ∧ (cellsA v).length = sz ∧ (cellsA v).all leafB = true ∧ off + sz ≤ cs.length ∧ out = ⟨.un, some (setRange cs off (cellsA v)), sh, toks⟩ := by
  rcases vals with _ | ⟨v, _ | ⟨u, _ | ⟨_, _⟩⟩⟩
  · simp [exec] at h
  · cases v <;> simp [exec] at h
  · cases v with
    | lptr d o =>
      simp only [exec, Option.ite_none_right_eq_some] at h
      obtain ⟨⟨rfl, rfl, h1, h2⟩, h⟩ := h
      cases cells with
      | none => simp at h
      | some cs =>
        simp only [Option.ite_none_right_eq_some, Option.some.injEq] at h
        obtain ⟨h3, rfl⟩ := h
        exact ⟨cs, u, rfl, rfl, h1, h2, h3, rfl⟩
    | _ => simp [exec] at h
  · cases v <;> simp [exec] at h

theorem exec_alloc {key : Nat} {z : List PV} (h : exec orc (.alloc key z) vals cells sh toks = some out) :
    vals = [] ∧ cells = none ∧ out = ⟨.lptr key 0, some (z.map evV.zeroCell), sh, toks⟩ := by
  cases vals with
  | nil => cases cells with
    | none => simp [exec] at h; exact ⟨rfl, rfl, h.symm⟩
    | some _ => simp [exec] at h
  | cons _ _ => simp [exec] at h

theorem exec_box {key sz : Nat} (h : exec orc (.box key sz) vals cells sh toks = some out) :
    ∃ v, vals = [v] ∧ cells = none ∧ (cellsA v).length = sz ∧ (cellsA v).all leafB = true ∧ out = ⟨.lptr key 0, some (cellsA v), sh, toks⟩ := by
  rcases vals with _ | ⟨v, _ | ⟨u, r⟩⟩
  · simp [exec] at h
  · cases cells with
    | none =>
      simp only [exec, Option.ite_none_right_eq_some, Option.some.injEq] at h
      obtain ⟨⟨h1, h2⟩, rfl⟩ := h
      exact ⟨v, rfl, rfl, h1, h2, rfl⟩
    | some _ => simp [exec] at h
  · simp [exec] at h

theorem exec_loadS {sz : Nat} {ag : Bool} (h : exec orc (.loadS sz ag) vals cells sh toks = some out) :
    ∃ p x, vals = [p] ∧ out = ⟨x, none, sh, toks⟩ ∧ ((∃ cs, p = .eptr cs ∧ ofCellsP ag sz cs = some x) ∨ ∃ b off cs, p = .sptr b off ∧ sh[b]? = some (some cs) ∧ mapB cs = false ∧ ofCells ag sz cs off = some x) := by
  rcases vals with _ | ⟨v, _ | ⟨u, r⟩⟩
  · simp [exec] at h
  · simp only [exec] at h
    split at h
    · rename_i cs
      simp only [Option.map_eq_some_iff] at h
      obtain ⟨x, h1, rfl⟩ := h
      exact ⟨_, x, rfl, rfl, .inl ⟨cs, rfl, h1⟩⟩
    · rename_i b off
      split at h
      · rename_i cs hcs
        split at h
        · cases h
        · rename_i hm
          simp only [Option.map_eq_some_iff] at h
          obtain ⟨x, h1, rfl⟩ := h
          exact ⟨_, x, rfl, rfl, .inr ⟨b, off, cs, rfl, hcs, by simpa using hm, h1⟩⟩
      · simp at h
    · simp at h
  · simp [exec] at h


theorem exec_storeS {sz : Nat} (h : exec orc (.storeS sz) vals cells sh toks = some out) :
    ∃ b off v cs, vals = [.sptr b off, v] ∧ sh[b]? = some (some cs) ∧ mapB cs = false ∧ (shCells v).length = sz ∧ off + sz ≤ cs.length ∧ (shCells v).all leafS = true ∧ (shCells v).all (refsLt (b + 1)) = true ∧
      out = ⟨.un, none, sh.set b (some (setRange cs off (shCells v))), toks⟩ := by
  rcases vals with _ | ⟨v, _ | ⟨u, _ | ⟨_, _⟩⟩⟩
  · simp [exec] at h
  · cases v <;> simp [exec] at h
  · cases v with
    | sptr b off =>
      simp only [exec] at h
      split at h
      · rename_i cs hcs
        simp only [Option.ite_none_right_eq_some, Option.some.injEq] at h
        obtain ⟨⟨h0, h1, h2, h3, h4⟩, rfl⟩ := h
        exact ⟨b, off, u, cs, rfl, hcs, h0, h1, h2, h3, h4, rfl⟩
      · simp at h
    | _ => simp [exec] at h
  · cases v <;> simp [exec] at h

theorem exec_boxS {sz : Nat} (h : exec orc (.boxS sz) vals cells sh toks = some out) :
    ∃ v, vals = [v] ∧ (shCells v).length = sz ∧ (shCells v).all leafS = true ∧ (shCells v).all (refsLt sh.length) = true ∧ out = ⟨.sptr sh.length 0, none, sh ++ [some (shCells v)], toks⟩ := by
  rcases vals with _ | ⟨v, _ | ⟨u, r⟩⟩
  · simp [exec] at h
  · simp only [exec, Option.ite_none_right_eq_some, Option.some.injEq] at h
    obtain ⟨⟨h1, h2, h3⟩, rfl⟩ := h
    exact ⟨v, rfl, h1, h2, h3, rfl⟩
  · simp [exec] at h

theorem exec_allocS {z : List PV} (h : exec orc (.allocS z) vals cells sh toks = some out) : vals = [] ∧ out = ⟨.sptr sh.length 0, none, sh ++ [some (z.map evV.zeroCell)], toks⟩ := by
  cases vals with
  | nil => simp [exec] at h; exact ⟨rfl, h.symm⟩
  | cons _ _ => simp [exec] at h

theorem exec_makeS {sz by_ : Nat} {ag : Bool} {z : List PV} (h : exec orc (.makeS sz by_ ag z) vals cells sh toks = some out) :
    ∃ k k' n, vals = [.pv (.int k n), .pv (.int k' n)] ∧ 0 ≤ n ∧ n ≤ 9223372036854775807 ∧ n * by_ ≤ 140737488355328 ∧ z.length = sz ∧
      out = ⟨.sarr sh.length sz n.toNat ag, none, sh ++ [some ((List.replicate n.toNat (z.map .pv)).flatten)], toks⟩ := by
  rcases vals with _ | ⟨v, _ | ⟨u, _ | ⟨_, _⟩⟩⟩
  · simp [exec] at h
  · simp [exec] at h
  · cases v with
    | pv p => cases p with
      | int k n => cases u with
        | pv q => cases q with
          | int k' n' =>
            simp only [exec, Option.ite_none_right_eq_some, Option.some.injEq] at h
            obtain ⟨⟨rfl, h1, h2, h3, h4⟩, rfl⟩ := h
            exact ⟨k, k', n, rfl, h1, h2, h3, h4, rfl⟩
          | _ => simp [exec] at h
        | _ => simp [exec] at h
      | _ => simp [exec] at h
    | _ => simp [exec] at h
  · simp [exec] at h

theorem exec_makeM (h : exec orc .makeM vals cells sh toks = some out) : vals = [] ∧ out = ⟨.mref sh.length, none, sh ++ [some [.mapc []]], toks⟩ := by
  cases vals with
  | nil => simp [exec] at h; exact ⟨rfl, h.symm⟩
  | cons _ _ => simp [exec] at h

theorem exec_lookM {c : CK} {ok : Bool} {z : PV} (h : exec orc (.lookM c ok z) vals cells sh toks = some out) :
    ∃ s k kvs r, vals = [.mref s, .pv k] ∧ sh[s]? = some (some [.mapc kvs]) ∧ findKV c kvs k = some r ∧ out = ⟨lookRes ok z r, none, sh, toks⟩ := by
  rcases vals with _ | ⟨v, _ | ⟨u, _ | ⟨_, _⟩⟩⟩
  · simp [exec] at h
  · simp [exec] at h
  · simp only [exec] at h
    split at h
    · rename_i s k
      split at h
      · rename_i kvs hs
        simp only [Option.map_eq_some_iff] at h
        obtain ⟨r, h1, rfl⟩ := h
        exact ⟨s, k, kvs, r, rfl, hs, h1, rfl⟩
      · cases h
    · cases h
  · simp [exec] at h

theorem exec_putM {c : CK} (h : exec orc (.putM c) vals cells sh toks = some out) :
    ∃ s k v kvs p kvs', vals = [.mref s, .pv k, v] ∧ sh[s]? = some (some [.mapc kvs]) ∧ frz [] v = some p ∧ putKV c kvs k p = some kvs' ∧ out = ⟨.un, none, sh.set s (some [.mapc kvs']), toks⟩ := by
  rcases vals with _ | ⟨v, _ | ⟨u, _ | ⟨t, _ | ⟨_, _⟩⟩⟩⟩
  · simp [exec] at h
  · simp [exec] at h
  · simp [exec] at h
  · simp only [exec] at h
    split at h
    · rename_i s k
      split at h
      · rename_i kvs p hs hp
        simp only [Option.map_eq_some_iff] at h
        obtain ⟨r, h1, rfl⟩ := h
        exact ⟨s, k, t, kvs, p, r, rfl, hs, hp, h1, rfl⟩
      · cases h
    · cases h
  · simp [exec] at h

theorem exec_clone {sz by_ : Nat} (h : exec orc (.clone sz by_) vals cells sh toks = some out) :
    ∃ x y ts, vals = [x] ∧ execAppend sz by_ (.clp []) x toks = some (y, ts) ∧ out = ⟨y, none, sh, ts⟩ := by
  rcases vals with _ | ⟨v, _ | ⟨_, _⟩⟩
  · simp [exec] at h
  · simp only [exec, Option.map_eq_some_iff] at h
    obtain ⟨⟨y, ts⟩, h1, rfl⟩ := h
    exact ⟨v, y, ts, rfl, h1, rfl⟩
  · simp [exec] at h

theorem exec_append {sz by_ : Nat} (h : exec orc (.append sz by_) vals cells sh toks = some out) :
    ∃ s x y ts, vals = [s, x] ∧ execAppend sz by_ s x toks = some (y, ts) ∧ out = ⟨y, none, sh, ts⟩ := by
  rcases vals with _ | ⟨v, _ | ⟨u, _ | ⟨_, _⟩⟩⟩
  · simp [exec] at h
  · simp [exec] at h
  · simp only [exec, Option.map_eq_some_iff] at h
    obtain ⟨⟨y, ts⟩, h1, rfl⟩ := h
    exact ⟨v, u, y, ts, rfl, h1, rfl⟩
  · simp [exec] at h

theorem exec_clearS {sz : Nat} {z : List PV} (h : exec orc (.clearS sz z) vals cells sh toks = some out) :
    ∃ x sh', vals = [x] ∧ clearR sz z sh (subOf sz x) = some sh' ∧ out = ⟨.tup [], none, sh', toks⟩ := by
  rcases vals with _ | ⟨v, _ | ⟨u, _⟩⟩
  · simp [exec] at h
  · simp only [exec, Option.map_eq_some_iff] at h
    obtain ⟨sh', h1, rfl⟩ := h
    exact ⟨v, sh', rfl, h1, rfl⟩
  · simp [exec] at h

theorem exec_appendS {sz by_ : Nat} {ag : Bool} (h : exec orc (.appendS sz by_ ag) vals cells sh toks = some out) :
    ∃ s x xs y sh', vals = [s, x] ∧ elsOf x = some xs ∧ headSz sz xs = true ∧ appS sz by_ ag s xs sh toks = some (y, sh') ∧ out = ⟨y, none, sh', toks⟩ := by
  rcases vals with _ | ⟨v, _ | ⟨u, _ | ⟨_, _⟩⟩⟩
  · simp [exec] at h
  · simp [exec] at h
  · simp only [exec] at h
    split at h
    · rename_i xs hxs
      simp only [Option.ite_none_right_eq_some, Option.map_eq_some_iff] at h
      obtain ⟨h0, ⟨y, sh'⟩, h1, rfl⟩ := h
      exact ⟨v, u, xs, y, sh', rfl, hxs, h0, h1, rfl⟩
    · simp at h
  · simp [exec] at h

end
end Go.Ab
