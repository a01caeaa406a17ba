/-
  Written rules have their tokens; what Parse makes of them, and of texts with gaps. No program in sight.
-/
import Derived.Test.YtoodmhlefaepaaaGreatPlainD
namespace Go.Proofs.PlRule
open Go Go.Proofs.PlLex

/-- A text whose tokens are c, before m. -/
def Sc (l : L) (c : Ct) (m : L) : Prop := ∀ off, ∃ ts off', scan 0 off (l ++ m) = (ts ++ (scan 0 off' m).1, (scan 0 off' m).2) ∧ strip ts = c
theorem sc_nil (m : L) : Sc [] [] m := fun off => ⟨[], off, rfl, rfl⟩
theorem sc_tok {k : Nat} {t m : L} (hv : validTok k t) (hs : stops k m) : Sc (wr k t) [(k, t)] m := fun off => ⟨[⟨k, t, off⟩], _, scan_wr off k t m hv hs, rfl⟩
theorem sc_gap {g m : L} (h : gapE false g = some false) : Sc g [] m := fun off => ⟨[], off + g.length, by rw [scan_gap off g m h]; rfl, rfl⟩
theorem sc_app {l l' m : L} {c c' : Ct} (h : Sc l c (l' ++ m)) (h' : Sc l' c' m) : Sc (l ++ l') (c ++ c') m := by
  intro off
  obtain ⟨ts, o1, e1, e2⟩ := h off
  obtain ⟨us, o2, e3, e4⟩ := h' o1
  refine ⟨ts ++ us, o2, ?_, by rw [strip_app, e2, e4]⟩
  rw [List.append_assoc, e1, e3, List.append_assoc]
theorem sc_word {s : L} (hs : name s = true) (m : L) : Sc (s ++ [32]) [(1, s)] m :=
  sc_app (c := [(1, s)]) (c' := []) (sc_tok (k := 1) (.inl ⟨rfl, hs⟩) (by intro _ c r e; cases e; rfl)) (sc_gap rfl)
theorem sc_name {s : L} (hs : name s = true) {m : L} (hm : ∀ c r, m = c :: r → isWord c = false) : Sc s [(1, s)] m :=
  sc_tok (k := 1) (.inl ⟨rfl, hs⟩) (fun _ c r e => hm c r e)
theorem sc_str (s m : L) : Sc (quote s) [(3, s)] m := sc_tok (k := 3) (.inr (.inr (.inl rfl))) (fun h => by rcases h with h | h <;> cases h)
theorem sc_sym {c : B} (hc : isSym c = true) (m : L) : Sc [c] [(4, [c])] m := sc_tok (k := 4) (.inr (.inr (.inr ⟨rfl, c, rfl, hc⟩))) (fun h => by rcases h with h | h <;> cases h)
theorem sc_join (vs : List BA) (h : vs ≠ []) (m : L) : Sc (joinC (vs.map (fun s => quote (tx s)))) (cVals vs) m := by
  induction vs with
  | nil => exact absurd rfl h
  | cons s vs ih =>
    cases vs with
    | nil => exact sc_str (tx s) m
    | cons s2 vs =>
      have h2 := ih (by simp)
      have e : cVals (s :: s2 :: vs) = [(3, tx s)] ++ ([(4, [44])] ++ ([] ++ cVals (s2 :: vs))) := rfl
      rw [e]
      show Sc (quote (tx s) ++ ([44] ++ ([32] ++ joinC ((s2 :: vs).map (fun s => quote (tx s)))))) _ m
      exact sc_app (sc_str _ _) (sc_app (sc_sym rfl _) (sc_app (sc_gap rfl) h2))
theorem sc_rule {x : Rl} (g : GdR x) (m : L) : Sc (writeR x) (canT x) m := by
  have hk := kindT_ne g.kind
  unfold writeR canT
  refine sc_app ?_ (sc_app ?_ ?_)
  · unfold wrMust cMust
    cases x.strict with
    | true => exact sc_word (by decide) _
    | false => exact sc_nil _
  · unfold wrIn cIn
    by_cases ha : x.area.size = 0
    · rw [if_pos ha, if_pos ha]; exact sc_nil _
    · rw [if_neg ha, if_neg ha]
      have := fun m => sc_app (l := wIn ++ [32]) (l' := tx x.area ++ [32]) (m := m) (c := [(1, wIn)]) (c' := [(1, tx x.area)]) (sc_word (by decide) _) (sc_word (g.area ha) _)
      have := this (kindT x.kind ++ ([32] ++ (wrIf x ++ (wrOp x ++ [59, 10]))) ++ m)
      rw [List.append_assoc] at this
      exact this
  · have e : kindT x.kind ++ ([32] ++ (wrIf x ++ (wrOp x ++ [59, 10]))) = (kindT x.kind ++ [32]) ++ (wrIf x ++ (wrOp x ++ [59, 10])) := by rw [List.append_assoc]
    rw [e]
    refine sc_app (c := [(1, kindT x.kind)]) (sc_word hk.2.2.2 _) (sc_app ?_ (sc_app ?_ ?_))
    · unfold wrIf cIf
      rcases g.ifs with ⟨ha, _⟩ | ⟨ha, _⟩
      · rw [if_pos ha, if_pos ha]; exact sc_nil _
      · rw [if_neg (name_size ha), if_neg (name_size ha)]
        have := fun m => sc_app (l := wWhere ++ [32]) (l' := (tx x.ik ++ [32]) ++ ([61] ++ ([32] ++ (quote (tx x.iv) ++ [32])))) (m := m) (c := [(1, wWhere)]) (c' := [(1, tx x.ik)] ++ ([(4, [61])] ++ ([] ++ ([(3, tx x.iv)] ++ [])))) (sc_word (by decide) _)
          (sc_app (sc_word ha _) (sc_app (sc_sym rfl _) (sc_app (sc_gap rfl) (sc_app (sc_str _ _) (sc_gap rfl)))))
        have := this ((wrOp x ++ [59, 10]) ++ m)
        have e2 : wWhere ++ ([32] ++ (tx x.ik ++ ([32, 61, 32] ++ (quote (tx x.iv) ++ [32])))) = (wWhere ++ [32]) ++ ((tx x.ik ++ [32]) ++ ([61] ++ ([32] ++ (quote (tx x.iv) ++ [32])))) := by simp
        rw [e2]
        exact this
    · have hsep : ∀ (m : L) c r, ([59, 10] : L) ++ m = c :: r → isWord c = false := by intro m c r e; cases e; rfl
      unfold wrOp cOp
      rcases g.op with ⟨h6, h7, _⟩ | ⟨h6 | h6, h7⟩
      · rw [if_neg (by omega), if_neg (by omega), if_neg (by omega), if_neg (by omega)]
        have e2 : ∀ j : L, wHas ++ ([32] ++ (tx x.key ++ ([32] ++ (wOf ++ ([32] ++ j))))) = (wHas ++ [32]) ++ ((tx x.key ++ [32]) ++ ((wOf ++ [32]) ++ j)) := fun j => by simp
        rw [e2]
        exact sc_app (c := [(1, wHas)]) (sc_word (by decide) _) (sc_app (c := [(1, tx x.key)]) (sc_word g.key _) (sc_app (c := [(1, wOf)]) (sc_word (by decide) _) (sc_join _ (fun e => by rw [e] at h7; simp at h7) _)))
      · rw [if_pos h6, if_pos h6, ← List.append_assoc]
        exact sc_app (c := [(1, wNeeds)]) (sc_word (by decide) _) (sc_name g.key (hsep m))
      · rw [if_neg (by omega), if_pos h6, if_neg (by omega), if_pos h6, ← List.append_assoc]
        exact sc_app (c := [(1, wNo)]) (sc_word (by decide) _) (sc_name g.key (hsep m))
    · exact sc_app (l := [59]) (l' := [10]) (c := [(4, [59])]) (c' := []) (sc_sym rfl _) (sc_gap rfl)
theorem scan_rules (l : List Rl) (h : ∀ x ∈ l, GdR x) : ∀ off, strip (scan 0 off (writeL l)).1 = canL l ∧ (scan 0 off (writeL l)).2 = none := by
  induction l with
  | nil => intro off; exact ⟨rfl, rfl⟩
  | cons x l ih =>
    intro off
    obtain ⟨ts, o1, e1, e2⟩ := sc_rule (h x (List.mem_cons_self ..)) (writeL l) off
    obtain ⟨e3, e4⟩ := ih (fun y hy => h y (List.mem_cons_of_mem _ hy)) o1
    have e : writeL (x :: l) = writeR x ++ writeL l := by unfold writeL; rw [List.flatMap_cons]
    rw [e, e1]
    refine ⟨?_, e4⟩
    rw [strip_app, e2, e3]
    unfold canL
    rw [List.flatMap_cons]
/-! What Parse returns. -/
theorem parse_lex_err {l : L} {e : Nat} {n : Int} (h : lex l = ([], e, n)) (he : e ≠ 0) : parseL l = ([], e, n) := by
  unfold parseL
  rw [h]
  exact if_neg he
theorem parse_lex_ok {l : L} {ts : List Tok} (h : lex l = (ts, 0, 0)) : parseL l = match rulesR (ts.length + 1) [] ts with
    | .ok x => (x, 0, 0)
    | .error e => ([], errAt l.length e) := by
  unfold parseL
  rw [h]
  exact if_pos rfl
theorem parse_of {l : L} {xs : List Rl} (hg : ∀ x ∈ xs, GdR x) (h1 : l.length ≤ 20000) (h2 : (scan 0 0 l).2 = none) (h3 : strip (scan 0 0 l).1 = canL xs) (h4 : (canL xs).length ≤ 5000) (h5 : xs.length ≤ 200) : parseL l = (xs, 0, 0) := by
  have hn : (scan 0 0 l).1.length = (canL xs).length := by rw [← h3, strip_len]
  have hl := lex_few l h1 (by omega)
  rw [h2] at hl
  replace hl : lex l = ((scan 0 0 l).1, 0, 0) := hl
  have hc : xs.length ≤ (canL xs).length := by
    clear hg h3 h4 h5 hn hl
    induction xs with
    | nil => exact Nat.le_refl _
    | cons x xs ih =>
      have : (canT x).length ≠ 0 := fun e => canT_pos x (List.length_eq_zero_iff.1 e)
      unfold canL at ih ⊢
      rw [List.flatMap_cons, List.length_append, List.length_cons]
      omega
  rw [parse_lex_ok hl, rules_read xs _ [] _ hg h3 (by omega) (by simpa using h5)]
  rfl
theorem parse_text {l : List Rl} (h : validL l = true) (h1 : (writeL l).length ≤ 20000) (h2 : (canL l).length ≤ 5000) : parseL (writeL l) = (l, 0, 0) := by
  unfold validL at h
  rw [Bool.and_eq_true, decide_eq_true_eq, List.all_eq_true] at h
  have hg : ∀ x ∈ l, GdR x := fun x hx => gdR.1 (h.2 x hx)
  obtain ⟨e1, e2⟩ := scan_rules l hg 0
  exact parse_of hg h1 e2 e1 h2 h.1
theorem cVals_len (vs : List BA) : (cVals vs).length ≤ 2 * vs.length := by
  have hm : ∀ vs : List BA, (cMore vs).length = 2 * vs.length := by
    intro vs
    induction vs with
    | nil => rfl
    | cons s vs ih => simp only [cMore, List.length_cons, ih]; omega
  cases vs with
  | nil => exact Nat.le_refl _
  | cons s vs => simp only [cVals, List.length_cons, hm]; omega
theorem canT_len {x : Rl} (h : x.vals.length ≤ 60) : (canT x).length ≤ 140 := by
  have h1 := cVals_len x.vals
  unfold canT cMust cIn cIf cOp
  simp only [List.length_append, List.length_cons, List.length_nil]
  split <;> split <;> split <;> split <;> (try split) <;> simp only [List.length_cons, List.length_nil] <;> omega
theorem canL_len {l : List Rl} (h : ∀ x ∈ l, x.vals.length ≤ 60) : (canL l).length ≤ 140 * l.length := by
  induction l with
  | nil => exact Nat.le_refl _
  | cons x l ih =>
    have h1 := canT_len (h x (List.mem_cons_self ..))
    have h2 := ih (fun y hy => h y (List.mem_cons_of_mem _ hy))
    unfold canL at h2 ⊢
    rw [List.flatMap_cons, List.length_append, List.length_cons]
    omega
theorem gd_many {x : Rl} (g : GdR x) : x.vals.length ≤ 60 := by
  rcases g.op with ⟨_, _, h⟩ | ⟨_, h⟩
  · exact h
  · rw [h]; exact Nat.zero_le _
/-! Errors have numbers. -/
def Ek {α : Type} (x : Res α) : Prop := ∀ e, x = .error e → e.1 ≠ 0
theorem Ek.ok {α : Type} (a : α) : Ek (.ok a : Res α) := fun _ h => nomatch h
theorem Ek.er {α : Type} {n : Nat} (r : List Tok) (h : n ≠ 0) : Ek (.error (n, r) : Res α) := fun e h' => by cases h'; exact h
theorem Ek.bnd {α β : Type} {x : Res α} {f : α → Res β} (h : Ek x) (hf : ∀ a, Ek (f a)) : Ek (bnd x f) := by
  cases x with
  | error e => intro e' h'; cases h'; exact h e rfl
  | ok a => exact hf a
theorem take_ek (k : Nat) (r : List Tok) : Ek (takeT k r) := by
  cases r with
  | nil => exact Ek.er _ (by decide)
  | cons t r =>
    show Ek (if t.kind = k then (if k = 3 ∧ valueL t.text = false then (.error (10, t :: r) : Res (L × List Tok)) else .ok (t.text, r)) else .error (5, t :: r))
    split
    · split
      · exact Ek.er _ (by decide)
      · exact Ek.ok _
    · exact Ek.er _ (by decide)
theorem symbol_ek (s : L) (r : List Tok) : Ek (symbolT s r) := by
  unfold symbolT
  split
  · exact Ek.er _ (by decide)
  · exact Ek.ok _
theorem more_ek (f : Nat) : ∀ (l : List BA) (r : List Tok), Ek (moreT f l r) := by
  induction f with
  | zero => intro l r; exact Ek.ok _
  | succ f ih =>
    intro l r
    unfold moreT
    split
    · exact Ek.ok _
    · split
      · exact Ek.er _ (by decide)
      · exact (take_ek 3 _).bnd (fun a => ih _ _)
theorem rule_ek (r : List Tok) : Ek (ruleR r) := by
  unfold ruleR
  refine Ek.bnd ?_ (fun a => Ek.bnd ?_ (fun k => Ek.bnd ?_ (fun i => Ek.bnd ?_ (fun o => Ek.bnd (symbol_ek _ _) (fun z => Ek.ok _)))))
  · unfold inR
    split
    · exact Ek.ok _
    · exact (take_ek 1 _).bnd (fun a => Ek.ok _)
  · unfold kindR
    split
    · exact Ek.er _ (by decide)
    · exact Ek.ok _
  · unfold ifR
    split
    · exact Ek.ok _
    · exact (take_ek 1 _).bnd (fun a => (symbol_ek _ _).bnd (fun b => (take_ek 3 _).bnd (fun c => Ek.ok _)))
  · unfold opR
    split
    · exact (take_ek 1 _).bnd (fun a => Ek.ok _)
    · split
      · exact (take_ek 1 _).bnd (fun a => Ek.ok _)
      · split
        · refine (take_ek 1 _).bnd (fun a => Ek.bnd ?_ (fun b => Ek.bnd ((take_ek 3 _).bnd (fun c => more_ek _ _ _)) (fun c => Ek.ok _)))
          unfold ofR
          split
          · exact Ek.er _ (by decide)
          · exact Ek.ok _
        · exact Ek.er _ (by decide)
theorem rules_ek (f : Nat) : ∀ (l : List Rl) (r : List Tok), Ek (rulesR f l r) := by
  induction f with
  | zero => intro l r; exact Ek.ok _
  | succ f ih =>
    intro l r
    rw [rulesR_one]
    split
    · exact Ek.ok _
    · split
      · exact Ek.er _ (by decide)
      · exact (rule_ek r).bnd (fun a => ih _ _)
theorem err_ne (n : Nat) (x : Nat × List Tok) (h : x.1 ≠ 0) : (errAt n x).1 ≠ 0 := by
  obtain ⟨k, r⟩ := x
  cases r with
  | nil => exact (by decide : (6 : Nat) ≠ 0)
  | cons t r => exact h
/-- What comes with an error: no rules. -/
theorem parse_none {l : L} (h : (parseL l).2.1 ≠ 0) : (parseL l).1 = [] := by
  unfold parseL at h ⊢
  split
  · rename_i h0
    rw [if_pos h0] at h
    split
    · rename_i x hx
      rw [hx] at h
      exact absurd rfl h
    · rfl
  · rfl
/-- What is parsed is valid. -/
theorem parse_good {l : L} (h : (parseL l).2.1 = 0) : ∃ xs, rulesR ((lex l).1.length + 1) [] (lex l).1 = .ok xs ∧ (lex l).2.1 = 0 ∧ parseL l = (xs, 0, 0) ∧ (∀ x ∈ xs, GdR x) ∧ strip (lex l).1 = canL xs ∧ xs.length ≤ 200 := by
  unfold parseL at h
  split at h
  · rename_i h0
    split at h
    · rename_i xs hx
      obtain ⟨ys, e1, e2, e3, e4⟩ := rules_can _ _ _ _ hx (by omega) (lex_valid l) (by simp)
      rw [List.nil_append] at e1
      subst e1
      refine ⟨xs, hx, h0, ?_, e2, e3, e4⟩
      unfold parseL
      rw [if_pos h0, hx]
    · rename_i e he
      exact absurd h (err_ne _ _ (rules_ek _ _ _ e he))
  · rename_i h0
    exact absurd h h0
theorem parse_valid {l : L} (h : (parseL l).2.1 = 0) : validL (parseL l).1 = true ∧ (canL (parseL l).1).length ≤ 5000 ∧ (parseL l).2.2 = 0 := by
  obtain ⟨xs, _, _, e, hg, hs, hn⟩ := parse_good h
  rw [e]
  refine ⟨?_, ?_, rfl⟩
  · unfold validL
    rw [Bool.and_eq_true, decide_eq_true_eq, List.all_eq_true]
    exact ⟨hn, fun x hx => gdR.2 (hg x hx)⟩
  · show (canL xs).length ≤ 5000
    rw [← hs, strip_len]
    unfold lex
    split
    · exact Nat.zero_le _
    · split
      · exact Nat.zero_le _
      · split
        · exact Nat.zero_le _
        · simp only; omega
/-! The law of gaps. -/
theorem errAt_shift (n d : Nat) (e : Nat × List Tok) : errAt (n + d) (e.1, shift d e.2) = ((errAt n e).1, (errAt n e).2 + d) := by
  unfold errAt
  obtain ⟨k, r⟩ := e
  cases r with
  | nil => simp [shift]
  | cons t r => simp [shift]
theorem gaps_front (g two : L) (hg : gaps g = true) (h1 : g.length ≤ 300) (h2 : two.length ≤ 2000) :
    (parseL (g ++ 10 :: two)).1 = (parseL two).1 ∧ (parseL (g ++ 10 :: two)).2.1 = (parseL two).2.1 ∧ ((parseL two).2.1 ≠ 0 → (parseL (g ++ 10 :: two)).2.2 = (parseL two).2.2 + (g.length + 1 : Nat)) := by
  have hs := scan_line 0 g two ((gaps_iff g).1 hg)
  rw [show 0 + g.length + 1 = 0 + (g.length + 1) by omega, scan_shift] at hs
  have hlen : (g ++ 10 :: two).length = two.length + (g.length + 1) := by simp; omega
  have l1 := lex_small two (by omega)
  have l2 := lex_small (g ++ 10 :: two) (by omega)
  rw [hs] at l2
  generalize hd : g.length + 1 = d at *
  cases hr : (scan 0 0 two).2 with
  | some e =>
    have h3 := (scan_error 0 two e.1 e.2 hr).1
    obtain ⟨e, n⟩ := e
    rw [hr] at l1 l2
    have h4 : e ≠ 0 := by
      intro h
      simp only at h3
      omega
    replace l1 : lex two = ([], e, (n : Int)) := l1
    replace l2 : lex (g ++ 10 :: two) = ([], e, ((n + d : Nat) : Int)) := l2
    rw [parse_lex_err l1 h4, parse_lex_err l2 h4]
    exact ⟨rfl, rfl, fun _ => by simp⟩
  | none =>
    rw [hr] at l1 l2
    replace l1 : lex two = ((scan 0 0 two).1, 0, 0) := l1
    replace l2 : lex (g ++ 10 :: two) = (shift d (scan 0 0 two).1, 0, 0) := l2
    rw [parse_lex_ok l1, parse_lex_ok l2, shift_len, rules_shift]
    cases hx : rulesR ((scan 0 0 two).1.length + 1) [] (scan 0 0 two).1 with
    | ok x => exact ⟨rfl, rfl, fun h => absurd rfl h⟩
    | error e =>
      show ([] : List Rl) = [] ∧ (errAt (g ++ 10 :: two).length (e.1, shift d e.2)).1 = _ ∧ (_ → (errAt (g ++ 10 :: two).length (e.1, shift d e.2)).2 = _)
      rw [hlen, errAt_shift]
      exact ⟨rfl, rfl, fun _ => rfl⟩
theorem gaps_both (g one two : L) (hg : gaps g = true) (h0 : g.length ≤ 300) (h1 : one.length ≤ 2000) (h2 : two.length ≤ 2000) (e1 : (parseL one).2.1 = 0) (e2 : (parseL two).2.1 = 0) (hn : (parseL one).1.length + (parseL two).1.length ≤ 200) :
    parseL (one ++ 10 :: (g ++ 10 :: (two ++ 10 :: g))) = ((parseL one).1 ++ (parseL two).1, 0, 0) := by
  have hg' := (gaps_iff g).1 hg
  obtain ⟨xs, _, a2, a3, a4, a5, a6⟩ := parse_good e1
  obtain ⟨ys, _, b2, b3, b4, b5, b6⟩ := parse_good e2
  rw [a3, b3] at hn ⊢
  replace hn : xs.length + ys.length ≤ 200 := hn
  have l1 := lex_small one (by omega)
  have l2 := lex_small two (by omega)
  have s1 : (scan 0 0 one).2 = none := by
    cases hr : (scan 0 0 one).2 with
    | none => rfl
    | some e =>
      have h3 := (scan_error 0 one e.1 e.2 hr).1
      rw [l1, hr] at a2
      replace a2 : e.1 = 0 := a2
      omega
  have s2 : (scan 0 0 two).2 = none := by
    cases hr : (scan 0 0 two).2 with
    | none => rfl
    | some e =>
      have h3 := (scan_error 0 two e.1 e.2 hr).1
      rw [l2, hr] at b2
      replace b2 : e.1 = 0 := b2
      omega
  rw [l1, s1] at a5
  rw [l2, s2] at b5
  replace a5 : strip (scan 0 0 one).1 = canL xs := a5
  replace b5 : strip (scan 0 0 two).1 = canL ys := b5
  have s3 : ∀ o, (scan 0 o (g ++ 10 :: (two ++ 10 :: g))).2 = none ∧ strip (scan 0 o (g ++ 10 :: (two ++ 10 :: g))).1 = canL ys := by
    intro o
    obtain ⟨q1, q2⟩ := strip_scan (o + g.length + 1) 0 two
    rw [scan_line o g _ hg', scan_parts _ _ _ (q2.2 s2), scan_gaps _ g hg']
    exact ⟨rfl, by rw [List.append_nil, q1, b5]⟩
  have hlen : (one ++ 10 :: (g ++ 10 :: (two ++ 10 :: g))).length ≤ 5000 := by simp; omega
  have hsc := scan_parts 0 one (g ++ 10 :: (two ++ 10 :: g)) s1
  obtain ⟨q3, q4⟩ := s3 (0 + one.length + 1)
  have hst : strip (scan 0 0 (one ++ 10 :: (g ++ 10 :: (two ++ 10 :: g)))).1 = canL (xs ++ ys) := by
    rw [hsc, strip_app, a5, q4]
    unfold canL
    rw [List.flatMap_append]
  refine parse_of (fun x hx => ?_) (by omega) (by rw [hsc]; exact q3) hst ?_ (by rw [List.length_append]; exact hn)
  · rcases List.mem_append.1 hx with hx | hx
    · exact a4 x hx
    · exact b4 x hx
  · have := scan_sizes 0 (one ++ 10 :: (g ++ 10 :: (two ++ 10 :: g)))
    rw [← hst, strip_len]
    omega
end Go.Proofs.PlRule
