/-
  The tokens of a rule: what is written has them, what is read had them. No program in sight.
-/
import Derived.Test.YtoodmhlefaepaaaGreatPlainB
namespace Go.Proofs.PlRule
open Go Go.Proofs.PlLex

abbrev Ct := List (Nat × L)
def cMust (x : Rl) : Ct := if x.strict then [(1, wMust)] else []
def cIn (x : Rl) : Ct := if x.area.size = 0 then [] else [(1, wIn), (1, tx x.area)]
def cIf (x : Rl) : Ct := if x.ik.size = 0 then [] else [(1, wWhere), (1, tx x.ik), (4, [61]), (3, tx x.iv)]
def cMore : List BA → Ct
  | [] => []
  | s :: r => (4, [44]) :: (3, tx s) :: cMore r
def cVals : List BA → Ct
  | [] => []
  | s :: r => (3, tx s) :: cMore r
def cOp (x : Rl) : Ct := if x.op = 1 then [(1, wNeeds), (1, tx x.key)] else if x.op = 3 then [(1, wNo), (1, tx x.key)] else (1, wHas) :: (1, tx x.key) :: (1, wOf) :: cVals x.vals
def canT (x : Rl) : Ct := cMust x ++ (cIn x ++ ((1, kindT x.kind) :: (cIf x ++ (cOp x ++ [(4, [59])]))))
def canL (l : List Rl) : Ct := l.flatMap canT

theorem strip_cons {r : List Tok} {k : Nat} {s : L} {m : Ct} (h : strip r = (k, s) :: m) : ∃ t r', r = t :: r' ∧ t.kind = k ∧ t.text = s ∧ strip r' = m := by
  cases r with
  | nil => cases h
  | cons t r =>
    simp only [strip, List.map_cons, List.cons.injEq, Prod.mk.injEq] at h
    exact ⟨t, r, rfl, h.1.1, h.1.2, h.2⟩
theorem strip_len (r : List Tok) : (strip r).length = r.length := by simp [strip]
theorem strip_app (a b : List Tok) : strip (a ++ b) = strip a ++ strip b := by simp [strip]
theorem accept_yes {r : List Tok} {k : Nat} {s : L} {m : Ct} (h : strip r = (k, s) :: m) : ∃ r', acceptT k s r = some r' ∧ strip r' = m := by
  obtain ⟨t, r', rfl, h1, h2, h3⟩ := strip_cons h
  exact ⟨r', if_pos ⟨h1, h2⟩, h3⟩
theorem accept_no {r : List Tok} {k k' : Nat} {s s' : L} {m : Ct} (h : strip r = (k', s') :: m) (hn : ¬ (k' = k ∧ s' = s)) : acceptT k s r = none := by
  obtain ⟨t, r', rfl, h1, h2, h3⟩ := strip_cons h
  exact if_neg (by rw [h1, h2]; exact hn)
theorem take_name {r : List Tok} {s : L} {m : Ct} (h : strip r = (1, s) :: m) : ∃ r', takeT 1 r = .ok (s, r') ∧ strip r' = m := by
  obtain ⟨t, r', rfl, h1, h2, h3⟩ := strip_cons h
  refine ⟨r', ?_, h3⟩
  show (if t.kind = 1 then (if (1 : Nat) = 3 ∧ valueL t.text = false then (.error (10, t :: r') : Res (L × List Tok)) else .ok (t.text, r')) else .error (5, t :: r')) = _
  rw [if_pos h1, if_neg (fun e => absurd e.1 (by decide)), h2]
theorem take_str {r : List Tok} {s : L} {m : Ct} (h : strip r = (3, s) :: m) (hv : valueL s = true) : ∃ r', takeT 3 r = .ok (s, r') ∧ strip r' = m := by
  obtain ⟨t, r', rfl, h1, h2, h3⟩ := strip_cons h
  refine ⟨r', ?_, h3⟩
  show (if t.kind = 3 then (if (3 : Nat) = 3 ∧ valueL t.text = false then (.error (10, t :: r') : Res (L × List Tok)) else .ok (t.text, r')) else .error (5, t :: r')) = _
  rw [if_pos h1, h2, if_neg (by rw [hv]; simp)]
theorem symbol_yes {r : List Tok} {s : L} {m : Ct} (h : strip r = (4, s) :: m) : ∃ r', symbolT s r = .ok r' ∧ strip r' = m := by
  obtain ⟨r', h1, h2⟩ := accept_yes h
  exact ⟨r', by unfold symbolT; rw [h1], h2⟩
theorem more_read (vs : List BA) (m : Ct) : ∀ (f : Nat) (l : List BA) (r : List Tok), strip r = cMore vs ++ (4, [59]) :: m → vs.length < f → l.length + vs.length ≤ 60 → (∀ s ∈ vs, valueL (tx s) = true) →
    ∃ r', moreT f l r = .ok (l ++ vs, r') ∧ strip r' = (4, [59]) :: m := by
  induction vs with
  | nil =>
    intro f l r h hf hl hv
    cases f with
    | zero => simp at hf
    | succ f =>
      refine ⟨r, ?_, h⟩
      rw [more_succ, accept_no h (by decide), List.append_nil]
  | cons s vs ih =>
    intro f l r h hf hl hv
    cases f with
    | zero => simp at hf
    | succ f =>
      obtain ⟨r1, h1, h2⟩ := accept_yes (m := (3, tx s) :: (cMore vs ++ (4, [59]) :: m)) (by rw [h]; rfl)
      obtain ⟨r2, h3, h4⟩ := take_str h2 (hv s (List.mem_cons_self ..))
      simp only [List.length_cons] at hf hl
      obtain ⟨r3, h5, h6⟩ := ih f (l ++ [s]) r2 h4 (by omega) (by rw [List.length_append, List.length_cons, List.length_nil]; omega) (fun y hy => hv y (List.mem_cons_of_mem _ hy))
      refine ⟨r3, ?_, h6⟩
      rw [more_succ, h1]
      show (if l.length = 60 ∧ isStr r1 = true then (.error (2, r1) : Res (List BA × List Tok)) else bnd (takeT 3 r1) (fun p => moreT f (l ++ [ba p.1]) p.2)) = _
      rw [if_neg (fun e => by omega), h3]
      show moreT f (l ++ [ba (tx s)]) r2 = _
      rw [ba_tx, h5, List.append_assoc]
      rfl
theorem cMore_len (vs : List BA) : vs.length ≤ (cMore vs).length := by
  induction vs with
  | nil => exact Nat.le_refl _
  | cons s vs ih => simp only [cMore, List.length_cons]; omega
theorem vals_read {vs : List BA} {m : Ct} {r : List Tok} (h : strip r = cVals vs ++ (4, [59]) :: m) (h1 : 1 ≤ vs.length) (hl : vs.length ≤ 60) (hv : ∀ s ∈ vs, valueL (tx s) = true) :
    ∃ r', valuesT r = .ok (vs, r') ∧ strip r' = (4, [59]) :: m := by
  cases vs with
  | nil => simp at h1
  | cons s vs =>
    obtain ⟨r1, h3, h4⟩ := take_str (m := cMore vs ++ (4, [59]) :: m) (by rw [h]; rfl) (hv s (List.mem_cons_self ..))
    have hlen : vs.length < r1.length + 1 := by
      have := congrArg List.length h4
      rw [strip_len, List.length_append, List.length_cons] at this
      have := cMore_len vs
      omega
    simp only [List.length_cons] at hl
    obtain ⟨r2, h5, h6⟩ := more_read vs m (r1.length + 1) [s] r1 h4 hlen (by simp only [List.length_cons, List.length_nil]; omega) (fun y hy => hv y (List.mem_cons_of_mem _ hy))
    refine ⟨r2, ?_, h6⟩
    unfold valuesT
    rw [h3]
    show moreT (r1.length + 1) [ba (tx s)] r1 = _
    rw [ba_tx, h5]
    rfl
theorem kind_read {k : Int} {m : Ct} {r : List Tok} (hk : 0 ≤ k ∧ k ≤ 5) (h : strip r = (1, kindT k) :: m) : ∃ r', kindR r = .ok (k, r') ∧ strip r' = m := by
  obtain ⟨t, r', rfl, h1, h2, h3⟩ := strip_cons h
  refine ⟨r', ?_, h3⟩
  have key : ∀ w, acceptT 1 w (t :: r') = if w = kindT k then some r' else none := by
    intro w
    show (if t.kind = 1 ∧ t.text = w then some r' else none) = _
    rw [h1, h2]
    by_cases e : kindT k = w
    · rw [if_pos ⟨rfl, e⟩, if_pos e.symm]
    · rw [if_neg (fun h => e h.2), if_neg (fun h => e h.symm)]
  unfold kindR kindW
  obtain rfl | rfl | rfl | rfl | rfl | rfl : k = 0 ∨ k = 1 ∨ k = 2 ∨ k = 3 ∨ k = 4 ∨ k = 5 := by omega
  all_goals (simp only [idxT, key, kindT, kindW]; rfl)
/-- What a valid rule has. -/
structure GdR (x : Rl) : Prop where
  area : x.area.size ≠ 0 → name (tx x.area) = true
  kind : 0 ≤ x.kind ∧ x.kind ≤ 5
  key : name (tx x.key) = true
  ifs : (x.ik.size = 0 ∧ x.iv.size = 0) ∨ (name (tx x.ik) = true ∧ valueL (tx x.iv) = true)
  op : (x.op = 2 ∧ 1 ≤ x.vals.length ∧ x.vals.length ≤ 60) ∨ ((x.op = 1 ∨ x.op = 3) ∧ x.vals = [])
  vals : ∀ s ∈ x.vals, valueL (tx s) = true
theorem valueB_tx (s : BA) : valueB s = valueL (tx s) := by
  unfold valueB valueL
  have e : (tx s).length = s.size := rfl
  rw [e]
  by_cases h : s.size = 0
  · rw [decide_eq_false (fun hn => hn h)]
    cases hx : tx s with
    | nil => rfl
    | cons a b => rw [hx] at e; simp at e; omega
  · rw [decide_eq_true h]
    cases hx : tx s with
    | nil => rw [hx] at e; simp at e; omega
    | cons a b => rfl
theorem gdR {x : Rl} : validR x = true ↔ GdR x := by
  unfold validR areaOk ifOk opOk nameB
  simp only [Bool.and_eq_true, Bool.or_eq_true, decide_eq_true_eq, List.all_eq_true, valueB_tx]
  constructor
  · rintro ⟨h1, h2, h3, h4, h5, h6, h7⟩
    refine ⟨fun h => h1.resolve_left h, ⟨h2, h3⟩, h4, h5, ?_, h7⟩
    split at h6
    · rename_i h
      rw [Bool.and_eq_true, decide_eq_true_eq, decide_eq_true_eq] at h6
      exact .inl ⟨h, h6⟩
    · rw [Bool.and_eq_true, Bool.or_eq_true, decide_eq_true_eq, decide_eq_true_eq, decide_eq_true_eq] at h6
      exact .inr ⟨h6.1, List.length_eq_zero_iff.1 h6.2⟩
  · rintro ⟨h1, ⟨h2, h3⟩, h4, h5, h6, h7⟩
    refine ⟨?_, h2, h3, h4, h5, ?_, h7⟩
    · by_cases h : x.area.size = 0
      · exact .inl h
      · exact .inr (h1 h)
    · rcases h6 with ⟨h, h8, h9⟩ | ⟨h, h8⟩
      · rw [if_pos h, Bool.and_eq_true, decide_eq_true_eq, decide_eq_true_eq]
        exact ⟨h8, h9⟩
      · rw [if_neg (by omega), Bool.and_eq_true, Bool.or_eq_true, decide_eq_true_eq, decide_eq_true_eq, decide_eq_true_eq]
        exact ⟨h, by rw [h8]; rfl⟩
theorem name_size {s : BA} (h : name (tx s) = true) : s.size ≠ 0 := by
  intro e
  have e2 : (tx s).length = s.size := rfl
  have : tx s = [] := List.length_eq_zero_iff.1 (by rw [e2, e])
  rw [this] at h
  cases h
theorem value_size {s : BA} (h : valueL (tx s) = true) : s.size ≠ 0 := by
  intro e
  have e2 : (tx s).length = s.size := rfl
  have : tx s = [] := List.length_eq_zero_iff.1 (by rw [e2, e])
  rw [this] at h
  cases h
theorem kindT_ne {k : Int} (hk : 0 ≤ k ∧ k ≤ 5) : kindT k ≠ wMust ∧ kindT k ≠ wIn ∧ kindT k ≠ [] ∧ name (kindT k) = true := by
  obtain rfl | rfl | rfl | rfl | rfl | rfl : k = 0 ∨ k = 1 ∨ k = 2 ∨ k = 3 ∨ k = 4 ∨ k = 5 := by omega
  all_goals (exact ⟨by decide, by decide, by decide, by decide⟩)
theorem ba_empty {s : BA} (h : s.size = 0) : s = ba [] := by
  have e2 : (tx s).length = s.size := rfl
  rw [← ba_tx s, List.length_eq_zero_iff.1 (by rw [e2, h] : (tx s).length = 0)]
/-- The tokens of a rule are read as the rule. -/
theorem rule_read {x : Rl} (g : GdR x) {m : Ct} {r : List Tok} (h : strip r = canT x ++ m) : ∃ r', ruleR r = .ok (x, r') ∧ strip r' = m := by
  obtain ⟨strict, area, kind, ik, iv, op, key, vals⟩ := x
  have hk := kindT_ne g.kind
  unfold canT at h
  simp only [List.append_assoc, List.cons_append] at h
  -- must
  have s1 : ∃ r1, mustR r = (strict, r1) ∧ strip r1 = cIn ⟨strict, area, kind, ik, iv, op, key, vals⟩ ++ ((1, kindT kind) :: (cIf ⟨strict, area, kind, ik, iv, op, key, vals⟩ ++ (cOp ⟨strict, area, kind, ik, iv, op, key, vals⟩ ++ ([(4, [59])] ++ m)))) := by
    cases strict with
    | true =>
      obtain ⟨r1, h1, h2⟩ := accept_yes (r := r) (k := 1) (s := wMust) (m := _) (by rw [h]; rfl)
      exact ⟨r1, by unfold mustR; rw [h1], h2⟩
    | false =>
      refine ⟨r, ?_, h⟩
      have : acceptT 1 wMust r = none := by
        unfold cMust cIn at h
        by_cases ha : area.size = 0
        · exact accept_no (k' := 1) (s' := kindT kind) (by rw [h, if_neg (show ¬ false = true from by decide), if_pos ha]; rfl) (fun e => hk.1 e.2)
        · exact accept_no (k' := 1) (s' := wIn) (by rw [h, if_neg (show ¬ false = true from by decide), if_neg ha]; rfl) (by decide)
      unfold mustR
      rw [this]
  obtain ⟨r1, e1, h1⟩ := s1
  -- in
  have s2 : ∃ r2, inR r1 = .ok (area, r2) ∧ strip r2 = (1, kindT kind) :: (cIf ⟨strict, area, kind, ik, iv, op, key, vals⟩ ++ (cOp ⟨strict, area, kind, ik, iv, op, key, vals⟩ ++ ([(4, [59])] ++ m))) := by
    unfold cIn at h1
    by_cases ha : area.size = 0
    · rw [if_pos ha] at h1
      refine ⟨r1, ?_, h1⟩
      unfold inR
      rw [accept_no (k' := 1) (s' := kindT kind) h1 (fun e => hk.2.1 e.2), ba_empty ha]
    · rw [if_neg ha] at h1
      obtain ⟨r2, h2, h3⟩ := accept_yes h1
      obtain ⟨r3, h4, h5⟩ := take_name h3
      refine ⟨r3, ?_, h5⟩
      unfold inR
      rw [h2]
      show bnd (takeT 1 r2) (fun p => .ok (ba p.1, p.2)) = _
      rw [h4]
      show Except.ok (ba (tx area), r3) = _
      rw [ba_tx]
  obtain ⟨r2, e2, h2⟩ := s2
  obtain ⟨r3, e3, h3⟩ := kind_read g.kind h2
  -- where
  have s4 : ∃ r4, ifR r3 = .ok (ik, iv, r4) ∧ strip r4 = cOp ⟨strict, area, kind, ik, iv, op, key, vals⟩ ++ ([(4, [59])] ++ m) := by
    unfold cIf at h3
    rcases g.ifs with ⟨ha, hb⟩ | ⟨ha, hb⟩
    · rw [if_pos ha] at h3
      refine ⟨r3, ?_, h3⟩
      have : acceptT 1 wWhere r3 = none := by
        unfold cOp at h3
        rcases g.op with ⟨h6, _⟩ | ⟨h6 | h6, _⟩
        · exact accept_no (k' := 1) (s' := wHas) (by rw [h3, if_neg (by rw [h6]; decide), if_neg (by rw [h6]; decide)]; rfl) (by decide)
        · exact accept_no (k' := 1) (s' := wNeeds) (by rw [h3, if_pos h6]; rfl) (by decide)
        · exact accept_no (k' := 1) (s' := wNo) (by rw [h3, if_neg (by rw [h6]; decide), if_pos h6]; rfl) (by decide)
      unfold ifR
      rw [this, ba_empty (s := ik) ha, ba_empty (s := iv) hb]
    · rw [if_neg (name_size ha)] at h3
      obtain ⟨r4, h4, h5⟩ := accept_yes h3
      obtain ⟨r5, h6, h7⟩ := take_name h5
      obtain ⟨r6, h8, h9⟩ := symbol_yes h7
      obtain ⟨r7, h10, h11⟩ := take_str h9 hb
      refine ⟨r7, ?_, h11⟩
      unfold ifR
      rw [h4]
      show bnd (takeT 1 r4) (fun p => bnd (symbolT [61] p.2) (fun r3 => bnd (takeT 3 r3) (fun q => .ok (ba p.1, ba q.1, q.2)))) = _
      rw [h6]
      show bnd (symbolT [61] r5) (fun r3 => bnd (takeT 3 r3) (fun q => .ok (ba (tx ik), ba q.1, q.2))) = _
      rw [h8]
      show bnd (takeT 3 r6) (fun q => .ok (ba (tx ik), ba q.1, q.2)) = _
      rw [h10]
      show Except.ok (ba (tx ik), ba (tx iv), r7) = _
      rw [ba_tx, ba_tx]
  obtain ⟨r4, e4, h4⟩ := s4
  -- the operation
  have s5 : ∃ r5, opR r4 = .ok (op, key, vals, r5) ∧ strip r5 = (4, [59]) :: m := by
    unfold cOp at h4
    rcases g.op with ⟨h6, h7, h8⟩ | ⟨h6 | h6, h7⟩
    · replace h6 : op = 2 := h6
      subst h6
      rw [if_neg (show ¬ (2 : Int) = 1 from by decide), if_neg (show ¬ (2 : Int) = 3 from by decide)] at h4
      obtain ⟨r5, h9, h10⟩ := accept_yes h4
      obtain ⟨r6, h11, h12⟩ := take_name h10
      obtain ⟨r7, h13, h14⟩ := accept_yes h12
      obtain ⟨r8, h15, h16⟩ := vals_read (m := m) h14 h7 h8 g.vals
      refine ⟨r8, ?_, h16⟩
      unfold opR
      rw [accept_no h4 (by decide), accept_no h4 (by decide), h9]
      show bnd (takeT 1 r5) (fun p => bnd (ofR p.2) (fun r3 => bnd (valuesT r3) (fun q => .ok (2, ba p.1, q.1, q.2)))) = _
      rw [h11]
      show bnd (ofR r6) (fun r3 => bnd (valuesT r3) (fun q => .ok (2, ba (tx key), q.1, q.2))) = _
      unfold ofR
      rw [h13]
      show bnd (valuesT r7) (fun q => .ok (2, ba (tx key), q.1, q.2)) = _
      rw [h15]
      show Except.ok ((2 : Int), ba (tx key), vals, r8) = _
      rw [ba_tx]
    · replace h6 : op = 1 := h6
      replace h7 : vals = [] := h7
      subst h6 h7
      rw [if_pos rfl] at h4
      obtain ⟨r5, h9, h10⟩ := accept_yes h4
      obtain ⟨r6, h11, h12⟩ := take_name h10
      refine ⟨r6, ?_, h12⟩
      unfold opR
      rw [h9]
      show bnd (takeT 1 r5) (fun p => .ok (1, ba p.1, [], p.2)) = _
      rw [h11]
      show Except.ok ((1 : Int), ba (tx key), ([] : List BA), r6) = _
      rw [ba_tx]
    · replace h6 : op = 3 := h6
      replace h7 : vals = [] := h7
      subst h6 h7
      rw [if_neg (show ¬ (3 : Int) = 1 from by decide), if_pos rfl] at h4
      obtain ⟨r5, h9, h10⟩ := accept_yes h4
      obtain ⟨r6, h11, h12⟩ := take_name h10
      refine ⟨r6, ?_, h12⟩
      unfold opR
      rw [accept_no h4 (by decide), h9]
      show bnd (takeT 1 r5) (fun p => .ok (3, ba p.1, [], p.2)) = _
      rw [h11]
      show Except.ok ((3 : Int), ba (tx key), ([] : List BA), r6) = _
      rw [ba_tx]
  obtain ⟨r5, e5, h5⟩ := s5
  obtain ⟨r6, e6, h6⟩ := symbol_yes h5
  refine ⟨r6, ?_, h6⟩
  unfold ruleR
  rw [e1]
  show bnd (inR r1) _ = _
  rw [e2]
  show bnd (kindR r2) _ = _
  rw [e3]
  show bnd (ifR r3) _ = _
  rw [e4]
  show bnd (opR r4) _ = _
  rw [e5]
  show bnd (symbolT [59] r5) _ = _
  rw [e6]
  rfl
end Go.Proofs.PlRule
