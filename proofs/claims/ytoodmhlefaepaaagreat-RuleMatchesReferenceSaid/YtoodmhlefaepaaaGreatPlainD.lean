/-
  What is read from tokens is a valid rule, whose tokens they were; lists of rules. No program in sight.
-/
import Derived.Test.YtoodmhlefaepaaaGreatPlainC
namespace Go.Proofs.PlRule
open Go Go.Proofs.PlLex

def Vt (r : List Tok) : Prop := ∀ t ∈ r, validTok t.kind t.text
theorem Vt.suf {r r' : List Tok} (h : Vt r) (hs : r' <:+ r) : Vt r' := fun t ht => h t (hs.subset ht)
theorem accept_can {k : Nat} {s : L} {r r' : List Tok} (h : acceptT k s r = some r') : strip r = (k, s) :: strip r' := by
  obtain ⟨t, rfl, h1, h2⟩ := accept_cut h
  simp [strip, h1, h2]
theorem take_can {k : Nat} {r r' : List Tok} {s : L} (h : takeT k r = .ok (s, r')) : strip r = (k, s) :: strip r' := by
  obtain ⟨t, rfl, h1, h2, _⟩ := take_cut h
  simp [strip, h1, h2]
theorem take_nm {r r' : List Tok} {s : L} (h : takeT 1 r = .ok (s, r')) (hv : Vt r) : name s = true := by
  obtain ⟨t, rfl, h1, h2, _⟩ := take_cut h
  have := hv t (List.mem_cons_self ..)
  rw [h1, h2] at this
  rcases this with ⟨_, h⟩ | ⟨h, _⟩ | h | ⟨h, _⟩
  · exact h
  · cases h
  · cases h
  · cases h
theorem take_vl {r r' : List Tok} {s : L} (h : takeT 3 r = .ok (s, r')) : valueL s = true := by
  obtain ⟨t, rfl, h1, h2, h3⟩ := take_cut h
  exact h3 rfl
theorem cMore_app (a b : List BA) : cMore (a ++ b) = cMore a ++ cMore b := by
  induction a with
  | nil => rfl
  | cons x a ih => simp only [List.cons_append, cMore, ih]
theorem more_can (f : Nat) : ∀ (l : List BA) (r : List Tok) (q : List BA × List Tok), moreT f l r = .ok q → r.length < f → l.length ≤ 60 →
    ∃ vs, q.1 = l ++ vs ∧ strip r = cMore vs ++ strip q.2 ∧ q.1.length ≤ 60 ∧ ∀ s ∈ vs, valueL (tx s) = true := by
  induction f with
  | zero => intro l r q _ h; omega
  | succ f ih =>
    intro l r q h hf hl
    rcases more_cut h with ⟨_, rfl⟩ | ⟨r1, s, r2, h1, h2, h3, h4⟩
    · exact ⟨[], by simp, rfl, hl, fun _ h => nomatch h⟩
    · have h5 := accept_can h1
      have h6 := take_can h2
      have l1 : r1.length < r.length := by have := congrArg List.length h5; rw [List.length_cons, strip_len, strip_len] at this; omega
      have l2 : r2.length < r1.length := by have := congrArg List.length h6; rw [List.length_cons, strip_len, strip_len] at this; omega
      obtain ⟨vs, e1, e2, e3, e4⟩ := ih _ _ _ h4 (by omega) (by rw [List.length_append, List.length_cons, List.length_nil]; omega)
      refine ⟨ba s :: vs, by rw [e1, List.append_assoc]; rfl, ?_, e3, fun y hy => ?_⟩
      · rw [h5, h6, e2]
        simp only [cMore, tx_ba, List.cons_append]
      · rcases List.mem_cons.1 hy with rfl | hy
        · rw [tx_ba]; exact take_vl h2
        · exact e4 y hy
theorem vals_can {r : List Tok} {q : List BA × List Tok} (h : valuesT r = .ok q) : strip r = cVals q.1 ++ strip q.2 ∧ 1 ≤ q.1.length ∧ q.1.length ≤ 60 ∧ ∀ s ∈ q.1, valueL (tx s) = true := by
  obtain ⟨s, r1, h1, h2⟩ := values_cut h
  obtain ⟨vs, e1, e2, e3, e4⟩ := more_can _ _ _ _ h2 (by omega) (by simp)
  rw [take_can h1, e2, e1]
  refine ⟨by simp only [List.cons_append, List.nil_append, cVals, tx_ba], by simp, by rw [← e1]; exact e3, fun y hy => ?_⟩
  rcases List.mem_append.1 hy with hy | hy
  · rw [List.mem_singleton] at hy
    subst hy
    rw [tx_ba]; exact take_vl h1
  · exact e4 y hy
theorem idx_can {k : Int} {r r' : List Tok} (h : idxT kindW 0 r = some (k, r')) : (0 ≤ k ∧ k ≤ 5) ∧ strip r = (1, kindT k) :: strip r' := by
  unfold kindW at h
  simp only [idxT] at h
  cases e0 : acceptT 1 [97, 110, 121] r with
  | some x => rw [e0] at h; cases h; exact ⟨by decide, accept_can e0⟩
  | none =>
    rw [e0] at h
    simp only at h
    cases e1 : acceptT 1 [110, 111, 100, 101] r with
    | some x => rw [e1] at h; cases h; exact ⟨by decide, accept_can e1⟩
    | none =>
      rw [e1] at h
      simp only at h
      cases e2 : acceptT 1 [119, 97, 121] r with
      | some x => rw [e2] at h; cases h; exact ⟨by decide, accept_can e2⟩
      | none =>
        rw [e2] at h
        simp only at h
        cases e3 : acceptT 1 [97, 114, 101, 97] r with
        | some x => rw [e3] at h; cases h; exact ⟨by decide, accept_can e3⟩
        | none =>
          rw [e3] at h
          simp only at h
          cases e4 : acceptT 1 [114, 111, 117, 116, 101] r with
          | some x => rw [e4] at h; cases h; exact ⟨by decide, accept_can e4⟩
          | none =>
            rw [e4] at h
            simp only at h
            cases e5 : acceptT 1 [116, 117, 114, 110] r with
            | some x => rw [e5] at h; cases h; exact ⟨by decide, accept_can e5⟩
            | none => rw [e5] at h; cases h
theorem ba_size (s : L) : (ba s).size = s.length := by unfold ba; show s.toArray.size = _; simp
theorem nm_size {s : L} (h : name s = true) : ¬ (ba s).size = 0 := by
  intro e
  rw [ba_size] at e
  rw [List.length_eq_zero_iff.1 e] at h
  cases h
/-- What is read is a valid rule, and these were its tokens. -/
theorem rule_can {r r' : List Tok} {x : Rl} (h : ruleR r = .ok (x, r')) (hv : Vt r) : GdR x ∧ strip r = canT x ++ strip r' := by
  obtain ⟨a, k, i, o, h1, h2, h3, h4, h5, rfl⟩ := rule_cut h
  have v1 : Vt (mustR r).2 := hv.suf (must_suf r)
  have v2 : Vt a.2 := v1.suf (in_suf h1)
  have v3 : Vt k.2 := v2.suf (idx_suf (j := k.1) (r' := k.2) h2)
  have v4 : Vt i.2.2 := v3.suf (if_suf h3)
  have c1 : strip r = (if (mustR r).1 = true then [(1, wMust)] else []) ++ strip (mustR r).2 := by
    unfold mustR
    cases e : acceptT 1 wMust r with
    | none => rfl
    | some y => exact accept_can e
  have c2 : (strip (mustR r).2 = (if a.1.size = 0 then [] else [(1, wIn), (1, tx a.1)]) ++ strip a.2) ∧ (a.1.size ≠ 0 → name (tx a.1) = true) := by
    rcases in_cut h1 with ⟨_, e⟩ | ⟨r1, s, r2, e1, e2, e⟩
    · rw [e]
      exact ⟨rfl, fun hn => absurd rfl hn⟩
    · rw [e]
      have hn := take_nm e2 (v1.suf (accept_suf e1))
      refine ⟨?_, fun _ => by rw [tx_ba]; exact hn⟩
      rw [accept_can e1, take_can e2, if_neg (nm_size hn), tx_ba]
      rfl
  obtain ⟨k5, c3⟩ := idx_can (k := k.1) (r' := k.2) h2
  have c4 : (strip k.2 = (if i.1.size = 0 then [] else [(1, wWhere), (1, tx i.1), (4, [61]), (3, tx i.2.1)]) ++ strip i.2.2) ∧ ((i.1.size = 0 ∧ i.2.1.size = 0) ∨ (name (tx i.1) = true ∧ valueL (tx i.2.1) = true)) := by
    rcases if_cut h3 with ⟨_, e⟩ | ⟨r1, s, r2, r3, v, r4, e1, e2, e3, e4, e⟩
    · rw [e]
      exact ⟨rfl, .inl ⟨rfl, rfl⟩⟩
    · rw [e]
      have hn := take_nm e2 (v3.suf (accept_suf e1))
      refine ⟨?_, .inr ⟨by rw [tx_ba]; exact hn, by rw [tx_ba]; exact take_vl e4⟩⟩
      rw [accept_can e1, take_can e2, accept_can e3, take_can e4, if_neg (nm_size hn), tx_ba, tx_ba]
      rfl
  have c5 := accept_can h5
  have c6 : strip i.2.2 = (if o.1 = 1 then [(1, wNeeds), (1, tx o.2.1)] else if o.1 = 3 then [(1, wNo), (1, tx o.2.1)] else (1, wHas) :: (1, tx o.2.1) :: (1, wOf) :: cVals o.2.2.1) ++ strip o.2.2.2 ∧ name (tx o.2.1) = true ∧
      ((o.1 = 2 ∧ 1 ≤ o.2.2.1.length ∧ o.2.2.1.length ≤ 60) ∨ ((o.1 = 1 ∨ o.1 = 3) ∧ o.2.2.1 = [])) ∧ ∀ s ∈ o.2.2.1, valueL (tx s) = true := by
    rcases op_cut h4 with ⟨r1, s, r2, e1, e2, e⟩ | ⟨r1, s, r2, _, e1, e2, e⟩ | ⟨r1, s, r2, r3, q, _, _, e1, e2, e3, e4, e⟩
    · rw [e]
      refine ⟨?_, by rw [tx_ba]; exact take_nm e2 (v4.suf (accept_suf e1)), .inr ⟨.inl rfl, rfl⟩, fun _ h => nomatch h⟩
      rw [accept_can e1, take_can e2, if_pos rfl, tx_ba]
      rfl
    · rw [e]
      refine ⟨?_, by rw [tx_ba]; exact take_nm e2 (v4.suf (accept_suf e1)), .inr ⟨.inr rfl, rfl⟩, fun _ h => nomatch h⟩
      rw [accept_can e1, take_can e2, if_neg (show ¬ (3 : Int) = 1 from by decide), if_pos rfl, tx_ba]
      rfl
    · rw [e]
      obtain ⟨w1, w2, w3, w4⟩ := vals_can e4
      refine ⟨?_, by rw [tx_ba]; exact take_nm e2 (v4.suf (accept_suf e1)), .inl ⟨rfl, w2, w3⟩, w4⟩
      rw [accept_can e1, take_can e2, accept_can e3, w1, if_neg (show ¬ (2 : Int) = 1 from by decide), if_neg (show ¬ (2 : Int) = 3 from by decide), tx_ba]
      rfl
  refine ⟨⟨c2.2, k5, c6.2.1, c4.2, c6.2.2.1, c6.2.2.2⟩, ?_⟩
  rw [c1, c2.1, c3, c4.1, c6.1, c5]
  unfold canT cMust cIn cIf cOp
  simp only [List.append_assoc, List.cons_append, List.nil_append]
/-! Lists of rules. -/
theorem canT_pos (x : Rl) : canT x ≠ [] := by
  unfold canT
  intro h
  have := congrArg List.length h
  simp at this
theorem rulesR_one (f : Nat) (l : List Rl) (r : List Tok) : rulesR (f + 1) l r = if r.isEmpty then .ok l else if l.length = 200 then .error (2, r) else bnd (ruleR r) (fun p => rulesR f (l ++ [p.1]) p.2) := rfl
theorem rules_read (xs : List Rl) : ∀ (f : Nat) (l : List Rl) (r : List Tok), (∀ x ∈ xs, GdR x) → strip r = canL xs → xs.length < f → l.length + xs.length ≤ 200 → rulesR f l r = .ok (l ++ xs) := by
  induction xs with
  | nil =>
    intro f l r _ h hf _
    cases f with
    | zero => simp at hf
    | succ f =>
      have : r = [] := by
        have := congrArg List.length h
        rw [strip_len] at this
        exact List.length_eq_zero_iff.1 this
      subst this
      rw [rulesR_one, List.append_nil]
      rfl
  | cons x xs ih =>
    intro f l r hg h hf hl
    cases f with
    | zero => simp at hf
    | succ f =>
      simp only [List.length_cons] at hf hl
      have h2 : strip r = canT x ++ canL xs := by rw [h]; unfold canL; rw [List.flatMap_cons]
      have hne : r.isEmpty = false := by
        cases r with
        | nil =>
          have := congrArg List.length h2
          rw [List.length_append] at this
          have h3 : (canT x).length ≠ 0 := fun e => canT_pos x (List.length_eq_zero_iff.1 e)
          simp [strip] at this
          omega
        | cons _ _ => rfl
      obtain ⟨r', h3, h4⟩ := rule_read (hg x (List.mem_cons_self ..)) h2
      rw [rulesR_one, hne, if_neg (by decide), if_neg (by omega), h3]
      show rulesR f (l ++ [x]) r' = _
      rw [ih f (l ++ [x]) r' (fun y hy => hg y (List.mem_cons_of_mem _ hy)) h4 (by omega) (by rw [List.length_append, List.length_cons, List.length_nil]; omega), List.append_assoc]
      rfl
theorem rules_can (f : Nat) : ∀ (l : List Rl) (r : List Tok) (y : List Rl), rulesR f l r = .ok y → r.length < f → Vt r → l.length ≤ 200 → ∃ xs, y = l ++ xs ∧ (∀ x ∈ xs, GdR x) ∧ strip r = canL xs ∧ y.length ≤ 200 := by
  induction f with
  | zero => intro l r y _ h; omega
  | succ f ih =>
    intro l r y h hf hv hl
    rw [rulesR_one] at h
    cases r with
    | nil =>
      cases h
      exact ⟨[], by simp, (fun _ h => nomatch h), rfl, hl⟩
    | cons t r =>
      rw [if_neg (by simp)] at h
      split at h
      · cases h
      · rename_i h2
        obtain ⟨⟨x, r'⟩, h3, h4⟩ := bnd_ok h
        obtain ⟨g, e⟩ := rule_can h3 hv
        obtain ⟨s1, s2⟩ := rule_suf h3
        obtain ⟨xs, e1, e2, e3, e4⟩ := ih (l ++ [x]) r' y h4 (by omega) (hv.suf s1) (by rw [List.length_append, List.length_cons, List.length_nil]; omega)
        refine ⟨x :: xs, by rw [e1, List.append_assoc]; rfl, fun y hy => ?_, ?_, e4⟩
        · rcases List.mem_cons.1 hy with rfl | hy
          · exact g
          · exact e2 y hy
        · rw [e, e3]
          unfold canL
          rw [List.flatMap_cons]
/-! Tokens at other offsets. -/
def mapS {α β : Type} (d : Nat) (f : α → β) : Res α → Res β
  | .error e => .error (e.1, shift d e.2)
  | .ok a => .ok (f a)
theorem bnd_shift {α β α' β' : Type} (d : Nat) (f : α → α') (g : β → β') (x : Res α) (y : Res α') (h : y = mapS d f x) (F : α → Res β) (G : α' → Res β') (hF : ∀ a, G (f a) = mapS d g (F a)) : bnd y G = mapS d g (bnd x F) := by
  subst h
  cases x with
  | error e => rfl
  | ok a => exact hF a
theorem accept_shift (d k : Nat) (s : L) (r : List Tok) : acceptT k s (shift d r) = (acceptT k s r).map (shift d) := by
  cases r with
  | nil => rfl
  | cons t r =>
    show (if t.kind = k ∧ t.text = s then some (shift d r) else none) = Option.map (shift d) (if t.kind = k ∧ t.text = s then some r else none)
    split <;> rfl
theorem take_shift (d k : Nat) (r : List Tok) : takeT k (shift d r) = mapS d (fun p => (p.1, shift d p.2)) (takeT k r) := by
  cases r with
  | nil => rfl
  | cons t r =>
    show (if t.kind = k then (if k = 3 ∧ valueL t.text = false then (.error (10, shift d (t :: r)) : Res (L × List Tok)) else .ok (t.text, shift d r)) else .error (5, shift d (t :: r))) = mapS d _ (if t.kind = k then (if k = 3 ∧ valueL t.text = false then (.error (10, t :: r) : Res (L × List Tok)) else .ok (t.text, r)) else .error (5, t :: r))
    split
    · split <;> rfl
    · rfl
theorem symbol_shift (d : Nat) (s : L) (r : List Tok) : symbolT s (shift d r) = mapS d (shift d) (symbolT s r) := by
  unfold symbolT
  rw [accept_shift]
  cases acceptT 4 s r <;> rfl
theorem isStr_shift (d : Nat) (r : List Tok) : isStr (shift d r) = isStr r := by cases r <;> rfl
theorem shift_len (d : Nat) (r : List Tok) : (shift d r).length = r.length := by simp [shift]
theorem more_shift (d f : Nat) : ∀ (l : List BA) (r : List Tok), moreT f l (shift d r) = mapS d (fun p => (p.1, shift d p.2)) (moreT f l r) := by
  induction f with
  | zero => intro l r; rfl
  | succ f ih =>
    intro l r
    rw [more_succ, more_succ, accept_shift]
    cases acceptT 4 [44] r with
    | none => rfl
    | some r1 =>
      show (if l.length = 60 ∧ isStr (shift d r1) = true then (.error (2, shift d r1) : Res (List BA × List Tok)) else bnd (takeT 3 (shift d r1)) (fun p => moreT f (l ++ [ba p.1]) p.2)) = mapS d _ (if l.length = 60 ∧ isStr r1 = true then (.error (2, r1) : Res (List BA × List Tok)) else bnd (takeT 3 r1) (fun p => moreT f (l ++ [ba p.1]) p.2))
      rw [isStr_shift]
      split
      · rfl
      · exact bnd_shift d _ _ _ _ (take_shift d 3 r1) _ _ (fun a => ih _ _)
theorem values_shift (d : Nat) (r : List Tok) : valuesT (shift d r) = mapS d (fun p => (p.1, shift d p.2)) (valuesT r) := by
  unfold valuesT
  exact bnd_shift d _ _ _ _ (take_shift d 3 r) _ _ (fun a => by
    show moreT ((shift d a.2).length + 1) [ba a.1] (shift d a.2) = _
    rw [shift_len]
    exact more_shift d _ _ _)
theorem idx_shift (d : Nat) (ws : List L) : ∀ (i : Int) (r : List Tok), idxT ws i (shift d r) = (idxT ws i r).map (fun p => (p.1, shift d p.2)) := by
  induction ws with
  | nil => intro i r; rfl
  | cons w ws ih =>
    intro i r
    simp only [idxT]
    rw [accept_shift]
    cases acceptT 1 w r with
    | none => exact ih _ _
    | some r' => rfl
theorem kind_shift (d : Nat) (r : List Tok) : kindR (shift d r) = mapS d (fun p => (p.1, shift d p.2)) (kindR r) := by
  unfold kindR
  rw [idx_shift]
  cases idxT kindW 0 r <;> rfl
theorem must_shift (d : Nat) (r : List Tok) : mustR (shift d r) = ((mustR r).1, shift d (mustR r).2) := by
  unfold mustR
  rw [accept_shift]
  cases acceptT 1 wMust r <;> rfl
theorem in_shift (d : Nat) (r : List Tok) : inR (shift d r) = mapS d (fun p => (p.1, shift d p.2)) (inR r) := by
  unfold inR
  rw [accept_shift]
  cases acceptT 1 wIn r with
  | none => rfl
  | some r1 => exact bnd_shift d (fun p => (p.1, shift d p.2)) _ (takeT 1 r1) (takeT 1 (shift d r1)) (take_shift d 1 r1) _ _ (fun a => rfl)
theorem if_shift (d : Nat) (r : List Tok) : ifR (shift d r) = mapS d (fun p => (p.1, p.2.1, shift d p.2.2)) (ifR r) := by
  unfold ifR
  rw [accept_shift]
  cases acceptT 1 wWhere r with
  | none => rfl
  | some r1 =>
    exact bnd_shift d (fun p => (p.1, shift d p.2)) _ (takeT 1 r1) (takeT 1 (shift d r1)) (take_shift d 1 r1) _ _ (fun a =>
      bnd_shift d (shift d) _ _ _ (symbol_shift d [61] a.2) _ _ (fun b => bnd_shift d (fun p => (p.1, shift d p.2)) _ _ _ (take_shift d 3 b) _ _ (fun c => rfl)))
theorem of_shift (d : Nat) (r : List Tok) : ofR (shift d r) = mapS d (shift d) (ofR r) := by
  unfold ofR
  rw [accept_shift]
  cases acceptT 1 wOf r <;> rfl
theorem op_shift (d : Nat) (r : List Tok) : opR (shift d r) = mapS d (fun p => (p.1, p.2.1, p.2.2.1, shift d p.2.2.2)) (opR r) := by
  unfold opR
  rw [accept_shift, accept_shift, accept_shift]
  cases acceptT 1 wNeeds r with
  | some r1 => exact bnd_shift d (fun p => (p.1, shift d p.2)) _ (takeT 1 r1) (takeT 1 (shift d r1)) (take_shift d 1 r1) _ _ (fun a => rfl)
  | none =>
    cases acceptT 1 wNo r with
    | some r1 => exact bnd_shift d (fun p => (p.1, shift d p.2)) _ (takeT 1 r1) (takeT 1 (shift d r1)) (take_shift d 1 r1) _ _ (fun a => rfl)
    | none =>
      cases acceptT 1 wHas r with
      | none => rfl
      | some r1 =>
        exact bnd_shift d (fun p => (p.1, shift d p.2)) _ (takeT 1 r1) (takeT 1 (shift d r1)) (take_shift d 1 r1) _ _ (fun a =>
          bnd_shift d (shift d) _ _ _ (of_shift d a.2) _ _ (fun b => bnd_shift d (fun p => (p.1, shift d p.2)) _ _ _ (values_shift d b) _ _ (fun c => rfl)))
theorem ruleR_shift (d : Nat) (r : List Tok) : ruleR (shift d r) = mapS d (fun p => (p.1, shift d p.2)) (ruleR r) := by
  unfold ruleR
  rw [must_shift]
  exact bnd_shift d (fun p => (p.1, shift d p.2)) _ _ _ (in_shift d (mustR r).2) _ _ (fun a =>
    bnd_shift d (fun p => (p.1, shift d p.2)) _ _ _ (kind_shift d a.2) _ _ (fun k =>
      bnd_shift d (fun p => (p.1, p.2.1, shift d p.2.2)) _ _ _ (if_shift d k.2) _ _ (fun i =>
        bnd_shift d (fun p => (p.1, p.2.1, p.2.2.1, shift d p.2.2.2)) _ _ _ (op_shift d i.2.2) _ _ (fun o =>
          bnd_shift d (shift d) _ _ _ (symbol_shift d [59] o.2.2.2) _ _ (fun z => rfl)))))
theorem rules_shift (d f : Nat) : ∀ (l : List Rl) (r : List Tok), rulesR f l (shift d r) = mapS d id (rulesR f l r) := by
  induction f with
  | zero => intro l r; rfl
  | succ f ih =>
    intro l r
    rw [rulesR_one, rulesR_one]
    have e : (shift d r).isEmpty = r.isEmpty := by cases r <;> rfl
    rw [e]
    split
    · rfl
    · split
      · rfl
      · exact bnd_shift d (fun p => (p.1, shift d p.2)) _ _ _ (ruleR_shift d r) _ _ (fun a => ih _ _)
end Go.Proofs.PlRule
