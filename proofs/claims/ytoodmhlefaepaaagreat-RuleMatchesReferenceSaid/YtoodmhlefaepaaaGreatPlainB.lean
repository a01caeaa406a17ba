/-
  The rules of a text: lengths, validity. No program in sight.
-/
import Derived.Test.YtoodmhlefaepaaaGreatPlainA
namespace Go.Proofs.PlRule
open Go Go.Proofs.PlLex

theorem quoteB_le (l : L) : l.length ≤ (quoteB l).length := by
  induction l with
  | nil => simp
  | cons c l ih => simp only [quoteB]; split <;> (try split) <;> simp <;> omega
theorem wr_le (k : Nat) (t : L) : t.length ≤ (wr k t).length := by
  unfold wr
  split
  · have := quoteB_le t
    simp [quote]
    omega
  · exact Nat.le_refl _
theorem wlen_mem {ts : List Tok} {t : Tok} (h : t ∈ ts) : (wr t.kind t.text).length ≤ wlen ts := by
  induction ts with
  | nil => cases h
  | cons u ts ih =>
    rcases List.mem_cons.1 h with rfl | h
    · simp [wlen]
    · have := ih h
      simp [wlen]
      omega
theorem lex_sub (l : L) : ∀ t ∈ (lex l).1, t ∈ (scan 0 0 l).1 := by
  intro t ht
  unfold lex at ht
  split at ht
  · cases ht
  · split at ht
    · cases ht
    · split at ht
      · cases ht
      · exact ht
theorem lex_text (l : L) : ∀ t ∈ (lex l).1, t.text.length ≤ l.length := by
  intro t ht
  have h1 := lex_sub l t ht
  have h2 := scan_sizes 0 l
  have h3 := wlen_mem h1
  have h4 := wr_le t.kind t.text
  omega
theorem lex_valid (l : L) : ∀ t ∈ (lex l).1, validTok t.kind t.text := fun t ht => (scan_sizes 0 l).2.2 t (lex_sub l t ht)

/-! What is left is an end of what was there. -/
theorem bnd_ok {α β : Type} {x : Res α} {f : α → Res β} {b : β} (h : bnd x f = .ok b) : ∃ a, x = .ok a ∧ f a = .ok b := by
  cases x with
  | error e => cases h
  | ok a => exact ⟨a, rfl, h⟩
theorem accept_cut {k : Nat} {s : L} {r r' : List Tok} (h : acceptT k s r = some r') : ∃ t, r = t :: r' ∧ t.kind = k ∧ t.text = s := by
  cases r with
  | nil => cases h
  | cons t r =>
    rw [show acceptT k s (t :: r) = if t.kind = k ∧ t.text = s then some r else none from rfl] at h
    split at h
    · rename_i hk
      cases h
      exact ⟨t, rfl, hk.1, hk.2⟩
    · cases h
theorem take_cut {k : Nat} {r r' : List Tok} {s : L} (h : takeT k r = .ok (s, r')) : ∃ t, r = t :: r' ∧ t.kind = k ∧ t.text = s ∧ (k = 3 → valueL s = true) := by
  cases r with
  | nil => cases h
  | cons t r =>
    rw [show takeT k (t :: r) = if t.kind = k then (if k = 3 ∧ valueL t.text = false then .error (10, t :: r) else .ok (t.text, r)) else .error (5, t :: r) from rfl] at h
    split at h
    · rename_i hk
      split at h
      · cases h
      · rename_i hv
        cases h
        refine ⟨t, rfl, hk, rfl, fun h3 => ?_⟩
        cases e : valueL t.text with
        | true => rfl
        | false => exact absurd ⟨h3, e⟩ hv
    · cases h
theorem accept_suf {k : Nat} {s : L} {r r' : List Tok} (h : acceptT k s r = some r') : r' <:+ r := by
  obtain ⟨t, rfl, _⟩ := accept_cut h
  exact List.suffix_cons t r'
theorem take_suf {k : Nat} {r : List Tok} {p : L × List Tok} (h : takeT k r = .ok p) : p.2 <:+ r := by
  obtain ⟨t, rfl, _⟩ := take_cut (s := p.1) (r' := p.2) h
  exact List.suffix_cons t p.2
theorem symbol_cut {s : L} {r r' : List Tok} (h : symbolT s r = .ok r') : acceptT 4 s r = some r' := by
  unfold symbolT at h
  cases e : acceptT 4 s r with
  | none => rw [e] at h; cases h
  | some x => rw [e] at h; cases h; rfl
theorem more_succ (f : Nat) (l : List BA) (r : List Tok) : moreT (f + 1) l r = match acceptT 4 [44] r with
    | none => .ok (l, r)
    | some r1 => if l.length = 60 ∧ isStr r1 = true then .error (2, r1) else bnd (takeT 3 r1) (fun p => moreT f (l ++ [ba p.1]) p.2) := rfl
theorem more_cut {f : Nat} {l : List BA} {r : List Tok} {q : List BA × List Tok} (h : moreT (f + 1) l r = .ok q) :
    (acceptT 4 [44] r = none ∧ q = (l, r)) ∨ ∃ r1 s r2, acceptT 4 [44] r = some r1 ∧ takeT 3 r1 = .ok (s, r2) ∧ l.length ≠ 60 ∧ moreT f (l ++ [ba s]) r2 = .ok q := by
  rw [more_succ] at h
  cases e : acceptT 4 [44] r with
  | none => rw [e] at h; cases h; exact .inl ⟨rfl, rfl⟩
  | some r1 =>
    rw [e] at h
    replace h : (if l.length = 60 ∧ isStr r1 = true then (.error (2, r1) : Res (List BA × List Tok)) else bnd (takeT 3 r1) (fun p => moreT f (l ++ [ba p.1]) p.2)) = .ok q := h
    split at h
    · cases h
    · rename_i hn
      obtain ⟨p, h1, h2⟩ := bnd_ok h
      refine .inr ⟨r1, p.1, p.2, rfl, h1, fun h60 => ?_, h2⟩
      obtain ⟨t, rfl, hk, _⟩ := take_cut (s := p.1) (r' := p.2) h1
      exact hn ⟨h60, by simp [isStr, hk]⟩
theorem more_suf {f : Nat} {l : List BA} {r : List Tok} {q : List BA × List Tok} (h : moreT f l r = .ok q) : q.2 <:+ r := by
  induction f generalizing l r with
  | zero => cases h; exact List.suffix_refl _
  | succ f ih =>
    rcases more_cut h with ⟨_, rfl⟩ | ⟨r1, s, r2, h1, h2, _, h3⟩
    · exact List.suffix_refl _
    · exact (ih h3).trans ((take_suf h2).trans (accept_suf h1))
theorem values_cut {r : List Tok} {q : List BA × List Tok} (h : valuesT r = .ok q) : ∃ s r1, takeT 3 r = .ok (s, r1) ∧ moreT (r1.length + 1) [ba s] r1 = .ok q := by
  obtain ⟨p, h1, h2⟩ := bnd_ok h
  exact ⟨p.1, p.2, h1, h2⟩
theorem values_suf {r : List Tok} {q : List BA × List Tok} (h : valuesT r = .ok q) : q.2 <:+ r := by
  obtain ⟨s, r1, h1, h2⟩ := values_cut h
  exact (more_suf h2).trans (take_suf h1)
theorem idx_suf {ws : List L} {i j : Int} {r r' : List Tok} (h : idxT ws i r = some (j, r')) : r' <:+ r := by
  induction ws generalizing i with
  | nil => cases h
  | cons s ws ih =>
    unfold idxT at h
    cases e : acceptT 1 s r with
    | none => rw [e] at h; exact ih h
    | some x => rw [e] at h; cases h; exact accept_suf e
theorem kind_cut {r : List Tok} {p : Int × List Tok} (h : kindR r = .ok p) : idxT kindW 0 r = some p := by
  unfold kindR at h
  cases e : idxT kindW 0 r with
  | none => rw [e] at h; cases h
  | some x => rw [e] at h; cases h; rfl
theorem must_suf (r : List Tok) : (mustR r).2 <:+ r := by
  unfold mustR
  cases e : acceptT 1 wMust r with
  | none => exact List.suffix_refl _
  | some x => exact accept_suf e
theorem in_cut {r : List Tok} {p : BA × List Tok} (h : inR r = .ok p) : (acceptT 1 wIn r = none ∧ p = (ba [], r)) ∨ ∃ r1 s r2, acceptT 1 wIn r = some r1 ∧ takeT 1 r1 = .ok (s, r2) ∧ p = (ba s, r2) := by
  unfold inR at h
  cases e : acceptT 1 wIn r with
  | none => rw [e] at h; cases h; exact .inl ⟨rfl, rfl⟩
  | some r1 =>
    rw [e] at h
    obtain ⟨q, h1, h2⟩ := bnd_ok (x := takeT 1 r1) h
    cases h2
    exact .inr ⟨r1, q.1, q.2, rfl, h1, rfl⟩
theorem in_suf {r : List Tok} {p : BA × List Tok} (h : inR r = .ok p) : p.2 <:+ r := by
  rcases in_cut h with ⟨_, rfl⟩ | ⟨r1, s, r2, h1, h2, rfl⟩
  · exact List.suffix_refl _
  · exact (take_suf h2).trans (accept_suf h1)
theorem if_cut {r : List Tok} {p : BA × BA × List Tok} (h : ifR r = .ok p) : (acceptT 1 wWhere r = none ∧ p = (ba [], ba [], r)) ∨
    ∃ r1 s r2 r3 v r4, acceptT 1 wWhere r = some r1 ∧ takeT 1 r1 = .ok (s, r2) ∧ acceptT 4 [61] r2 = some r3 ∧ takeT 3 r3 = .ok (v, r4) ∧ p = (ba s, ba v, r4) := by
  unfold ifR at h
  cases e : acceptT 1 wWhere r with
  | none => rw [e] at h; cases h; exact .inl ⟨rfl, rfl⟩
  | some r1 =>
    rw [e] at h
    obtain ⟨q, h1, h2⟩ := bnd_ok (x := takeT 1 r1) h
    obtain ⟨r3, h3, h4⟩ := bnd_ok h2
    obtain ⟨u, h5, h6⟩ := bnd_ok h4
    cases h6
    exact .inr ⟨r1, q.1, q.2, r3, u.1, u.2, rfl, h1, symbol_cut h3, h5, rfl⟩
theorem if_suf {r : List Tok} {p : BA × BA × List Tok} (h : ifR r = .ok p) : p.2.2 <:+ r := by
  rcases if_cut h with ⟨_, rfl⟩ | ⟨r1, s, r2, r3, v, r4, h1, h2, h3, h4, rfl⟩
  · exact List.suffix_refl _
  · exact (take_suf h4).trans ((accept_suf h3).trans ((take_suf h2).trans (accept_suf h1)))
theorem of_cut {r r' : List Tok} (h : ofR r = .ok r') : acceptT 1 wOf r = some r' := by
  unfold ofR at h
  cases e : acceptT 1 wOf r with
  | none => rw [e] at h; cases h
  | some x => rw [e] at h; cases h; rfl
theorem op_cut {r : List Tok} {p : Int × BA × List BA × List Tok} (h : opR r = .ok p) :
    (∃ r1 s r2, acceptT 1 wNeeds r = some r1 ∧ takeT 1 r1 = .ok (s, r2) ∧ p = (1, ba s, [], r2)) ∨
    (∃ r1 s r2, acceptT 1 wNeeds r = none ∧ acceptT 1 wNo r = some r1 ∧ takeT 1 r1 = .ok (s, r2) ∧ p = (3, ba s, [], r2)) ∨
    ∃ r1 s r2 r3 q, acceptT 1 wNeeds r = none ∧ acceptT 1 wNo r = none ∧ acceptT 1 wHas r = some r1 ∧ takeT 1 r1 = .ok (s, r2) ∧ acceptT 1 wOf r2 = some r3 ∧ valuesT r3 = .ok q ∧ p = (2, ba s, q.1, q.2) := by
  unfold opR at h
  cases e1 : acceptT 1 wNeeds r with
  | some r1 =>
    rw [e1] at h
    obtain ⟨q, h1, h2⟩ := bnd_ok (x := takeT 1 r1) h
    cases h2
    exact .inl ⟨r1, q.1, q.2, rfl, h1, rfl⟩
  | none =>
    rw [e1] at h
    cases e2 : acceptT 1 wNo r with
    | some r1 =>
      rw [e2] at h
      obtain ⟨q, h1, h2⟩ := bnd_ok (x := takeT 1 r1) h
      cases h2
      exact .inr (.inl ⟨r1, q.1, q.2, rfl, rfl, h1, rfl⟩)
    | none =>
      rw [e2] at h
      cases e3 : acceptT 1 wHas r with
      | none => rw [e3] at h; cases h
      | some r1 =>
        rw [e3] at h
        obtain ⟨q, h1, h2⟩ := bnd_ok (x := takeT 1 r1) h
        obtain ⟨r3, h3, h4⟩ := bnd_ok h2
        obtain ⟨u, h5, h6⟩ := bnd_ok h4
        cases h6
        exact .inr (.inr ⟨r1, q.1, q.2, r3, u, rfl, rfl, rfl, h1, of_cut h3, h5, rfl⟩)
theorem op_suf {r : List Tok} {p : Int × BA × List BA × List Tok} (h : opR r = .ok p) : p.2.2.2 <:+ r := by
  rcases op_cut h with ⟨r1, s, r2, h1, h2, rfl⟩ | ⟨r1, s, r2, _, h1, h2, rfl⟩ | ⟨r1, s, r2, r3, q, _, _, h1, h2, h3, h4, rfl⟩
  · exact (take_suf h2).trans (accept_suf h1)
  · exact (take_suf h2).trans (accept_suf h1)
  · exact (values_suf h4).trans ((accept_suf h3).trans ((take_suf h2).trans (accept_suf h1)))
theorem rule_cut {r r' : List Tok} {x : Rl} (h : ruleR r = .ok (x, r')) : ∃ a k i o, inR (mustR r).2 = .ok a ∧ idxT kindW 0 a.2 = some k ∧ ifR k.2 = .ok i ∧ opR i.2.2 = .ok o ∧ acceptT 4 [59] o.2.2.2 = some r' ∧ x = ⟨(mustR r).1, a.1, k.1, i.1, i.2.1, o.1, o.2.1, o.2.2.1⟩ := by
  obtain ⟨a, h1, h⟩ := bnd_ok h
  obtain ⟨k, h2, h⟩ := bnd_ok h
  obtain ⟨i, h3, h⟩ := bnd_ok h
  obtain ⟨o, h4, h⟩ := bnd_ok h
  obtain ⟨r6, h5, h⟩ := bnd_ok h
  cases h
  exact ⟨a, k, i, o, h1, kind_cut h2, h3, h4, symbol_cut h5, rfl⟩
theorem rule_suf {r r' : List Tok} {x : Rl} (h : ruleR r = .ok (x, r')) : r' <:+ r ∧ r'.length < r.length := by
  obtain ⟨a, k, i, o, h1, h2, h3, h4, h5, _⟩ := rule_cut h
  have hs : o.2.2.2 <:+ r := (op_suf h4).trans ((if_suf h3).trans ((idx_suf (j := k.1) (r' := k.2) h2).trans ((in_suf h1).trans (must_suf r))))
  refine ⟨(accept_suf h5).trans hs, ?_⟩
  obtain ⟨t, h6, _⟩ := accept_cut h5
  have := hs.length_le
  rw [h6] at this
  simp at this
  omega
end Go.Proofs.PlRule
