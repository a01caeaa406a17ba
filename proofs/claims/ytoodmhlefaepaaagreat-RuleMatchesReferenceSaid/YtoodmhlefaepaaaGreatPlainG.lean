/-
  A reader of tokens that notes its first error and then reads nothing, and that it reads what the parser reads. No program in sight.
-/
import Derived.Test.YtoodmhlefaepaaaGreatPlainF
namespace Go.Proofs.PlRule
open Go Go.Proofs.PlLex

/-- What is left, or the first error with its offset. -/
abbrev Rst := Except (Nat × Int) (List Tok)
def failS (n e : Nat) : Rst → Rst
  | .error x => .error x
  | .ok r => .error (errAt n (e, r))
def isS (k : Nat) (s : L) : Rst → Bool
  | .error _ => false
  | .ok r => (acceptT k s r).isSome
def nextS : Rst → Rst
  | .error x => .error x
  | .ok r => .ok r.tail
def isStrS : Rst → Bool
  | .error _ => false
  | .ok r => isStr r
def lenS : Rst → Nat
  | .error _ => 0
  | .ok r => r.length
def wordQ (s : L) (st : Rst) : Bool × Rst := if isS 1 s st then (true, nextS st) else (false, st)
def symbolS (n : Nat) (s : L) (st : Rst) : Rst := if isS 4 s st then nextS st else failS n 5 st
def anyS (n k : Nat) : Rst → L × Rst
  | .error x => ([], .error x)
  | .ok r => match takeT k r with
    | .ok p => (p.1, .ok p.2)
    | .error y => ([], .error (errAt n y))
def inS (n : Nat) (st : Rst) : BA × Rst :=
  match wordQ wIn st with
  | (true, st1) => (ba (anyS n 1 st1).1, (anyS n 1 st1).2)
  | (false, st1) => (ba [], st1)
def idxS : List L → Int → Rst → Int × Rst
  | [], _, st => (-1, st)
  | w :: ws, i, st =>
    match wordQ w st with
    | (true, st1) => (i, st1)
    | (false, st1) => idxS ws (i + 1) st1
def kindS (n : Nat) (st : Rst) : Int × Rst :=
  match idxS kindW 0 st with
  | (k, st1) => if k < 0 then (k, failS n 5 st1) else (k, st1)
def ifS (n : Nat) (st : Rst) : BA × BA × Rst :=
  match wordQ wWhere st with
  | (true, st1) =>
    let p := anyS n 1 st1
    let q := anyS n 3 (symbolS n [61] p.2)
    (ba p.1, ba q.1, q.2)
  | (false, st1) => (ba [], ba [], st1)
def fullS (n : Nat) (l : List BA) (st : Rst) : Rst := if l.length = 60 ∧ isStrS st = true then failS n 2 st else st
def moreS (n : Nat) : Nat → List BA → Rst → List BA × Rst
  | 0, l, st => (l, st)
  | f + 1, l, st =>
    match isS 4 [44] st with
    | true => moreS n f (l ++ [ba (anyS n 3 (fullS n l (nextS st))).1]) (anyS n 3 (fullS n l (nextS st))).2
    | false => (l, st)
def valuesS (n : Nat) (st : Rst) : List BA × Rst := moreS n (lenS (anyS n 3 st).2 + 1) [ba (anyS n 3 st).1] (anyS n 3 st).2
def ofS (n : Nat) (st : Rst) : Rst :=
  match wordQ wOf st with
  | (true, st1) => st1
  | (false, st1) => failS n 5 st1
def opS (n : Nat) (st : Rst) : Int × BA × List BA × Rst :=
  match wordQ wNeeds st with
  | (true, st1) => (1, ba (anyS n 1 st1).1, [], (anyS n 1 st1).2)
  | (false, st1) =>
    match wordQ wNo st1 with
    | (true, st2) => (3, ba (anyS n 1 st2).1, [], (anyS n 1 st2).2)
    | (false, st2) =>
      match wordQ wHas st2 with
      | (true, st3) => (2, ba (anyS n 1 st3).1, (valuesS n (ofS n (anyS n 1 st3).2)).1, (valuesS n (ofS n (anyS n 1 st3).2)).2)
      | (false, st3) => (0, ba [], [], failS n 5 st3)
/-- What the reader's rule computes. -/
structure RuleS (n : Nat) (st : Rst) (x : Rl) (st' : Rst) : Prop where
  out : ∃ st1 st2 st3 st4 st5, wordQ wMust st = (x.strict, st1) ∧ inS n st1 = (x.area, st2) ∧ kindS n st2 = (x.kind, st3) ∧ ifS n st3 = (x.ik, x.iv, st4) ∧ opS n st4 = (x.op, x.key, x.vals, st5) ∧ symbolS n [59] st5 = st'

/-! After an error nothing changes. -/
theorem wordQ_error (s : L) (x : Nat × Int) : wordQ s (.error x) = (false, .error x) := rfl
theorem inS_error (n : Nat) (x : Nat × Int) : inS n (.error x) = (ba [], .error x) := rfl
theorem idxS_error (ws : List L) (i : Int) (x : Nat × Int) : idxS ws i (.error x) = (-1, .error x) := by
  induction ws generalizing i with
  | nil => rfl
  | cons w ws ih => unfold idxS; rw [wordQ_error]; exact ih _
theorem kindS_error (n : Nat) (x : Nat × Int) : kindS n (.error x) = (-1, .error x) := by
  unfold kindS
  rw [idxS_error]
  rfl
theorem ifS_error (n : Nat) (x : Nat × Int) : ifS n (.error x) = (ba [], ba [], .error x) := rfl
theorem moreS_error (n f : Nat) (l : List BA) (x : Nat × Int) : moreS n f l (.error x) = (l, .error x) := by cases f <;> rfl
theorem opS_error (n : Nat) (x : Nat × Int) : opS n (.error x) = (0, ba [], [], .error x) := rfl
theorem symbolS_error (n : Nat) (s : L) (x : Nat × Int) : symbolS n s (.error x) = .error x := rfl

/-! With no error: as the parser. -/
theorem isS_none {k : Nat} {s : L} {r : List Tok} (h : acceptT k s r = none) : isS k s (.ok r) = false := by
  show (acceptT k s r).isSome = false
  rw [h]; rfl
theorem isS_some {k : Nat} {s : L} {r r' : List Tok} (h : acceptT k s r = some r') : isS k s (.ok r) = true ∧ nextS (.ok r) = .ok r' := by
  obtain ⟨t, rfl, _⟩ := accept_cut h
  refine ⟨?_, rfl⟩
  show (acceptT k s (t :: r')).isSome = true
  rw [h]; rfl
theorem wordQ_none {s : L} {r : List Tok} (h : acceptT 1 s r = none) : wordQ s (.ok r) = (false, .ok r) := by
  unfold wordQ
  rw [isS_none h]; rfl
theorem wordQ_some {s : L} {r r' : List Tok} (h : acceptT 1 s r = some r') : wordQ s (.ok r) = (true, .ok r') := by
  unfold wordQ
  rw [(isS_some h).1, (isS_some h).2]; rfl
theorem symbolS_ok (n : Nat) (s : L) (r : List Tok) : symbolS n s (.ok r) = match symbolT s r with | .ok r' => .ok r' | .error y => .error (errAt n y) := by
  unfold symbolS symbolT
  cases e : acceptT 4 s r with
  | none => rw [isS_none e]; rfl
  | some r' => rw [(isS_some e).1, (isS_some e).2]; rfl
theorem anyS_ok (n k : Nat) {r : List Tok} {p : L × List Tok} (h : takeT k r = .ok p) : anyS n k (.ok r) = (p.1, .ok p.2) := by
  show (match takeT k r with | .ok p => (p.1, .ok p.2) | .error y => ([], .error (errAt n y)) : L × Rst) = _
  rw [h]
theorem anyS_no (n k : Nat) {r : List Tok} {y : Nat × List Tok} (h : takeT k r = .error y) : anyS n k (.ok r) = ([], .error (errAt n y)) := by
  show (match takeT k r with | .ok p => (p.1, .ok p.2) | .error y => ([], .error (errAt n y)) : L × Rst) = _
  rw [h]
theorem inS_ok (n : Nat) {r : List Tok} {p : BA × List Tok} (h : inR r = .ok p) : inS n (.ok r) = (p.1, .ok p.2) := by
  unfold inR at h
  unfold inS
  cases e : acceptT 1 wIn r with
  | none =>
    rw [e] at h
    cases h
    rw [wordQ_none e]
  | some r1 =>
    rw [e] at h
    obtain ⟨q, h1, h2⟩ := bnd_ok (x := takeT 1 r1) h
    cases h2
    rw [wordQ_some e]
    simp only [anyS_ok n 1 h1]
theorem bnd_no {α β : Type} {x : Res α} {f : α → Res β} {y : Nat × List Tok} (h : bnd x f = .error y) : x = .error y ∨ ∃ a, x = .ok a ∧ f a = .error y := by
  cases x with
  | error e => left; cases h; rfl
  | ok a => exact .inr ⟨a, rfl, h⟩
theorem inS_no (n : Nat) {r : List Tok} {y : Nat × List Tok} (h : inR r = .error y) : (inS n (.ok r)).2 = .error (errAt n y) := by
  unfold inR at h
  unfold inS
  cases e : acceptT 1 wIn r with
  | none => rw [e] at h; cases h
  | some r1 =>
    rw [e] at h
    rcases bnd_no (x := takeT 1 r1) h with h1 | ⟨q, h1, h2⟩
    · rw [wordQ_some e]
      simp only [anyS_no n 1 h1]
    · cases h2
theorem idxS_ok {ws : List L} {i : Int} {r : List Tok} : idxS ws i (.ok r) = match idxT ws i r with | some p => (p.1, .ok p.2) | none => (-1, .ok r) := by
  induction ws generalizing i with
  | nil => rfl
  | cons w ws ih =>
    unfold idxS idxT
    cases e : acceptT 1 w r with
    | none => rw [wordQ_none e]; exact ih
    | some r' => rw [wordQ_some e]
theorem idxT_low {ws : List L} {i : Int} {r : List Tok} {p : Int × List Tok} (h : idxT ws i r = some p) : i ≤ p.1 := by
  induction ws generalizing i with
  | nil => cases h
  | cons w ws ih =>
    unfold idxT at h
    cases e : acceptT 1 w r with
    | none => rw [e] at h; have := ih h; omega
    | some x => rw [e] at h; cases h; exact Int.le_refl _
theorem kindS_ok (n : Nat) {r : List Tok} {p : Int × List Tok} (h : kindR r = .ok p) : kindS n (.ok r) = (p.1, .ok p.2) := by
  have h := kind_cut h
  have h0 := idxT_low h
  unfold kindS
  rw [idxS_ok, h]
  show (if p.1 < 0 then _ else _) = _
  rw [if_neg (by omega)]
theorem kindS_no (n : Nat) {r : List Tok} {y : Nat × List Tok} (h : kindR r = .error y) : (kindS n (.ok r)).2 = .error (errAt n y) := by
  unfold kindR at h
  unfold kindS
  rw [idxS_ok]
  cases e : idxT kindW 0 r with
  | some p => rw [e] at h; cases h
  | none => rw [e] at h; cases h; rfl
theorem ifS_ok (n : Nat) {r : List Tok} {p : BA × BA × List Tok} (h : ifR r = .ok p) : ifS n (.ok r) = (p.1, p.2.1, .ok p.2.2) := by
  unfold ifR at h
  unfold ifS
  cases e : acceptT 1 wWhere r with
  | none => rw [e] at h; cases h; rw [wordQ_none e]
  | some r1 =>
    rw [e] at h
    obtain ⟨q, h1, h2⟩ := bnd_ok (x := takeT 1 r1) h
    obtain ⟨r3, h3, h4⟩ := bnd_ok h2
    obtain ⟨u, h5, h6⟩ := bnd_ok h4
    cases h6
    rw [wordQ_some e]
    simp only [anyS_ok n 1 h1, symbolS_ok, h3, anyS_ok n 3 h5]
theorem ifS_no (n : Nat) {r : List Tok} {y : Nat × List Tok} (h : ifR r = .error y) : (ifS n (.ok r)).2.2 = .error (errAt n y) := by
  unfold ifR at h
  unfold ifS
  cases e : acceptT 1 wWhere r with
  | none => rw [e] at h; cases h
  | some r1 =>
    rw [e] at h
    rw [wordQ_some e]
    rcases bnd_no (x := takeT 1 r1) h with h1 | ⟨q, h1, h2⟩
    · simp only [anyS_no n 1 h1, symbolS_error]
      rfl
    · rcases bnd_no h2 with h3 | ⟨r3, h3, h4⟩
      · simp only [anyS_ok n 1 h1, symbolS_ok, h3]
        rfl
      · rcases bnd_no h4 with h5 | ⟨u, h5, h6⟩
        · simp only [anyS_ok n 1 h1, symbolS_ok, h3, anyS_no n 3 h5]
        · cases h6
theorem moreS_true {n f : Nat} {l : List BA} {st : Rst} (h : isS 4 [44] st = true) : moreS n (f + 1) l st = moreS n f (l ++ [ba (anyS n 3 (fullS n l (nextS st))).1]) (anyS n 3 (fullS n l (nextS st))).2 := by
  rw [moreS, h]
theorem moreS_false {n f : Nat} {l : List BA} {st : Rst} (h : isS 4 [44] st = false) : moreS n (f + 1) l st = (l, st) := by
  rw [moreS, h]
theorem moreS_ok (n : Nat) {f : Nat} {l : List BA} {r : List Tok} {q : List BA × List Tok} (h : moreT f l r = .ok q) : moreS n f l (.ok r) = (q.1, .ok q.2) := by
  induction f generalizing l r with
  | zero => cases h; rfl
  | succ f ih =>
    rcases more_cut h with ⟨e, rfl⟩ | ⟨r1, s, r2, h1, h2, h3, h4⟩
    · exact moreS_false (isS_none e)
    · rw [moreS_true (isS_some h1).1, (isS_some h1).2]
      have e : fullS n l (.ok r1) = .ok r1 := by unfold fullS; rw [if_neg (fun e => h3 e.1)]
      rw [e, anyS_ok n 3 h2]
      exact ih h4
theorem moreS_no (n : Nat) {f : Nat} {l : List BA} {r : List Tok} {y : Nat × List Tok} (h : moreT f l r = .error y) : (moreS n f l (.ok r)).2 = .error (errAt n y) := by
  induction f generalizing l r with
  | zero => cases h
  | succ f ih =>
    rw [more_succ] at h
    cases e : acceptT 4 [44] r with
    | none => rw [e] at h; cases h
    | some r1 =>
      rw [e] at h
      replace h : (if l.length = 60 ∧ isStr r1 = true then (.error (2, r1) : Res (List BA × List Tok)) else bnd (takeT 3 r1) (fun p => moreT f (l ++ [ba p.1]) p.2)) = .error y := h
      rw [moreS_true (isS_some e).1, (isS_some e).2]
      by_cases hf : l.length = 60 ∧ isStr r1 = true
      · rw [if_pos hf] at h
        cases h
        have e : fullS n l (.ok r1) = .error (errAt n (2, r1)) := by unfold fullS; exact if_pos hf
        rw [e]
        show (moreS n f _ (.error _)).2 = _
        rw [moreS_error]
      · rw [if_neg hf] at h
        have e : fullS n l (.ok r1) = .ok r1 := by unfold fullS; exact if_neg hf
        rw [e]
        rcases bnd_no (x := takeT 3 r1) h with h1 | ⟨q, h1, h2⟩
        · rw [anyS_no n 3 h1, moreS_error]
        · rw [anyS_ok n 3 h1]
          exact ih h2
theorem valuesS_ok (n : Nat) {r : List Tok} {q : List BA × List Tok} (h : valuesT r = .ok q) : valuesS n (.ok r) = (q.1, .ok q.2) := by
  obtain ⟨s, r1, h1, h2⟩ := values_cut h
  unfold valuesS
  rw [anyS_ok n 3 h1]
  exact moreS_ok n h2
theorem valuesS_no (n : Nat) {r : List Tok} {y : Nat × List Tok} (h : valuesT r = .error y) : (valuesS n (.ok r)).2 = .error (errAt n y) := by
  unfold valuesS
  rcases bnd_no (x := takeT 3 r) h with h1 | ⟨q, h1, h2⟩
  · rw [anyS_no n 3 h1, moreS_error]
  · rw [anyS_ok n 3 h1]
    exact moreS_no n h2
theorem valuesS_error (n : Nat) (x : Nat × Int) : (valuesS n (.error x)).2 = .error x := rfl
theorem ofS_ok (n : Nat) (r : List Tok) : ofS n (.ok r) = match ofR r with | .ok r' => .ok r' | .error y => .error (errAt n y) := by
  unfold ofS ofR
  cases e : acceptT 1 wOf r with
  | none => rw [wordQ_none e]; rfl
  | some r' => rw [wordQ_some e]
theorem ofS_error (n : Nat) (x : Nat × Int) : ofS n (.error x) = .error x := rfl
theorem opS_ok (n : Nat) {r : List Tok} {p : Int × BA × List BA × List Tok} (h : opR r = .ok p) : opS n (.ok r) = (p.1, p.2.1, p.2.2.1, .ok p.2.2.2) := by
  unfold opS
  rcases op_cut h with ⟨r1, s, r2, h1, h2, rfl⟩ | ⟨r1, s, r2, h0, h1, h2, rfl⟩ | ⟨r1, s, r2, r3, q, h0, h1, h2, h3, h4, h5, rfl⟩
  · rw [wordQ_some h1]
    simp only [anyS_ok n 1 h2]
  · rw [wordQ_none h0]
    simp only [wordQ_some h1, anyS_ok n 1 h2]
  · rw [wordQ_none h0]
    have e4 : ofR r2 = .ok r3 := by unfold ofR; rw [h4]
    simp only [wordQ_none h1, wordQ_some h2, anyS_ok n 1 h3, ofS_ok, e4, valuesS_ok n h5]
theorem opS_no (n : Nat) {r : List Tok} {y : Nat × List Tok} (h : opR r = .error y) : (opS n (.ok r)).2.2.2 = .error (errAt n y) := by
  unfold opR at h
  unfold opS
  cases e1 : acceptT 1 wNeeds r with
  | some r1 =>
    rw [e1] at h
    rw [wordQ_some e1]
    rcases bnd_no (x := takeT 1 r1) h with h1 | ⟨q, h1, h2⟩
    · simp only [anyS_no n 1 h1]
    · cases h2
  | none =>
    rw [e1] at h
    rw [wordQ_none e1]
    cases e2 : acceptT 1 wNo r with
    | some r1 =>
      rw [e2] at h
      simp only [wordQ_some e2]
      rcases bnd_no (x := takeT 1 r1) h with h1 | ⟨q, h1, h2⟩
      · simp only [anyS_no n 1 h1]
      · cases h2
    | none =>
      rw [e2] at h
      simp only [wordQ_none e2]
      cases e3 : acceptT 1 wHas r with
      | none =>
        rw [e3] at h
        cases h
        simp only [wordQ_none e3]
        rfl
      | some r1 =>
        rw [e3] at h
        simp only [wordQ_some e3]
        rcases bnd_no (x := takeT 1 r1) h with h1 | ⟨q, h1, h2⟩
        · simp only [anyS_no n 1 h1, ofS_error, valuesS_error]
        · rcases bnd_no h2 with h3 | ⟨r3, h3, h4⟩
          · simp only [anyS_ok n 1 h1, ofS_ok, h3, valuesS_error]
          · rcases bnd_no h4 with h5 | ⟨u, h5, h6⟩
            · simp only [anyS_ok n 1 h1, ofS_ok, h3, valuesS_no n h5]
            · cases h6
theorem mustS_ok (r : List Tok) : wordQ wMust (.ok r) = ((mustR r).1, .ok (mustR r).2) := by
  unfold mustR
  cases e : acceptT 1 wMust r with
  | none => exact wordQ_none e
  | some r' => exact wordQ_some e
/-- The reader's rule is the parser's. -/
theorem ruleS_ok {n : Nat} {r : List Tok} {x : Rl} {st : Rst} (h : RuleS n (.ok r) x st) : (∃ r', ruleR r = .ok (x, r') ∧ st = .ok r') ∨ ∃ y, ruleR r = .error y ∧ st = .error (errAt n y) := by
  obtain ⟨st1, st2, st3, st4, st5, h1, h2, h3, h4, h5, h6⟩ := h.out
  rw [mustS_ok] at h1
  obtain ⟨h1a, rfl⟩ := Prod.mk.inj h1
  have err : ∀ (z : Nat × Int), (st2 = .error z ∨ st3 = .error z ∨ st4 = .error z ∨ st5 = .error z) → st = .error z := by
    rintro z (rfl | rfl | rfl | rfl)
    · rw [kindS_error] at h3; obtain ⟨_, rfl⟩ := Prod.mk.inj h3
      rw [ifS_error] at h4; obtain ⟨_, e⟩ := Prod.mk.inj h4; obtain ⟨_, rfl⟩ := Prod.mk.inj e
      rw [opS_error] at h5; obtain ⟨_, e⟩ := Prod.mk.inj h5; obtain ⟨_, e⟩ := Prod.mk.inj e; obtain ⟨_, rfl⟩ := Prod.mk.inj e
      rw [symbolS_error] at h6; exact h6.symm
    · rw [ifS_error] at h4; obtain ⟨_, e⟩ := Prod.mk.inj h4; obtain ⟨_, rfl⟩ := Prod.mk.inj e
      rw [opS_error] at h5; obtain ⟨_, e⟩ := Prod.mk.inj h5; obtain ⟨_, e⟩ := Prod.mk.inj e; obtain ⟨_, rfl⟩ := Prod.mk.inj e
      rw [symbolS_error] at h6; exact h6.symm
    · rw [opS_error] at h5; obtain ⟨_, e⟩ := Prod.mk.inj h5; obtain ⟨_, e⟩ := Prod.mk.inj e; obtain ⟨_, rfl⟩ := Prod.mk.inj e
      rw [symbolS_error] at h6; exact h6.symm
    · rw [symbolS_error] at h6; exact h6.symm
  unfold ruleR
  rcases e1 : inR (mustR r).2 with y | a
  · refine .inr ⟨y, rfl, err _ (.inl ?_)⟩
    have := inS_no n e1
    rw [h2] at this
    exact this
  have q1 := inS_ok n e1
  rw [h2] at q1
  obtain ⟨q1a, rfl⟩ := Prod.mk.inj q1
  rcases e2 : kindR a.2 with y | k
  · refine .inr ⟨y, by show bnd (kindR a.2) _ = _; rw [e2]; rfl, err _ (.inr (.inl ?_))⟩
    have := kindS_no n e2
    rw [h3] at this
    exact this
  have q2 := kindS_ok n e2
  rw [h3] at q2
  obtain ⟨q2a, rfl⟩ := Prod.mk.inj q2
  rcases e3 : ifR k.2 with y | i
  · refine .inr ⟨y, by show bnd (kindR a.2) _ = _; rw [e2]; show bnd (ifR k.2) _ = _; rw [e3]; rfl, err _ (.inr (.inr (.inl ?_)))⟩
    have := ifS_no n e3
    rw [h4] at this
    exact this
  have q3 := ifS_ok n e3
  rw [h4] at q3
  obtain ⟨q3a, q3b⟩ := Prod.mk.inj q3
  obtain ⟨q3c, rfl⟩ := Prod.mk.inj q3b
  rcases e4 : opR i.2.2 with y | o
  · refine .inr ⟨y, by show bnd (kindR a.2) _ = _; rw [e2]; show bnd (ifR k.2) _ = _; rw [e3]; show bnd (opR i.2.2) _ = _; rw [e4]; rfl, err _ (.inr (.inr (.inr ?_)))⟩
    have := opS_no n e4
    rw [h5] at this
    exact this
  have q4 := opS_ok n e4
  rw [h5] at q4
  obtain ⟨q4a, q4b⟩ := Prod.mk.inj q4
  obtain ⟨q4d, q4c⟩ := Prod.mk.inj q4b
  obtain ⟨q4e, rfl⟩ := Prod.mk.inj q4c
  rw [symbolS_ok] at h6
  rcases e5 : symbolT [59] o.2.2.2 with y | r6
  · refine .inr ⟨y, by show bnd (kindR a.2) _ = _; rw [e2]; show bnd (ifR k.2) _ = _; rw [e3]; show bnd (opR i.2.2) _ = _; rw [e4]; show bnd (symbolT [59] o.2.2.2) _ = _; rw [e5]; rfl, ?_⟩
    rw [e5] at h6
    exact h6.symm
  · refine .inl ⟨r6, ?_, ?_⟩
    · show bnd (kindR a.2) _ = _
      rw [e2]; show bnd (ifR k.2) _ = _; rw [e3]; show bnd (opR i.2.2) _ = _; rw [e4]; show bnd (symbolT [59] o.2.2.2) _ = _; rw [e5]
      show Except.ok _ = _
      rw [show x = ⟨(mustR r).1, a.1, k.1, i.1, i.2.1, o.1, o.2.1, o.2.2.1⟩ from Rl.ext' h1a.symm q1a q2a q3a q3c q4a q4d q4e]
    · rw [e5] at h6
      exact h6.symm
theorem ruleS_error {n : Nat} {z : Nat × Int} {x : Rl} {st : Rst} (h : RuleS n (.error z) x st) : st = .error z := by
  obtain ⟨st1, st2, st3, st4, st5, h1, h2, h3, h4, h5, h6⟩ := h.out
  rw [wordQ_error] at h1; obtain ⟨_, rfl⟩ := Prod.mk.inj h1
  rw [inS_error] at h2; obtain ⟨_, rfl⟩ := Prod.mk.inj h2
  rw [kindS_error] at h3; obtain ⟨_, rfl⟩ := Prod.mk.inj h3
  rw [ifS_error] at h4; obtain ⟨_, e⟩ := Prod.mk.inj h4; obtain ⟨_, rfl⟩ := Prod.mk.inj e
  rw [opS_error] at h5; obtain ⟨_, e⟩ := Prod.mk.inj h5; obtain ⟨_, e⟩ := Prod.mk.inj e; obtain ⟨_, rfl⟩ := Prod.mk.inj e
  rw [symbolS_error] at h6; exact h6.symm
end Go.Proofs.PlRule
