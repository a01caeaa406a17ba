/-
  The plain laws of the lexer: tokens of a text as a function on lists of bytes, and what the eight statements of layer 8 say of it. No program in sight.
-/
namespace Go.Proofs.PlLex

abbrev B := UInt8
abbrev L := List UInt8

def isLetter (c : B) : Bool := (97 ≤ c && c ≤ 122) || (65 ≤ c && c ≤ 90)
def isDigit (c : B) : Bool := 48 ≤ c && c ≤ 57
def isWord (c : B) : Bool := isLetter c || isDigit c || c == 95
def isBlank (c : B) : Bool := c == 32 || c == 9 || c == 10
def isSym (c : B) : Bool := [59, 44, 46, 58, 40, 41, 123, 125, 91, 93, 61, 60, 62, 47, 45].contains c

/-- A token: kind (1 name, 2 number, 3 string, 4 symbol), text, offset. -/
structure Tok where
  kind : Nat
  text : L
  off : Nat

def name (l : L) : Bool := l.all isWord && (match l with | [] => false | c :: _ => isLetter c) && l.length ≤ 24

def quoteB : L → L
  | [] => []
  | c :: l => if c == 10 then 92 :: 110 :: quoteB l else if c == 34 || c == 92 then 92 :: c :: quoteB l else c :: quoteB l
def quote (l : L) : L := 34 :: (quoteB l ++ [34])

/-- What follows an opening quote (or, 'true', a backslash): the text, and how many bytes up to and with the closing quote. -/
def strM : Bool → L → Option (L × Nat)
  | _, [] => none
  | false, c :: l =>
    if c == 34 then some ([], 1) else if c == 10 then none else if c == 92 then (strM true l).map (fun r => (r.1, r.2 + 1))
    else (strM false l).map (fun r => (c :: r.1, r.2 + 1))
  | true, d :: l => if d == 92 || d == 34 || d == 110 then (strM false l).map (fun r => ((if d == 110 then 10 else d) :: r.1, r.2 + 1)) else none
def str (l : L) : Option (L × Nat) := strM false l

def headWord : L → Bool
  | [] => false
  | d :: _ => isWord d

/-- Errors: 2 limit, 3 char, 4 number. -/
def nextT (c : B) (l : L) : Except Nat (Nat × L × Nat) :=
  if isLetter c then
    let t := c :: l.takeWhile isWord
    if 24 < t.length then .error 2 else .ok (1, t, t.length)
  else if isDigit c then
    let t := c :: l.takeWhile isDigit
    if 7 < t.length || headWord (l.dropWhile isDigit) then .error 4 else .ok (2, t, t.length)
  else if c == 34 then
    match str l with
    | none => .error 3
    | some (s, n) => .ok (3, s, n + 1)
  else if isSym c then .ok (4, [c], 1)
  else .error 3

def toLine (l : L) : Nat := (l.takeWhile (fun c => c != 10)).length

/-- The tokens from an offset on, 'skip' bytes of which belong to what came before. -/
def scan : Nat → Nat → L → List Tok × Option (Nat × Nat)
  | _, _, [] => ([], none)
  | k + 1, off, _ :: l => scan k (off + 1) l
  | 0, off, c :: l =>
    if isBlank c then scan 0 (off + 1) l
    else if c == 35 then scan (toLine l) (off + 1) l
    else match nextT c l with
      | .error e => ([], some (e, off))
      | .ok (k, t, n) => (⟨k, t, off⟩ :: (scan (n - 1) (off + 1) l).1, (scan (n - 1) (off + 1) l).2)

/-- What Lex returns: the tokens, the error (0: none), the offset. -/
def lex (l : L) : List Tok × Nat × Int :=
  if 20000 < l.length then ([], 2, -1)
  else if 5000 < (scan 0 0 l).1.length then ([], 2, (((scan 0 0 l).1[5000]?).map (·.off)).getD 0)
  else match (scan 0 0 l).2 with
    | some (e, n) => ([], e, n)
    | none => ((scan 0 0 l).1, 0, 0)

def written (t : Tok) : L := if t.kind = 3 then quote t.text else t.text

/-- How many bytes of gaps a text begins with. -/
def gapF : Bool → L → Nat
  | _, [] => 0
  | true, c :: l => if c == 10 then gapF false l + 1 else gapF true l + 1
  | false, c :: l => if isBlank c then gapF false l + 1 else if c == 35 then gapF true l + 1 else 0
def gaps (l : L) : Bool := gapF false l == l.length

/-- The state behind gaps: is a comment open? 'none': a byte that is no gap. -/
def gapE : Bool → L → Option Bool
  | b, [] => some b
  | true, c :: l => gapE (c != 10) l
  | false, c :: l => if isBlank c then gapE false l else if c == 35 then gapE true l else none

theorem gapE_append (b : Bool) (l m : L) : gapE b (l ++ m) = (gapE b l).bind (fun b' => gapE b' m) := by
  induction l generalizing b with
  | nil => cases b <;> simp [gapE]
  | cons c l ih =>
    cases b with
    | true => simp [gapE, ih]
    | false =>
      simp only [List.cons_append, gapE]
      split
      · exact ih _
      · split
        · exact ih _
        · simp

theorem gapF_le (b : Bool) (l : L) : gapF b l ≤ l.length := by
  induction l generalizing b with
  | nil => cases b <;> simp [gapF]
  | cons c l ih => cases b <;> simp only [gapF] <;> (repeat' split) <;> simp <;> first | exact ih _ | omega

theorem gapF_all (b : Bool) (l : L) : (gapF b l = l.length) ↔ (gapE b l).isSome = true := by
  induction l generalizing b with
  | nil => cases b <;> simp [gapF, gapE]
  | cons c l ih =>
    cases b with
    | true =>
      simp only [gapF, gapE]
      by_cases h : c = 10
      · subst h; simpa using ih false
      · have h1 : (c == 10) = false := by simpa using h
        have h2 : (c != 10) = true := by simpa using h
        simpa [h1, h2] using ih true
    | false =>
      simp only [gapF, gapE]
      split
      · simpa using ih false
      · split
        · simpa using ih true
        · simp

theorem gaps_iff (l : L) : gaps l = true ↔ (gapE false l).isSome = true := by
  unfold gaps
  rw [beq_iff_eq, gapF_all]

/-- What may follow gaps that are closed: nothing, or a byte that begins no gap. -/
def noGap (c : B) : Prop := isBlank c = false ∧ (c == 35) = false

theorem toLine_spec (l : L) : gapE true (l.take (toLine l)) = some true := by
  induction l with
  | nil => simp [gapE, toLine]
  | cons c l ih =>
    by_cases h : c = 10
    · subst h; simp [toLine, gapE]
    · have h' : (c != 10) = true := by simpa using h
      have e : toLine (c :: l) = toLine l + 1 := by simp [toLine, h']
      rw [e, List.take_succ_cons]
      simp only [gapE, h']
      exact ih

theorem toLine_le (l : L) : toLine l ≤ l.length := by
  unfold toLine
  exact (List.takeWhile_sublist _).length_le

theorem toLine_drop (l : L) : l.drop (toLine l) = [] ∨ ∃ m, l.drop (toLine l) = 10 :: m := by
  induction l with
  | nil => simp
  | cons c l ih =>
    by_cases h : c = 10
    · subst h; exact .inr ⟨l, by simp [toLine]⟩
    · have h' : (c != 10) = true := by simpa using h
      have e : toLine (c :: l) = toLine l + 1 := by simp [toLine, h']
      rw [e, List.drop_succ_cons]
      exact ih

theorem scan_skip (k off : Nat) (l : L) : scan k off l = scan 0 (off + k) (l.drop k) := by
  induction l generalizing k off with
  | nil => cases k <;> simp [scan]
  | cons c l ih =>
    cases k with
    | zero => simp
    | succ k =>
      rw [show scan (k + 1) off (c :: l) = scan k (off + 1) l from rfl, ih k (off + 1)]
      simp [Nat.add_comm 1 k, Nat.add_assoc]

/-- A comment that is open is passed to the line feed that ends it. -/
theorem scan_comment (off : Nat) (g l : L) (h : gapE true g = some false) : scan (toLine (g ++ l)) off (g ++ l) = scan 0 (off + toLine (g ++ l)) ((g ++ l).drop (toLine (g ++ l))) ∧ ∃ g', g = g.take (toLine (g ++ l)) ++ 10 :: g' ∧ gapE false g' = some false ∧ toLine (g ++ l) < g.length := by
  refine ⟨scan_skip _ _ _, ?_⟩
  induction g with
  | nil => simp [gapE] at h
  | cons c g ih =>
    by_cases hc : c = 10
    · subst hc
      exact ⟨g, by simp [toLine], by simpa [gapE] using h, by simp [toLine]⟩
    · have h' : (c != 10) = true := by simpa using hc
      have e : toLine (c :: (g ++ l)) = toLine (g ++ l) + 1 := by simp [toLine, h']
      simp only [gapE, h'] at h
      obtain ⟨g', h1, h2, h3⟩ := ih h
      refine ⟨g', ?_, h2, ?_⟩
      · rw [List.cons_append, e, List.take_succ_cons, List.cons_append, ← h1]
      · rw [List.cons_append, e]; simp only [List.length_cons]; omega

theorem scan_nil (off : Nat) : scan 0 off [] = ([], none) := rfl

/-- Closed gaps are passed over. -/
theorem scan_gap (off : Nat) (g l : L) (h : gapE false g = some false) : scan 0 off (g ++ l) = scan 0 (off + g.length) l := by
  induction hn : g.length using Nat.strongRecOn generalizing off g with
  | _ n ih =>
    cases g with
    | nil => simp at hn; subst hn; rfl
    | cons c g =>
      subst hn
      simp only [gapE] at h
      by_cases hb : isBlank c = true
      · rw [if_pos hb] at h
        have e1 : scan 0 off (c :: g ++ l) = scan 0 (off + 1) (g ++ l) := by simp [scan, hb]
        rw [e1, ih g.length (by simp) (off + 1) g h rfl]
        simp [Nat.add_comm 1, Nat.add_assoc]
      · rw [if_neg hb] at h
        by_cases hc : (c == 35) = true
        · rw [if_pos hc] at h
          have e1 : scan 0 off (c :: g ++ l) = scan (toLine (g ++ l)) (off + 1) (g ++ l) := by simp only [List.cons_append, scan, hb, hc]; rfl
          obtain ⟨e2, g', h1, h2, h3⟩ := scan_comment (off + 1) g l h
          have hd : (g ++ l).drop (toLine (g ++ l)) = 10 :: (g' ++ l) := by
            rw [List.drop_append_of_le_length (by omega)]
            have : g.drop (toLine (g ++ l)) = 10 :: g' := by
              have := congrArg (List.drop (toLine (g ++ l))) h1
              rw [List.drop_append_of_le_length (by simp; omega)] at this
              simpa using this
            rw [this]; rfl
          have hlen : g.length = toLine (g ++ l) + 1 + g'.length := by
            have := congrArg List.length h1
            simp at this
            omega
          have e3 : scan 0 (off + 1 + toLine (g ++ l)) (10 :: (g' ++ l)) = scan 0 (off + 1 + toLine (g ++ l) + 1) (g' ++ l) := by simp [scan, isBlank]
          rw [e1, e2, hd, e3, ih g'.length (by simp; omega) _ g' h2 rfl]
          congr 1
          simp; omega
        · rw [if_neg hc] at h
          cases h

/-- Gaps alone, a comment at the end perhaps open. -/
theorem scan_gaps (off : Nat) (g : L) (h : (gapE false g).isSome = true) : scan 0 off g = ([], none) := by
  induction hn : g.length using Nat.strongRecOn generalizing off g with
  | _ n ih =>
    cases g with
    | nil => rfl
    | cons c g =>
      subst hn
      simp only [gapE] at h
      by_cases hb : isBlank c = true
      · rw [if_pos hb] at h
        have e1 : scan 0 off (c :: g) = scan 0 (off + 1) g := by simp [scan, hb]
        rw [e1]; exact ih g.length (by simp) _ g h rfl
      · rw [if_neg hb] at h
        by_cases hc : (c == 35) = true
        · rw [if_pos hc] at h
          have e1 : scan 0 off (c :: g) = scan (toLine g) (off + 1) g := by simp only [scan, hb, hc]; rfl
          rw [e1, scan_skip]
          refine ih (g.drop (toLine g)).length (by simp; omega) _ _ ?_ rfl
          have := gapE_append true (g.take (toLine g)) (g.drop (toLine g))
          rw [List.take_append_drop, toLine_spec] at this
          rw [this] at h
          rcases toLine_drop g with e | ⟨m, e⟩
          · rw [e]; rfl
          · rw [e] at h ⊢
            simpa [gapE, isBlank] using h
        · rw [if_neg hc] at h
          cases h

theorem scan_tok (off : Nat) (c : B) (l : L) (hc : noGap c) {k : Nat} {t : L} {n : Nat} (hn : 1 ≤ n) (h : nextT c l = .ok (k, t, n)) :
    scan 0 off (c :: l) = (⟨k, t, off⟩ :: (scan 0 (off + n) ((c :: l).drop n)).1, (scan 0 (off + n) ((c :: l).drop n)).2) := by
  obtain ⟨n, rfl⟩ : ∃ m, n = m + 1 := ⟨n - 1, by omega⟩
  have e := scan_skip n (off + 1) l
  rw [show off + 1 + n = off + (n + 1) by omega] at e
  simp only [scan, hc.1, hc.2, h, Nat.add_sub_cancel, List.drop_succ_cons, e]
  simp

theorem scan_err (off : Nat) (c : B) (l : L) (hc : noGap c) {e : Nat} (h : nextT c l = .error e) : scan 0 off (c :: l) = ([], some (e, off)) := by
  simp only [scan, hc.1, hc.2, h]
  simp

/-! ### The tokens -/

def validTok (k : Nat) (t : L) : Prop :=
  (k = 1 ∧ name t = true) ∨ (k = 2 ∧ t ≠ [] ∧ t.all isDigit = true ∧ t.length ≤ 7) ∨ k = 3 ∨ (k = 4 ∧ ∃ c, t = [c] ∧ isSym c = true)

def wr (k : Nat) (t : L) : L := if k = 3 then quote t else t

/-- What may stand directly behind a token. -/
def stops (k : Nat) (r : L) : Prop := (k = 1 ∨ k = 2) → ∀ c m, r = c :: m → isWord c = false

theorem takeWhile_all {p : B → Bool} (t r : L) (h : t.all p = true) (hr : ∀ c m, r = c :: m → p c = false) : (t ++ r).takeWhile p = t ∧ (t ++ r).dropWhile p = r := by
  induction t with
  | nil =>
    cases r with
    | nil => simp
    | cons c m => simp [hr c m rfl]
  | cons c t ih =>
    simp only [List.all_cons, Bool.and_eq_true] at h
    simp [h.1, ih h.2]

theorem takeWhile_split (p : B → Bool) (l : L) : ∃ t r, l = t ++ r ∧ t = l.takeWhile p ∧ r = l.dropWhile p ∧ t.all p = true ∧ ∀ c m, r = c :: m → p c = false := by
  induction l with
  | nil => exact ⟨[], [], rfl, rfl, rfl, rfl, by simp⟩
  | cons c l ih =>
    obtain ⟨t, r, h1, h2, h3, h4, h5⟩ := ih
    by_cases hp : p c = true
    · exact ⟨c :: t, r, by rw [h1]; rfl, by simp [hp, h2], by simp [hp, h3], by simp [hp, h4], h5⟩
    · refine ⟨[], c :: l, rfl, by simp [hp], by simp [hp], rfl, ?_⟩
      intro c' m e
      cases e
      simpa using hp

theorem letter_word (c : B) (h : isLetter c = true) : isWord c = true := by simp [isWord, h]
theorem digit_word (c : B) (h : isDigit c = true) : isWord c = true := by simp [isWord, h]
theorem letter_digit (c : B) (h : isLetter c = true) : isDigit c = false := by
  simp only [isLetter, isDigit, Bool.or_eq_true, Bool.and_eq_true, decide_eq_true_eq, UInt8.le_iff_toNat_le] at *
  simp only [Bool.and_eq_false_iff, decide_eq_false_iff_not]
  simp at *
  omega
theorem word_noGap (c : B) (h : isWord c = true) : noGap c := by
  simp only [isWord, isLetter, isDigit, Bool.or_eq_true, Bool.and_eq_true, decide_eq_true_eq, UInt8.le_iff_toNat_le, beq_iff_eq] at h
  unfold noGap
  simp only [isBlank, Bool.or_eq_false_iff, beq_eq_false_iff_ne, ne_eq]
  refine ⟨⟨⟨?_, ?_⟩, ?_⟩, ?_⟩ <;> (rintro rfl; simp at h)
theorem sym_cases (c : B) (h : isSym c = true) : c = 59 ∨ c = 44 ∨ c = 46 ∨ c = 58 ∨ c = 40 ∨ c = 41 ∨ c = 123 ∨ c = 125 ∨ c = 91 ∨ c = 93 ∨ c = 61 ∨ c = 60 ∨ c = 62 ∨ c = 47 ∨ c = 45 := by
  simpa [isSym] using h

theorem str_quoteB (s r : L) : strM false (quoteB s ++ 34 :: r) = some (s, (quoteB s).length + 1) := by
  induction s with
  | nil => simp [quoteB, strM]
  | cons c s ih =>
    by_cases h1 : c = 10
    · subst h1
      simp [quoteB, strM, ih]
    · by_cases h2 : c = 34 ∨ c = 92
      · have h0 : (c == 10) = false := by simpa using h1
        have h3 : (c == 34 || c == 92) = true := by simpa using h2
        have h4 : (c == 92 || c == 34 || c == 110) = true := by rcases h2 with rfl | rfl <;> rfl
        have h5 : (c == 110) = false := by rcases h2 with rfl | rfl <;> rfl
        have e : quoteB (c :: s) = 92 :: c :: quoteB s := by simp only [quoteB, h0, h3]; rfl
        have e2 : strM true (c :: (quoteB s ++ 34 :: r)) = some (c :: s, (quoteB s).length + 1 + 1) := by
          rw [show strM true (c :: (quoteB s ++ 34 :: r)) = (if c == 92 || c == 34 || c == 110 then (strM false (quoteB s ++ 34 :: r)).map (fun r => ((if c == 110 then 10 else c) :: r.1, r.2 + 1)) else none) from rfl, h4, h5, ih]; rfl
        rw [e, List.cons_append, List.cons_append, show strM false (92 :: c :: (quoteB s ++ 34 :: r)) = (strM true (c :: (quoteB s ++ 34 :: r))).map (fun r => (r.1, r.2 + 1)) from rfl, e2]
        rfl
      · have a1 : (c == 10) = false := by simpa using h1
        have a2 : (c == 34) = false := by simp at h2 ⊢; exact h2.1
        have a3 : (c == 92) = false := by simp at h2 ⊢; exact h2.2
        simp [quoteB, strM, a1, a2, a3, ih]

theorem str_some (l s : L) (n : Nat) (b : Bool) (h : strM b l = some (s, n)) :
    (b = false → ∃ r, l = quoteB s ++ 34 :: r ∧ n = (quoteB s).length + 1) ∧ (b = true → ∃ r, 92 :: l = quoteB s ++ 34 :: r ∧ n + 1 = (quoteB s).length + 1) := by
  induction l generalizing b s n with
  | nil => cases b <;> simp [strM] at h
  | cons c l ih =>
    cases b with
    | false =>
      refine ⟨fun _ => ?_, (fun h => by cases h)⟩
      simp only [strM] at h
      by_cases h1 : c = 34
      · subst h1
        simp at h
        obtain ⟨rfl, rfl⟩ := h
        exact ⟨l, rfl, rfl⟩
      · have a1 : (c == 34) = false := by simpa using h1
        rw [a1] at h
        by_cases h2 : c = 10
        · subst h2; simp at h
        · have a2 : (c == 10) = false := by simpa using h2
          rw [a2] at h
          by_cases h3 : c = 92
          · subst h3
            cases hs : strM true l with
            | none => simp [hs] at h
            | some x =>
              obtain ⟨s', n'⟩ := x
              simp [hs] at h
              obtain ⟨rfl, rfl⟩ := h
              obtain ⟨r, h4, h5⟩ := (ih _ _ true hs).2 rfl
              exact ⟨r, h4, h5⟩
          · have a3 : (c == 92) = false := by simpa using h3
            rw [a3] at h
            cases hs : strM false l with
            | none => simp [hs] at h
            | some x =>
              obtain ⟨s', n'⟩ := x
              simp [hs] at h
              obtain ⟨rfl, rfl⟩ := h
              obtain ⟨r, h4, h5⟩ := (ih _ _ false hs).1 rfl
              exact ⟨r, by simp [quoteB, a1, a2, a3, h4], by simp [quoteB, a1, a2, a3, h5]⟩
    | true =>
      refine ⟨(fun h => by cases h), fun _ => ?_⟩
      simp only [strM] at h
      split at h
      · rename_i hd
        cases hs : strM false l with
        | none => simp [hs] at h
        | some x =>
          obtain ⟨s', n'⟩ := x
          simp only [hs, Option.map_some, Option.some.injEq, Prod.mk.injEq] at h
          obtain ⟨rfl, rfl⟩ := h
          obtain ⟨r, h4, h5⟩ := (ih _ _ false hs).1 rfl
          by_cases h6 : c = 110
          · subst h6; exact ⟨r, by simp [quoteB, h4], by simp [quoteB, h5]⟩
          · have h7 : (c == 110) = false := by simpa using h6
            have h8 : c = 92 ∨ c = 34 := by simpa [h7] using hd
            have h9 : (c == 10) = false := by rcases h8 with rfl | rfl <;> rfl
            have h10 : (c == 34 || c == 92) = true := by rcases h8 with rfl | rfl <;> rfl
            have e : quoteB (c :: s') = 92 :: c :: quoteB s' := by simp only [quoteB, h9, h10]; rfl
            simp only [h7, Bool.false_eq_true, if_false, e]
            exact ⟨r, by simp [h4], by simp [h5]⟩
      · cases h

/-- Whatever is no string stays none before a line feed. -/
theorem str_none (l m : L) (b : Bool) (h : strM b l = none) : strM b (l ++ 10 :: m) = none := by
  induction l generalizing b with
  | nil => cases b <;> simp [strM]
  | cons c l ih =>
    cases b with
    | false =>
      simp only [List.cons_append, strM] at h ⊢
      split
      · rename_i h1; rw [if_pos h1] at h; exact h
      · rename_i h1
        rw [if_neg h1] at h
        split
        · rfl
        · rename_i h2
          rw [if_neg h2] at h
          split
          · rename_i h3
            rw [if_pos h3] at h
            rw [ih true (by simpa using h)]
            rfl
          · rename_i h3
            rw [if_neg h3] at h
            rw [ih false (by simpa using h)]
            rfl
    | true =>
      simp only [List.cons_append, strM] at h ⊢
      split
      · rename_i h1
        rw [if_pos h1] at h
        rw [ih false (by simpa using h)]
        rfl
      · rfl

theorem nextT_ok (c : B) (l : L) (k : Nat) (t : L) (n : Nat) (h : nextT c l = .ok (k, t, n)) :
    ∃ r, c :: l = wr k t ++ r ∧ n = (wr k t).length ∧ validTok k t ∧ stops k r := by
  unfold nextT at h
  split at h
  · rename_i hl
    obtain ⟨a, r, h1, h2, h3, h4, h5⟩ := takeWhile_split isWord l
    rw [← h2] at h
    simp only at h
    split at h
    · cases h
    · rename_i h6
      cases h
      refine ⟨r, by simp [wr, h1], by simp [wr], .inl ⟨rfl, ?_⟩, fun _ => h5⟩
      simp only [name, List.all_cons, letter_word c hl, h4, hl, Bool.and_self, Bool.true_and, decide_eq_true_eq]
      omega
  · rename_i hl
    split at h
    · rename_i hd
      obtain ⟨a, r, h1, h2, h3, h4, h5⟩ := takeWhile_split isDigit l
      rw [← h2, ← h3] at h
      simp only at h
      split at h
      · cases h
      · rename_i h6
        cases h
        simp only [Bool.or_eq_true, decide_eq_true_eq, not_or] at h6
        refine ⟨r, by simp [wr, h1], by simp [wr], .inr (.inl ⟨rfl, by simp, by simp [hd, h4], by omega⟩), fun _ c' m e => ?_⟩
        subst e
        simpa [headWord] using h6.2
    · rename_i hd
      split at h
      · rename_i hq
        have hq : c = 34 := by simpa using hq
        subst hq
        split at h
        · cases h
        · rename_i s n' hs
          cases h
          obtain ⟨r, h1, h2⟩ := (str_some l _ _ false hs).1 rfl
          refine ⟨r, by simp [wr, quote, h1], by simp [wr, quote, h2], .inr (.inr (.inl rfl)), fun hk => by omega⟩
      · rename_i hq
        split at h
        · rename_i hsym
          cases h
          exact ⟨l, by simp [wr], by simp [wr], .inr (.inr (.inr ⟨rfl, c, rfl, hsym⟩)), fun hk => by omega⟩
        · cases h

theorem nextT_of (k : Nat) (t r : L) (hv : validTok k t) (hs : stops k r) :
    ∃ c l, wr k t ++ r = c :: l ∧ noGap c ∧ nextT c l = .ok (k, t, (wr k t).length) := by
  rcases hv with ⟨rfl, hn⟩ | ⟨rfl, h1, h2, h3⟩ | rfl | ⟨rfl, c, rfl, hc⟩
  · cases t with
    | nil => simp [name] at hn
    | cons c t =>
      simp only [name, List.all_cons, Bool.and_eq_true, decide_eq_true_eq] at hn
      obtain ⟨⟨⟨h1, h2⟩, h3⟩, h4⟩ := hn
      obtain ⟨e1, _⟩ := takeWhile_all t r h2 (hs (.inl rfl))
      refine ⟨c, t ++ r, by simp [wr], word_noGap c h1, ?_⟩
      simp only [nextT, h3, if_true, e1]
      rw [if_neg (by omega)]
      simp [wr]
  · cases t with
    | nil => exact absurd rfl h1
    | cons c t =>
      simp only [List.all_cons, Bool.and_eq_true] at h2
      have hr : ∀ c' m, r = c' :: m → isDigit c' = false := by
        intro c' m e
        have := hs (.inr rfl) c' m e
        simp [isWord] at this
        exact this.1.2
      obtain ⟨e1, e2⟩ := takeWhile_all t r h2.2 hr
      refine ⟨c, t ++ r, by simp [wr], word_noGap c (digit_word c h2.1), ?_⟩
      have hl : isLetter c = false := by
        cases hlc : isLetter c with
        | false => rfl
        | true => have := letter_digit c hlc; rw [h2.1] at this; cases this
      simp only [nextT, hl, h2.1, e1, e2]
      have h4 : headWord r = false := by
        cases r with
        | nil => rfl
        | cons d m => exact hs (.inr rfl) d m rfl
      rw [h4]
      have h5 : ¬ 7 < (c :: t).length := by omega
      simp only [h5, decide_false, Bool.or_self, Bool.false_eq_true, if_false, if_true]
      simp [wr]
  · refine ⟨34, quoteB t ++ [34] ++ r, by simp [wr, quote], by simp [noGap, isBlank], ?_⟩
    have e : str (quoteB t ++ [34] ++ r) = some (t, (quoteB t).length + 1) := by
      rw [List.append_assoc]; exact str_quoteB t r
    have a : isLetter 34 = false := by rfl
    have b : isDigit 34 = false := by rfl
    simp only [nextT, a, b, e]
    simp [wr, quote]
  · refine ⟨c, r, by simp [wr], ?_, ?_⟩
    · rcases sym_cases c hc with h | h | h | h | h | h | h | h | h | h | h | h | h | h | h <;> subst h <;> simp [noGap, isBlank]
    · rcases sym_cases c hc with h | h | h | h | h | h | h | h | h | h | h | h | h | h | h <;> subst h <;> rfl

theorem wr_pos (k : Nat) (t : L) (hv : validTok k t) : 1 ≤ (wr k t).length := by
  rcases hv with ⟨rfl, hn⟩ | ⟨rfl, h1, h2, h3⟩ | rfl | ⟨rfl, c, rfl, hc⟩
  · cases t with
    | nil => simp [name] at hn
    | cons c t => simp [wr]
  · cases t with
    | nil => exact absurd rfl h1
    | cons c t => simp [wr]
  · simp [wr, quote]
  · simp [wr]

/-- A token that stands before what may follow it is scanned. -/
theorem scan_wr (off : Nat) (k : Nat) (t r : L) (hv : validTok k t) (hs : stops k r) :
    scan 0 off (wr k t ++ r) = (⟨k, t, off⟩ :: (scan 0 (off + (wr k t).length) r).1, (scan 0 (off + (wr k t).length) r).2) := by
  obtain ⟨c, l, e, hc, hn⟩ := nextT_of k t r hv hs
  have := scan_tok off c l hc (wr_pos k t hv) hn
  rw [← e] at this
  rw [this, List.drop_left]

/-- An error stays one before a line feed. -/
theorem nextT_err (c : B) (l m : L) (e : Nat) (h : nextT c l = .error e) : nextT c (l ++ 10 :: m) = .error e := by
  unfold nextT at h ⊢
  split at h
  · rename_i hl
    simp only [hl, if_true]
    obtain ⟨a, r, h1, h2, h3, h4, h5⟩ := takeWhile_split isWord l
    have e1 : (l ++ 10 :: m).takeWhile isWord = a := by
      have := (takeWhile_all a (r ++ 10 :: m) h4 (by
        intro c' m' e'
        cases r with
        | nil => cases e'; rfl
        | cons d r => cases e'; exact h5 _ _ rfl)).1
      rw [h1, List.append_assoc]; exact this
    rw [e1]
    rw [← h2] at h
    exact h
  · rename_i hl
    simp only [hl]
    split at h
    · rename_i hd
      simp only [hd, if_true]
      obtain ⟨a, r, h1, h2, h3, h4, h5⟩ := takeWhile_split isDigit l
      obtain ⟨e1, e2⟩ := takeWhile_all a (r ++ 10 :: m) h4 (by
        intro c' m' e'
        cases r with
        | nil => cases e'; rfl
        | cons d r => cases e'; exact h5 _ _ rfl)
      rw [← List.append_assoc, ← h1] at e1 e2
      rw [e1, e2]
      rw [← h2, ← h3] at h
      simp only at h ⊢
      split at h
      · rename_i h6
        cases h
        cases r with
        | nil =>
          simp only [headWord, Bool.or_false, decide_eq_true_eq] at h6
          simp only [h6, decide_true, Bool.true_or, if_true]
          simp
        | cons d r =>
          have h7 : (decide (7 < (c :: a).length) || headWord (d :: r ++ 10 :: m)) = true := h6
          simp only [h7, if_true]
          simp
      · cases h
    · rename_i hd
      simp only [hd]
      split at h
      · rename_i hq
        simp only [hq, if_true]
        split at h
        · rename_i hs
          cases h
          rw [show str (l ++ 10 :: m) = none from str_none l m false hs]
          simp
        · cases h
      · rename_i hq
        simp only [hq]
        split at h
        · cases h
        · rename_i hsym
          cases h
          simp [hsym]

/-- THE INDUCTION OVER A SCAN. -/
theorem scan_ind {P : Nat → L → List Tok → Option (Nat × Nat) → Prop}
    (done : ∀ off g, (gapE false g).isSome = true → P off g [] none)
    (err : ∀ off g c l e, gapE false g = some false → noGap c → nextT c l = .error e → P off (g ++ c :: l) [] (some (e, off + g.length)))
    (tok : ∀ off g k t r ts x, gapE false g = some false → validTok k t → stops k r → scan 0 (off + g.length + (wr k t).length) r = (ts, x) → P (off + g.length + (wr k t).length) r ts x →
      P off (g ++ (wr k t ++ r)) (⟨k, t, off + g.length⟩ :: ts) x)
    (off : Nat) (l : L) : P off l (scan 0 off l).1 (scan 0 off l).2 := by
  induction hl : l.length using Nat.strongRecOn generalizing off l with
  | _ n ih =>
    subst hl
    have key : (gapE false l).isSome = true ∨ ∃ g c m, l = g ++ c :: m ∧ gapE false g = some false ∧ noGap c := by
      clear ih
      have gen : ∀ (b : Bool) (l : L), (gapE b l).isSome = true ∨ ∃ g c m, l = g ++ c :: m ∧ gapE b g = some false ∧ noGap c := by
        intro b l
        induction l generalizing b with
        | nil => left; cases b <;> rfl
        | cons c l ih =>
          cases b with
          | true =>
            rcases ih (c != 10) with h | ⟨g, d, m, h1, h2, h3⟩
            · exact .inl (by simpa [gapE] using h)
            · exact .inr ⟨c :: g, d, m, by rw [h1]; rfl, by simpa [gapE] using h2, h3⟩
          | false =>
            by_cases hb : isBlank c = true
            · rcases ih false with h | ⟨g, d, m, h1, h2, h3⟩
              · exact .inl (by simpa [gapE, hb] using h)
              · exact .inr ⟨c :: g, d, m, by rw [h1]; rfl, by simpa [gapE, hb] using h2, h3⟩
            · by_cases hc : (c == 35) = true
              · rcases ih true with h | ⟨g, d, m, h1, h2, h3⟩
                · exact .inl (by simp only [gapE, hb, hc]; exact h)
                · exact .inr ⟨c :: g, d, m, by rw [h1]; rfl, by simp only [gapE, hb, hc]; exact h2, h3⟩
              · exact .inr ⟨[], c, l, rfl, rfl, by simpa using hb, by simpa using hc⟩
      exact gen false l
    rcases key with h | ⟨g, c, m, rfl, hg, hc⟩
    · rw [scan_gaps off l h]; exact done off l h
    · rw [scan_gap off g (c :: m) hg]
      cases hn : nextT c m with
      | error e => rw [scan_err _ c m hc hn]; exact err off g c m e hg hc hn
      | ok x =>
        obtain ⟨k, t, n⟩ := x
        obtain ⟨r, h1, rfl, hv, hs⟩ := nextT_ok c m k t n hn
        rw [h1, scan_wr _ k t r hv hs]
        have hlt : r.length < (g ++ c :: m).length := by
          rw [h1]
          have := wr_pos k t hv
          simp
          omega
        exact tok off g k t r _ _ hg hv hs rfl (ih r.length hlt _ r rfl)

/-! ### What the laws ask of a scan -/

theorem nextT_err_pos (c : B) (l : L) (e : Nat) (h : nextT c l = .error e) : e = 2 ∨ e = 3 ∨ e = 4 := by
  unfold nextT at h
  split at h
  · simp only at h
    split at h
    · cases h; exact .inl rfl
    · cases h
  · split at h
    · simp only at h
      split at h
      · cases h; exact .inr (.inr rfl)
      · cases h
    · split at h
      · split at h
        · cases h; exact .inr (.inl rfl)
        · cases h
      · split at h
        · cases h
        · cases h; exact .inr (.inl rfl)

/-- Every token is one, and they take no more bytes than the text has. -/
def wlen : List Tok → Nat
  | [] => 0
  | t :: ts => (wr t.kind t.text).length + wlen ts

theorem scan_sizes (off : Nat) (l : L) : (scan 0 off l).1.length ≤ wlen (scan 0 off l).1 ∧ wlen (scan 0 off l).1 ≤ l.length ∧ ∀ t ∈ (scan 0 off l).1, validTok t.kind t.text := by
  refine scan_ind (P := fun _ l ts _ => ts.length ≤ wlen ts ∧ wlen ts ≤ l.length ∧ ∀ t ∈ ts, validTok t.kind t.text) ?_ ?_ ?_ off l
  · intro off g _; simp [wlen]
  · intro off g c l e _ _ _; simp [wlen]
  · intro off g k t r ts x hg hv hs _ ⟨h1, h2, h3⟩
    have := wr_pos k t hv
    refine ⟨by simp [wlen]; omega, by simp [wlen]; omega, ?_⟩
    intro u hu
    rcases List.mem_cons.1 hu with rfl | hu
    · exact hv
    · exact h3 u hu

theorem scan_error (off : Nat) (l : L) (e n : Nat) (h : (scan 0 off l).2 = some (e, n)) : (e = 2 ∨ e = 3 ∨ e = 4) ∧ off ≤ n ∧ n < off + l.length := by
  refine scan_ind (P := fun off l _ x => ∀ e n, x = some (e, n) → (e = 2 ∨ e = 3 ∨ e = 4) ∧ off ≤ n ∧ n < off + l.length) ?_ ?_ ?_ off l e n h
  · intro off g _ e n h; cases h
  · intro off g c l e _ _ hn e' n h
    cases h
    exact ⟨nextT_err_pos c l _ hn, by omega, by simp⟩
  · intro off g k t r ts x hg hv hs _ ih e n h
    obtain ⟨h1, h2, h3⟩ := ih e n h
    exact ⟨h1, by omega, by simp; omega⟩

/-- What Lex returns for a text that cannot have too many tokens. -/
theorem lex_small (l : L) (h : l.length ≤ 5000) : lex l = (match (scan 0 0 l).2 with
    | some (e, n) => ([], e, (n : Int))
    | none => ((scan 0 0 l).1, 0, 0)) := by
  have := scan_sizes 0 l
  unfold lex
  rw [if_neg (by omega), if_neg (by omega)]

/-- As 'lex_small', the bound on the tokens given apart. -/
theorem lex_few (l : L) (h : l.length ≤ 20000) (h' : (scan 0 0 l).1.length ≤ 5000) : lex l = (match (scan 0 0 l).2 with
    | some (e, n) => ([], e, (n : Int))
    | none => ((scan 0 0 l).1, 0, 0)) := by
  unfold lex
  rw [if_neg (by omega), if_neg (by omega)]

/-! P8.2 -/
def places (text : L) : Nat → List Tok → Bool
  | e, [] => gaps (text.drop e)
  | e, t :: ts =>
    if t.off < e || (wr t.kind t.text).length == 0 || text.length < t.off + (wr t.kind t.text).length || (text.drop t.off).take (wr t.kind t.text).length != wr t.kind t.text || !gaps ((text.drop e).take (t.off - e)) then false
    else places text (t.off + (wr t.kind t.text).length) ts

theorem places_scan (off : Nat) (l pre : L) (hp : pre.length = off) (h : (scan 0 off l).2 = none) : places (pre ++ l) off (scan 0 off l).1 = true := by
  refine scan_ind (P := fun off l ts x => ∀ pre : L, pre.length = off → x = none → places (pre ++ l) off ts = true) ?_ ?_ ?_ off l pre hp h
  · intro off g hg pre hp _
    subst hp
    simp only [places, List.drop_left]
    exact (gaps_iff g).2 hg
  · intro off g c l e _ _ _ pre _ h; cases h
  · intro off g k t r ts x hg hv hs _ ih pre hp hx
    subst hp
    have hpos := wr_pos k t hv
    simp only [places]
    have e1 : ((pre ++ (g ++ (wr k t ++ r))).drop (pre.length + g.length)).take (wr k t).length = wr k t := by
      rw [← List.append_assoc, show pre.length + g.length = (pre ++ g).length by simp, List.drop_left, List.take_left]
    have e2 : ((pre ++ (g ++ (wr k t ++ r))).drop pre.length).take (pre.length + g.length - pre.length) = g := by
      rw [List.drop_left, Nat.add_sub_cancel_left, List.take_left]
    rw [e1, e2, (gaps_iff g).2 (by rw [hg]; rfl)]
    have h1 : (decide (pre.length + g.length < pre.length)) = false := by simp
    have h2 : ((wr k t).length == 0) = false := by simp; intro e; rw [e] at hpos; simp at hpos
    have h3 : (decide ((pre ++ (g ++ (wr k t ++ r))).length < pre.length + g.length + (wr k t).length)) = false := by simp; omega
    rw [h1, h2, h3]
    simp only [bne_self_eq_false, Bool.not_true, Bool.or_self, Bool.false_eq_true, if_false]
    have := ih (pre ++ g ++ wr k t) (by simp; omega) hx
    simpa [List.append_assoc] using this

/-! Tokens apart from offsets. -/
def strip (ts : List Tok) : List (Nat × L) := ts.map fun t => (t.kind, t.text)
def shift (d : Nat) (ts : List Tok) : List Tok := ts.map fun t => ⟨t.kind, t.text, t.off + d⟩

theorem scan_shift (d off : Nat) (l : L) : scan 0 (off + d) l = (shift d (scan 0 off l).1, (scan 0 off l).2.map fun x => (x.1, x.2 + d)) := by
  refine scan_ind (P := fun off l ts x => scan 0 (off + d) l = (shift d ts, x.map fun x => (x.1, x.2 + d))) ?_ ?_ ?_ off l
  · intro off g hg; rw [scan_gaps _ g hg]; rfl
  · intro off g c l e hg hc hn
    rw [scan_gap _ g _ hg, scan_err _ c l hc hn]
    simp [shift]; omega
  · intro off g k t r ts x hg hv hs _ ih
    rw [scan_gap _ g _ hg, scan_wr _ k t r hv hs, show off + d + g.length + (wr k t).length = off + g.length + (wr k t).length + d by omega, ih]
    simp [shift]; omega

theorem strip_shift (d : Nat) (ts : List Tok) : strip (shift d ts) = strip ts := by
  simp [strip, shift]

theorem strip_scan (a b : Nat) (l : L) : strip (scan 0 a l).1 = strip (scan 0 b l).1 ∧ ((scan 0 a l).2 = none ↔ (scan 0 b l).2 = none) := by
  have h1 := scan_shift a 0 l
  have h2 := scan_shift b 0 l
  rw [Nat.zero_add] at h1 h2
  rw [h1, h2, strip_shift, strip_shift]
  refine ⟨rfl, ?_⟩
  simp

/-! P8.3 -/
def writtenAll : List Tok → L
  | [] => []
  | t :: ts => wr t.kind t.text ++ 32 :: writtenAll ts

theorem writtenAll_len (ts : List Tok) : (writtenAll ts).length = wlen ts + ts.length := by
  induction ts with
  | nil => rfl
  | cons t ts ih => simp [writtenAll, wlen, ih]; omega

theorem scan_written (off : Nat) (ts : List Tok) (hv : ∀ t ∈ ts, validTok t.kind t.text) : strip (scan 0 off (writtenAll ts)).1 = strip ts ∧ (scan 0 off (writtenAll ts)).2 = none := by
  induction ts generalizing off with
  | nil => exact ⟨rfl, rfl⟩
  | cons t ts ih =>
    have hs : stops t.kind (32 :: writtenAll ts) := by
      intro _ c m e
      cases e; rfl
    rw [writtenAll, scan_wr off t.kind t.text _ (hv t (by simp)) hs]
    have e : ∀ o, scan 0 o (32 :: writtenAll ts) = scan 0 (o + 1) (writtenAll ts) := fun o => by simp [scan, isBlank]
    obtain ⟨h1, h2⟩ := ih (off + (wr t.kind t.text).length + 1) (fun u hu => hv u (by simp [hu]))
    rw [e]
    exact ⟨by simp only [strip, List.map_cons] at h1 ⊢; rw [h1], h2⟩

/-! P8.4 -/
theorem stops_app (k : Nat) (r m : L) (h : stops k r) (hm : stops k m) : stops k (r ++ m) := by
  intro hk c m' e
  cases r with
  | nil => exact hm hk c m' e
  | cons d r => cases e; exact h hk _ r rfl

theorem stops_line (k : Nat) (m : L) : stops k (10 :: m) := by
  intro _ c m' e
  cases e; rfl

theorem gapE_line (g : L) (h : (gapE false g).isSome = true) : gapE false (g ++ [10]) = some false := by
  rw [gapE_append]
  cases hg : gapE false g with
  | none => rw [hg] at h; cases h
  | some b => cases b <;> rfl

theorem scan_line (off : Nat) (g m : L) (h : (gapE false g).isSome = true) : scan 0 off (g ++ 10 :: m) = scan 0 (off + g.length + 1) m := by
  have := scan_gap off (g ++ [10]) m (gapE_line g h)
  simpa [Nat.add_assoc] using this

theorem scan_parts (off : Nat) (p m : L) (h : (scan 0 off p).2 = none) :
    scan 0 off (p ++ 10 :: m) = ((scan 0 off p).1 ++ (scan 0 (off + p.length + 1) m).1, (scan 0 (off + p.length + 1) m).2) := by
  refine scan_ind (P := fun off p ts x => x = none → scan 0 off (p ++ 10 :: m) = (ts ++ (scan 0 (off + p.length + 1) m).1, (scan 0 (off + p.length + 1) m).2)) ?_ ?_ ?_ off p h
  · intro off g hg _
    rw [scan_line off g m hg]; rfl
  · intro off g c l e _ _ _ h; cases h
  · intro off g k t r ts x hg hv hs _ ih hx
    rw [List.append_assoc, List.append_assoc, scan_gap off g _ hg, scan_wr _ k t _ hv (stops_app k r _ hs (stops_line k m)), ih hx]
    have e : off + g.length + (wr k t).length + r.length + 1 = off + (g ++ (wr k t ++ r)).length + 1 := by simp; omega
    rw [e]; rfl

theorem scan_parts_err (off : Nat) (p m : L) (h : (scan 0 off p).2 ≠ none) : (scan 0 off (p ++ 10 :: m)).2 ≠ none := by
  refine scan_ind (P := fun off p ts x => x ≠ none → (scan 0 off (p ++ 10 :: m)).2 ≠ none) ?_ ?_ ?_ off p h
  · intro off g hg h; exact absurd rfl h
  · intro off g c l e hg hc hn _
    rw [List.append_assoc, scan_gap off g _ hg, List.cons_append, scan_err _ c _ hc (nextT_err c l m e hn)]
    simp
  · intro off g k t r ts x hg hv hs _ ih hx
    rw [List.append_assoc, List.append_assoc, scan_gap off g _ hg, scan_wr _ k t _ hv (stops_app k r _ hs (stops_line k m))]
    exact ih hx

/-! P8.5 -/
theorem stops_take (k : Nat) (r : L) (n : Nat) (h : stops k r) : stops k (r.take n) := by
  intro hk c m e
  cases r with
  | nil => simp at e
  | cons d r =>
    cases n with
    | zero => simp at e
    | succ n => simp at e; exact h hk c r (by rw [e.1])

theorem scan_beginning (off : Nat) (l : L) (e n : Nat) (h : (scan 0 off l).2 = some (e, n)) :
    (scan 0 off (l.take (n - off))).2 = none ∧ ∀ o, (scan 0 o (l.drop (n - off))).2 = some (e, o) := by
  refine scan_ind (P := fun off l _ x => ∀ e n, x = some (e, n) → (scan 0 off (l.take (n - off))).2 = none ∧ ∀ o, (scan 0 o (l.drop (n - off))).2 = some (e, o)) ?_ ?_ ?_ off l e n h
  · intro off g _ e n h; cases h
  · intro off g c l e hg hc hn e' n h
    cases h
    rw [Nat.add_sub_cancel_left, List.take_left, List.drop_left, scan_gaps off g (by rw [hg]; rfl)]
    exact ⟨rfl, fun o => by rw [scan_err o c l hc hn]⟩
  · intro off g k t r ts x hg hv hs hx' ih e n h
    have hb := scan_error (off + g.length + (wr k t).length) r e n (by rw [hx']; exact h)
    obtain ⟨h1, h2⟩ := ih e n h
    have e1 : n - off = g.length + ((wr k t).length + (n - (off + g.length + (wr k t).length))) := by omega
    rw [e1, List.take_length_add_append, List.take_length_add_append, List.drop_length_add_append, List.drop_length_add_append, scan_gap off g _ hg, scan_wr _ k t _ hv (stops_take k r _ hs)]
    exact ⟨h1, h2⟩

/-! P8.6 -/
/-- A text, cut behind its token number j, with what is no word put in. -/
theorem scan_cut (off : Nat) (l : L) (h : (scan 0 off l).2 = none) (j : Nat) (t : Tok) (ht : (scan 0 off l).1[j]? = some t) (m : L) (hm : ∀ k, stops k m) :
    off ≤ t.off ∧ t.off + (wr t.kind t.text).length ≤ off + l.length ∧
    (scan 0 off (l.take (t.off + (wr t.kind t.text).length - off) ++ m)) = ((scan 0 off l).1.take (j + 1) ++ (scan 0 (t.off + (wr t.kind t.text).length) m).1, (scan 0 (t.off + (wr t.kind t.text).length) m).2) ∧
    scan 0 (t.off + (wr t.kind t.text).length) (l.drop (t.off + (wr t.kind t.text).length - off)) = ((scan 0 off l).1.drop (j + 1), none) := by
  refine scan_ind (P := fun off l ts x => x = none → ∀ j t, ts[j]? = some t → off ≤ t.off ∧ t.off + (wr t.kind t.text).length ≤ off + l.length ∧
    (scan 0 off (l.take (t.off + (wr t.kind t.text).length - off) ++ m)) = (ts.take (j + 1) ++ (scan 0 (t.off + (wr t.kind t.text).length) m).1, (scan 0 (t.off + (wr t.kind t.text).length) m).2) ∧
    scan 0 (t.off + (wr t.kind t.text).length) (l.drop (t.off + (wr t.kind t.text).length - off)) = (ts.drop (j + 1), none)) ?_ ?_ ?_ off l h j t ht
  · intro off g _ _ j t h; simp at h
  · intro off g c l e _ _ _ h; cases h
  · intro off g k t r ts x hg hv hs hx' ih hx j u hu
    subst hx
    cases j with
    | zero =>
      simp only [List.getElem?_cons_zero, Option.some.injEq] at hu
      subst hu
      have e1 : off + g.length + (wr k t).length - off = g.length + (wr k t).length := by omega
      refine ⟨by simp, by simp; omega, ?_, ?_⟩
      · simp only
        rw [e1, List.take_length_add_append, List.take_left, List.append_assoc, scan_gap off g _ hg, scan_wr _ k t m hv (hm k)]
        simp
      · simp only
        rw [e1, List.drop_length_add_append, List.drop_left, hx']
        simp
    | succ j =>
      simp only [List.getElem?_cons_succ] at hu
      obtain ⟨h1, h2, h3, h4⟩ := ih rfl j u hu
      have e1 : u.off + (wr u.kind u.text).length - off = g.length + ((wr k t).length + (u.off + (wr u.kind u.text).length - (off + g.length + (wr k t).length))) := by omega
      refine ⟨by omega, by simp; omega, ?_, ?_⟩
      · rw [e1, List.take_length_add_append, List.take_length_add_append, List.append_assoc, List.append_assoc, scan_gap off g _ hg, scan_wr _ k t _ hv (stops_app k _ m (stops_take k r _ hs) (hm k)), h3]
        simp
      · rw [e1, List.drop_length_add_append, List.drop_length_add_append, h4]
        simp

theorem stops_gaps (g m : L) (h : (gapE false g).isSome = true) (k : Nat) : stops k (g ++ 10 :: m) := by
  intro _ c m' e
  cases g with
  | nil => cases e; rfl
  | cons d g =>
    cases e
    simp only [gapE] at h
    by_cases hb : isBlank c = true
    · cases hw : isWord c with
      | false => rfl
      | true => rw [(word_noGap c hw).1] at hb; cases hb
    · rw [if_neg hb] at h
      by_cases hc : (c == 35) = true
      · cases hw : isWord c with
        | false => rfl
        | true => rw [(word_noGap c hw).2] at hc; cases hc
      · rw [if_neg hc] at h; cases h

/-- THE LAW OF GAPS: 'mid' is 0 or the end of a token. -/
theorem gaps_law (text g : L) (hg : gaps g = true) (h : (scan 0 0 text).2 = none) (mid : Nat)
    (hmid : ((scan 0 0 text).1 = [] ∧ mid = 0) ∨ ∃ (j : Nat) (t : Tok), (scan 0 0 text).1[j]? = some t ∧ mid = t.off + (wr t.kind t.text).length) :
    strip (scan 0 0 (((g ++ [10]) ++ text.take mid) ++ (g ++ [10]) ++ text.drop mid ++ [10] ++ g)).1 = strip (scan 0 0 text).1 ∧
      (scan 0 0 (((g ++ [10]) ++ text.take mid) ++ (g ++ [10]) ++ text.drop mid ++ [10] ++ g)).2 = none := by
  have hg' := (gaps_iff g).1 hg
  have hl := gapE_line g hg'
  have eY : ((g ++ [10]) ++ text.take mid) ++ (g ++ [10]) ++ text.drop mid ++ [10] ++ g = (g ++ [10]) ++ (text.take mid ++ (g ++ 10 :: (text.drop mid ++ 10 :: g))) := by simp
  rw [eY, scan_gap 0 _ _ hl]
  -- what stands behind the cut
  have hrest : ∀ o ts, (∀ o', strip (scan 0 o' (text.drop mid)).1 = strip ts ∧ (scan 0 o' (text.drop mid)).2 = none) →
      strip (scan 0 o (g ++ 10 :: (text.drop mid ++ 10 :: g))).1 = strip ts ∧ (scan 0 o (g ++ 10 :: (text.drop mid ++ 10 :: g))).2 = none := by
    intro o ts hts
    rw [scan_line o g _ hg', scan_parts _ _ _ (hts _).2, scan_gaps _ g hg']
    exact ⟨by simpa using (hts _).1, rfl⟩
  rcases hmid with ⟨h0, rfl⟩ | ⟨j, t, ht, rfl⟩
  · simp only [List.take_zero, List.nil_append]
    refine hrest _ _ fun o' => ?_
    have := strip_scan o' 0 text
    exact ⟨this.1, this.2.2 h⟩
  · have hcut := scan_cut 0 text h j t ht (g ++ 10 :: (text.drop (t.off + (wr t.kind t.text).length) ++ 10 :: g)) (stops_gaps g _ hg')
    obtain ⟨_, _, h3, h4⟩ := hcut
    rw [Nat.sub_zero] at h3 h4
    have h5 := hrest (t.off + (wr t.kind t.text).length) ((scan 0 0 text).1.drop (j + 1)) (fun o' => by
      have := strip_scan o' (t.off + (wr t.kind t.text).length) (text.drop (t.off + (wr t.kind t.text).length))
      rw [h4] at this
      exact ⟨this.1, this.2.2 rfl⟩)
    have h6 := strip_scan (0 + (g ++ [10]).length) 0 (text.take (t.off + (wr t.kind t.text).length) ++ (g ++ 10 :: (text.drop (t.off + (wr t.kind t.text).length) ++ 10 :: g)))
    rw [h3] at h6
    refine ⟨h6.1.trans ?_, h6.2.2 h5.2⟩
    have h7 := h5.1
    simp only [strip, List.map_append, List.map_take, List.map_drop] at h7 ⊢
    rw [h7, List.take_append_drop]

/-! P8.7, P8.8 -/
theorem scan_one (k : Nat) (t : L) (hv : validTok k t) (off : Nat) : scan 0 off (wr k t) = ([⟨k, t, off⟩], none) := by
  have := scan_wr off k t [] hv (by intro _ c m e; cases e)
  simpa [scan_nil] using this

theorem quote_inj (a b : L) (h : quote a = quote b) : a = b := by
  have h1 := scan_one 3 a (.inr (.inr (.inl rfl))) 0
  have h2 := scan_one 3 b (.inr (.inr (.inl rfl))) 0
  simp only [wr, if_true] at h1 h2
  rw [h, h2] at h1
  cases h1
  rfl

theorem name_iff (l : L) : name l = true ↔ scan 0 0 l = ([⟨1, l, 0⟩], none) := by
  constructor
  · intro h
    have := scan_one 1 l (.inl ⟨rfl, h⟩) 0
    simpa [wr] using this
  · intro h
    have := (scan_sizes 0 l).2.2
    rw [h] at this
    rcases this ⟨1, l, 0⟩ (by simp) with ⟨_, h⟩ | ⟨h, _⟩ | h | ⟨h, _⟩
    · exact h
    · cases h
    · cases h
    · cases h

theorem name_sym_num (a : L) (c : B) (d : L) (ha : name a = true) (hc : isSym c = true) (h1 : d ≠ []) (h2 : d.all isDigit = true) (h3 : d.length ≤ 7) :
    scan 0 0 (a ++ [c] ++ d) = ([⟨1, a, 0⟩, ⟨4, [c], a.length⟩, ⟨2, d, a.length + 1⟩], none) := by
  have s1 : stops 1 (c :: d) := by
    intro _ c' m e
    cases e
    rcases sym_cases c hc with h | h | h | h | h | h | h | h | h | h | h | h | h | h | h <;> subst h <;> rfl
  have e1 := scan_wr 0 1 a (c :: d) (.inl ⟨rfl, ha⟩) s1
  have e2 := scan_wr a.length 4 [c] d (.inr (.inr (.inr ⟨rfl, c, rfl, hc⟩))) (by intro hk; omega)
  have e3 := scan_one 2 d (.inr (.inl ⟨rfl, h1, h2, h3⟩)) (a.length + 1)
  simp [wr] at e1 e2 e3
  simp [e1, e2, e3]

end Go.Proofs.PlLex
