/-
  The plain laws of the lexer: tokens of a text as a function on lists of bytes, and what the eight statements of layer 8 say of it. No program in sight. Objects and maps as plain data, and when they are valid (layers 11 and 12). No program in sight. The plain laws of layer 3 (geom): points and segments as integers, what each function computes, and what the seven statements say of it. No program in sight. The plain law of GeomMeets: how two segments meet does not hang on their order or on the order of their ends. No program in sight. Two segments that meet have boxes that meet; two that meet in an end have an end in common. No program in sight. The sweep finds the meetings of all pairs. No program in sight. Few objects, the reference's search and soundness (from wip/net, pruned). No program in sight. The borders of a map as plain data, in order, and when they are bad. No program in sight. Boxes, and how many nodes a layer of the tree has. No program in sight. Nodes of the index, parts of a list, how packing goes on. No program in sight. Ranging over maps in memory that are lists of pairs (from wip/net). No program in sight. Keys of maps that are pairs or points; 'm[k] = f(m[k])' on a map in memory. No program in sight. Lists of texts at keys, as a map keeps them; the owners of borders, side by side. No program in sight. Which pairs are noted, step by step. No program in sight. A region that draws its order, in which most operations only read: what they read holds in every world between. The law of the pairs, step by step. No program in sight. The boxes of segments by their numbers. No program in sight. The example of the law of the pairs: of two ways that cross. No program in sight.
-/
import GoSem.Op.String
import GoSem.ClaimData
import Derived.Maps.Own
import Derived.Maps.OwnSet
import Derived.Maps.Range
import Derived.Maps.RangeWalk
import Derived.StringKeys
import Derived.Laws.Strings
import Derived.DeepKeys4
import Derived.WideKeyEntry
import Derived.RegionTactic
/-! The plain laws of the lexer: tokens of a text as a function on lists of bytes, and what the eight statements of layer 8 say of it. No program in sight. -/
namespace Go.Proofs.PlLex

abbrev B := UInt8
abbrev L := List UInt8

def isLetter (c : B) : Bool := (97 ≤ c && c ≤ 122) || (65 ≤ c && c ≤ 90)
def isDigit (c : B) : Bool := 48 ≤ c && c ≤ 57
def isWord (c : B) : Bool := isLetter c || isDigit c || c == 95
def isBlank (c : B) : Bool := c == 32 || c == 9 || c == 10
def isSym (c : B) : Bool := [59, 44, 46, 58, 40, 41, 123, 125, 91, 93, 61, 60, 62, 47, 45].contains c

/-- A token: kind (1 name, 2 number, 3 string, 4 symbol), text, offset. -/
structure Tok where
  kind : Nat
  text : L
  off : Nat

def name (l : L) : Bool := l.all isWord && (match l with | [] => false | c :: _ => isLetter c) && l.length ≤ 24

def quoteB : L → L
  | [] => []
  | c :: l => if c == 10 then 92 :: 110 :: quoteB l else if c == 34 || c == 92 then 92 :: c :: quoteB l else c :: quoteB l
def quote (l : L) : L := 34 :: (quoteB l ++ [34])

/-- What follows an opening quote (or, 'true', a backslash): the text, and how many bytes up to and with the closing quote. -/
def strM : Bool → L → Option (L × Nat)
  | _, [] => none
  | false, c :: l =>
    if c == 34 then some ([], 1) else if c == 10 then none else if c == 92 then (strM true l).map (fun r => (r.1, r.2 + 1))
    else (strM false l).map (fun r => (c :: r.1, r.2 + 1))
  | true, d :: l => if d == 92 || d == 34 || d == 110 then (strM false l).map (fun r => ((if d == 110 then 10 else d) :: r.1, r.2 + 1)) else none
def str (l : L) : Option (L × Nat) := strM false l

def headWord : L → Bool
  | [] => false
  | d :: _ => isWord d

/-- Errors: 2 limit, 3 char, 4 number. -/
def nextT (c : B) (l : L) : Except Nat (Nat × L × Nat) :=
  if isLetter c then
    let t := c :: l.takeWhile isWord
    if 24 < t.length then .error 2 else .ok (1, t, t.length)
  else if isDigit c then
    let t := c :: l.takeWhile isDigit
    if 7 < t.length || headWord (l.dropWhile isDigit) then .error 4 else .ok (2, t, t.length)
  else if c == 34 then
    match str l with
    | none => .error 3
    | some (s, n) => .ok (3, s, n + 1)
  else if isSym c then .ok (4, [c], 1)
  else .error 3

def toLine (l : L) : Nat := (l.takeWhile (fun c => c != 10)).length

/-- The tokens from an offset on, 'skip' bytes of which belong to what came before. -/
def scan : Nat → Nat → L → List Tok × Option (Nat × Nat)
  | _, _, [] => ([], none)
  | k + 1, off, _ :: l => scan k (off + 1) l
  | 0, off, c :: l =>
    if isBlank c then scan 0 (off + 1) l
    else if c == 35 then scan (toLine l) (off + 1) l
    else match nextT c l with
      | .error e => ([], some (e, off))
      | .ok (k, t, n) => (⟨k, t, off⟩ :: (scan (n - 1) (off + 1) l).1, (scan (n - 1) (off + 1) l).2)

/-- What Lex returns: the tokens, the error (0: none), the offset. -/
def lex (l : L) : List Tok × Nat × Int :=
  if 20000 < l.length then ([], 2, -1)
  else if 5000 < (scan 0 0 l).1.length then ([], 2, (((scan 0 0 l).1[5000]?).map (·.off)).getD 0)
  else match (scan 0 0 l).2 with
    | some (e, n) => ([], e, n)
    | none => ((scan 0 0 l).1, 0, 0)

def written (t : Tok) : L := if t.kind = 3 then quote t.text else t.text

/-- How many bytes of gaps a text begins with. -/
def gapF : Bool → L → Nat
  | _, [] => 0
  | true, c :: l => if c == 10 then gapF false l + 1 else gapF true l + 1
  | false, c :: l => if isBlank c then gapF false l + 1 else if c == 35 then gapF true l + 1 else 0
def gaps (l : L) : Bool := gapF false l == l.length

/-- The state behind gaps: is a comment open? 'none': a byte that is no gap. -/
def gapE : Bool → L → Option Bool
  | b, [] => some b
  | true, c :: l => gapE (c != 10) l
  | false, c :: l => if isBlank c then gapE false l else if c == 35 then gapE true l else none

theorem gapE_append (b : Bool) (l m : L) : gapE b (l ++ m) = (gapE b l).bind (fun b' => gapE b' m) := by
  induction l generalizing b with
  | nil => cases b <;> simp [gapE]
  | cons c l ih =>
    cases b with
    | true => simp [gapE, ih]
    | false =>
      simp only [List.cons_append, gapE]
      split
      · exact ih _
      · split
        · exact ih _
        · simp

theorem gapF_le (b : Bool) (l : L) : gapF b l ≤ l.length := by
  induction l generalizing b with
  | nil => cases b <;> simp [gapF]
  | cons c l ih => cases b <;> simp only [gapF] <;> (repeat' split) <;> simp <;> first | exact ih _ | omega

theorem gapF_all (b : Bool) (l : L) : (gapF b l = l.length) ↔ (gapE b l).isSome = true := by
  induction l generalizing b with
  | nil => cases b <;> simp [gapF, gapE]
  | cons c l ih =>
    cases b with
    | true =>
      simp only [gapF, gapE]
      by_cases h : c = 10
      · subst h; simpa using ih false
      · have h1 : (c == 10) = false := by simpa using h
        have h2 : (c != 10) = true := by simpa using h
        simpa [h1, h2] using ih true
    | false =>
      simp only [gapF, gapE]
      split
      · simpa using ih false
      · split
        · simpa using ih true
        · simp

theorem gaps_iff (l : L) : gaps l = true ↔ (gapE false l).isSome = true := by
  unfold gaps
  rw [beq_iff_eq, gapF_all]

/-- What may follow gaps that are closed: nothing, or a byte that begins no gap. -/
def noGap (c : B) : Prop := isBlank c = false ∧ (c == 35) = false

theorem toLine_spec (l : L) : gapE true (l.take (toLine l)) = some true := by
  induction l with
  | nil => simp [gapE, toLine]
  | cons c l ih =>
    by_cases h : c = 10
    · subst h; simp [toLine, gapE]
    · have h' : (c != 10) = true := by simpa using h
      have e : toLine (c :: l) = toLine l + 1 := by simp [toLine, h']
      rw [e, List.take_succ_cons]
      simp only [gapE, h']
      exact ih

theorem toLine_le (l : L) : toLine l ≤ l.length := by
  unfold toLine
  exact (List.takeWhile_sublist _).length_le

theorem toLine_drop (l : L) : l.drop (toLine l) = [] ∨ ∃ m, l.drop (toLine l) = 10 :: m := by
  induction l with
  | nil => simp
  | cons c l ih =>
    by_cases h : c = 10
    · subst h; exact .inr ⟨l, by simp [toLine]⟩
    · have h' : (c != 10) = true := by simpa using h
      have e : toLine (c :: l) = toLine l + 1 := by simp [toLine, h']
      rw [e, List.drop_succ_cons]
      exact ih

theorem scan_skip (k off : Nat) (l : L) : scan k off l = scan 0 (off + k) (l.drop k) := by
  induction l generalizing k off with
  | nil => cases k <;> simp [scan]
  | cons c l ih =>
    cases k with
    | zero => simp
    | succ k =>
      rw [show scan (k + 1) off (c :: l) = scan k (off + 1) l from rfl, ih k (off + 1)]
      simp [Nat.add_comm 1 k, Nat.add_assoc]

/-- A comment that is open is passed to the line feed that ends it. -/
theorem scan_comment (off : Nat) (g l : L) (h : gapE true g = some false) : scan (toLine (g ++ l)) off (g ++ l) = scan 0 (off + toLine (g ++ l)) ((g ++ l).drop (toLine (g ++ l))) ∧ ∃ g', g = g.take (toLine (g ++ l)) ++ 10 :: g' ∧ gapE false g' = some false ∧ toLine (g ++ l) < g.length := by
  refine ⟨scan_skip _ _ _, ?_⟩
  induction g with
  | nil => simp [gapE] at h
  | cons c g ih =>
    by_cases hc : c = 10
    · subst hc
      exact ⟨g, by simp [toLine], by simpa [gapE] using h, by simp [toLine]⟩
    · have h' : (c != 10) = true := by simpa using hc
      have e : toLine (c :: (g ++ l)) = toLine (g ++ l) + 1 := by simp [toLine, h']
      simp only [gapE, h'] at h
      obtain ⟨g', h1, h2, h3⟩ := ih h
      refine ⟨g', ?_, h2, ?_⟩
      · rw [List.cons_append, e, List.take_succ_cons, List.cons_append, ← h1]
      · rw [List.cons_append, e]; simp only [List.length_cons]; omega

theorem scan_nil (off : Nat) : scan 0 off [] = ([], none) := rfl

/-- Closed gaps are passed over. -/
theorem scan_gap (off : Nat) (g l : L) (h : gapE false g = some false) : scan 0 off (g ++ l) = scan 0 (off + g.length) l := by
  induction hn : g.length using Nat.strongRecOn generalizing off g with
  | _ n ih =>
    cases g with
    | nil => simp at hn; subst hn; rfl
    | cons c g =>
      subst hn
      simp only [gapE] at h
      by_cases hb : isBlank c = true
      · rw [if_pos hb] at h
        have e1 : scan 0 off (c :: g ++ l) = scan 0 (off + 1) (g ++ l) := by simp [scan, hb]
        rw [e1, ih g.length (by simp) (off + 1) g h rfl]
        simp [Nat.add_comm 1, Nat.add_assoc]
      · rw [if_neg hb] at h
        by_cases hc : (c == 35) = true
        · rw [if_pos hc] at h
          have e1 : scan 0 off (c :: g ++ l) = scan (toLine (g ++ l)) (off + 1) (g ++ l) := by simp only [List.cons_append, scan, hb, hc]; rfl
          obtain ⟨e2, g', h1, h2, h3⟩ := scan_comment (off + 1) g l h
          have hd : (g ++ l).drop (toLine (g ++ l)) = 10 :: (g' ++ l) := by
            rw [List.drop_append_of_le_length (by omega)]
            have : g.drop (toLine (g ++ l)) = 10 :: g' := by
              have := congrArg (List.drop (toLine (g ++ l))) h1
              rw [List.drop_append_of_le_length (by simp; omega)] at this
              simpa using this
            rw [this]; rfl
          have hlen : g.length = toLine (g ++ l) + 1 + g'.length := by
            have := congrArg List.length h1
            simp at this
            omega
          have e3 : scan 0 (off + 1 + toLine (g ++ l)) (10 :: (g' ++ l)) = scan 0 (off + 1 + toLine (g ++ l) + 1) (g' ++ l) := by simp [scan, isBlank]
          rw [e1, e2, hd, e3, ih g'.length (by simp; omega) _ g' h2 rfl]
          congr 1
          simp; omega
        · rw [if_neg hc] at h
          cases h

/-- Gaps alone, a comment at the end perhaps open. -/
theorem scan_gaps (off : Nat) (g : L) (h : (gapE false g).isSome = true) : scan 0 off g = ([], none) := by
  induction hn : g.length using Nat.strongRecOn generalizing off g with
  | _ n ih =>
    cases g with
    | nil => rfl
    | cons c g =>
      subst hn
      simp only [gapE] at h
      by_cases hb : isBlank c = true
      · rw [if_pos hb] at h
        have e1 : scan 0 off (c :: g) = scan 0 (off + 1) g := by simp [scan, hb]
        rw [e1]; exact ih g.length (by simp) _ g h rfl
      · rw [if_neg hb] at h
        by_cases hc : (c == 35) = true
        · rw [if_pos hc] at h
          have e1 : scan 0 off (c :: g) = scan (toLine g) (off + 1) g := by simp only [scan, hb, hc]; rfl
          rw [e1, scan_skip]
          refine ih (g.drop (toLine g)).length (by simp; omega) _ _ ?_ rfl
          have := gapE_append true (g.take (toLine g)) (g.drop (toLine g))
          rw [List.take_append_drop, toLine_spec] at this
          rw [this] at h
          rcases toLine_drop g with e | ⟨m, e⟩
          · rw [e]; rfl
          · rw [e] at h ⊢
            simpa [gapE, isBlank] using h
        · rw [if_neg hc] at h
          cases h

theorem scan_tok (off : Nat) (c : B) (l : L) (hc : noGap c) {k : Nat} {t : L} {n : Nat} (hn : 1 ≤ n) (h : nextT c l = .ok (k, t, n)) :
    scan 0 off (c :: l) = (⟨k, t, off⟩ :: (scan 0 (off + n) ((c :: l).drop n)).1, (scan 0 (off + n) ((c :: l).drop n)).2) := by
  obtain ⟨n, rfl⟩ : ∃ m, n = m + 1 := ⟨n - 1, by omega⟩
  have e := scan_skip n (off + 1) l
  rw [show off + 1 + n = off + (n + 1) by omega] at e
  simp only [scan, hc.1, hc.2, h, Nat.add_sub_cancel, List.drop_succ_cons, e]
  simp

theorem scan_err (off : Nat) (c : B) (l : L) (hc : noGap c) {e : Nat} (h : nextT c l = .error e) : scan 0 off (c :: l) = ([], some (e, off)) := by
  simp only [scan, hc.1, hc.2, h]
  simp

/-! ### The tokens -/

def validTok (k : Nat) (t : L) : Prop :=
  (k = 1 ∧ name t = true) ∨ (k = 2 ∧ t ≠ [] ∧ t.all isDigit = true ∧ t.length ≤ 7) ∨ k = 3 ∨ (k = 4 ∧ ∃ c, t = [c] ∧ isSym c = true)

def wr (k : Nat) (t : L) : L := if k = 3 then quote t else t

/-- What may stand directly behind a token. -/
def stops (k : Nat) (r : L) : Prop := (k = 1 ∨ k = 2) → ∀ c m, r = c :: m → isWord c = false

theorem takeWhile_all {p : B → Bool} (t r : L) (h : t.all p = true) (hr : ∀ c m, r = c :: m → p c = false) : (t ++ r).takeWhile p = t ∧ (t ++ r).dropWhile p = r := by
  induction t with
  | nil =>
    cases r with
    | nil => simp
    | cons c m => simp [hr c m rfl]
  | cons c t ih =>
    simp only [List.all_cons, Bool.and_eq_true] at h
    simp [h.1, ih h.2]

theorem takeWhile_split (p : B → Bool) (l : L) : ∃ t r, l = t ++ r ∧ t = l.takeWhile p ∧ r = l.dropWhile p ∧ t.all p = true ∧ ∀ c m, r = c :: m → p c = false := by
  induction l with
  | nil => exact ⟨[], [], rfl, rfl, rfl, rfl, by simp⟩
  | cons c l ih =>
    obtain ⟨t, r, h1, h2, h3, h4, h5⟩ := ih
    by_cases hp : p c = true
    · exact ⟨c :: t, r, by rw [h1]; rfl, by simp [hp, h2], by simp [hp, h3], by simp [hp, h4], h5⟩
    · refine ⟨[], c :: l, rfl, by simp [hp], by simp [hp], rfl, ?_⟩
      intro c' m e
      cases e
      simpa using hp

theorem letter_word (c : B) (h : isLetter c = true) : isWord c = true := by simp [isWord, h]
theorem digit_word (c : B) (h : isDigit c = true) : isWord c = true := by simp [isWord, h]
theorem letter_digit (c : B) (h : isLetter c = true) : isDigit c = false := by
  simp only [isLetter, isDigit, Bool.or_eq_true, Bool.and_eq_true, decide_eq_true_eq, UInt8.le_iff_toNat_le] at *
  simp only [Bool.and_eq_false_iff, decide_eq_false_iff_not]
  simp at *
  omega
theorem word_noGap (c : B) (h : isWord c = true) : noGap c := by
  simp only [isWord, isLetter, isDigit, Bool.or_eq_true, Bool.and_eq_true, decide_eq_true_eq, UInt8.le_iff_toNat_le, beq_iff_eq] at h
  unfold noGap
  simp only [isBlank, Bool.or_eq_false_iff, beq_eq_false_iff_ne, ne_eq]
  refine ⟨⟨⟨?_, ?_⟩, ?_⟩, ?_⟩ <;> (rintro rfl; simp at h)
theorem sym_cases (c : B) (h : isSym c = true) : c = 59 ∨ c = 44 ∨ c = 46 ∨ c = 58 ∨ c = 40 ∨ c = 41 ∨ c = 123 ∨ c = 125 ∨ c = 91 ∨ c = 93 ∨ c = 61 ∨ c = 60 ∨ c = 62 ∨ c = 47 ∨ c = 45 := by
  simpa [isSym] using h

theorem str_quoteB (s r : L) : strM false (quoteB s ++ 34 :: r) = some (s, (quoteB s).length + 1) := by
  induction s with
  | nil => simp [quoteB, strM]
  | cons c s ih =>
    by_cases h1 : c = 10
    · subst h1
      simp [quoteB, strM, ih]
    · by_cases h2 : c = 34 ∨ c = 92
      · have h0 : (c == 10) = false := by simpa using h1
        have h3 : (c == 34 || c == 92) = true := by simpa using h2
        have h4 : (c == 92 || c == 34 || c == 110) = true := by rcases h2 with rfl | rfl <;> rfl
        have h5 : (c == 110) = false := by rcases h2 with rfl | rfl <;> rfl
        have e : quoteB (c :: s) = 92 :: c :: quoteB s := by simp only [quoteB, h0, h3]; rfl
        have e2 : strM true (c :: (quoteB s ++ 34 :: r)) = some (c :: s, (quoteB s).length + 1 + 1) := by
          rw [show strM true (c :: (quoteB s ++ 34 :: r)) = (if c == 92 || c == 34 || c == 110 then (strM false (quoteB s ++ 34 :: r)).map (fun r => ((if c == 110 then 10 else c) :: r.1, r.2 + 1)) else none) from rfl, h4, h5, ih]; rfl
        rw [e, List.cons_append, List.cons_append, show strM false (92 :: c :: (quoteB s ++ 34 :: r)) = (strM true (c :: (quoteB s ++ 34 :: r))).map (fun r => (r.1, r.2 + 1)) from rfl, e2]
        rfl
      · have a1 : (c == 10) = false := by simpa using h1
        have a2 : (c == 34) = false := by simp at h2 ⊢; exact h2.1
        have a3 : (c == 92) = false := by simp at h2 ⊢; exact h2.2
        simp [quoteB, strM, a1, a2, a3, ih]

theorem str_some (l s : L) (n : Nat) (b : Bool) (h : strM b l = some (s, n)) :
    (b = false → ∃ r, l = quoteB s ++ 34 :: r ∧ n = (quoteB s).length + 1) ∧ (b = true → ∃ r, 92 :: l = quoteB s ++ 34 :: r ∧ n + 1 = (quoteB s).length + 1) := by
  induction l generalizing b s n with
  | nil => cases b <;> simp [strM] at h
  | cons c l ih =>
    cases b with
    | false =>
      refine ⟨fun _ => ?_, (fun h => by cases h)⟩
      simp only [strM] at h
      by_cases h1 : c = 34
      · subst h1
        simp at h
        obtain ⟨rfl, rfl⟩ := h
        exact ⟨l, rfl, rfl⟩
      · have a1 : (c == 34) = false := by simpa using h1
        rw [a1] at h
        by_cases h2 : c = 10
        · subst h2; simp at h
        · have a2 : (c == 10) = false := by simpa using h2
          rw [a2] at h
          by_cases h3 : c = 92
          · subst h3
            cases hs : strM true l with
            | none => simp [hs] at h
            | some x =>
              obtain ⟨s', n'⟩ := x
              simp [hs] at h
              obtain ⟨rfl, rfl⟩ := h
              obtain ⟨r, h4, h5⟩ := (ih _ _ true hs).2 rfl
              exact ⟨r, h4, h5⟩
          · have a3 : (c == 92) = false := by simpa using h3
            rw [a3] at h
            cases hs : strM false l with
            | none => simp [hs] at h
            | some x =>
              obtain ⟨s', n'⟩ := x
              simp [hs] at h
              obtain ⟨rfl, rfl⟩ := h
              obtain ⟨r, h4, h5⟩ := (ih _ _ false hs).1 rfl
              exact ⟨r, by simp [quoteB, a1, a2, a3, h4], by simp [quoteB, a1, a2, a3, h5]⟩
    | true =>
      refine ⟨(fun h => by cases h), fun _ => ?_⟩
      simp only [strM] at h
      split at h
      · rename_i hd
        cases hs : strM false l with
        | none => simp [hs] at h
        | some x =>
          obtain ⟨s', n'⟩ := x
          simp only [hs, Option.map_some, Option.some.injEq, Prod.mk.injEq] at h
          obtain ⟨rfl, rfl⟩ := h
          obtain ⟨r, h4, h5⟩ := (ih _ _ false hs).1 rfl
          by_cases h6 : c = 110
          · subst h6; exact ⟨r, by simp [quoteB, h4], by simp [quoteB, h5]⟩
          · have h7 : (c == 110) = false := by simpa using h6
            have h8 : c = 92 ∨ c = 34 := by simpa [h7] using hd
            have h9 : (c == 10) = false := by rcases h8 with rfl | rfl <;> rfl
            have h10 : (c == 34 || c == 92) = true := by rcases h8 with rfl | rfl <;> rfl
            have e : quoteB (c :: s') = 92 :: c :: quoteB s' := by simp only [quoteB, h9, h10]; rfl
            simp only [h7, Bool.false_eq_true, if_false, e]
            exact ⟨r, by simp [h4], by simp [h5]⟩
      · cases h

/-- Whatever is no string stays none before a line feed. -/
theorem str_none (l m : L) (b : Bool) (h : strM b l = none) : strM b (l ++ 10 :: m) = none := by
  induction l generalizing b with
  | nil => cases b <;> simp [strM]
  | cons c l ih =>
    cases b with
    | false =>
      simp only [List.cons_append, strM] at h ⊢
      split
      · rename_i h1; rw [if_pos h1] at h; exact h
      · rename_i h1
        rw [if_neg h1] at h
        split
        · rfl
        · rename_i h2
          rw [if_neg h2] at h
          split
          · rename_i h3
            rw [if_pos h3] at h
            rw [ih true (by simpa using h)]
            rfl
          · rename_i h3
            rw [if_neg h3] at h
            rw [ih false (by simpa using h)]
            rfl
    | true =>
      simp only [List.cons_append, strM] at h ⊢
      split
      · rename_i h1
        rw [if_pos h1] at h
        rw [ih false (by simpa using h)]
        rfl
      · rfl

theorem nextT_ok (c : B) (l : L) (k : Nat) (t : L) (n : Nat) (h : nextT c l = .ok (k, t, n)) :
    ∃ r, c :: l = wr k t ++ r ∧ n = (wr k t).length ∧ validTok k t ∧ stops k r := by
  unfold nextT at h
  split at h
  · rename_i hl
    obtain ⟨a, r, h1, h2, h3, h4, h5⟩ := takeWhile_split isWord l
    rw [← h2] at h
    simp only at h
    split at h
    · cases h
    · rename_i h6
      cases h
      refine ⟨r, by simp [wr, h1], by simp [wr], .inl ⟨rfl, ?_⟩, fun _ => h5⟩
      simp only [name, List.all_cons, letter_word c hl, h4, hl, Bool.and_self, Bool.true_and, decide_eq_true_eq]
      omega
  · rename_i hl
    split at h
    · rename_i hd
      obtain ⟨a, r, h1, h2, h3, h4, h5⟩ := takeWhile_split isDigit l
      rw [← h2, ← h3] at h
      simp only at h
      split at h
      · cases h
      · rename_i h6
        cases h
        simp only [Bool.or_eq_true, decide_eq_true_eq, not_or] at h6
        refine ⟨r, by simp [wr, h1], by simp [wr], .inr (.inl ⟨rfl, by simp, by simp [hd, h4], by omega⟩), fun _ c' m e => ?_⟩
        subst e
        simpa [headWord] using h6.2
    · rename_i hd
      split at h
      · rename_i hq
        have hq : c = 34 := by simpa using hq
        subst hq
        split at h
        · cases h
        · rename_i s n' hs
          cases h
          obtain ⟨r, h1, h2⟩ := (str_some l _ _ false hs).1 rfl
          refine ⟨r, by simp [wr, quote, h1], by simp [wr, quote, h2], .inr (.inr (.inl rfl)), fun hk => by omega⟩
      · rename_i hq
        split at h
        · rename_i hsym
          cases h
          exact ⟨l, by simp [wr], by simp [wr], .inr (.inr (.inr ⟨rfl, c, rfl, hsym⟩)), fun hk => by omega⟩
        · cases h

theorem nextT_of (k : Nat) (t r : L) (hv : validTok k t) (hs : stops k r) :
    ∃ c l, wr k t ++ r = c :: l ∧ noGap c ∧ nextT c l = .ok (k, t, (wr k t).length) := by
  rcases hv with ⟨rfl, hn⟩ | ⟨rfl, h1, h2, h3⟩ | rfl | ⟨rfl, c, rfl, hc⟩
  · cases t with
    | nil => simp [name] at hn
    | cons c t =>
      simp only [name, List.all_cons, Bool.and_eq_true, decide_eq_true_eq] at hn
      obtain ⟨⟨⟨h1, h2⟩, h3⟩, h4⟩ := hn
      obtain ⟨e1, _⟩ := takeWhile_all t r h2 (hs (.inl rfl))
      refine ⟨c, t ++ r, by simp [wr], word_noGap c h1, ?_⟩
      simp only [nextT, h3, if_true, e1]
      rw [if_neg (by omega)]
      simp [wr]
  · cases t with
    | nil => exact absurd rfl h1
    | cons c t =>
      simp only [List.all_cons, Bool.and_eq_true] at h2
      have hr : ∀ c' m, r = c' :: m → isDigit c' = false := by
        intro c' m e
        have := hs (.inr rfl) c' m e
        simp [isWord] at this
        exact this.1.2
      obtain ⟨e1, e2⟩ := takeWhile_all t r h2.2 hr
      refine ⟨c, t ++ r, by simp [wr], word_noGap c (digit_word c h2.1), ?_⟩
      have hl : isLetter c = false := by
        cases hlc : isLetter c with
        | false => rfl
        | true => have := letter_digit c hlc; rw [h2.1] at this; cases this
      simp only [nextT, hl, h2.1, e1, e2]
      have h4 : headWord r = false := by
        cases r with
        | nil => rfl
        | cons d m => exact hs (.inr rfl) d m rfl
      rw [h4]
      have h5 : ¬ 7 < (c :: t).length := by omega
      simp only [h5, decide_false, Bool.or_self, Bool.false_eq_true, if_false, if_true]
      simp [wr]
  · refine ⟨34, quoteB t ++ [34] ++ r, by simp [wr, quote], by simp [noGap, isBlank], ?_⟩
    have e : str (quoteB t ++ [34] ++ r) = some (t, (quoteB t).length + 1) := by
      rw [List.append_assoc]; exact str_quoteB t r
    have a : isLetter 34 = false := by rfl
    have b : isDigit 34 = false := by rfl
    simp only [nextT, a, b, e]
    simp [wr, quote]
  · refine ⟨c, r, by simp [wr], ?_, ?_⟩
    · rcases sym_cases c hc with h | h | h | h | h | h | h | h | h | h | h | h | h | h | h <;> subst h <;> simp [noGap, isBlank]
    · rcases sym_cases c hc with h | h | h | h | h | h | h | h | h | h | h | h | h | h | h <;> subst h <;> rfl

theorem wr_pos (k : Nat) (t : L) (hv : validTok k t) : 1 ≤ (wr k t).length := by
  rcases hv with ⟨rfl, hn⟩ | ⟨rfl, h1, h2, h3⟩ | rfl | ⟨rfl, c, rfl, hc⟩
  · cases t with
    | nil => simp [name] at hn
    | cons c t => simp [wr]
  · cases t with
    | nil => exact absurd rfl h1
    | cons c t => simp [wr]
  · simp [wr, quote]
  · simp [wr]

/-- A token that stands before what may follow it is scanned. -/
theorem scan_wr (off : Nat) (k : Nat) (t r : L) (hv : validTok k t) (hs : stops k r) :
    scan 0 off (wr k t ++ r) = (⟨k, t, off⟩ :: (scan 0 (off + (wr k t).length) r).1, (scan 0 (off + (wr k t).length) r).2) := by
  obtain ⟨c, l, e, hc, hn⟩ := nextT_of k t r hv hs
  have := scan_tok off c l hc (wr_pos k t hv) hn
  rw [← e] at this
  rw [this, List.drop_left]

/-- An error stays one before a line feed. -/
theorem nextT_err (c : B) (l m : L) (e : Nat) (h : nextT c l = .error e) : nextT c (l ++ 10 :: m) = .error e := by
  unfold nextT at h ⊢
  split at h
  · rename_i hl
    simp only [hl, if_true]
    obtain ⟨a, r, h1, h2, h3, h4, h5⟩ := takeWhile_split isWord l
    have e1 : (l ++ 10 :: m).takeWhile isWord = a := by
      have := (takeWhile_all a (r ++ 10 :: m) h4 (by
        intro c' m' e'
        cases r with
        | nil => cases e'; rfl
        | cons d r => cases e'; exact h5 _ _ rfl)).1
      rw [h1, List.append_assoc]; exact this
    rw [e1]
    rw [← h2] at h
    exact h
  · rename_i hl
    simp only [hl]
    split at h
    · rename_i hd
      simp only [hd, if_true]
      obtain ⟨a, r, h1, h2, h3, h4, h5⟩ := takeWhile_split isDigit l
      obtain ⟨e1, e2⟩ := takeWhile_all a (r ++ 10 :: m) h4 (by
        intro c' m' e'
        cases r with
        | nil => cases e'; rfl
        | cons d r => cases e'; exact h5 _ _ rfl)
      rw [← List.append_assoc, ← h1] at e1 e2
      rw [e1, e2]
      rw [← h2, ← h3] at h
      simp only at h ⊢
      split at h
      · rename_i h6
        cases h
        cases r with
        | nil =>
          simp only [headWord, Bool.or_false, decide_eq_true_eq] at h6
          simp only [h6, decide_true, Bool.true_or, if_true]
          simp
        | cons d r =>
          have h7 : (decide (7 < (c :: a).length) || headWord (d :: r ++ 10 :: m)) = true := h6
          simp only [h7, if_true]
          simp
      · cases h
    · rename_i hd
      simp only [hd]
      split at h
      · rename_i hq
        simp only [hq, if_true]
        split at h
        · rename_i hs
          cases h
          rw [show str (l ++ 10 :: m) = none from str_none l m false hs]
          simp
        · cases h
      · rename_i hq
        simp only [hq]
        split at h
        · cases h
        · rename_i hsym
          cases h
          simp [hsym]

/-- THE INDUCTION OVER A SCAN. -/
theorem scan_ind {P : Nat → L → List Tok → Option (Nat × Nat) → Prop}
    (done : ∀ off g, (gapE false g).isSome = true → P off g [] none)
    (err : ∀ off g c l e, gapE false g = some false → noGap c → nextT c l = .error e → P off (g ++ c :: l) [] (some (e, off + g.length)))
    (tok : ∀ off g k t r ts x, gapE false g = some false → validTok k t → stops k r → scan 0 (off + g.length + (wr k t).length) r = (ts, x) → P (off + g.length + (wr k t).length) r ts x →
      P off (g ++ (wr k t ++ r)) (⟨k, t, off + g.length⟩ :: ts) x)
    (off : Nat) (l : L) : P off l (scan 0 off l).1 (scan 0 off l).2 := by
  induction hl : l.length using Nat.strongRecOn generalizing off l with
  | _ n ih =>
    subst hl
    have key : (gapE false l).isSome = true ∨ ∃ g c m, l = g ++ c :: m ∧ gapE false g = some false ∧ noGap c := by
      clear ih
      have gen : ∀ (b : Bool) (l : L), (gapE b l).isSome = true ∨ ∃ g c m, l = g ++ c :: m ∧ gapE b g = some false ∧ noGap c := by
        intro b l
        induction l generalizing b with
        | nil => left; cases b <;> rfl
        | cons c l ih =>
          cases b with
          | true =>
            rcases ih (c != 10) with h | ⟨g, d, m, h1, h2, h3⟩
            · exact .inl (by simpa [gapE] using h)
            · exact .inr ⟨c :: g, d, m, by rw [h1]; rfl, by simpa [gapE] using h2, h3⟩
          | false =>
            by_cases hb : isBlank c = true
            · rcases ih false with h | ⟨g, d, m, h1, h2, h3⟩
              · exact .inl (by simpa [gapE, hb] using h)
              · exact .inr ⟨c :: g, d, m, by rw [h1]; rfl, by simpa [gapE, hb] using h2, h3⟩
            · by_cases hc : (c == 35) = true
              · rcases ih true with h | ⟨g, d, m, h1, h2, h3⟩
                · exact .inl (by simp only [gapE, hb, hc]; exact h)
                · exact .inr ⟨c :: g, d, m, by rw [h1]; rfl, by simp only [gapE, hb, hc]; exact h2, h3⟩
              · exact .inr ⟨[], c, l, rfl, rfl, by simpa using hb, by simpa using hc⟩
      exact gen false l
    rcases key with h | ⟨g, c, m, rfl, hg, hc⟩
    · rw [scan_gaps off l h]; exact done off l h
    · rw [scan_gap off g (c :: m) hg]
      cases hn : nextT c m with
      | error e => rw [scan_err _ c m hc hn]; exact err off g c m e hg hc hn
      | ok x =>
        obtain ⟨k, t, n⟩ := x
        obtain ⟨r, h1, rfl, hv, hs⟩ := nextT_ok c m k t n hn
        rw [h1, scan_wr _ k t r hv hs]
        have hlt : r.length < (g ++ c :: m).length := by
          rw [h1]
          have := wr_pos k t hv
          simp
          omega
        exact tok off g k t r _ _ hg hv hs rfl (ih r.length hlt _ r rfl)

/-! ### What the laws ask of a scan -/

theorem nextT_err_pos (c : B) (l : L) (e : Nat) (h : nextT c l = .error e) : e = 2 ∨ e = 3 ∨ e = 4 := by
  unfold nextT at h
  split at h
  · simp only at h
    split at h
    · cases h; exact .inl rfl
    · cases h
  · split at h
    · simp only at h
      split at h
      · cases h; exact .inr (.inr rfl)
      · cases h
    · split at h
      · split at h
        · cases h; exact .inr (.inl rfl)
        · cases h
      · split at h
        · cases h
        · cases h; exact .inr (.inl rfl)

/-- Every token is one, and they take no more bytes than the text has. -/
def wlen : List Tok → Nat
  | [] => 0
  | t :: ts => (wr t.kind t.text).length + wlen ts

theorem scan_sizes (off : Nat) (l : L) : (scan 0 off l).1.length ≤ wlen (scan 0 off l).1 ∧ wlen (scan 0 off l).1 ≤ l.length ∧ ∀ t ∈ (scan 0 off l).1, validTok t.kind t.text := by
  refine scan_ind (P := fun _ l ts _ => ts.length ≤ wlen ts ∧ wlen ts ≤ l.length ∧ ∀ t ∈ ts, validTok t.kind t.text) ?_ ?_ ?_ off l
  · intro off g _; simp [wlen]
  · intro off g c l e _ _ _; simp [wlen]
  · intro off g k t r ts x hg hv hs _ ⟨h1, h2, h3⟩
    have := wr_pos k t hv
    refine ⟨by simp [wlen]; omega, by simp [wlen]; omega, ?_⟩
    intro u hu
    rcases List.mem_cons.1 hu with rfl | hu
    · exact hv
    · exact h3 u hu

theorem scan_error (off : Nat) (l : L) (e n : Nat) (h : (scan 0 off l).2 = some (e, n)) : (e = 2 ∨ e = 3 ∨ e = 4) ∧ off ≤ n ∧ n < off + l.length := by
  refine scan_ind (P := fun off l _ x => ∀ e n, x = some (e, n) → (e = 2 ∨ e = 3 ∨ e = 4) ∧ off ≤ n ∧ n < off + l.length) ?_ ?_ ?_ off l e n h
  · intro off g _ e n h; cases h
  · intro off g c l e _ _ hn e' n h
    cases h
    exact ⟨nextT_err_pos c l _ hn, by omega, by simp⟩
  · intro off g k t r ts x hg hv hs _ ih e n h
    obtain ⟨h1, h2, h3⟩ := ih e n h
    exact ⟨h1, by omega, by simp; omega⟩

/-- What Lex returns for a text that cannot have too many tokens. -/
theorem lex_small (l : L) (h : l.length ≤ 5000) : lex l = (match (scan 0 0 l).2 with
    | some (e, n) => ([], e, (n : Int))
    | none => ((scan 0 0 l).1, 0, 0)) := by
  have := scan_sizes 0 l
  unfold lex
  rw [if_neg (by omega), if_neg (by omega)]

/-- As 'lex_small', the bound on the tokens given apart. -/
theorem lex_few (l : L) (h : l.length ≤ 20000) (h' : (scan 0 0 l).1.length ≤ 5000) : lex l = (match (scan 0 0 l).2 with
    | some (e, n) => ([], e, (n : Int))
    | none => ((scan 0 0 l).1, 0, 0)) := by
  unfold lex
  rw [if_neg (by omega), if_neg (by omega)]

/-! P8.2 -/
def places (text : L) : Nat → List Tok → Bool
  | e, [] => gaps (text.drop e)
  | e, t :: ts =>
    if t.off < e || (wr t.kind t.text).length == 0 || text.length < t.off + (wr t.kind t.text).length || (text.drop t.off).take (wr t.kind t.text).length != wr t.kind t.text || !gaps ((text.drop e).take (t.off - e)) then false
    else places text (t.off + (wr t.kind t.text).length) ts

theorem places_scan (off : Nat) (l pre : L) (hp : pre.length = off) (h : (scan 0 off l).2 = none) : places (pre ++ l) off (scan 0 off l).1 = true := by
  refine scan_ind (P := fun off l ts x => ∀ pre : L, pre.length = off → x = none → places (pre ++ l) off ts = true) ?_ ?_ ?_ off l pre hp h
  · intro off g hg pre hp _
    subst hp
    simp only [places, List.drop_left]
    exact (gaps_iff g).2 hg
  · intro off g c l e _ _ _ pre _ h; cases h
  · intro off g k t r ts x hg hv hs _ ih pre hp hx
    subst hp
    have hpos := wr_pos k t hv
    simp only [places]
    have e1 : ((pre ++ (g ++ (wr k t ++ r))).drop (pre.length + g.length)).take (wr k t).length = wr k t := by
      rw [← List.append_assoc, show pre.length + g.length = (pre ++ g).length by simp, List.drop_left, List.take_left]
    have e2 : ((pre ++ (g ++ (wr k t ++ r))).drop pre.length).take (pre.length + g.length - pre.length) = g := by
      rw [List.drop_left, Nat.add_sub_cancel_left, List.take_left]
    rw [e1, e2, (gaps_iff g).2 (by rw [hg]; rfl)]
    have h1 : (decide (pre.length + g.length < pre.length)) = false := by simp
    have h2 : ((wr k t).length == 0) = false := by simp; intro e; rw [e] at hpos; simp at hpos
    have h3 : (decide ((pre ++ (g ++ (wr k t ++ r))).length < pre.length + g.length + (wr k t).length)) = false := by simp; omega
    rw [h1, h2, h3]
    simp only [bne_self_eq_false, Bool.not_true, Bool.or_self, Bool.false_eq_true, if_false]
    have := ih (pre ++ g ++ wr k t) (by simp; omega) hx
    simpa [List.append_assoc] using this

/-! Tokens apart from offsets. -/
def strip (ts : List Tok) : List (Nat × L) := ts.map fun t => (t.kind, t.text)
def shift (d : Nat) (ts : List Tok) : List Tok := ts.map fun t => ⟨t.kind, t.text, t.off + d⟩

theorem scan_shift (d off : Nat) (l : L) : scan 0 (off + d) l = (shift d (scan 0 off l).1, (scan 0 off l).2.map fun x => (x.1, x.2 + d)) := by
  refine scan_ind (P := fun off l ts x => scan 0 (off + d) l = (shift d ts, x.map fun x => (x.1, x.2 + d))) ?_ ?_ ?_ off l
  · intro off g hg; rw [scan_gaps _ g hg]; rfl
  · intro off g c l e hg hc hn
    rw [scan_gap _ g _ hg, scan_err _ c l hc hn]
    simp [shift]; omega
  · intro off g k t r ts x hg hv hs _ ih
    rw [scan_gap _ g _ hg, scan_wr _ k t r hv hs, show off + d + g.length + (wr k t).length = off + g.length + (wr k t).length + d by omega, ih]
    simp [shift]; omega

theorem strip_shift (d : Nat) (ts : List Tok) : strip (shift d ts) = strip ts := by
  simp [strip, shift]

theorem strip_scan (a b : Nat) (l : L) : strip (scan 0 a l).1 = strip (scan 0 b l).1 ∧ ((scan 0 a l).2 = none ↔ (scan 0 b l).2 = none) := by
  have h1 := scan_shift a 0 l
  have h2 := scan_shift b 0 l
  rw [Nat.zero_add] at h1 h2
  rw [h1, h2, strip_shift, strip_shift]
  refine ⟨rfl, ?_⟩
  simp

/-! P8.3 -/
def writtenAll : List Tok → L
  | [] => []
  | t :: ts => wr t.kind t.text ++ 32 :: writtenAll ts

theorem writtenAll_len (ts : List Tok) : (writtenAll ts).length = wlen ts + ts.length := by
  induction ts with
  | nil => rfl
  | cons t ts ih => simp [writtenAll, wlen, ih]; omega

theorem scan_written (off : Nat) (ts : List Tok) (hv : ∀ t ∈ ts, validTok t.kind t.text) : strip (scan 0 off (writtenAll ts)).1 = strip ts ∧ (scan 0 off (writtenAll ts)).2 = none := by
  induction ts generalizing off with
  | nil => exact ⟨rfl, rfl⟩
  | cons t ts ih =>
    have hs : stops t.kind (32 :: writtenAll ts) := by
      intro _ c m e
      cases e; rfl
    rw [writtenAll, scan_wr off t.kind t.text _ (hv t (by simp)) hs]
    have e : ∀ o, scan 0 o (32 :: writtenAll ts) = scan 0 (o + 1) (writtenAll ts) := fun o => by simp [scan, isBlank]
    obtain ⟨h1, h2⟩ := ih (off + (wr t.kind t.text).length + 1) (fun u hu => hv u (by simp [hu]))
    rw [e]
    exact ⟨by simp only [strip, List.map_cons] at h1 ⊢; rw [h1], h2⟩

/-! P8.4 -/
theorem stops_app (k : Nat) (r m : L) (h : stops k r) (hm : stops k m) : stops k (r ++ m) := by
  intro hk c m' e
  cases r with
  | nil => exact hm hk c m' e
  | cons d r => cases e; exact h hk _ r rfl

theorem stops_line (k : Nat) (m : L) : stops k (10 :: m) := by
  intro _ c m' e
  cases e; rfl

theorem gapE_line (g : L) (h : (gapE false g).isSome = true) : gapE false (g ++ [10]) = some false := by
  rw [gapE_append]
  cases hg : gapE false g with
  | none => rw [hg] at h; cases h
  | some b => cases b <;> rfl

theorem scan_line (off : Nat) (g m : L) (h : (gapE false g).isSome = true) : scan 0 off (g ++ 10 :: m) = scan 0 (off + g.length + 1) m := by
  have := scan_gap off (g ++ [10]) m (gapE_line g h)
  simpa [Nat.add_assoc] using this

theorem scan_parts (off : Nat) (p m : L) (h : (scan 0 off p).2 = none) :
    scan 0 off (p ++ 10 :: m) = ((scan 0 off p).1 ++ (scan 0 (off + p.length + 1) m).1, (scan 0 (off + p.length + 1) m).2) := by
  refine scan_ind (P := fun off p ts x => x = none → scan 0 off (p ++ 10 :: m) = (ts ++ (scan 0 (off + p.length + 1) m).1, (scan 0 (off + p.length + 1) m).2)) ?_ ?_ ?_ off p h
  · intro off g hg _
    rw [scan_line off g m hg]; rfl
  · intro off g c l e _ _ _ h; cases h
  · intro off g k t r ts x hg hv hs _ ih hx
    rw [List.append_assoc, List.append_assoc, scan_gap off g _ hg, scan_wr _ k t _ hv (stops_app k r _ hs (stops_line k m)), ih hx]
    have e : off + g.length + (wr k t).length + r.length + 1 = off + (g ++ (wr k t ++ r)).length + 1 := by simp; omega
    rw [e]; rfl

theorem scan_parts_err (off : Nat) (p m : L) (h : (scan 0 off p).2 ≠ none) : (scan 0 off (p ++ 10 :: m)).2 ≠ none := by
  refine scan_ind (P := fun off p ts x => x ≠ none → (scan 0 off (p ++ 10 :: m)).2 ≠ none) ?_ ?_ ?_ off p h
  · intro off g hg h; exact absurd rfl h
  · intro off g c l e hg hc hn _
    rw [List.append_assoc, scan_gap off g _ hg, List.cons_append, scan_err _ c _ hc (nextT_err c l m e hn)]
    simp
  · intro off g k t r ts x hg hv hs _ ih hx
    rw [List.append_assoc, List.append_assoc, scan_gap off g _ hg, scan_wr _ k t _ hv (stops_app k r _ hs (stops_line k m))]
    exact ih hx

/-! P8.5 -/
theorem stops_take (k : Nat) (r : L) (n : Nat) (h : stops k r) : stops k (r.take n) := by
  intro hk c m e
  cases r with
  | nil => simp at e
  | cons d r =>
    cases n with
    | zero => simp at e
    | succ n => simp at e; exact h hk c r (by rw [e.1])

theorem scan_beginning (off : Nat) (l : L) (e n : Nat) (h : (scan 0 off l).2 = some (e, n)) :
    (scan 0 off (l.take (n - off))).2 = none ∧ ∀ o, (scan 0 o (l.drop (n - off))).2 = some (e, o) := by
  refine scan_ind (P := fun off l _ x => ∀ e n, x = some (e, n) → (scan 0 off (l.take (n - off))).2 = none ∧ ∀ o, (scan 0 o (l.drop (n - off))).2 = some (e, o)) ?_ ?_ ?_ off l e n h
  · intro off g _ e n h; cases h
  · intro off g c l e hg hc hn e' n h
    cases h
    rw [Nat.add_sub_cancel_left, List.take_left, List.drop_left, scan_gaps off g (by rw [hg]; rfl)]
    exact ⟨rfl, fun o => by rw [scan_err o c l hc hn]⟩
  · intro off g k t r ts x hg hv hs hx' ih e n h
    have hb := scan_error (off + g.length + (wr k t).length) r e n (by rw [hx']; exact h)
    obtain ⟨h1, h2⟩ := ih e n h
    have e1 : n - off = g.length + ((wr k t).length + (n - (off + g.length + (wr k t).length))) := by omega
    rw [e1, List.take_length_add_append, List.take_length_add_append, List.drop_length_add_append, List.drop_length_add_append, scan_gap off g _ hg, scan_wr _ k t _ hv (stops_take k r _ hs)]
    exact ⟨h1, h2⟩

/-! P8.6 -/
/-- A text, cut behind its token number j, with what is no word put in. -/
theorem scan_cut (off : Nat) (l : L) (h : (scan 0 off l).2 = none) (j : Nat) (t : Tok) (ht : (scan 0 off l).1[j]? = some t) (m : L) (hm : ∀ k, stops k m) :
    off ≤ t.off ∧ t.off + (wr t.kind t.text).length ≤ off + l.length ∧
    (scan 0 off (l.take (t.off + (wr t.kind t.text).length - off) ++ m)) = ((scan 0 off l).1.take (j + 1) ++ (scan 0 (t.off + (wr t.kind t.text).length) m).1, (scan 0 (t.off + (wr t.kind t.text).length) m).2) ∧
    scan 0 (t.off + (wr t.kind t.text).length) (l.drop (t.off + (wr t.kind t.text).length - off)) = ((scan 0 off l).1.drop (j + 1), none) := by
  refine scan_ind (P := fun off l ts x => x = none → ∀ j t, ts[j]? = some t → off ≤ t.off ∧ t.off + (wr t.kind t.text).length ≤ off + l.length ∧
    (scan 0 off (l.take (t.off + (wr t.kind t.text).length - off) ++ m)) = (ts.take (j + 1) ++ (scan 0 (t.off + (wr t.kind t.text).length) m).1, (scan 0 (t.off + (wr t.kind t.text).length) m).2) ∧
    scan 0 (t.off + (wr t.kind t.text).length) (l.drop (t.off + (wr t.kind t.text).length - off)) = (ts.drop (j + 1), none)) ?_ ?_ ?_ off l h j t ht
  · intro off g _ _ j t h; simp at h
  · intro off g c l e _ _ _ h; cases h
  · intro off g k t r ts x hg hv hs hx' ih hx j u hu
    subst hx
    cases j with
    | zero =>
      simp only [List.getElem?_cons_zero, Option.some.injEq] at hu
      subst hu
      have e1 : off + g.length + (wr k t).length - off = g.length + (wr k t).length := by omega
      refine ⟨by simp, by simp; omega, ?_, ?_⟩
      · simp only
        rw [e1, List.take_length_add_append, List.take_left, List.append_assoc, scan_gap off g _ hg, scan_wr _ k t m hv (hm k)]
        simp
      · simp only
        rw [e1, List.drop_length_add_append, List.drop_left, hx']
        simp
    | succ j =>
      simp only [List.getElem?_cons_succ] at hu
      obtain ⟨h1, h2, h3, h4⟩ := ih rfl j u hu
      have e1 : u.off + (wr u.kind u.text).length - off = g.length + ((wr k t).length + (u.off + (wr u.kind u.text).length - (off + g.length + (wr k t).length))) := by omega
      refine ⟨by omega, by simp; omega, ?_, ?_⟩
      · rw [e1, List.take_length_add_append, List.take_length_add_append, List.append_assoc, List.append_assoc, scan_gap off g _ hg, scan_wr _ k t _ hv (stops_app k _ m (stops_take k r _ hs) (hm k)), h3]
        simp
      · rw [e1, List.drop_length_add_append, List.drop_length_add_append, h4]
        simp

theorem stops_gaps (g m : L) (h : (gapE false g).isSome = true) (k : Nat) : stops k (g ++ 10 :: m) := by
  intro _ c m' e
  cases g with
  | nil => cases e; rfl
  | cons d g =>
    cases e
    simp only [gapE] at h
    by_cases hb : isBlank c = true
    · cases hw : isWord c with
      | false => rfl
      | true => rw [(word_noGap c hw).1] at hb; cases hb
    · rw [if_neg hb] at h
      by_cases hc : (c == 35) = true
      · cases hw : isWord c with
        | false => rfl
        | true => rw [(word_noGap c hw).2] at hc; cases hc
      · rw [if_neg hc] at h; cases h

/-- THE LAW OF GAPS: 'mid' is 0 or the end of a token. -/
theorem gaps_law (text g : L) (hg : gaps g = true) (h : (scan 0 0 text).2 = none) (mid : Nat)
    (hmid : ((scan 0 0 text).1 = [] ∧ mid = 0) ∨ ∃ (j : Nat) (t : Tok), (scan 0 0 text).1[j]? = some t ∧ mid = t.off + (wr t.kind t.text).length) :
    strip (scan 0 0 (((g ++ [10]) ++ text.take mid) ++ (g ++ [10]) ++ text.drop mid ++ [10] ++ g)).1 = strip (scan 0 0 text).1 ∧
      (scan 0 0 (((g ++ [10]) ++ text.take mid) ++ (g ++ [10]) ++ text.drop mid ++ [10] ++ g)).2 = none := by
  have hg' := (gaps_iff g).1 hg
  have hl := gapE_line g hg'
  have eY : ((g ++ [10]) ++ text.take mid) ++ (g ++ [10]) ++ text.drop mid ++ [10] ++ g = (g ++ [10]) ++ (text.take mid ++ (g ++ 10 :: (text.drop mid ++ 10 :: g))) := by simp
  rw [eY, scan_gap 0 _ _ hl]
  -- what stands behind the cut
  have hrest : ∀ o ts, (∀ o', strip (scan 0 o' (text.drop mid)).1 = strip ts ∧ (scan 0 o' (text.drop mid)).2 = none) →
      strip (scan 0 o (g ++ 10 :: (text.drop mid ++ 10 :: g))).1 = strip ts ∧ (scan 0 o (g ++ 10 :: (text.drop mid ++ 10 :: g))).2 = none := by
    intro o ts hts
    rw [scan_line o g _ hg', scan_parts _ _ _ (hts _).2, scan_gaps _ g hg']
    exact ⟨by simpa using (hts _).1, rfl⟩
  rcases hmid with ⟨h0, rfl⟩ | ⟨j, t, ht, rfl⟩
  · simp only [List.take_zero, List.nil_append]
    refine hrest _ _ fun o' => ?_
    have := strip_scan o' 0 text
    exact ⟨this.1, this.2.2 h⟩
  · have hcut := scan_cut 0 text h j t ht (g ++ 10 :: (text.drop (t.off + (wr t.kind t.text).length) ++ 10 :: g)) (stops_gaps g _ hg')
    obtain ⟨_, _, h3, h4⟩ := hcut
    rw [Nat.sub_zero] at h3 h4
    have h5 := hrest (t.off + (wr t.kind t.text).length) ((scan 0 0 text).1.drop (j + 1)) (fun o' => by
      have := strip_scan o' (t.off + (wr t.kind t.text).length) (text.drop (t.off + (wr t.kind t.text).length))
      rw [h4] at this
      exact ⟨this.1, this.2.2 rfl⟩)
    have h6 := strip_scan (0 + (g ++ [10]).length) 0 (text.take (t.off + (wr t.kind t.text).length) ++ (g ++ 10 :: (text.drop (t.off + (wr t.kind t.text).length) ++ 10 :: g)))
    rw [h3] at h6
    refine ⟨h6.1.trans ?_, h6.2.2 h5.2⟩
    have h7 := h5.1
    simp only [strip, List.map_append, List.map_take, List.map_drop] at h7 ⊢
    rw [h7, List.take_append_drop]

/-! P8.7, P8.8 -/
theorem scan_one (k : Nat) (t : L) (hv : validTok k t) (off : Nat) : scan 0 off (wr k t) = ([⟨k, t, off⟩], none) := by
  have := scan_wr off k t [] hv (by intro _ c m e; cases e)
  simpa [scan_nil] using this

theorem quote_inj (a b : L) (h : quote a = quote b) : a = b := by
  have h1 := scan_one 3 a (.inr (.inr (.inl rfl))) 0
  have h2 := scan_one 3 b (.inr (.inr (.inl rfl))) 0
  simp only [wr, if_true] at h1 h2
  rw [h, h2] at h1
  cases h1
  rfl

theorem name_iff (l : L) : name l = true ↔ scan 0 0 l = ([⟨1, l, 0⟩], none) := by
  constructor
  · intro h
    have := scan_one 1 l (.inl ⟨rfl, h⟩) 0
    simpa [wr] using this
  · intro h
    have := (scan_sizes 0 l).2.2
    rw [h] at this
    rcases this ⟨1, l, 0⟩ (by simp) with ⟨_, h⟩ | ⟨h, _⟩ | h | ⟨h, _⟩
    · exact h
    · cases h
    · cases h
    · cases h

theorem name_sym_num (a : L) (c : B) (d : L) (ha : name a = true) (hc : isSym c = true) (h1 : d ≠ []) (h2 : d.all isDigit = true) (h3 : d.length ≤ 7) :
    scan 0 0 (a ++ [c] ++ d) = ([⟨1, a, 0⟩, ⟨4, [c], a.length⟩, ⟨2, d, a.length + 1⟩], none) := by
  have s1 : stops 1 (c :: d) := by
    intro _ c' m e
    cases e
    rcases sym_cases c hc with h | h | h | h | h | h | h | h | h | h | h | h | h | h | h <;> subst h <;> rfl
  have e1 := scan_wr 0 1 a (c :: d) (.inl ⟨rfl, ha⟩) s1
  have e2 := scan_wr a.length 4 [c] d (.inr (.inr (.inr ⟨rfl, c, rfl, hc⟩))) (by intro hk; omega)
  have e3 := scan_one 2 d (.inr (.inl ⟨rfl, h1, h2, h3⟩)) (a.length + 1)
  simp [wr] at e1 e2 e3
  simp [e1, e2, e3]

end Go.Proofs.PlLex

/-! Objects and maps as plain data, and when they are valid (layers 11 and 12). No program in sight. -/
namespace Go.Proofs.PlNet
open Go.Proofs.PlLex

/-! Tags. -/
structure Tg where
  k : ByteArray
  v : ByteArray
/-- Keys that are names and increase, values of 1 to 200 bytes. -/
def tagL (last : ByteArray) : List Tg → Bool
  | [] => true
  | t :: l => name t.k.data.toList && !Go.Op.bytesLess t.k.toList last.toList && !(t.k.toList == last.toList) && !t.v.toList.isEmpty && decide (t.v.size ≤ 200) && tagL t.k l
def tagsB (l : List Tg) : Bool := tagL ⟨#[]⟩ l && decide (l.length ≤ 60)

/-! Objects. -/
structure Ob where
  id : ByteArray
  kind : Int
  x : Int
  y : Int
  refs : List ByteArray
  tags : List Tg
def hasS (s : ByteArray) : List ByteArray → Bool
  | [] => false
  | x :: l => x.toList == s.toList || hasS s l
/-- How many references a kind needs. -/
def leastK (k : Int) : Nat := if k = 2 then 2 else if k = 3 then 3 else if k = 4 then 1 else if k = 5 then 3 else 0
/-- Is a reference wrong, behind those that were seen? -/
def wrongB (k : Int) (seen : List ByteArray) (last s : ByteArray) : Bool := k == 2 && s.toList == last.toList || k == 3 && hasS s seen || !name s.data.toList
def refsB (k : Int) : List ByteArray → ByteArray → List ByteArray → Bool
  | _, _, [] => true
  | seen, last, s :: l => !wrongB k seen last s && refsB k (s :: seen) s l
def gridB (x y : Int) : Bool := decide (0 ≤ x ∧ x < 1048576 ∧ 0 ≤ y ∧ y < 1048576)
def headB (o : Ob) : Bool := decide (1 ≤ o.kind ∧ o.kind ≤ 5) && name o.id.data.toList && tagsB o.tags && decide (leastK o.kind ≤ o.refs.length) && decide (o.refs.length ≤ 2000)
def tailB (o : Ob) : Bool := if o.kind = 1 then decide (o.refs.length = 0) && gridB o.x o.y else if o.kind = 5 then decide (o.refs.length = 3) && decide (o.x = 0 ∧ o.y = 0) else decide (o.x = 0 ∧ o.y = 0)
def obB (o : Ob) : Bool := headB o && refsB o.kind [] ⟨#[]⟩ o.refs && tailB o
def mapL (last : ByteArray) : List Ob → Bool
  | [] => true
  | o :: l => obB o && !Go.Op.bytesLess o.id.toList last.toList && !(o.id.toList == last.toList) && mapL o.id l
def mapB (l : List Ob) : Bool := mapL ⟨#[]⟩ l && decide (l.length ≤ 1000000)
/-- Objects of a size that can be read. -/
def okO (o : Ob) : Prop := o.id.size ≤ 100000 ∧ o.refs.length ≤ 100000 ∧ (∀ s ∈ o.refs, s.size ≤ 100000) ∧ o.tags.length ≤ 100000 ∧ ∀ t ∈ o.tags, t.k.size ≤ Go.maxLen ∧ t.v.size ≤ Go.maxLen
end Go.Proofs.PlNet

/-! Maps in memory as lists of pairs (any kind of element: an element reads as the very value). -/
namespace Go.Proofs.PlMap
open Go Go.Maps Go.ChangeMaps

/-- An element reads as itself. -/
def hv (v : Value) : Option (DataW Value × List MemPlace) := some (.held v, [])

/-- How keys of a type stand for things. -/
structure KeyBy (P : Program) (k : TypeId) (K : Type) where
  val : K → Value
  lit : K → Lit
  ok : K → Prop
  keyed : Keyed P k
  key : ∀ x, ok x → keyOf P k (val x) = some (lit x)
  inj : ∀ x y, ok x → ok y → lit x = lit y → x = y

section
variable {P : Program} {k : TypeId} {K : Type} [DecidableEq K]

def getL (l : List (K × Value)) (x : K) : Option Value := (l.find? (fun p => p.1 = x)).map (·.2)
def putL (l : List (K × Value)) (x : K) (v : Value) : List (K × Value) :=
  if (getL l x).isSome then l.map (fun p => if p.1 = x then (x, v) else p) else l ++ [(x, v)]

theorem getL_none {l : List (K × Value)} {x : K} : getL l x = none ↔ ∀ p ∈ l, p.1 ≠ x := by
  simp [getL]
theorem getL_isSome {l : List (K × Value)} {x : K} : (getL l x).isSome = true ↔ ∃ p ∈ l, p.1 = x := by
  simp [getL]
theorem getL_append {l m : List (K × Value)} {x : K} : getL (l ++ m) x = (getL l x).or (getL m x) := by
  simp only [getL, List.find?_append]
  cases List.find? (fun p => decide (p.1 = x)) l <;> rfl
theorem getL_map (l : List (K × Value)) (x y : K) (v : Value) : getL (l.map (fun p => if p.1 = x then (x, v) else p)) y = if y = x then (getL l x).map (fun _ => v) else getL l y := by
  induction l with
  | nil => simp [getL]
  | cons p l ih =>
    simp only [getL, List.map_cons, List.find?_cons] at ih ⊢
    by_cases hp : p.1 = x
    · by_cases hy : y = x
      · simp [hp, hy]
      · have h2 : ¬ x = y := fun e => hy e.symm
        simp only [hp, if_true, h2, decide_false, hy, if_false] at ih ⊢
        exact ih
    · by_cases hy : y = x
      · subst hy
        simp only [hp, if_false, decide_false, if_true] at ih ⊢
        exact ih
      · by_cases h2 : p.1 = y
        · have h3 : ¬ y = x := hy
          simp only [if_false, h2, decide_true, h3]
        · simp only [hp, if_false, h2, decide_false, hy] at ih ⊢
          exact ih
theorem getL_put (l : List (K × Value)) (x y : K) (v : Value) : getL (putL l x v) y = if y = x then some v else getL l y := by
  unfold putL
  cases h : getL l x with
  | none =>
    simp only [Option.isSome_none, Bool.false_eq_true, if_false]
    rw [getL_append]
    by_cases hy : y = x
    · subst hy
      rw [h, if_pos rfl]
      simp [getL]
    · rw [if_neg hy]
      have : getL [(x, v)] y = none := by
        rw [getL_none]
        intro p hp e
        simp at hp
        subst hp
        exact hy e.symm
      rw [this, Option.or_none]
  | some u =>
    simp only [Option.isSome_some, if_true]
    rw [getL_map, h]
    rfl
theorem putL_new {l : List (K × Value)} {x : K} (h : getL l x = none) (v : Value) : putL l x v = l ++ [(x, v)] := by simp [putL, h]
theorem putL_len (l : List (K × Value)) (x : K) (v : Value) : (putL l x v).length = l.length + (if (getL l x).isSome then 0 else 1) := by
  unfold putL
  split <;> simp

variable {H : Type}
theorem putL_keys {l : List (K × Value)} {x : K} {v : Value} {p : K × Value} (h : p ∈ putL l x v) : p.1 = x ∨ p ∈ l := by
  unfold putL at h
  split at h
  · obtain ⟨q, hq, rfl⟩ := List.mem_map.1 h
    by_cases e : q.1 = x
    · simp [e]
    · simp only [e, if_false]
      exact .inr hq
  · rcases List.mem_append.1 h with h | h
    · exact .inr h
    · simp at h
      exact .inl (by rw [h])

/-- BLOCK b OF w IS A MAP WITH THESE PAIRS. -/
structure MapL (B : KeyBy P k K) (w : World) (b : Nat) (l : List (K × Value)) : Prop where
  own : ∃ D, w.ownsMap P k hv b l.length D ∧ Maps.size D = l.length ∧ (∀ x, B.ok x → Maps.has D (B.lit x) = (getL l x).isSome) ∧ (∀ x, B.ok x → ∀ v, getL l x = some v → ∀ z, D.atKey (B.lit x) z = .held v) ∧ (∀ q, Maps.has D q = true → ∃ p ∈ l, q = B.lit p.1)
  okk : ∀ p ∈ l, B.ok p.1

theorem has_key {D : DataW H} {es : List (Lit × DataW H)} (e : D = .map es) {q : Lit} (h : Maps.has D q = true) : ∃ p ∈ es, p.1.sameKey q = true := by
  subst e
  exact List.any_eq_true.1 h
theorem atKey_not {D : DataW H} {q : Lit} (h : Maps.has D q = false) (z : DataW H) : D.atKey q z = z := by
  cases D <;> try rfl
  rename_i es
  have h2 : ∀ p ∈ es, p.1.sameKey q = false := by
    have := h
    rw [Maps.has_eq, List.any_eq_false] at this
    intro p hp
    simpa using this p hp
  show (match es.find? (fun p => p.1.sameKey q) with | some p => p.2 | none => z) = z
  rw [List.find?_eq_none.2 (fun p hp => by rw [h2 p hp]; decide)]

theorem mapL_made (B : KeyBy P k K) (w : World) : MapL B (w.alloc (.map #[] 0)) w.heap.size [] :=
  ⟨⟨.map [], World.ownsMap_made w P k hv, rfl, fun _ _ => rfl, fun _ _ v h => (by cases h), fun q h => (by cases h)⟩, fun _ h => (by cases h)⟩
theorem MapL.lt {B : KeyBy P k K} {w : World} {b : Nat} {l : List (K × Value)} (h : MapL B w b l) : b < w.heap.size := by
  obtain ⟨⟨D, h, _⟩, _⟩ := h
  exact h.lt
theorem MapL.kept {B : KeyBy P k K} {w w' : World} {row : Option Nat} {b : Nat} {l : List (K × Value)} (h : MapL B w b l) (hg : w.grownBy w' row) (hne : some b ≠ row) : MapL B w' b l := by
  obtain ⟨⟨D, h1, h2⟩, h3⟩ := h
  exact ⟨⟨D, h1.kept hg hne, h2⟩, h3⟩
theorem MapL.same {B : KeyBy P k K} {w w' : World} {b : Nat} {l : List (K × Value)} (h : MapL B w b l) (e : w'.heap[b]? = w.heap[b]?) : MapL B w' b l := by
  obtain ⟨⟨D, ⟨es, clock, h0, h1⟩, h2⟩, h3⟩ := h
  exact ⟨⟨D, ⟨es, clock, e.trans h0, h1⟩, h2⟩, h3⟩
theorem MapL.alloc {B : KeyBy P k K} {w : World} {b : Nat} {l : List (K × Value)} (h : MapL B w b l) (o : Obj) : MapL B (w.alloc o) b l := h.kept (World.grownBy_alloc w o none) (by simp)
theorem MapL.setCell {B : KeyBy P k K} {w : World} {b : Nat} {l : List (K × Value)} (h : MapL B w b l) {a : Addr} (ha : b ≠ a.block) (u : Value) : MapL B (w.setCell a u) b l := by
  obtain ⟨⟨D, h1, h2⟩, h3⟩ := h
  exact ⟨⟨D, h1.setCell ha u, h2⟩, h3⟩
theorem MapL.drew {B : KeyBy P k K} {w : World} {b : Nat} {l : List (K × Value)} (h : MapL B w b l) : MapL B w.drew b l := by
  obtain ⟨⟨D, h1, h2⟩, h3⟩ := h
  exact ⟨⟨D, h1, h2⟩, h3⟩

theorem MapL.look {B : KeyBy P k K} {w : World} {b : Nat} {l : List (K × Value)} (h : MapL B w b l) {t e : TypeId} (ht : P.underlying t = some (.map k e)) {z : Value} (hz : ∀ w : World, (zeroValue e).run P w = .ok z w) {x : K} (hx : B.ok x) :
    (Instr.lookup t (.map (some b)) (B.val x) false).run P w = .ok ((getL l x).getD z) w := by
  obtain ⟨⟨D, h1, _, h3, h4, _⟩, _⟩ := h
  obtain ⟨v, ps, hrun, hR⟩ := h1.lookup B.keyed ht (hz w) (zd := .held z) (zp := []) rfl (B.key x hx)
  have e : (getL l x).getD z = v := by
    have h5 : (DataW.held v : DataW Value) = D.atKey (B.lit x) (.held z) := by simpa [hv] using congrArg (Option.map Prod.fst) hR
    cases hg : getL l x with
    | none =>
      have h6 := h3 x hx
      rw [hg] at h6
      rw [atKey_not h6] at h5
      simp at h5
      exact h5.symm
    | some u =>
      rw [h4 x hx u hg] at h5
      simp at h5
      exact h5.symm
  rw [e]
  exact hrun
theorem MapL.look_ok {B : KeyBy P k K} {w : World} {b : Nat} {l : List (K × Value)} (h : MapL B w b l) {t e : TypeId} (ht : P.underlying t = some (.map k e)) {z : Value} (hz : ∀ w : World, (zeroValue e).run P w = .ok z w) {x : K} (hx : B.ok x) :
    (Instr.lookup t (.map (some b)) (B.val x) true).run P w = .ok (.tuple #[(getL l x).getD z, .bool (getL l x).isSome]) w := by
  obtain ⟨⟨D, h1, _, h3, h4, _⟩, _⟩ := h
  obtain ⟨v, ps, hrun, hR⟩ := h1.look_ok B.keyed ht (hz w) (zd := .held z) (zp := []) rfl (B.key x hx)
  rw [h3 x hx] at hrun
  have e : (getL l x).getD z = v := by
    have h5 : (DataW.held v : DataW Value) = D.atKey (B.lit x) (.held z) := by simpa [hv] using congrArg (Option.map Prod.fst) hR
    cases hg : getL l x with
    | none =>
      have h6 := h3 x hx
      rw [hg] at h6
      rw [atKey_not h6] at h5
      simp at h5
      exact h5.symm
    | some u =>
      rw [h4 x hx u hg] at h5
      simp at h5
      exact h5.symm
  rw [e]
  exact hrun
theorem MapL.len {B : KeyBy P k K} {w : World} {b : Nat} {l : List (K × Value)} (h : MapL B w b l) {t e : TypeId} (ht : P.underlying t = some (.map k e)) (ty : TypeId) : (Builtin.len_ #[t] ty #[.map (some b)]).run P w = .ok (.int .i64 l.length) w := by
  obtain ⟨⟨D, h1, h2, _⟩, _⟩ := h
  rw [← h2]
  exact h1.len ht ty

omit [DecidableEq K] in
theorem lit_key {B : KeyBy P k K} {x : K} (hx : B.ok x) : WideAt.IsKeyLit (B.lit x) := B.keyed.key (B.key x hx)
theorem sizes_put {D : DataW H} (hD : Tidy D) (q : Lit) (d : DataW H) : Maps.size (D.put q d) = Maps.size D + (if Maps.has D q then 0 else 1) := by
  obtain ⟨es, rfl, hp⟩ := hD
  show (DataW.insert (q, d) (es.filter fun p => !p.1.sameKey q)).length = es.length + (if es.any (fun p => p.1.sameKey q) then 0 else 1)
  rw [length_insert]
  have key : ∀ es : List (Lit × DataW H), es.Pairwise (fun p q => p.1 ≠ q.1) → (es.filter fun p => !p.1.sameKey q).length + 1 = es.length + (if es.any (fun p => p.1.sameKey q) then 0 else 1) := by
    intro es hp
    induction es with
    | nil => rfl
    | cons p es ih =>
      obtain ⟨h1, h2⟩ := List.pairwise_cons.1 hp
      have ih := ih h2
      by_cases hk : p.1.sameKey q = true
      · have hpq : p.1 = q := WideAt.sameKey_eq hk
        have hno : es.any (fun p => p.1.sameKey q) = false := by
          rw [List.any_eq_false]
          intro r hr
          have := sameKey_ne (a := r.1) (b := q) (fun e => h1 r hr (by rw [hpq, e]))
          simp [this]
        rw [hno] at ih
        simp only [List.filter_cons, hk, List.any_cons, Bool.true_or, if_true, Bool.not_true, Bool.false_eq_true, if_false, List.length_cons] at ih ⊢
        omega
      · have hk2 : p.1.sameKey q = false := by simpa using hk
        simp only [List.filter_cons, hk2, List.any_cons, Bool.false_or, Bool.not_false, if_true, List.length_cons] at ih ⊢
        omega
  exact key es hp

theorem MapL.store {B : KeyBy P k K} {w : World} {b : Nat} {l : List (K × Value)} (h : MapL B w b l) {t e : TypeId} (ht : P.underlying t = some (.map k e)) (hn : l.length < maxLen) {x : K} (hx : B.ok x) (v : Value) :
    ∃ w', (Instr.mapUpdate t (.map (some b)) (B.val x) v).run P w = .ok () w' ∧ MapL B w' b (putL l x v) ∧ w.mapTurned w' b := by
  obtain ⟨⟨D, h1, h2, h3, h4, h5⟩, h6⟩ := h
  obtain ⟨w', hrun, ho, ht'⟩ := h1.store B.keyed ht hn (d := .held v) (ps := []) (B.key x hx) rfl
  have hT := h1.tidy B.keyed
  have hsz : Maps.size (D.put (B.lit x) (.held v)) = (putL l x v).length := by
    rw [sizes_put hT, putL_len, h3 x hx, h2]
  refine ⟨w', hrun, ⟨⟨_, ?_, hsz, ?_, ?_, ?_⟩, ?_⟩, ht'⟩
  · obtain ⟨es, clock, e1, e2, e3, e4⟩ := ho
    refine ⟨es, clock, e1, e2, ?_, e4⟩
    rw [← hsz, e4]
    simp [Maps.size, length_sorted]
  · intro y hy
    rw [getL_put]
    by_cases e : y = x
    · subst e
      rw [if_pos rfl, has_put_same hT.isMap (lit_key hx)]
      rfl
    · rw [if_neg e, has_put_other (fun e2 => e (B.inj y x hy hx e2)), h3 y hy]
  · intro y hy u hu z
    rw [getL_put] at hu
    by_cases e : y = x
    · subst e
      rw [if_pos rfl] at hu
      cases hu
      exact atKey_put_same hT.isMap (lit_key hx) _ _
    · rw [if_neg e] at hu
      rw [atKey_put_other (fun e2 => e (B.inj y x hy hx e2))]
      exact h4 y hy u hu z
  · intro q hq
    by_cases e : q = B.lit x
    · subst e
      have : (getL (putL l x v) x).isSome = true := by rw [getL_put, if_pos rfl]; rfl
      obtain ⟨p, hp, e⟩ := getL_isSome.1 this
      exact ⟨p, hp, by rw [e]⟩
    · rw [has_put_other e] at hq
      obtain ⟨p, hp, rfl⟩ := h5 q hq
      have : (getL (putL l x v) p.1).isSome = true := by
        rw [getL_put]
        split
        · rfl
        · exact getL_isSome.2 ⟨p, hp, rfl⟩
      obtain ⟨p', hp', e'⟩ := getL_isSome.1 this
      exact ⟨p', hp', by rw [e']⟩
  · intro p hp
    rcases putL_keys hp with e | e
    · rw [e]; exact hx
    · exact h6 p e
end

/-- Keys that are strings. -/
def strKeys (P : Program) (k : TypeId) (hk : P.underlying k = some .string) : KeyBy P k ByteArray where
  val := .string
  lit := fun s => .string s.data.toList
  ok := fun s => s.size ≤ maxLen
  keyed := string_keyed hk
  key := fun _ h => WideMaps.keyOf_string_mk hk h
  inj := fun x y _ _ e => by
    simp only [Lit.string.injEq] at e
    cases x; cases y
    simp at e
    rw [e]
end Go.Proofs.PlMap

/-! The network of a map as plain data (layer 16). No program in sight. -/
namespace Go.Proofs.PlNet
open Go Go.Proofs.PlLex

theorem toList_inj {a b : ByteArray} : a.toList = b.toList ↔ a = b := by
  rw [ByteArray.toList_eq, ByteArray.toList_eq]
  constructor
  · intro h
    cases a; cases b
    simp at h
    rw [h]
  · rintro rfl; rfl
theorem hasS_cons (s x : ByteArray) (l : List ByteArray) : hasS s (x :: l) = (x.toList == s.toList || hasS s l) := rfl
theorem hasS_mem (s : ByteArray) (l : List ByteArray) : hasS s l = true ↔ s ∈ l := by
  induction l with
  | nil => simp [hasS]
  | cons x l ih =>
    rw [hasS_cons, Bool.or_eq_true, ih, beq_iff_eq, List.mem_cons, toList_inj]
    constructor
    · rintro (h | h)
      · exact .inl h.symm
      · exact .inr h
    · rintro (h | h)
      · exact .inl h.symm
      · exact .inr h
/-! The sound objects of a valid map. -/
def nodesO (l : List Ob) : List Ob := l.filter (fun o => decide (o.kind = 1))
def findO (l : List Ob) (s : ByteArray) : Option Ob := l.find? (fun o => decide (o.id = s))
def isNode (l : List Ob) (s : ByteArray) : Bool := (findO (nodesO l) s).isSome
def wayB (l : List Ob) (o : Ob) : Bool := decide (o.kind = 2) && o.refs.all (isNode l)
def waysO (l : List Ob) : List Ob := l.filter (wayB l)
def wayAt (l : List Ob) (s : ByteArray) : Option (List ByteArray) := (findO (waysO l) s).map Ob.refs
def nodeAt (l : List Ob) (s : ByteArray) : Int × Int := ((findO (nodesO l) s).map (fun o => (o.x, o.y))).getD (0, 0)

/-! The order of strings. -/
theorem less_irrefl (a : List UInt8) : Go.Op.bytesLess a a = false := by
  induction a with
  | nil => rfl
  | cons c a ih => simp [Go.Op.bytesLess, ih]
theorem less_trans {a b c : List UInt8} (h1 : Go.Op.bytesLess a b = true) (h2 : Go.Op.bytesLess b c = true) : Go.Op.bytesLess a c = true := by
  induction a generalizing b c with
  | nil => cases c with
    | nil => cases b <;> simp [Go.Op.bytesLess] at h2
    | cons z c => rfl
  | cons x a ih => cases b with
    | nil => simp [Go.Op.bytesLess] at h1
    | cons y b => cases c with
      | nil => simp [Go.Op.bytesLess] at h2
      | cons z c =>
        simp only [Go.Op.bytesLess, Bool.or_eq_true, decide_eq_true_eq, Bool.and_eq_true, beq_iff_eq] at h1 h2 ⊢
        rcases h1 with h1 | ⟨rfl, h1⟩
        · rcases h2 with h2 | ⟨rfl, h2⟩
          · exact .inl (UInt8.lt_trans h1 h2)
          · exact .inl h1
        · rcases h2 with h2 | ⟨rfl, h2⟩
          · exact .inl h2
          · exact .inr ⟨rfl, ih h1 h2⟩
theorem less_tri {a b : List UInt8} (h1 : Go.Op.bytesLess a b = false) (h2 : a ≠ b) : Go.Op.bytesLess b a = true := by
  induction a generalizing b with
  | nil => cases b with
    | nil => exact (h2 rfl).elim
    | cons y b => simp [Go.Op.bytesLess] at h1
  | cons x a ih => cases b with
    | nil => rfl
    | cons y b =>
      simp only [Go.Op.bytesLess, Bool.or_eq_false_iff, decide_eq_false_iff_not, Bool.and_eq_false_iff, beq_eq_false_iff_ne] at h1
      simp only [Go.Op.bytesLess, Bool.or_eq_true, decide_eq_true_eq, Bool.and_eq_true, beq_iff_eq]
      by_cases e : x = y
      · subst e
        right
        refine ⟨rfl, ih ?_ (fun e => h2 (by rw [e]))⟩
        rcases h1.2 with h | h
        · exact (h rfl).elim
        · exact h
      · left
        rcases UInt8.lt_or_le y x with h | h
        · exact h
        · rcases UInt8.lt_or_eq_of_le h with h | h
          · exact (h1.1 h).elim
          · exact (e h).elim
theorem less_asymm {a b : List UInt8} (h : Go.Op.bytesLess a b = true) : Go.Op.bytesLess b a = false ∧ a ≠ b := by
  refine ⟨?_, ?_⟩
  · cases e : Go.Op.bytesLess b a with
    | false => rfl
    | true => have := less_trans h e; rw [less_irrefl] at this; cases this
  · rintro rfl
    rw [less_irrefl] at h; cases h

/-! Ids increase. -/
def lessO (a b : Ob) : Prop := Go.Op.bytesLess a.id.toList b.id.toList = true
theorem mapL_incr (l : List Ob) (last : ByteArray) (h : mapL last l = true) : l.Pairwise lessO ∧ (∀ o ∈ l, Go.Op.bytesLess last.toList o.id.toList = true) ∧ ∀ o ∈ l, obB o = true := by
  induction l generalizing last with
  | nil => exact ⟨.nil, (fun t ht => nomatch ht), fun t ht => nomatch ht⟩
  | cons o l ih =>
    simp only [mapL, Bool.and_eq_true, Bool.not_eq_true'] at h
    obtain ⟨⟨⟨h0, h1⟩, h2⟩, h3⟩ := h
    obtain ⟨i1, i2, i3⟩ := ih o.id h3
    have hl : Go.Op.bytesLess last.toList o.id.toList = true := less_tri h1 (by intro e; rw [e] at h2; simp at h2)
    refine ⟨List.pairwise_cons.2 ⟨fun x hx => i2 x hx, i1⟩, fun x hx => ?_, fun x hx => ?_⟩
    · rcases List.mem_cons.1 hx with e | e
      · rw [e]; exact hl
      · exact less_trans hl (i2 x e)
    · rcases List.mem_cons.1 hx with e | e
      · rw [e]; exact h0
      · exact i3 x e
theorem mapL_of (l : List Ob) (last : ByteArray) (h1 : l.Pairwise lessO) (h2 : ∀ o ∈ l, Go.Op.bytesLess last.toList o.id.toList = true) (h3 : ∀ o ∈ l, obB o = true) : mapL last l = true := by
  induction l generalizing last with
  | nil => rfl
  | cons o l ih =>
    obtain ⟨p1, p2⟩ := List.pairwise_cons.1 h1
    have hl := less_asymm (h2 o (List.mem_cons_self ..))
    simp only [mapL, Bool.and_eq_true, Bool.not_eq_true']
    refine ⟨⟨⟨h3 o (List.mem_cons_self ..), hl.1⟩, beq_eq_false_iff_ne.2 (fun e => hl.2 e.symm)⟩, ih o.id p2 (fun x hx => p1 x hx) (fun x hx => h3 x (List.mem_cons_of_mem _ hx))⟩
theorem less_ne {a b : Ob} (h : lessO a b) : a.id ≠ b.id := fun e => (less_asymm h).2 (by rw [e])
/-- Ids that are all different. -/
def uniq (l : List Ob) : Prop := l.Pairwise (fun a b => a.id ≠ b.id)
theorem mapB_uniq {l : List Ob} (h : mapB l = true) : uniq l := by
  unfold mapB at h
  rw [Bool.and_eq_true] at h
  exact (mapL_incr l _ h.1).1.imp (fun h => less_ne h)
theorem uniq.eq {l : List Ob} (h : uniq l) {a b : Ob} (ha : a ∈ l) (hb : b ∈ l) (e : a.id = b.id) : a = b := by
  induction l with
  | nil => cases ha
  | cons o l ih =>
    obtain ⟨p1, p2⟩ := List.pairwise_cons.1 h
    rcases List.mem_cons.1 ha with ea | ea
    · rcases List.mem_cons.1 hb with eb | eb
      · rw [ea, eb]
      · exact (p1 b eb (by rw [← ea]; exact e)).elim
    · rcases List.mem_cons.1 hb with eb | eb
      · exact (p1 a ea (by rw [← eb]; exact e.symm)).elim
      · exact ih p2 ea eb
theorem uniq.filter {l : List Ob} (h : uniq l) (p : Ob → Bool) : uniq (l.filter p) := List.Pairwise.filter p h
theorem findO_mem {l : List Ob} (h : uniq l) {o : Ob} (ho : o ∈ l) : findO l o.id = some o := by
  cases e : findO l o.id with
  | none =>
    have := List.find?_eq_none.1 e o ho
    simp at this
  | some x =>
    have h1 := List.mem_of_find?_eq_some e
    have h2 := List.find?_some e
    rw [h.eq h1 ho (by simpa using h2)]
theorem findO_some {l : List Ob} {s : ByteArray} {o : Ob} (h : findO l s = some o) : o ∈ l ∧ o.id = s := ⟨List.mem_of_find?_eq_some h, by have := List.find?_some h; simpa using this⟩
theorem findO_none {l : List Ob} {s : ByteArray} (h : findO l s = none) : ∀ o ∈ l, o.id ≠ s := by
  intro o ho e
  have := List.find?_eq_none.1 h o ho
  simp [e] at this
end Go.Proofs.PlNet

/-! Routes and turns of a network as plain data: sound, connected, meeting (layer 16). No program in sight. -/
namespace Go.Proofs.PlNet
open Go Go.Proofs.PlLex

def soundL (l : List Ob) (k : Int) : Nat → List ByteArray → Bool
  | _, [] => true
  | i, s :: r => (if k = 5 ∧ i = 1 then isNode l s else (wayAt l s).isSome) && soundL l k (i + 1) r
def soundB (l : List Ob) (o : Ob) : Bool := soundL l o.kind 0 o.refs
def firstN (l : List Ob) (s : ByteArray) : ByteArray := ((wayAt l s).getD []).headD ⟨#[]⟩
def lastN (l : List Ob) (s : ByteArray) : ByteArray := ((wayAt l s).getD []).getLastD ⟨#[]⟩
def reachB (a b : ByteArray) (p q : Bool) (n : ByteArray) : Bool := p && a.toList == n.toList || q && b.toList == n.toList
def connM (l : List Ob) : ByteArray → ByteArray → Bool → Bool → List ByteArray → Bool
  | _, _, p, q, [] => p || q
  | a, b, p, q, s :: r => connM l (firstN l s) (lastN l s) (reachB a b p q (lastN l s)) (reachB a b p q (firstN l s)) r
def connB (l : List Ob) : List ByteArray → Bool
  | [] => true
  | s :: r => connM l (firstN l s) (lastN l s) true true r
def refAt (o : Ob) (i : Nat) : ByteArray := o.refs.getD i ⟨#[]⟩
def meetsB (l : List Ob) (o : Ob) : Bool := hasS (refAt o 1) ((wayAt l (refAt o 0)).getD []) && hasS (refAt o 1) ((wayAt l (refAt o 2)).getD [])
def badRoute (l : List Ob) (o : Ob) : Bool := decide (o.kind = 4) && soundB l o && !connB l o.refs
def badTurn (l : List Ob) (o : Ob) : Bool := decide (o.kind = 5) && soundB l o && !meetsB l o
/-- What Check finds: kinds and Ids. -/
def checkL (l : List Ob) : List (Int × ByteArray) := (l.filter (badRoute l)).map (fun o => (5, o.id)) ++ (l.filter (badTurn l)).map (fun o => (6, o.id))

theorem mapB_obs {l : List Ob} (h : mapB l = true) : ∀ o ∈ l, obB o = true := by
  unfold mapB at h
  rw [Bool.and_eq_true] at h
  exact (mapL_incr l _ h.1).2.2
theorem obB_least {o : Ob} (h : obB o = true) : leastK o.kind ≤ o.refs.length := by
  unfold obB headB at h
  simp only [Bool.and_eq_true, decide_eq_true_eq] at h
  exact h.1.1.1.2
theorem wayAt_some {l : List Ob} {s : ByteArray} {r : List ByteArray} (h : wayAt l s = some r) : ∃ o ∈ l, o.id = s ∧ o.kind = 2 ∧ o.refs = r ∧ ∀ x ∈ r, isNode l x = true := by
  unfold wayAt at h
  obtain ⟨o, ho, rfl⟩ := Option.map_eq_some_iff.1 h
  obtain ⟨h1, h2⟩ := findO_some ho
  unfold waysO wayB at h1
  rw [List.mem_filter, Bool.and_eq_true, decide_eq_true_eq, List.all_eq_true] at h1
  exact ⟨o, h1.1, h2, h1.2.1, rfl, h1.2.2⟩
end Go.Proofs.PlNet

/-! The plain laws of layer 3 (geom): points and segments as integers, what each function computes, and what the seven statements say of it. No program in sight. -/
namespace Go.Proofs.PlGeom

structure Pt where
  x : Int
  y : Int
deriving DecidableEq

structure Sg where
  a : Pt
  b : Pt
deriving DecidableEq

/-- A point is near. -/
def nearB (p : Pt) : Bool := decide (-2097152 ≤ p.x ∧ p.x ≤ 2097152 ∧ -2097152 ≤ p.y ∧ p.y ≤ 2097152)
def nearL : List Pt → Bool
  | [] => true
  | p :: l => nearB p && nearL l
theorem nearB_iff (p : Pt) : nearB p = true ↔ (-2097152 ≤ p.x ∧ p.x ≤ 2097152 ∧ -2097152 ≤ p.y ∧ p.y ≤ 2097152) := by simp [nearB]

def cmpI (a b : Int) : Int := if a < b then -1 else if b < a then 1 else 0
theorem cmpI_cases (a b : Int) : (a < b ∧ cmpI a b = -1) ∨ (b < a ∧ cmpI a b = 1) ∨ (a = b ∧ cmpI a b = 0) := by unfold cmpI; split <;> (try split) <;> omega
def cmpP (a b : Pt) : Int := if cmpI a.x b.x ≠ 0 then cmpI a.x b.x else cmpI a.y b.y
def firstL : List (Int × Int) → Int
  | [] => 0
  | p :: l => if cmpI p.1 p.2 ≠ 0 then cmpI p.1 p.2 else firstL l
theorem firstL_two (a b c d : Int) : firstL [(a, b), (c, d)] = cmpP ⟨a, c⟩ ⟨b, d⟩ := by
  simp only [firstL, cmpP]
  split
  · rfl
  · split
    · rfl
    · rename_i h; exact (Decidable.not_not.mp h).symm

def cross (a b c : Pt) : Int := (b.x - a.x) * (c.y - a.y) - (b.y - a.y) * (c.x - a.x)
def orient (a b c : Pt) : Int := if nearL [a, b, c] then cmpI (cross a b c) 0 else 0
theorem prod_bd (n a b : Int) (h1 : -n ≤ a) (h2 : a ≤ n) (h3 : -n ≤ b) (h4 : b ≤ n) : -(n * n) ≤ a * b ∧ a * b ≤ n * n := by
  have e1 : 0 ≤ (n - a) * (n + b) := Int.mul_nonneg (by omega) (by omega)
  have e2 : 0 ≤ (n + a) * (n - b) := Int.mul_nonneg (by omega) (by omega)
  have e3 : 0 ≤ (n - a) * (n - b) := Int.mul_nonneg (by omega) (by omega)
  have e4 : 0 ≤ (n + a) * (n + b) := Int.mul_nonneg (by omega) (by omega)
  constructor <;> grind
theorem prod_near (a b : Int) (h1 : -4194304 ≤ a) (h2 : a ≤ 4194304) (h3 : -4194304 ≤ b) (h4 : b ≤ 4194304) : -17592186044416 ≤ a * b ∧ a * b ≤ 17592186044416 :=
  prod_bd 4194304 a b h1 h2 h3 h4

def dist (a b : Pt) : Int := if nearL [a, b] then (b.x - a.x) * (b.x - a.x) + (b.y - a.y) * (b.y - a.y) else 0
def sortS (s : Sg) : Sg := if 0 < cmpP s.a s.b then ⟨s.b, s.a⟩ else s
def onS (s : Sg) (p : Pt) : Bool := nearL [s.a, s.b, p] && (orient (sortS s).a (sortS s).b p == 0 && cmpP (sortS s).a p ≤ 0 && cmpP p (sortS s).b ≤ 0 && (decide ((sortS s).a ≠ (sortS s).b) || decide (p = (sortS s).a)))

/-- How a point and a segment meet. -/
def onP (p : Pt) (s : Sg) : Int := if onS s p then (if p = s.a ∨ p = s.b then 1 else 2) else 0
def lowP (s t : Sg) : Pt := if 0 < cmpP t.a s.a then t.a else s.a
def highP (s t : Sg) : Pt := if cmpP t.b s.b < 0 then t.b else s.b
def overC (c : Int) : Int := if c = -1 then 5 else if c = 0 then 1 else 0
def online (s t : Sg) : Int := if t.a = t.b then onP t.a s else if s.a = s.b then onP s.a t else overC (cmpP (lowP s t) (highP s t))
def crossC (a b c d : Int) : Int := if 0 < a * b ∨ 0 < c * d then 0 else if a * b < 0 ∧ c * d < 0 then 3 else if a * b = 0 ∧ c * d = 0 then 1 else 2
def meetIn (s t : Sg) : Int :=
  if s = t then 4
  else if s.a = s.b ∨ t.a = t.b ∨ (orient s.a s.b t.a = 0 ∧ orient s.a s.b t.b = 0) then online s t
  else crossC (orient s.a s.b t.a) (orient s.a s.b t.b) (orient t.a t.b s.a) (orient t.a t.b s.b)
def meets (s t : Sg) : Int := if nearL [s.a, s.b, t.a, t.b] then meetIn (sortS s) (sortS t) else 0
theorem cmpP_cases (a b : Pt) : cmpP a b = -1 ∨ cmpP a b = 0 ∨ cmpP a b = 1 := by
  unfold cmpP
  have h1 := cmpI_cases a.x b.x
  have h2 := cmpI_cases a.y b.y
  split <;> omega
end Go.Proofs.PlGeom

/-! The plain law of GeomMeets: how two segments meet does not hang on their order or on the order of their ends. No program in sight. -/
namespace Go.Proofs.PlGeom

theorem cmpP_neg (a b : Pt) : cmpP b a = -cmpP a b := by
  obtain ⟨ax, ay⟩ := a
  obtain ⟨bx, bY⟩ := b
  unfold cmpP cmpI; simp only; (repeat' split) <;> omega
theorem cmpP_zero (a b : Pt) : cmpP a b = 0 ↔ a = b := by
  obtain ⟨ax, ay⟩ := a
  obtain ⟨bx, bY⟩ := b
  unfold cmpP cmpI; simp only [Pt.mk.injEq]; (repeat' split) <;> omega

def backS (s : Sg) : Sg := ⟨s.b, s.a⟩
theorem sortS_back (s : Sg) : sortS (backS s) = sortS s := by
  obtain ⟨a, b⟩ := s
  have h := cmpP_neg a b
  have h0 := cmpP_zero a b
  show (if 0 < cmpP b a then (⟨a, b⟩ : Sg) else ⟨b, a⟩) = if 0 < cmpP a b then (⟨b, a⟩ : Sg) else ⟨a, b⟩
  rw [h]
  by_cases h1 : 0 < cmpP a b
  · rw [if_neg (by omega), if_pos h1]
  · by_cases h2 : cmpP a b = 0
    · rw [if_neg (by omega), if_neg h1, h0.1 h2]
    · rw [if_pos (by omega), if_neg h1]
theorem sortS_le (s : Sg) : cmpP (sortS s).a (sortS s).b ≤ 0 := by
  obtain ⟨a, b⟩ := s
  simp only [sortS]
  have h := cmpP_neg a b
  split
  · show cmpP b a ≤ 0; omega
  · show cmpP a b ≤ 0; omega
theorem sortS_of_le (s : Sg) (h : cmpP s.a s.b ≤ 0) : sortS s = s := by
  unfold sortS; rw [if_neg (by omega)]
theorem nearL_swap4 (a b c d : Pt) : nearL [c, d, a, b] = nearL [a, b, c, d] := by
  rw [Bool.eq_iff_iff]; simp only [nearL, Bool.and_true, Bool.and_eq_true]
  constructor <;> (rintro ⟨h1, h2, h3, h4⟩; exact ⟨h3, h4, h1, h2⟩)
theorem nearL_back (a b c d : Pt) : nearL [b, a, c, d] = nearL [a, b, c, d] := by
  rw [Bool.eq_iff_iff]; simp only [nearL, Bool.and_true, Bool.and_eq_true]
  constructor <;> (rintro ⟨h1, h2, h3⟩; exact ⟨h2, h1, h3⟩)

theorem cmpI_zero (x : Int) : cmpI x 0 = 0 ↔ x = 0 := by
  unfold cmpI; split
  · constructor <;> intro h <;> omega
  · split <;> constructor <;> intro h <;> omega
theorem orient_zero (a b c : Pt) (h : nearL [a, b, c] = true) : orient a b c = 0 ↔ cross a b c = 0 := by
  unfold orient; rw [if_pos h]; exact cmpI_zero _

theorem line_swap (a b c d : Pt) (hab : a ≠ b) (h1 : cross a b c = 0) (h2 : cross a b d = 0) : cross c d a = 0 ∧ cross c d b = 0 := by
  obtain ⟨ax, ay⟩ := a
  obtain ⟨bx, bY⟩ := b
  obtain ⟨cx, cy⟩ := c
  obtain ⟨dx, dy⟩ := d
  simp only [cross] at *
  have hne : bx - ax ≠ 0 ∨ bY - ay ≠ 0 := by
    rcases Decidable.em (bx - ax = 0) with h | h
    · right; intro h'; apply hab; rw [Pt.mk.injEq]; omega
    · exact .inl h
  have e1 : (bx - ax) * ((dx - cx) * (ay - cy) - (dy - cy) * (ax - cx)) = 0 := by grind
  have e2 : (bY - ay) * ((dx - cx) * (ay - cy) - (dy - cy) * (ax - cx)) = 0 := by grind
  have e3 : (dx - cx) * (ay - cy) - (dy - cy) * (ax - cx) = 0 := by
    rcases hne with h | h
    · exact (Int.mul_eq_zero.1 e1).resolve_left h
    · exact (Int.mul_eq_zero.1 e2).resolve_left h
  refine ⟨e3, ?_⟩
  grind

theorem crossC_symm (a b c d : Int) : crossC a b c d = crossC c d a b := by
  unfold crossC
  generalize a * b = x
  generalize c * d = y
  (repeat' split) <;> omega

theorem lowP_symm (s t : Sg) : lowP s t = lowP t s := by
  unfold lowP
  have h := cmpP_neg t.a s.a
  have h0 := cmpP_zero t.a s.a
  rw [h]
  by_cases h1 : 0 < cmpP t.a s.a
  · rw [if_pos h1, if_neg (by omega)]
  · by_cases h2 : cmpP t.a s.a = 0
    · rw [if_neg h1, if_neg (by omega), h0.1 h2]
    · rw [if_neg h1, if_pos (by omega)]
theorem highP_symm (s t : Sg) : highP s t = highP t s := by
  unfold highP
  have h := cmpP_neg t.b s.b
  have h0 := cmpP_zero t.b s.b
  rw [h]
  by_cases h1 : cmpP t.b s.b < 0
  · rw [if_pos h1, if_neg (by omega)]
  · by_cases h2 : cmpP t.b s.b = 0
    · rw [if_neg h1, if_neg (by omega), h0.1 h2]
    · rw [if_neg h1, if_pos (by omega)]

theorem onS_point (p q : Pt) (h : p ≠ q) : onS ⟨p, p⟩ q = false := by
  have hs : sortS ⟨p, p⟩ = ⟨p, p⟩ := sortS_of_le _ (by rw [(cmpP_zero p p).2 rfl]; exact Int.le_refl _)
  unfold onS
  rw [hs]
  have : decide (q = p) = false := by simpa using fun e => h e.symm
  simp [this]

theorem online_symm (s t : Sg) (h : s ≠ t) : online s t = online t s := by
  unfold online
  by_cases h1 : t.a = t.b
  · by_cases h2 : s.a = s.b
    · rw [if_pos h1, if_pos h2]
      obtain ⟨sa, sb⟩ := s
      obtain ⟨ta, tb⟩ := t
      simp only at h1 h2
      subst h1 h2
      have hne : sa ≠ ta := fun e => h (by rw [e])
      simp only [onP, onS_point sa ta hne, onS_point ta sa (fun e => hne e.symm), Bool.false_eq_true, if_false]
    · rw [if_pos h1, if_neg h2, if_pos h1]
  · by_cases h2 : s.a = s.b
    · rw [if_neg h1, if_pos h2, if_pos h2]
    · rw [if_neg h1, if_neg h2, if_neg h2, if_neg h1, lowP_symm, highP_symm]

theorem meetIn_symm (s t : Sg) (hn : nearL [s.a, s.b, t.a, t.b] = true) : meetIn s t = meetIn t s := by
  by_cases h0 : s = t
  · rw [h0]
  have e1 : meetIn s t = if s.a = s.b ∨ t.a = t.b ∨ (orient s.a s.b t.a = 0 ∧ orient s.a s.b t.b = 0) then online s t else crossC (orient s.a s.b t.a) (orient s.a s.b t.b) (orient t.a t.b s.a) (orient t.a t.b s.b) := by
    unfold meetIn; rw [if_neg h0]
  have e2 : meetIn t s = if t.a = t.b ∨ s.a = s.b ∨ (orient t.a t.b s.a = 0 ∧ orient t.a t.b s.b = 0) then online t s else crossC (orient t.a t.b s.a) (orient t.a t.b s.b) (orient s.a s.b t.a) (orient s.a s.b t.b) := by
    unfold meetIn; rw [if_neg (fun e => h0 e.symm)]
  rw [e1, e2]
  clear e1 e2
  simp only [nearL, Bool.and_true, Bool.and_eq_true] at hn
  obtain ⟨n1, n2, n3, n4⟩ := hn
  have z1 := orient_zero s.a s.b t.a (by simp [nearL, n1, n2, n3])
  have z2 := orient_zero s.a s.b t.b (by simp [nearL, n1, n2, n4])
  have z3 := orient_zero t.a t.b s.a (by simp [nearL, n3, n4, n1])
  have z4 := orient_zero t.a t.b s.b (by simp [nearL, n3, n4, n2])
  by_cases h1 : s.a = s.b
  · rw [if_pos (.inl h1), if_pos (.inr (.inl h1)), online_symm s t h0]
  by_cases h2 : t.a = t.b
  · rw [if_pos (.inr (.inl h2)), if_pos (.inl h2), online_symm s t h0]
  by_cases h3 : orient s.a s.b t.a = 0 ∧ orient s.a s.b t.b = 0
  · have := line_swap s.a s.b t.a t.b h1 (z1.1 h3.1) (z2.1 h3.2)
    rw [if_pos (.inr (.inr h3)), if_pos (.inr (.inr ⟨z3.2 this.1, z4.2 this.2⟩)), online_symm s t h0]
  · have h4 : ¬ (orient t.a t.b s.a = 0 ∧ orient t.a t.b s.b = 0) := fun h => by
      have := line_swap t.a t.b s.a s.b h2 (z3.1 h.1) (z4.1 h.2)
      exact h3 ⟨z1.2 this.1, z2.2 this.2⟩
    rw [if_neg (by simp only [h1, h2, false_or]; exact h3), if_neg (by simp only [h1, h2, false_or]; exact h4), crossC_symm]

theorem near_sortS (s : Sg) (c d : Pt) : nearL [(sortS s).a, (sortS s).b, c, d] = nearL [s.a, s.b, c, d] := by
  unfold sortS
  split
  · exact nearL_back s.a s.b c d
  · rfl

theorem meets_symm (s t : Sg) : meets s t = meets t s := by
  unfold meets
  rw [nearL_swap4 s.a s.b t.a t.b]
  split
  · rename_i h
    refine meetIn_symm _ _ ?_
    rw [near_sortS, ← nearL_swap4, near_sortS, nearL_swap4]
    exact h
  · rfl
theorem meets_back (s t : Sg) : meets (backS s) t = meets s t := by
  unfold meets
  rw [sortS_back]
  show (if nearL [s.b, s.a, t.a, t.b] = true then _ else _) = _
  rw [nearL_back]
theorem meets_back2 (s t : Sg) : meets s (backS t) = meets s t := by
  rw [meets_symm, meets_back, meets_symm]
theorem meets_self (s : Sg) (h : nearL [s.a, s.b, s.a, s.b] = true) : meets s s = 4 := by
  unfold meets meetIn
  rw [if_pos h, if_pos rfl]
theorem meets_far (s t : Sg) (h : nearL [s.a, s.b, t.a, t.b] = false) : meets s t = 0 := by
  unfold meets; rw [h]; rfl

theorem cross_ends (a b : Pt) : cross a b a = 0 ∧ cross a b b = 0 := by
  simp only [cross]
  constructor <;> grind
theorem meets_end (s : Sg) (h : nearL [s.a, s.b, s.a, s.b] = true) (hne : s.a ≠ s.b) : meets s ⟨s.a, s.a⟩ = 1 := by
  have hp : sortS ⟨s.a, s.a⟩ = ⟨s.a, s.a⟩ := sortS_of_le _ (by rw [(cmpP_zero s.a s.a).2 rfl]; exact Int.le_refl _)
  simp only [nearL, Bool.and_true, Bool.and_eq_true] at h
  obtain ⟨n1, n2, _, _⟩ := h
  unfold meets
  rw [if_pos (by simp [nearL, n1, n2]), hp]
  have hle := sortS_le s
  have hcase : (sortS s = s) ∨ (sortS s = ⟨s.b, s.a⟩) := by unfold sortS; split <;> simp
  have hin : s.a = (sortS s).a ∨ s.a = (sortS s).b := by rcases hcase with e | e <;> rw [e] <;> simp
  have hne2 : (sortS s).a ≠ (sortS s).b := by rcases hcase with e | e <;> rw [e]; exact hne; exact fun e => hne e.symm
  have hn2 : nearB (sortS s).a = true ∧ nearB (sortS s).b = true := by rcases hcase with e | e <;> rw [e] <;> exact ⟨by assumption, by assumption⟩
  generalize sortS s = S at *
  generalize s.a = p at *
  have hs := sortS_of_le S hle
  have c1 := (cmpP_zero S.a S.a).2 rfl
  have c2 := (cmpP_zero S.b S.b).2 rfl
  have hon : onS S p = true := by
    unfold onS
    rw [hs]
    have ho : orient S.a S.b p = 0 := by
      rw [orient_zero _ _ _ (by simp [nearL, hn2.1, hn2.2, n1])]
      rcases hin with e | e <;> rw [e]
      · exact (cross_ends _ _).1
      · exact (cross_ends _ _).2
    have h1 : cmpP S.a p ≤ 0 := by rcases hin with e | e <;> rw [e] <;> omega
    have h2 : cmpP p S.b ≤ 0 := by rcases hin with e | e <;> rw [e] <;> omega
    simp [nearL, hn2.1, hn2.2, n1, ho, h1, h2, hne2]
  unfold meetIn
  rw [if_neg (fun e => hne2 (by rw [e])), if_pos (.inr (.inl rfl))]
  unfold online
  rw [if_pos rfl, onP, if_pos hon, if_pos hin]

theorem meets_range (s t : Sg) : 0 ≤ meets s t ∧ meets s t ≤ 5 := by
  unfold meets meetIn online onP overC crossC
  (repeat' split) <;> omega
end Go.Proofs.PlGeom

/-! Two segments that meet have boxes that meet; two that meet in an end have an end in common. No program in sight. -/
namespace Go.Proofs.PlTop
open Go.Proofs.PlGeom

theorem sub_sign {a b : Int} (h : ¬ (0 < a * b)) (hd : 0 < b - a) : a ≤ 0 ∧ 0 ≤ b := by
  constructor
  · rcases Int.lt_or_le 0 a with h1 | h1
    · exact absurd (Int.mul_pos h1 (by omega)) h
    · exact h1
  · rcases Int.lt_or_le b 0 with h1 | h1
    · have := Int.mul_pos_of_neg_of_neg (show a < 0 by omega) h1
      exact absurd this h
    · exact h1
theorem mul_le' {a b c : Int} (h : a ≤ b) (hc : 0 ≤ c) : c * a ≤ c * b := Int.mul_le_mul_of_nonneg_left h hc
/-- What lies between in the order of points, and on the line, lies in the box. -/
theorem lex_x {a p : Pt} (h : cmpP a p ≤ 0) : a.x ≤ p.x := by
  unfold cmpP at h
  rcases cmpI_cases a.x p.x with ⟨h1, _⟩ | ⟨h1, h2⟩ | ⟨h1, _⟩
  · omega
  · rw [h2] at h
    simp at h
  · omega
theorem lex_y {a p : Pt} (h : cmpP a p ≤ 0) (hx : a.x = p.x) : a.y ≤ p.y := by
  unfold cmpP at h
  rcases cmpI_cases a.x p.x with ⟨h1, _⟩ | ⟨h1, h2⟩ | ⟨_, h2⟩
  · omega
  · omega
  · rw [h2] at h
    simp at h
    rcases cmpI_cases a.y p.y with ⟨h1, _⟩ | ⟨h1, h2⟩ | ⟨h1, _⟩
    · omega
    · rw [h2] at h; omega
    · omega
theorem mid_y {ax bx px ay bY py : Int} (hc : (bx - ax) * (py - ay) - (bY - ay) * (px - ax) = 0) (h1 : ax ≤ px) (h2 : px ≤ bx) (hlt : ax < bx) : min ay bY ≤ py ∧ py ≤ max ay bY := by
  have e1 : (bx - ax) * (py - ay) = (px - ax) * (bY - ay) := by grind
  have e2 : (bx - ax) * (bY - py) = (bx - px) * (bY - ay) := by grind
  rcases Int.lt_or_le (bY - ay) 0 with h | h
  · have s1 : (bx - ax) * (py - ay) ≤ 0 := by rw [e1]; exact Int.mul_nonpos_of_nonneg_of_nonpos (by omega) (by omega)
    have s2 : (bx - ax) * (bY - py) ≤ 0 := by rw [e2]; exact Int.mul_nonpos_of_nonneg_of_nonpos (by omega) (by omega)
    have t1 : py - ay ≤ 0 := by
      rcases Int.lt_or_le 0 (py - ay) with k | k
      · have := Int.mul_pos (show 0 < bx - ax by omega) k; omega
      · exact k
    have t2 : bY - py ≤ 0 := by
      rcases Int.lt_or_le 0 (bY - py) with k | k
      · have := Int.mul_pos (show 0 < bx - ax by omega) k; omega
      · exact k
    omega
  · have s1 : 0 ≤ (bx - ax) * (py - ay) := by rw [e1]; exact Int.mul_nonneg (by omega) (by omega)
    have s2 : 0 ≤ (bx - ax) * (bY - py) := by rw [e2]; exact Int.mul_nonneg (by omega) (by omega)
    have t1 : 0 ≤ py - ay := by
      rcases Int.lt_or_le (py - ay) 0 with k | k
      · have := Int.mul_neg_of_pos_of_neg (show 0 < bx - ax by omega) k; omega
      · exact k
    have t2 : 0 ≤ bY - py := by
      rcases Int.lt_or_le (bY - py) 0 with k | k
      · have := Int.mul_neg_of_pos_of_neg (show 0 < bx - ax by omega) k; omega
      · exact k
    omega
theorem lex_box {a b p : Pt} (hc : cross a b p = 0) (h1 : cmpP a p ≤ 0) (h2 : cmpP p b ≤ 0) : min a.x b.x ≤ p.x ∧ p.x ≤ max a.x b.x ∧ min a.y b.y ≤ p.y ∧ p.y ≤ max a.y b.y := by
  have x1 := lex_x h1
  have x2 := lex_x h2
  refine ⟨by omega, by omega, ?_⟩
  rcases Int.lt_or_le a.x b.x with h | h
  · exact mid_y (ax := a.x) (bx := b.x) (px := p.x) (ay := a.y) (bY := b.y) (py := p.y) hc x1 x2 h
  · have y1 := lex_y h1 (by omega)
    have y2 := lex_y h2 (by omega)
    omega
/-- A function of points by which two segments are apart. -/
def Apart (f : Pt → Int) (s t : Sg) : Prop := max (f s.a) (f s.b) < min (f t.a) (f t.b)
theorem apart_sort {f : Pt → Int} {s t : Sg} (h : Apart f s t) : Apart f (sortS s) (sortS t) := by
  unfold Apart at *
  unfold sortS
  split <;> split <;> (try dsimp only) <;> omega
theorem on_box {s : Sg} {p : Pt} (hs : cmpP s.a s.b ≤ 0) (h : onS s p = true) : min s.a.x s.b.x ≤ p.x ∧ p.x ≤ max s.a.x s.b.x ∧ min s.a.y s.b.y ≤ p.y ∧ p.y ≤ max s.a.y s.b.y := by
  unfold onS at h
  rw [sortS_of_le s hs] at h
  simp only [Bool.and_eq_true, decide_eq_true_eq, beq_iff_eq] at h
  obtain ⟨hn, ⟨⟨h1, h2⟩, h3⟩, _⟩ := h
  exact lex_box ((orient_zero _ _ _ hn).1 h1) h2 h3
theorem low_cases (s t : Sg) : (lowP s t = t.a ∧ cmpP s.a t.a ≤ 0) ∨ (lowP s t = s.a ∧ cmpP t.a s.a ≤ 0) := by
  unfold lowP
  split
  · rename_i h
    left
    have := cmpP_neg t.a s.a
    exact ⟨rfl, by omega⟩
  · right
    exact ⟨rfl, by omega⟩
theorem high_le (s t : Sg) : cmpP (highP s t) s.b ≤ 0 ∧ cmpP (highP s t) t.b ≤ 0 := by
  unfold highP
  split
  · rename_i h
    exact ⟨by omega, by rw [(cmpP_zero _ _).2 rfl]; omega⟩
  · have := cmpP_neg t.b s.b
    exact ⟨by rw [(cmpP_zero _ _).2 rfl]; omega, by omega⟩
theorem cmpP_trans {a b c : Pt} (h1 : cmpP a b ≤ 0) (h2 : cmpP b c ≤ 0) : cmpP a c ≤ 0 := by
  have x1 := lex_x h1
  have x2 := lex_x h2
  unfold cmpP
  rcases cmpI_cases a.x c.x with ⟨h, e⟩ | ⟨h, e⟩ | ⟨h, e⟩
  · rw [e]; simp
  · omega
  · have y1 := lex_y h1 (by omega)
    have y2 := lex_y h2 (by omega)
    rw [e]
    simp
    rcases cmpI_cases a.y c.y with ⟨h, e⟩ | ⟨h, e⟩ | ⟨h, e⟩ <;> omega
/-- Two segments that one of x and y parts do not meet. -/
theorem apart_zero (f : Pt → Int) (hf : f = Pt.x ∨ f = Pt.y) {s t : Sg} (hs : cmpP s.a s.b ≤ 0) (ht : cmpP t.a t.b ≤ 0) (hn : nearL [s.a, s.b, t.a, t.b] = true) (h : Apart f s t) : meetIn s t = 0 := by
  unfold Apart at h
  have n1 : nearL [s.a, s.b, t.a] = true := by simp only [nearL, Bool.and_eq_true] at hn ⊢; exact ⟨hn.1, hn.2.1, hn.2.2.1, trivial⟩
  have n2 : nearL [s.a, s.b, t.b] = true := by simp only [nearL, Bool.and_eq_true] at hn ⊢; exact ⟨hn.1, hn.2.1, hn.2.2.2.1, trivial⟩
  have n3 : nearL [t.a, t.b, s.a] = true := by simp only [nearL, Bool.and_eq_true] at hn ⊢; exact ⟨hn.2.2.1, hn.2.2.2.1, hn.1, trivial⟩
  have n4 : nearL [t.a, t.b, s.b] = true := by simp only [nearL, Bool.and_eq_true] at hn ⊢; exact ⟨hn.2.2.1, hn.2.2.2.1, hn.2.1, trivial⟩
  have box : ∀ {r : Sg} {p : Pt}, (min r.a.x r.b.x ≤ p.x ∧ p.x ≤ max r.a.x r.b.x ∧ min r.a.y r.b.y ≤ p.y ∧ p.y ≤ max r.a.y r.b.y) → min (f r.a) (f r.b) ≤ f p ∧ f p ≤ max (f r.a) (f r.b) := by
    intro r p hb
    rcases hf with rfl | rfl
    · exact ⟨hb.1, hb.2.1⟩
    · exact ⟨hb.2.2.1, hb.2.2.2⟩
  unfold meetIn
  rw [if_neg (fun e => by rw [e] at h; omega)]
  split
  · rename_i hcol
    unfold online
    split
    · rename_i he
      unfold onP
      split
      · rename_i ho
        have := box (on_box hs ho)
        omega
      · rfl
    · rename_i hta
      split
      · rename_i he
        unfold onP
        split
        · rename_i ho
          have := box (on_box ht ho)
          omega
        · rfl
      · rename_i hsa
        have hz : orient s.a s.b t.a = 0 ∧ orient s.a s.b t.b = 0 := by
          rcases hcol with h1 | h1 | h1
          · exact absurd h1 hsa
          · exact absurd h1 hta
          · exact h1
        have c1 := (orient_zero _ _ _ n1).1 hz.1
        have c2 := (orient_zero _ _ _ n2).1 hz.2
        obtain ⟨c3, c4⟩ := line_swap _ _ _ _ hsa c1 c2
        have key : ¬ cmpP (lowP s t) (highP s t) ≤ 0 := by
          intro hle
          obtain ⟨h5, h6⟩ := high_le s t
          rcases low_cases s t with ⟨e, h7⟩ | ⟨e, h7⟩
          · rw [e] at hle
            have := box (lex_box c1 h7 (cmpP_trans hle h5))
            omega
          · rw [e] at hle
            have := box (lex_box c3 h7 (cmpP_trans hle h6))
            omega
        have : cmpP (lowP s t) (highP s t) = 1 := by
          rcases cmpP_cases (lowP s t) (highP s t) with e | e | e <;> omega
        rw [this]
        rfl
  · rename_i hcol
    obtain ⟨A, hA⟩ : ∃ A, cross s.a s.b t.a = A := ⟨_, rfl⟩
    obtain ⟨B, hB⟩ : ∃ B, cross s.a s.b t.b = B := ⟨_, rfl⟩
    obtain ⟨C, hC⟩ : ∃ C, cross t.a t.b s.a = C := ⟨_, rfl⟩
    obtain ⟨D, hD⟩ : ∃ D, cross t.a t.b s.b = D := ⟨_, rfl⟩
    have oA : orient s.a s.b t.a = cmpI A 0 := by unfold orient; rw [if_pos n1, hA]
    have oB : orient s.a s.b t.b = cmpI B 0 := by unfold orient; rw [if_pos n2, hB]
    have oC : orient t.a t.b s.a = cmpI C 0 := by unfold orient; rw [if_pos n3, hC]
    have oD : orient t.a t.b s.b = cmpI D 0 := by unfold orient; rw [if_pos n4, hD]
    rw [oA, oB, oC, oD]
    unfold crossC
    rw [if_pos ?_]
    rw [oA, oB] at hcol
    have e1 : B - A = C - D := by rw [← hA, ← hB, ← hC, ← hD]; unfold cross; grind
    have e2 : B * f t.a - A * f t.b = C * f s.b - D * f s.a := by
      rw [← hA, ← hB, ← hC, ← hD]
      rcases hf with rfl | rfl
      · unfold cross; grind
      · unfold cross; grind
    have sgn : ∀ x y : Int, 0 < cmpI x 0 * cmpI y 0 ↔ (0 < x ∧ 0 < y) ∨ (x < 0 ∧ y < 0) := by
      intro x y
      rcases cmpI_cases x 0 with ⟨h1, k1⟩ | ⟨h1, k1⟩ | ⟨h1, k1⟩ <;> rcases cmpI_cases y 0 with ⟨h2, k2⟩ | ⟨h2, k2⟩ | ⟨h2, k2⟩ <;> rw [k1, k2] <;> simp <;> omega
    rw [sgn, sgn]
    rcases Decidable.em ((0 < A ∧ 0 < B ∨ A < 0 ∧ B < 0) ∨ (0 < C ∧ 0 < D ∨ C < 0 ∧ D < 0)) with hh | hh
    · exact hh
    exfalso
    obtain ⟨M, hM⟩ : ∃ M, max (f s.a) (f s.b) = M := ⟨_, rfl⟩
    have m1 : f s.a ≤ M := by omega
    have m2 : f s.b ≤ M := by omega
    have m3 : M + 1 ≤ f t.a := by omega
    have m4 : M + 1 ≤ f t.b := by omega
    have z : ¬ (A = 0 ∧ B = 0) := fun e => hcol (.inr (.inr ⟨(cmpI_zero _).2 e.1, (cmpI_zero _).2 e.2⟩))
    rcases Int.lt_trichotomy (B - A) 0 with hd | hd | hd
    · have k1 := mul_le' m3 (show 0 ≤ -B by omega)
      have k2 := mul_le' m4 (show 0 ≤ A by omega)
      have k3 := mul_le' m1 (show 0 ≤ D by omega)
      have k4 := mul_le' m2 (show 0 ≤ -C by omega)
      have q1 : -B * (M + 1) + A * (M + 1) = (A - B) * M + (A - B) := by grind
      have q2 : D * M + -C * M = (A - B) * M := by
        have : D + -C = A - B := by omega
        rw [← this]; grind
      have q3 : -B * f t.a = -(B * f t.a) := by grind
      have q4 : -C * f s.b = -(C * f s.b) := by grind
      omega
    · omega
    · have k1 := mul_le' m3 (show 0 ≤ B by omega)
      have k2 := mul_le' m4 (show 0 ≤ -A by omega)
      have k3 := mul_le' m1 (show 0 ≤ -D by omega)
      have k4 := mul_le' m2 (show 0 ≤ C by omega)
      have q1 : B * (M + 1) + -A * (M + 1) = (B - A) * M + (B - A) := by grind
      have q2 : -D * M + C * M = (B - A) * M := by
        have : -D + C = B - A := by omega
        rw [← this]; grind
      have q3 : -A * f t.b = -(A * f t.b) := by grind
      have q4 : -D * f s.a = -(D * f s.a) := by grind
      omega
theorem meets_apart (f : Pt → Int) (hf : f = Pt.x ∨ f = Pt.y) {s t : Sg} (h : Apart f s t) : meets s t = 0 := by
  unfold meets
  split
  · rename_i hn
    refine apart_zero f hf (sortS_le s) (sortS_le t) ?_ (apart_sort h)
    rw [near_sortS, nearL_swap4, near_sortS, nearL_swap4]
    exact hn
  · rfl
/-- The box of a segment, and whether two boxes meet. -/
def boxMeet (s t : Sg) : Prop := min s.a.x s.b.x ≤ max t.a.x t.b.x ∧ min t.a.x t.b.x ≤ max s.a.x s.b.x ∧ min s.a.y s.b.y ≤ max t.a.y t.b.y ∧ min t.a.y t.b.y ≤ max s.a.y s.b.y
theorem meets_box {s t : Sg} (h : meets s t ≠ 0) : boxMeet s t := by
  unfold boxMeet
  refine ⟨?_, ?_, ?_, ?_⟩
  · rcases Int.lt_or_le (max t.a.x t.b.x) (min s.a.x s.b.x) with k | k
    · exact absurd (by rw [meets_symm]; exact meets_apart Pt.x (.inl rfl) k) h
    · exact k
  · rcases Int.lt_or_le (max s.a.x s.b.x) (min t.a.x t.b.x) with k | k
    · exact absurd (meets_apart Pt.x (.inl rfl) k) h
    · exact k
  · rcases Int.lt_or_le (max t.a.y t.b.y) (min s.a.y s.b.y) with k | k
    · exact absurd (by rw [meets_symm]; exact meets_apart Pt.y (.inr rfl) k) h
    · exact k
  · rcases Int.lt_or_le (max s.a.y s.b.y) (min t.a.y t.b.y) with k | k
    · exact absurd (meets_apart Pt.y (.inr rfl) k) h
    · exact k
/-- Two segments have an end in common. -/
def shareEnd (s t : Sg) : Prop := s.a = t.a ∨ s.a = t.b ∨ s.b = t.a ∨ s.b = t.b
theorem share_sort {s t : Sg} (h : shareEnd (sortS s) (sortS t)) : shareEnd s t := by
  unfold shareEnd at *
  unfold sortS at h
  split at h <;> split at h <;> (try simp only at h)
  · rcases h with h | h | h | h
    · exact .inr (.inr (.inr h))
    · exact .inr (.inr (.inl h))
    · exact .inr (.inl h)
    · exact .inl h
  · rcases h with h | h | h | h
    · exact .inr (.inr (.inl h))
    · exact .inr (.inr (.inr h))
    · exact .inl h
    · exact .inr (.inl h)
  · rcases h with h | h | h | h
    · exact .inr (.inl h)
    · exact .inl h
    · exact .inr (.inr (.inr h))
    · exact .inr (.inr (.inl h))
  · exact h
theorem one_point {a b c d : Pt} (hD : cross a b d - cross a b c ≠ 0) (h1 : cross a b c = 0) (h2 : cross c d a = 0) : a = c := by
  obtain ⟨ax, ay⟩ := a
  obtain ⟨bx, bY⟩ := b
  obtain ⟨cx, cy⟩ := c
  obtain ⟨dx, dy⟩ := d
  simp only [cross] at *
  have e1 : ((bx - ax) * (dy - ay) - (bY - ay) * (dx - ax) - ((bx - ax) * (cy - ay) - (bY - ay) * (cx - ax))) * (cx - ax) = 0 := by grind
  have e2 : ((bx - ax) * (dy - ay) - (bY - ay) * (dx - ax) - ((bx - ax) * (cy - ay) - (bY - ay) * (cx - ax))) * (cy - ay) = 0 := by grind
  have f1 := (Int.mul_eq_zero.1 e1).resolve_left hD
  have f2 := (Int.mul_eq_zero.1 e2).resolve_left hD
  rw [Pt.mk.injEq]
  omega
theorem end_in {s t : Sg} (hn : nearL [s.a, s.b, t.a, t.b] = true) (h : meetIn s t = 1) : shareEnd s t := by
  have n1 : nearL [s.a, s.b, t.a] = true := by simp only [nearL, Bool.and_eq_true] at hn ⊢; exact ⟨hn.1, hn.2.1, hn.2.2.1, trivial⟩
  have n2 : nearL [s.a, s.b, t.b] = true := by simp only [nearL, Bool.and_eq_true] at hn ⊢; exact ⟨hn.1, hn.2.1, hn.2.2.2.1, trivial⟩
  have n3 : nearL [t.a, t.b, s.a] = true := by simp only [nearL, Bool.and_eq_true] at hn ⊢; exact ⟨hn.2.2.1, hn.2.2.2.1, hn.1, trivial⟩
  have n4 : nearL [t.a, t.b, s.b] = true := by simp only [nearL, Bool.and_eq_true] at hn ⊢; exact ⟨hn.2.2.1, hn.2.2.2.1, hn.2.1, trivial⟩
  unfold meetIn at h
  unfold shareEnd
  split at h
  · omega
  · split at h
    · unfold online at h
      split at h
      · unfold onP at h
        split at h
        · split at h
          · rename_i e
            rcases e with e | e
            · exact .inl e.symm
            · exact .inr (.inr (.inl e.symm))
          · omega
        · omega
      · rename_i hta
        split at h
        · unfold onP at h
          split at h
          · split at h
            · rename_i e
              rcases e with e | e
              · exact .inl e
              · exact .inr (.inl e)
            · omega
          · omega
        · rename_i hsa
          have he : lowP s t = highP s t := by
            refine (cmpP_zero _ _).1 ?_
            unfold overC at h
            split at h
            · omega
            · split at h
              · assumption
              · omega
          unfold lowP highP at he
          split at he <;> split at he
          · exact absurd he hta
          · exact .inr (.inr (.inl he.symm))
          · exact .inr (.inl he)
          · exact absurd he hsa
    · rename_i hcol
      have hzz : (orient s.a s.b t.a = 0 ∨ orient s.a s.b t.b = 0) ∧ (orient t.a t.b s.a = 0 ∨ orient t.a t.b s.b = 0) := by
        unfold crossC at h
        split at h
        · omega
        · split at h
          · omega
          · split at h
            · rename_i e
              exact ⟨Int.mul_eq_zero.1 e.1, Int.mul_eq_zero.1 e.2⟩
            · omega
      have hne : cross s.a s.b t.b - cross s.a s.b t.a ≠ 0 := by
        intro e
        refine hcol (.inr (.inr ?_))
        rw [orient_zero _ _ _ n1, orient_zero _ _ _ n2]
        rcases hzz.1 with k | k
        · rw [orient_zero _ _ _ n1] at k; exact ⟨k, by omega⟩
        · rw [orient_zero _ _ _ n2] at k; exact ⟨by omega, k⟩
      have id1 : cross s.b s.a t.b - cross s.b s.a t.a = -(cross s.a s.b t.b - cross s.a s.b t.a) := by unfold cross; grind
      have id2 : ∀ p : Pt, cross s.b s.a p = -cross s.a s.b p := fun p => by unfold cross; grind
      have id3 : ∀ p : Pt, cross t.b t.a p = -cross t.a t.b p := fun p => by unfold cross; grind
      rw [orient_zero _ _ _ n1, orient_zero _ _ _ n2, orient_zero _ _ _ n3, orient_zero _ _ _ n4] at hzz
      obtain ⟨k1 | k1, k2 | k2⟩ := hzz
      · exact .inl (one_point hne k1 k2)
      · exact .inr (.inr (.inl (one_point (a := s.b) (b := s.a) (c := t.a) (d := t.b) (by omega) (by rw [id2]; omega) k2)))
      · exact .inr (.inl (one_point (a := s.a) (b := s.b) (c := t.b) (d := t.a) (by omega) k1 (by rw [id3]; omega)))
      · exact .inr (.inr (.inr (one_point (a := s.b) (b := s.a) (c := t.b) (d := t.a) (by omega) (by rw [id2]; omega) (by rw [id3]; omega))))
theorem meets_share {s t : Sg} (h : meets s t = 1) : shareEnd s t := by
  unfold meets at h
  split at h
  · rename_i hn
    refine share_sort (end_in ?_ h)
    rw [near_sortS, nearL_swap4, near_sortS, nearL_swap4]
    exact hn
  · omega
end Go.Proofs.PlTop

/-! The sweep finds the meetings of all pairs. No program in sight. -/
namespace Go.Proofs.PlTop
open Go.Proofs.PlGeom

/-- A meeting. -/
structure Mt where
  a : Nat
  b : Nat
  kind : Int
deriving DecidableEq
def ltM (x y : Mt) : Prop := x.a < y.a ∨ (x.a = y.a ∧ x.b < y.b)
/-- The meetings of all pairs, in order. -/
def allP (l : List Sg) : List Mt :=
  (List.range l.length).flatMap fun i => (List.range l.length).filterMap fun k =>
    match l[i]?, l[k]? with
    | some s, some t => if i < k ∧ meets s t ≠ 0 then some ⟨i, k, meets s t⟩ else none
    | _, _ => none
theorem allP_mem {l : List Sg} {m : Mt} : m ∈ allP l ↔ ∃ s t, l[m.a]? = some s ∧ l[m.b]? = some t ∧ m.a < m.b ∧ meets s t ≠ 0 ∧ m.kind = meets s t := by
  unfold allP
  rw [List.mem_flatMap]
  constructor
  · rintro ⟨i, _, h⟩
    rw [List.mem_filterMap] at h
    obtain ⟨k, _, h⟩ := h
    split at h
    · rename_i s t hs ht
      split at h
      · rename_i hc
        cases h
        exact ⟨s, t, hs, ht, hc.1, hc.2, rfl⟩
      · cases h
    · cases h
  · rintro ⟨s, t, hs, ht, hlt, hne, hk⟩
    have h1 : m.a < l.length := (List.getElem?_eq_some_iff.1 hs).1
    have h2 : m.b < l.length := (List.getElem?_eq_some_iff.1 ht).1
    refine ⟨m.a, List.mem_range.2 h1, List.mem_filterMap.2 ⟨m.b, List.mem_range.2 h2, ?_⟩⟩
    rw [hs, ht]
    show (if m.a < m.b ∧ meets s t ≠ 0 then some (⟨m.a, m.b, meets s t⟩ : Mt) else none) = some m
    rw [if_pos ⟨hlt, hne⟩, ← hk]
theorem flatMap_sorted {α β : Type} {r : β → β → Prop} {q : α → α → Prop} {l : List α} {f : α → List β} (hl : l.Pairwise q) (h1 : ∀ a ∈ l, (f a).Pairwise r) (h2 : ∀ a b, q a b → ∀ x ∈ f a, ∀ y ∈ f b, r x y) : (l.flatMap f).Pairwise r := by
  induction l with
  | nil => exact List.Pairwise.nil
  | cons a l ih =>
    rw [List.flatMap_cons, List.pairwise_append]
    have hp := List.pairwise_cons.1 hl
    refine ⟨h1 a (List.mem_cons_self ..), ih hp.2 (fun b hb => h1 b (List.mem_cons_of_mem _ hb)), fun x hx y hy => ?_⟩
    obtain ⟨b, hb, hy⟩ := List.mem_flatMap.1 hy
    exact h2 a b (hp.1 b hb) x hx y hy
theorem filterMap_sorted {α β : Type} {r : β → β → Prop} {q : α → α → Prop} {l : List α} {f : α → Option β} (hl : l.Pairwise q) (h : ∀ a b, q a b → ∀ x, f a = some x → ∀ y, f b = some y → r x y) : (l.filterMap f).Pairwise r := by
  rw [List.pairwise_filterMap]
  exact hl.imp (fun hq b hb b' hb' => h _ _ hq b hb b' hb')
theorem allP_sorted (l : List Sg) : (allP l).Pairwise ltM := by
  unfold allP
  refine flatMap_sorted (q := (· < ·)) List.pairwise_lt_range (fun i _ => ?_) (fun i j hij x hx y hy => ?_)
  · refine filterMap_sorted (q := (· < ·)) List.pairwise_lt_range (fun k k' hk x hx y hy => ?_)
    split at hx
    · split at hx
      · cases hx
        split at hy
        · split at hy
          · cases hy
            exact .inr ⟨rfl, hk⟩
          · cases hy
        · cases hy
      · cases hx
    · cases hx
  · rw [List.mem_filterMap] at hx hy
    obtain ⟨k, _, hx⟩ := hx
    obtain ⟨k', _, hy⟩ := hy
    split at hx
    · split at hx
      · cases hx
        split at hy
        · split at hy
          · cases hy
            exact .inl hij
          · cases hy
        · cases hy
      · cases hx
    · cases hx
theorem ltM_irrefl (x : Mt) : ¬ ltM x x := fun h => by
  rcases h with h | ⟨_, h⟩ <;> omega
theorem ltM_trans {x y z : Mt} (h1 : ltM x y) (h2 : ltM y z) : ltM x z := by
  unfold ltM at *
  omega
/-- Two lists in strict order with the same elements are equal. -/
theorem sorted_eq {α : Type} {r : α → α → Prop} (irr : ∀ x, ¬ r x x) (tr : ∀ x y z, r x y → r y z → r x z) : ∀ {l m : List α}, l.Pairwise r → m.Pairwise r → (∀ x, x ∈ l ↔ x ∈ m) → l = m := by
  intro l
  induction l with
  | nil =>
    intro m _ _ h
    cases m with
    | nil => rfl
    | cons b m => exact absurd ((h b).2 (List.mem_cons_self ..)) (by simp)
  | cons a l ih =>
    intro m hl hm h
    cases m with
    | nil => exact absurd ((h a).1 (List.mem_cons_self ..)) (by simp)
    | cons b m =>
      have hl' := List.pairwise_cons.1 hl
      have hm' := List.pairwise_cons.1 hm
      have hab : a = b := by
        rcases List.mem_cons.1 ((h a).1 (List.mem_cons_self ..)) with e | e
        · exact e
        · rcases List.mem_cons.1 ((h b).2 (List.mem_cons_self ..)) with e2 | e2
          · exact e2.symm
          · exact absurd (tr _ _ _ (hl'.1 b e2) (hm'.1 a e)) (irr a)
      subst hab
      congr 1
      refine ih hl'.2 hm'.2 (fun x => ⟨fun hx => ?_, fun hx => ?_⟩)
      · rcases List.mem_cons.1 ((h x).1 (List.mem_cons_of_mem _ hx)) with e | e
        · subst e; exact absurd (hl'.1 x hx) (irr x)
        · exact e
      · rcases List.mem_cons.1 ((h x).2 (List.mem_cons_of_mem _ hx)) with e | e
        · subst e; exact absurd (hm'.1 x hx) (irr x)
        · exact e
/-- A segment with its index and its bounds. -/
structure It where
  ix : Nat
  s : Sg
deriving DecidableEq
def It.xl (i : It) : Int := min i.s.a.x i.s.b.x
def It.xh (i : It) : Int := max i.s.a.x i.s.b.x
def It.yl (i : It) : Int := min i.s.a.y i.s.b.y
def It.yh (i : It) : Int := max i.s.a.y i.s.b.y
def itemsL : Nat → List Sg → List It
  | _, [] => []
  | k, s :: l => ⟨k, s⟩ :: itemsL (k + 1) l
def yMeet (a b : It) : Bool := decide (a.yl ≤ b.yh) && decide (b.yl ≤ a.yh)
/-- What an item that is active finds with the next one. -/
def pairM (a b : It) : Option Mt := if yMeet a b = true ∧ meets a.s b.s ≠ 0 then some ⟨min a.ix b.ix, max a.ix b.ix, meets a.s b.s⟩ else none
/-- The items that are active when a comes. -/
def actL (a : It) (done : List It) : List It := done.filter (fun b => !decide (b.xh < a.xl))
/-- What the sweep finds, from what is done. -/
def sweepL : List It → List It → List Mt
  | _, [] => []
  | done, a :: r => (actL a done).filterMap (pairM a) ++ sweepL (done ++ [a]) r
theorem sweepL_mem {done r : List It} {m : Mt} : m ∈ sweepL done r ↔ ∃ (p : List It) (a b : It) (q : List It), r = p ++ a :: q ∧ b ∈ actL a (done ++ p) ∧ pairM a b = some m := by
  induction r generalizing done with
  | nil =>
    refine ⟨fun h => (by cases h), fun ⟨p, a, b, q, h, _⟩ => ?_⟩
    cases p <;> simp at h
  | cons a r ih =>
    rw [sweepL, List.mem_append, ih, List.mem_filterMap]
    constructor
    · rintro (⟨b, hb, hm⟩ | ⟨p, a', b, q, rfl, hb, hm⟩)
      · exact ⟨[], a, b, r, rfl, by simpa using hb, hm⟩
      · exact ⟨a :: p, a', b, q, rfl, by simpa using hb, hm⟩
    · rintro ⟨p, a', b, q, h, hb, hm⟩
      cases p with
      | nil =>
        cases h
        exact .inl ⟨b, by simpa using hb, hm⟩
      | cons c p =>
        cases h
        exact .inr ⟨p, a', b, q, rfl, by simpa using hb, hm⟩
theorem itemsL_mem {l : List Sg} {k : Nat} {i : It} : i ∈ itemsL k l ↔ ∃ j, i.ix = k + j ∧ l[j]? = some i.s := by
  induction l generalizing k with
  | nil => simp [itemsL]
  | cons s l ih =>
    rw [itemsL, List.mem_cons, ih]
    constructor
    · rintro (rfl | ⟨j, h1, h2⟩)
      · exact ⟨0, rfl, rfl⟩
      · exact ⟨j + 1, by omega, by simpa using h2⟩
    · rintro ⟨j, h1, h2⟩
      cases j with
      | zero =>
        left
        simp at h2
        cases i
        simp only at h1 h2
        subst h1 h2
        rfl
      | succ j => exact .inr ⟨j, by omega, by simpa using h2⟩
theorem itemsL_nodup (l : List Sg) (k : Nat) : (itemsL k l).Pairwise (fun a b => a.ix ≠ b.ix) := by
  induction l generalizing k with
  | nil => exact List.Pairwise.nil
  | cons s l ih =>
    rw [itemsL, List.pairwise_cons]
    refine ⟨fun b hb => ?_, ih _⟩
    obtain ⟨j, h1, _⟩ := itemsL_mem.1 hb
    show k ≠ b.ix
    omega
/-- The order of the items. -/
def ltI (a b : It) : Prop := a.xl < b.xl ∨ (a.xl = b.xl ∧ a.ix < b.ix)
theorem pairM_kind {a b : It} {m : Mt} (h : pairM a b = some m) : meets a.s b.s ≠ 0 ∧ m = ⟨min a.ix b.ix, max a.ix b.ix, meets a.s b.s⟩ := by
  unfold pairM at h
  split at h
  · rename_i hc
    cases h
    exact ⟨hc.2, rfl⟩
  · cases h
theorem pairM_of {a b : It} (h : meets a.s b.s ≠ 0) : pairM a b = some ⟨min a.ix b.ix, max a.ix b.ix, meets a.s b.s⟩ := by
  have hy : yMeet a b = true := by
    have := meets_box h
    unfold boxMeet at this
    unfold yMeet It.yl It.yh
    rw [Bool.and_eq_true, decide_eq_true_eq, decide_eq_true_eq]
    omega
  unfold pairM
  exact if_pos ⟨hy, h⟩
/-- The sweep over the items in order finds the meetings of all pairs. -/
theorem sweep_mem {l : List Sg} {r : List It} (hp : r.Perm (itemsL 0 l)) (hs : r.Pairwise (fun a b => a.xl ≤ b.xl)) (m : Mt) : m ∈ sweepL [] r ↔ m ∈ allP l := by
  have hnd : r.Pairwise (fun a b => a.ix ≠ b.ix) := (hp.pairwise_iff (fun h e => h e.symm)).2 (itemsL_nodup l 0)
  have hat : ∀ a : It, a ∈ r ↔ l[a.ix]? = some a.s := fun a => by
    rw [hp.mem_iff, itemsL_mem]
    constructor
    · rintro ⟨j, h1, h2⟩
      rw [h1, Nat.zero_add]; exact h2
    · exact fun h => ⟨a.ix, by omega, h⟩
  rw [sweepL_mem, allP_mem]
  constructor
  · rintro ⟨p, a, b, q, rfl, hb, hm⟩
    obtain ⟨hne, rfl⟩ := pairM_kind hm
    have hbp : b ∈ p := by
      have := (List.mem_filter.1 hb).1
      simpa using this
    have ha := (hat a).1 (by simp)
    have hb2 := (hat b).1 (by simp [hbp])
    have hix : b.ix ≠ a.ix := (List.pairwise_append.1 hnd).2.2 b hbp a (List.mem_cons_self ..)
    simp only
    rcases Nat.lt_or_ge a.ix b.ix with h | h
    · rw [show min a.ix b.ix = a.ix by omega, show max a.ix b.ix = b.ix by omega]
      exact ⟨_, _, ha, hb2, h, hne, rfl⟩
    · rw [show min a.ix b.ix = b.ix by omega, show max a.ix b.ix = a.ix by omega]
      exact ⟨_, _, hb2, ha, by omega, by rw [meets_symm]; exact hne, meets_symm _ _⟩
  · rintro ⟨s, t, h1, h2, hlt, hne, hk⟩
    have ha : (⟨m.a, s⟩ : It) ∈ r := (hat _).2 h1
    have hb : (⟨m.b, t⟩ : It) ∈ r := (hat _).2 h2
    have key : ∀ (x y : It) (p1 p2 p3 : List It), r = p1 ++ x :: (p2 ++ y :: p3) → meets x.s y.s ≠ 0 → min y.ix x.ix = m.a → max y.ix x.ix = m.b → m.kind = meets y.s x.s → ∃ p a b q, r = p ++ a :: q ∧ b ∈ actL a ([] ++ p) ∧ pairM a b = some m := by
      rintro x y p1 p2 p3 rfl hxy e1 e2 e3
      refine ⟨p1 ++ x :: p2, y, x, p3, by simp, List.mem_filter.2 ⟨by simp, ?_⟩, ?_⟩
      · have hbx := meets_box hxy
        unfold boxMeet at hbx
        rw [Bool.not_eq_true', decide_eq_false_iff_not]
        unfold It.xh It.xl
        omega
      · rw [pairM_of (by rw [meets_symm]; exact hxy), e1, e2, ← e3]
    obtain ⟨p1, q1, e1⟩ := List.append_of_mem ha
    rw [e1] at hb
    rcases List.mem_append.1 hb with hb | hb
    · obtain ⟨p2, q2, e2⟩ := List.append_of_mem hb
      rw [e2, List.append_assoc] at e1
      exact key ⟨m.b, t⟩ ⟨m.a, s⟩ p2 q2 q1 e1 (by rw [meets_symm]; exact hne) (by show min m.a m.b = _; omega) (by show max m.a m.b = _; omega) hk
    · rcases List.mem_cons.1 hb with e | hb
      · have := congrArg It.ix e
        simp only at this
        omega
      · obtain ⟨p2, q2, e2⟩ := List.append_of_mem hb
        rw [e2] at e1
        exact key ⟨m.a, s⟩ ⟨m.b, t⟩ p1 p2 q2 e1 hne (by show min m.b m.a = _; omega) (by show max m.b m.a = _; omega) (by rw [hk]; exact meets_symm _ _)
/-- The active items, as the sweep keeps them. -/
theorem act_step {a b : It} {done : List It} (h : a.xl ≤ b.xl) : (actL a done ++ [a]).filter (fun c => !decide (c.xh < b.xl)) = actL b (done ++ [a]) := by
  unfold actL
  rw [List.filter_append, List.filter_append, List.filter_filter]
  congr 1
  refine List.filter_congr (fun c _ => ?_)
  by_cases h1 : c.xh < b.xl
  · simp [h1]
  · have : ¬ c.xh < a.xl := by omega
    simp [h1, this]
/-- The sweep finds no meeting twice. -/
theorem sweep_nodup {l : List Sg} {r : List It} (hp : r.Perm (itemsL 0 l)) : (sweepL [] r).Nodup := by
  have hnd : r.Pairwise (fun a b => a.ix ≠ b.ix) := (hp.pairwise_iff (fun h e => h e.symm)).2 (itemsL_nodup l 0)
  have key : ∀ (r done : List It), (done ++ r).Pairwise (fun a b => a.ix ≠ b.ix) → (sweepL done r).Pairwise (fun x y : Mt => x ≠ y) ∧ ∀ m ∈ sweepL done r, ∃ a ∈ r, a.ix = m.a ∨ a.ix = m.b := by
    intro r
    induction r with
    | nil => intro done _; exact ⟨List.Pairwise.nil, fun m h => by cases h⟩
    | cons a r ih =>
      intro done hd
      obtain ⟨i1, i2⟩ := ih (done ++ [a]) (by rw [List.append_assoc]; exact hd)
      have hd1 := (List.pairwise_append.1 hd)
      have hda : ∀ b ∈ done, b.ix ≠ a.ix := fun b hb => hd1.2.2 b hb a (List.mem_cons_self ..)
      have hra := (List.pairwise_cons.1 hd1.2.1).1
      rw [sweepL]
      have hp1 : ((actL a done).filterMap (pairM a)).Pairwise (fun x y : Mt => x ≠ y) := by
        rw [List.pairwise_filterMap]
        refine (List.Pairwise.and_mem.1 (hd1.1.filter _)).imp ?_
        rintro b c ⟨hb, hc, hbc⟩ x hx y hy e
        obtain ⟨_, rfl⟩ := pairM_kind hx
        obtain ⟨_, rfl⟩ := pairM_kind hy
        have h1 := hda b (List.mem_filter.1 hb).1
        have h2 := hda c (List.mem_filter.1 hc).1
        have e1 := congrArg Mt.a e
        have e2 := congrArg Mt.b e
        simp only at e1 e2
        omega
      have hin : ∀ m ∈ (actL a done).filterMap (pairM a), ∃ b ∈ done, (m.a = a.ix ∧ m.b = b.ix) ∨ (m.a = b.ix ∧ m.b = a.ix) := by
        intro m hm
        obtain ⟨b, hb, hx⟩ := List.mem_filterMap.1 hm
        obtain ⟨_, rfl⟩ := pairM_kind hx
        refine ⟨b, (List.mem_filter.1 hb).1, ?_⟩
        simp only
        omega
      refine ⟨List.pairwise_append.2 ⟨hp1, i1, fun x hx y hy e => ?_⟩, fun m hm => ?_⟩
      · subst e
        obtain ⟨b, hb, h1⟩ := hin x hx
        obtain ⟨c, hc, h2⟩ := i2 x hy
        have h3 := hra c hc
        have h4 := hd1.2.2 b hb c (List.mem_cons_of_mem _ hc)
        omega
      · rcases List.mem_append.1 hm with hm | hm
        · obtain ⟨b, _, h1⟩ := hin m hm
          exact ⟨a, List.mem_cons_self .., by omega⟩
        · obtain ⟨c, hc, h2⟩ := i2 m hm
          exact ⟨c, List.mem_cons_of_mem _ hc, h2⟩
  exact (key r [] (by simpa using hnd)).1
/-- What the sweep finds, put in order, is the meetings of all pairs in order. -/
theorem sweep_all {l : List Sg} {r : List It} {o : List Mt} (hp : r.Perm (itemsL 0 l)) (hs : r.Pairwise (fun a b => a.xl ≤ b.xl)) (ho : o.Perm (sweepL [] r)) (hso : o.Pairwise (fun x y => ¬ ltM y x)) : o = allP l := by
  refine sorted_eq ltM_irrefl (fun _ _ _ => ltM_trans) ?_ (allP_sorted l) (fun x => by rw [ho.mem_iff, sweep_mem hp hs])
  have hnd : o.Nodup := ho.nodup_iff.2 (sweep_nodup hp)
  refine (List.Pairwise.and_mem.1 (hso.and hnd)).imp ?_
  rintro x y ⟨hx, hy, h1, h2⟩
  unfold ltM at h1 ⊢
  rcases Nat.lt_trichotomy x.a y.a with h | h | h
  · exact .inl h
  · rcases Nat.lt_trichotomy x.b y.b with h' | h' | h'
    · exact .inr ⟨h, h'⟩
    · exfalso
      refine h2 ?_
      rw [ho.mem_iff, sweep_mem hp hs, allP_mem] at hx hy
      obtain ⟨s, t, a1, a2, _, _, a3⟩ := hx
      obtain ⟨s', t', b1, b2, _, _, b3⟩ := hy
      rw [h, b1] at a1
      rw [h', b2] at a2
      cases a1
      cases a2
      cases x
      cases y
      simp only at h h' a3 b3
      rw [h, h', a3, b3]
    · exact absurd (.inr ⟨h.symm, h'⟩) h1
  · exact absurd (.inl h) h1
end Go.Proofs.PlTop

/-! Few objects, the reference's search and soundness (from wip/net, pruned). No program in sight. -/



namespace Go.Proofs.PlNet
open Go Go.Proofs.PlLex

abbrev BA := ByteArray
end Go.Proofs.PlNet



/-! Ranging over maps in memory that are lists of pairs. -/
namespace Go.Proofs.PlMap
open Go Go.Maps Go.ChangeMaps
open Go.WideElems (Fit rd rg pl rd_val rd_key rg_of)

section
variable {P : Program} {k : TypeId} {K : Type} [DecidableEq K]
end
end Go.Proofs.PlMap

namespace Go.Proofs.PlNet
open Go Go.Proofs.PlLex

def fewR (l : List BA) : Bool := l.all (fun s => decide (s.size ≤ 60))
def fewG (l : List Tg) : Bool := l.all (fun t => decide (IntKind.i64.wrap ((t.k.size : Int) + t.v.size) ≤ 300))
def fewO (o : Ob) : Bool := decide (o.refs.length ≤ 12) && decide (o.tags.length ≤ 20) && decide (o.id.size ≤ 60) && (fewR o.refs && fewG o.tags)
def fewM (n : Nat) (l : List Ob) : Bool := decide (l.length ≤ n) && l.all fewO
theorem fewM_ok {n : Nat} {l : List Ob} (h : fewM n l = true) (hs : ∀ o ∈ l, ∀ t ∈ o.tags, t.k.size ≤ maxLen ∧ t.v.size ≤ maxLen) : l.length ≤ n ∧ ∀ o ∈ l, okO o := by
  unfold fewM at h
  rw [Bool.and_eq_true, decide_eq_true_eq, List.all_eq_true] at h
  refine ⟨h.1, fun o ho => ?_⟩
  have h2 := h.2 o ho
  unfold fewO fewR at h2
  simp only [Bool.and_eq_true, decide_eq_true_eq, List.all_eq_true] at h2
  obtain ⟨⟨⟨h3, h4⟩, h5⟩, h6, _⟩ := h2
  exact ⟨by omega, by omega, fun s hs => by have := h6 s hs; omega, by omega, hs o ho⟩
end Go.Proofs.PlNet



/-! Where an object stands. No program in sight. -/
namespace Go.Proofs.PlNet
open Go Go.Proofs.PlLex

def findN (s : BA) : List Ob → Option Nat
  | [] => none
  | o :: l => if o.id = s then some 0 else (findN s l).map (· + 1)
def findI (l : List Ob) (s : BA) : Int := match findN s l with | some i => (i : Int) | none => -1
theorem findN_some (s : BA) (l : List Ob) : ∀ i, findN s l = some i → ∃ o, l[i]? = some o ∧ o.id = s ∧ i < l.length ∧ findO l s = some o := by
  induction l with
  | nil => intro i h; cases h
  | cons x l ih =>
    intro i h
    unfold findN at h
    by_cases e : x.id = s
    · rw [if_pos e] at h
      cases h
      exact ⟨x, rfl, e, by simp, by simp [findO, e]⟩
    · rw [if_neg e] at h
      obtain ⟨j, hj, rfl⟩ := Option.map_eq_some_iff.1 h
      obtain ⟨o, h1, h2, h3, h4⟩ := ih j hj
      refine ⟨o, by simpa using h1, h2, by simp; omega, ?_⟩
      unfold findO at h4 ⊢
      rw [List.find?_cons, decide_eq_false e]
      exact h4
theorem findN_none (s : BA) (l : List Ob) (h : findN s l = none) : ∀ o ∈ l, o.id ≠ s := by
  induction l with
  | nil => intro o ho; cases ho
  | cons x l ih =>
    unfold findN at h
    by_cases e : x.id = s
    · rw [if_pos e] at h; cases h
    · rw [if_neg e] at h
      intro o ho
      rcases List.mem_cons.1 ho with rfl | ho
      · exact e
      · exact ih (by simpa using h) o ho
theorem findN_of {l : List Ob} (hu : uniq l) {o : Ob} (ho : o ∈ l) : ∃ i, findN o.id l = some i ∧ l[i]? = some o := by
  cases h : findN o.id l with
  | none => exact (findN_none _ l h o ho rfl).elim
  | some i =>
    obtain ⟨o', h1, h2, _, _⟩ := findN_some _ l i h
    refine ⟨i, rfl, ?_⟩
    rw [h1, hu.eq (List.mem_of_getElem? h1) ho h2]
end Go.Proofs.PlNet


namespace Go.Proofs.PlNet
open Go Go.Proofs.PlLex

def ltB (a b : BA) : Bool := Go.Op.bytesLess a.toList b.toList
theorem mapB_sorted {l : List Ob} (h : mapB l = true) {i j : Nat} {a b : Ob} (hij : i < j) (ha : l[i]? = some a) (hb : l[j]? = some b) : ltB a.id b.id = true := by
  unfold mapB at h
  rw [Bool.and_eq_true] at h
  have hp := (mapL_incr l _ h.1).1
  obtain ⟨h1, rfl⟩ := List.getElem?_eq_some_iff.1 ha
  obtain ⟨h2, rfl⟩ := List.getElem?_eq_some_iff.1 hb
  exact (List.pairwise_iff_getElem.1 hp) i j h1 h2 hij
theorem ltB_irrefl (a : BA) : ltB a a = false := less_irrefl _
theorem ltB_trans {a b c : BA} (h1 : ltB a b = true) (h2 : ltB b c = true) : ltB a c = true := less_trans h1 h2
/-- Where the halving ends. -/
theorem half_end {l : List Ob} (h : mapB l = true) {s : BA} {k : Nat} (hk : k ≤ l.length) (h1 : ∀ (i : Nat) o, i < k → l[i]? = some o → ltB o.id s = true) (h2 : ∀ (i : Nat) o, k ≤ i → l[i]? = some o → ltB o.id s = false) :
    (∀ o, l[k]? = some o → o.id = s → findI l s = k) ∧ ((∀ o, l[k]? = some o → o.id ≠ s) → findI l s = -1) := by
  constructor
  · intro o ho e
    subst e
    obtain ⟨i, hi1, hi2⟩ := findN_of (mapB_uniq h) (List.mem_of_getElem? ho)
    unfold findI
    rw [hi1]
    show (i : Int) = k
    rcases Nat.lt_trichotomy i k with c | c | c
    · have := mapB_sorted h c hi2 ho
      rw [ltB_irrefl] at this
      cases this
    · rw [c]
    · have := mapB_sorted h c ho hi2
      rw [ltB_irrefl] at this
      cases this
  · intro hne
    unfold findI
    cases e : findN s l with
    | none => rfl
    | some i =>
      obtain ⟨o, h3, h4, h5, _⟩ := findN_some s l i e
      exfalso
      subst h4
      rcases Nat.lt_trichotomy i k with c | c | c
      · have := h1 i o c h3
        rw [ltB_irrefl] at this
        cases this
      · subst c; exact hne o h3 rfl
      · obtain ⟨x, hx⟩ : ∃ x, l[k]? = some x := ⟨_, List.getElem?_eq_getElem (by omega)⟩
        have h6 := mapB_sorted h c hx h3
        rw [h2 k x (Nat.le_refl _) hx] at h6
        cases h6
theorem half_left {l : List Ob} (h : mapB l = true) {s : BA} {k : Nat} {x : Ob} (hx : l[k]? = some x) (hl : ltB x.id s = true) : ∀ (i : Nat) o, i < k + 1 → l[i]? = some o → ltB o.id s = true := by
  intro i o hi ho
  rcases Nat.lt_or_ge i k with c | c
  · exact ltB_trans (mapB_sorted h c ho hx) hl
  · obtain rfl : i = k := by omega
    rw [ho] at hx
    cases hx
    exact hl
theorem half_right {l : List Ob} (h : mapB l = true) {s : BA} {k : Nat} {x : Ob} (hx : l[k]? = some x) (hl : ltB x.id s = false) : ∀ (i : Nat) o, k ≤ i → l[i]? = some o → ltB o.id s = false := by
  intro i o hi ho
  rcases Nat.lt_or_ge k i with c | c
  · cases e : ltB o.id s with
    | false => rfl
    | true =>
      have := ltB_trans (mapB_sorted h c hx ho) e
      rw [hl] at this
      cases this
  · obtain rfl : i = k := by omega
    rw [ho] at hx
    cases hx
    exact hl

/-! Which objects the reference calls sound. -/
def kindR (k : Int) (i : Nat) : Int := if k = 4 ∨ (k = 5 ∧ i ≠ 1) then 2 else 1
/-- Sound, for a valid object of a valid map. -/
def soundW (l : List Ob) (o : Ob) : Bool :=
  if o.kind = 1 then true else if o.kind = 2 ∨ o.kind = 3 then o.refs.all (isNode l) else soundB l o
def stepS (l : List Ob) (k : Int) (i : Nat) (s : BA) : Bool :=
  match findO l s with
  | none => false
  | some p => decide (p.kind = kindR k i) && soundW l p
def refS (l : List Ob) (k : Int) : Nat → List BA → Bool
  | _, [] => true
  | i, s :: r => stepS l k i s && refS l k (i + 1) r
theorem find_node {l : List Ob} (h : uniq l) (s : BA) : isNode l s = (match findO l s with | none => false | some p => decide (p.kind = 1)) := by
  unfold isNode
  cases e : findO l s with
  | none =>
    have : findO (nodesO l) s = none := by
      cases e2 : findO (nodesO l) s with
      | none => rfl
      | some p =>
        obtain ⟨h1, h2⟩ := findO_some e2
        exact (findO_none e p (List.mem_filter.1 h1).1 h2).elim
    rw [this]; rfl
  | some p =>
    obtain ⟨h1, h2⟩ := findO_some e
    show (findO (nodesO l) s).isSome = decide (p.kind = 1)
    by_cases hk : p.kind = 1
    · have : p ∈ nodesO l := List.mem_filter.2 ⟨h1, by simpa using hk⟩
      rw [← h2, show findO (nodesO l) p.id = some p from findO_mem (h.filter _) this]
      simp [hk]
    · cases e2 : findO (nodesO l) s with
      | none => simp [hk]
      | some q =>
        obtain ⟨h3, h4⟩ := findO_some e2
        have h5 := List.mem_filter.1 h3
        have := h.eq h5.1 h1 (by rw [h4, h2])
        subst this
        exact (hk (by simpa using h5.2)).elim
theorem find_way {l : List Ob} (h : uniq l) (s : BA) : (wayAt l s).isSome = (match findO l s with | none => false | some p => wayB l p) := by
  unfold wayAt
  rw [Option.isSome_map]
  cases e : findO l s with
  | none =>
    have : findO (waysO l) s = none := by
      cases e2 : findO (waysO l) s with
      | none => rfl
      | some p =>
        obtain ⟨h1, h2⟩ := findO_some e2
        exact (findO_none e p (List.mem_filter.1 h1).1 h2).elim
    rw [this]; rfl
  | some p =>
    obtain ⟨h1, h2⟩ := findO_some e
    show (findO (waysO l) s).isSome = wayB l p
    cases hk : wayB l p with
    | true =>
      have : p ∈ waysO l := List.mem_filter.2 ⟨h1, hk⟩
      rw [← h2, show findO (waysO l) p.id = some p from findO_mem (h.filter _) this]
      rfl
    | false =>
      cases e2 : findO (waysO l) s with
      | none => rfl
      | some q =>
        obtain ⟨h3, h4⟩ := findO_some e2
        have h5 := List.mem_filter.1 h3
        have := h.eq h5.1 h1 (by rw [h4, h2])
        subst this
        rw [hk] at h5
        cases h5.2
theorem stepS_one {l : List Ob} (h : uniq l) {k : Int} {i : Nat} (hk : kindR k i = 1) (s : BA) : stepS l k i s = isNode l s := by
  rw [find_node h]
  unfold stepS
  rw [hk]
  cases findO l s with
  | none => rfl
  | some p =>
    by_cases e : p.kind = 1
    · simp [e, soundW]
    · simp [e]
theorem stepS_two {l : List Ob} (h : uniq l) {k : Int} {i : Nat} (hk : kindR k i = 2) (s : BA) : stepS l k i s = (wayAt l s).isSome := by
  rw [find_way h]
  unfold stepS
  rw [hk]
  cases findO l s with
  | none => rfl
  | some p =>
    unfold wayB
    by_cases e : p.kind = 2
    · simp [e, soundW]
    · simp [e]
theorem refS_node {l : List Ob} (h : uniq l) {k : Int} (hk : k ≠ 4) (h5 : k ≠ 5) (r : List BA) : ∀ i, refS l k i r = r.all (isNode l) := by
  induction r with
  | nil => intro i; rfl
  | cons s r ih =>
    intro i
    rw [refS, ih, stepS_one h (by unfold kindR; rw [if_neg (by rintro (e | e); exact hk e; exact h5 e.1)]), List.all_cons]
theorem refS_soundL {l : List Ob} (h : uniq l) {k : Int} (hk : k = 4 ∨ k = 5) (r : List BA) : ∀ i, refS l k i r = soundL l k i r := by
  induction r with
  | nil => intro i; rfl
  | cons s r ih =>
    intro i
    rw [refS, soundL, ih]
    congr 1
    by_cases c : k = 5 ∧ i = 1
    · rw [if_pos c, stepS_one h (by unfold kindR; rw [if_neg (by rintro (e | e); omega; exact e.2 c.2)])]
    · rw [if_neg c, stepS_two h (by unfold kindR; rw [if_pos (by rcases hk with e | e; exact .inl e; exact .inr ⟨e, fun e2 => c ⟨e, e2⟩⟩)])]
theorem refS_sound {l : List Ob} (h : uniq l) {o : Ob} (ho : obB o = true) : refS l o.kind 0 o.refs = soundW l o := by
  unfold soundW
  by_cases h1 : o.kind = 1
  · rw [if_pos h1]
    have : o.refs = [] := by
      unfold obB tailB at ho
      rw [if_pos h1] at ho
      simp only [Bool.and_eq_true, decide_eq_true_eq] at ho
      exact List.length_eq_zero_iff.1 ho.2.1
    rw [this]; rfl
  · rw [if_neg h1]
    by_cases h2 : o.kind = 2 ∨ o.kind = 3
    · rw [if_pos h2]
      exact refS_node h (by omega) (by omega) _ 0
    · rw [if_neg h2]
      unfold soundB
      refine refS_soundL h ?_ _ 0
      unfold obB headB at ho
      simp only [Bool.and_eq_true, decide_eq_true_eq] at ho
      have := ho.1.1.1.1.1.1
      omega
def rankK (k : Int) : Nat := if k = 1 then 0 else if k = 2 ∨ k = 3 then 1 else 2
theorem rank_less {k : Int} {i : Nat} (hk : k ≠ 1) : rankK (kindR k i) < rankK k := by
  unfold rankK kindR
  by_cases h2 : k = 2 ∨ k = 3
  · rw [if_neg (show ¬ (k = 4 ∨ k = 5 ∧ i ≠ 1) by omega), if_pos rfl, if_neg hk, if_pos h2]; omega
  · rw [if_neg hk, if_neg h2]
    split
    · rw [if_neg (by omega), if_pos (by omega)]; omega
    · rw [if_pos rfl]; omega
theorem refS_cut (l : List Ob) (k : Int) : ∀ (r : List BA) (i j : Nat) (s : BA), r[j]? = some s → refS l k i r = (refS l k i (r.take j) && (stepS l k (i + j) s && refS l k (i + j + 1) (r.drop (j + 1)))) := by
  intro r
  induction r with
  | nil => intro i j s h; simp at h
  | cons x r ih =>
    intro i j s h
    cases j with
    | zero =>
      simp at h
      subst h
      simp [refS]
    | succ j =>
      have := ih (i + 1) j s (by simpa using h)
      rw [refS, this, List.take_succ_cons, refS, List.drop_succ_cons, Bool.and_assoc, show i + 1 + j = i + (j + 1) by omega]
theorem refS_snoc (l : List Ob) (k : Int) (r : List BA) (i j : Nat) (s : BA) (h : r[j]? = some s) : refS l k i (r.take (j + 1)) = (refS l k i (r.take j) && stepS l k (i + j) s) := by
  have hj := (List.getElem?_eq_some_iff.1 h).1
  have h2 := refS_cut l k (r.take (j + 1)) i j s (by rw [List.getElem?_take_of_lt (by omega)]; exact h)
  rw [h2, List.take_take, Nat.min_eq_left (by omega), List.drop_eq_nil_of_le (by rw [List.length_take]; omega)]
  simp [refS]
end Go.Proofs.PlNet

/-! The borders of a map as plain data, in order, and when they are bad. No program in sight. -/
namespace Go.Proofs.PlTop
open Go Go.Proofs.PlGeom Go.Proofs.PlLex Go.Proofs.PlNet

/-- A pair of nodes. -/
abbrev Pr := BA × BA
def minS (a b : BA) : BA := if ltB b a then b else a
def maxS (a b : BA) : BA := if ltB a b then b else a
def normP (p : Pr) : Pr := (minS p.1 p.2, maxS p.1 p.2)
/-- Side i of an object. -/
def sideAt (o : Ob) (i : Nat) : Pr := (o.refs.getD i ⟨#[]⟩, o.refs.getD ((i + 1) % o.refs.length) ⟨#[]⟩)
def sidesN (o : Ob) : Nat := if o.kind = 3 then o.refs.length else if o.kind = 2 then o.refs.length - 1 else 0
def sidesO (o : Ob) : List Pr := (List.range (sidesN o)).map (fun i => normP (sideAt o i))
/-- The sides of an object of which all references are nodes. -/
def bordO (l : List Ob) (o : Ob) : List Pr := if (o.kind = 2 ∨ o.kind = 3) ∧ o.refs.all (isNode l) = true then sidesO o else []
def pairsL (l : List Ob) : List Pr := l.flatMap (bordO l)
def ltP (p q : Pr) : Prop := ltB p.1 q.1 = true ∨ (p.1 = q.1 ∧ ltB p.2 q.2 = true)
instance : DecidableRel ltP := fun p q => by unfold ltP; exact inferInstance
theorem ltP_irrefl (p : Pr) : ¬ ltP p p := by
  rintro (h | ⟨_, h⟩) <;> rw [ltB_irrefl] at h <;> cases h
theorem ltP_trans {p q r : Pr} (h1 : ltP p q) (h2 : ltP q r) : ltP p r := by
  unfold ltP at *
  rcases h1 with h1 | ⟨e1, h1⟩ <;> rcases h2 with h2 | ⟨e2, h2⟩
  · exact .inl (ltB_trans h1 h2)
  · exact .inl (e2 ▸ h1)
  · exact .inl (e1 ▸ h2)
  · exact .inr ⟨e1.trans e2, ltB_trans h1 h2⟩
theorem ltB_tri {a b : BA} (h1 : ltB a b = false) (h2 : a ≠ b) : ltB b a = true := less_tri h1 (fun e => h2 (toList_inj.1 e))
theorem ltP_tri {p q : Pr} (h1 : ¬ ltP p q) (h2 : q ≠ p) : ltP q p := by
  unfold ltP at *
  by_cases e : q.1 = p.1
  · right
    refine ⟨e, ?_⟩
    cases h : ltB q.2 p.2 with
    | true => rfl
    | false =>
      by_cases e2 : q.2 = p.2
      · exact absurd (Prod.ext e e2) h2
      · exact absurd (.inr ⟨e.symm, ltB_tri h e2⟩) h1
  · left
    cases h : ltB q.1 p.1 with
    | true => rfl
    | false => exact absurd (.inl (ltB_tri h e)) h1
/-- A pair put into an ordered list, unless it is there. -/
def insP (p : Pr) : List Pr → List Pr
  | [] => [p]
  | q :: l => if ltP q p then q :: insP p l else if q = p then q :: l else p :: q :: l
theorem insP_mem (p x : Pr) (l : List Pr) : x ∈ insP p l ↔ x = p ∨ x ∈ l := by
  induction l with
  | nil => simp [insP]
  | cons q l ih =>
    unfold insP
    split
    · rw [List.mem_cons, ih, List.mem_cons]
      constructor
      · rintro (h | h | h)
        · exact .inr (.inl h)
        · exact .inl h
        · exact .inr (.inr h)
      · rintro (h | h | h)
        · exact .inr (.inl h)
        · exact .inl h
        · exact .inr (.inr h)
    · split
      · rename_i h
        rw [List.mem_cons]
        constructor
        · exact .inr
        · rintro (h2 | h2)
          · exact .inl (h2.trans h.symm)
          · exact h2
      · rw [List.mem_cons]
theorem insP_sorted (p : Pr) (l : List Pr) (h : l.Pairwise ltP) : (insP p l).Pairwise ltP := by
  induction l with
  | nil => simp [insP]
  | cons q l ih =>
    obtain ⟨h1, h2⟩ := List.pairwise_cons.1 h
    unfold insP
    split
    · rename_i hq
      refine List.pairwise_cons.2 ⟨fun x hx => ?_, ih h2⟩
      rcases (insP_mem p x l).1 hx with e | e
      · rw [e]; exact hq
      · exact h1 x e
    · rename_i hq
      split
      · exact h
      · rename_i hne
        have hpq := ltP_tri hq (fun e => hne e.symm)
        refine List.pairwise_cons.2 ⟨fun x hx => ?_, h⟩
        rcases List.mem_cons.1 hx with e | e
        · rw [e]; exact hpq
        · exact ltP_trans hpq (h1 x e)
def putAll (acc : List Pr) (l : List Pr) : List Pr := l.foldl (fun acc p => insP p acc) acc
theorem putAll_snoc (acc l : List Pr) (p : Pr) : putAll acc (l ++ [p]) = insP p (putAll acc l) := by simp [putAll]
theorem putAll_app (acc l m : List Pr) : putAll acc (l ++ m) = putAll (putAll acc l) m := by simp [putAll]
theorem putAll_mem (acc l : List Pr) (x : Pr) : x ∈ putAll acc l ↔ x ∈ acc ∨ x ∈ l := by
  induction l generalizing acc with
  | nil => simp [putAll]
  | cons p l ih =>
    show x ∈ putAll (insP p acc) l ↔ _
    rw [ih, insP_mem, List.mem_cons]
    constructor
    · rintro ((h | h) | h)
      · exact .inr (.inl h)
      · exact .inl h
      · exact .inr (.inr h)
    · rintro (h | h | h)
      · exact .inl (.inr h)
      · exact .inl (.inl h)
      · exact .inr h
theorem putAll_sorted (acc l : List Pr) (h : acc.Pairwise ltP) : (putAll acc l).Pairwise ltP := by
  induction l generalizing acc with
  | nil => exact h
  | cons p l ih => exact ih _ (insP_sorted p acc h)
/-- The borders of a map: pairs of nodes, in order. -/
def bordersL (l : List Ob) : List Pr := putAll [] (pairsL l)
theorem borders_mem (l : List Ob) (p : Pr) : p ∈ bordersL l ↔ p ∈ pairsL l := by unfold bordersL; rw [putAll_mem]; simp
theorem borders_sorted (l : List Ob) : (bordersL l).Pairwise ltP := putAll_sorted _ _ List.Pairwise.nil
theorem borders_eq (l : List Ob) (L : List Pr) (h1 : L.Pairwise ltP) (h2 : ∀ p, p ∈ L ↔ p ∈ pairsL l) : L = bordersL l :=
  sorted_eq ltP_irrefl (fun _ _ _ => ltP_trans) h1 (borders_sorted l) (fun p => by rw [h2, borders_mem])
theorem insP_len (p : Pr) (l : List Pr) : (insP p l).length ≤ l.length + 1 := by
  induction l with
  | nil => simp [insP]
  | cons q l ih =>
    unfold insP
    split
    · simp only [List.length_cons]; omega
    · split
      · simp
      · simp
theorem putAll_len (acc l : List Pr) : (putAll acc l).length ≤ acc.length + l.length := by
  induction l generalizing acc with
  | nil => simp [putAll]
  | cons p l ih =>
    have h1 := ih (insP p acc)
    have h2 := insP_len p acc
    show (putAll (insP p acc) l).length ≤ _
    simp only [List.length_cons]; omega
/-- Where a pair stands. -/
theorem insP_split (p : Pr) (a b : List Pr) (ha : ∀ q ∈ a, ltP q p) (hb : ∀ q, b.head? = some q → ¬ ltP q p) : insP p (a ++ b) = if b.head? = some p then a ++ b else a ++ p :: b := by
  induction a with
  | nil =>
    cases b with
    | nil => simp [insP]
    | cons q b =>
      have := hb q rfl
      simp only [List.nil_append, insP]
      rw [if_neg this]
      simp only [List.head?_cons, Option.some.injEq]
  | cons q a ih =>
    have h1 := ha q (List.mem_cons_self ..)
    simp only [List.cons_append, insP]
    rw [if_pos h1, ih (fun x hx => ha x (List.mem_cons_of_mem _ hx))]
    split <;> rfl
/-- The point of a node. -/
def ptO (l : List Ob) (s : BA) : Pt := match findO l s with | some o => ⟨o.x, o.y⟩ | none => ⟨0, 0⟩
def segO (l : List Ob) (p : Pr) : Sg := ⟨ptO l p.1, ptO l p.2⟩
def segsL (l : List Ob) : List Sg := (bordersL l).map (segO l)
/-- Is a text one of the nodes of a pair? -/
def endP (p : Pr) (s : BA) : Prop := s = p.1 ∨ s = p.2
def comP (a b : Pr) : Prop := endP b a.1 ∨ endP b a.2
/-- Two nodes of borders have one point. -/
def twinL (l : List Ob) : Prop := ∃ p ∈ bordersL l, ∃ q ∈ bordersL l, ∃ s t, endP p s ∧ endP q t ∧ s ≠ t ∧ ptO l s = ptO l t
def badC (l : List Ob) : Prop := twinL l ∨ ∃ (i k : Nat) (a b : Pr), i < k ∧ (bordersL l)[i]? = some a ∧ (bordersL l)[k]? = some b ∧ meets (segO l a) (segO l b) ≠ 0 ∧ ¬ (meets (segO l a) (segO l b) = 1 ∧ comP a b)
def badT (l : List Ob) : Prop := twinL l ∨ ∃ (i k : Nat) (a b : Pr), i < k ∧ (bordersL l)[i]? = some a ∧ (bordersL l)[k]? = some b ∧ meets (segO l a) (segO l b) ≠ 0 ∧ meets (segO l a) (segO l b) ≠ 1
theorem bad_same (l : List Ob) : badC l ↔ badT l := by
  constructor
  · rintro (h | ⟨i, k, a, b, hik, ha, hb, h0, h1⟩)
    · exact .inl h
    · by_cases e : meets (segO l a) (segO l b) = 1
      · left
        have hc : ¬ comP a b := fun c => h1 ⟨e, c⟩
        have hs := meets_share e
        have key : ∀ s t, endP a s → endP b t → ptO l s = ptO l t → twinL l := fun s t h2 h3 h4 => by
          refine ⟨a, List.mem_of_getElem? ha, b, List.mem_of_getElem? hb, s, t, h2, h3, ?_, h4⟩
          rintro rfl
          rcases h2 with rfl | rfl
          · exact hc (.inl h3)
          · exact hc (.inr h3)
        unfold shareEnd at hs
        rcases hs with h | h | h | h
        · exact key _ _ (.inl rfl) (.inl rfl) h
        · exact key _ _ (.inl rfl) (.inr rfl) h
        · exact key _ _ (.inr rfl) (.inl rfl) h
        · exact key _ _ (.inr rfl) (.inr rfl) h
      · exact .inr ⟨i, k, a, b, hik, ha, hb, h0, e⟩
  · rintro (h | ⟨i, k, a, b, hik, ha, hb, h0, h1⟩)
    · exact .inl h
    · exact .inr ⟨i, k, a, b, hik, ha, hb, h0, fun c => h1 c.1⟩
/-- The law's table of points, and whether it has seen two nodes at one. -/
structure PtsT (E : List (BA × Pt)) (g : Pt → Option BA) (b : Bool) : Prop where
  mem : ∀ p s, g p = some s → (s, p) ∈ E
  all : ∀ e ∈ E, (g e.2).isSome = true
  good : b = false → ∀ e ∈ E, g e.2 = some e.1
  bad : b = true → ∃ e ∈ E, ∃ f ∈ E, e.2 = f.2 ∧ e.1 ≠ f.1
theorem PtsT.nil : PtsT [] (fun _ => none) false := ⟨fun _ _ h => (by cases h), fun _ h => (by cases h), fun _ _ h => (by cases h), fun h => (by cases h)⟩
theorem PtsT.step {E : List (BA × Pt)} {g : Pt → Option BA} {b : Bool} (h : PtsT E g b) (s : BA) (p : Pt) :
    PtsT (E ++ [(s, p)]) (fun q => if q = p then some s else g q) (b || (match g p with | some t => decide (t ≠ s) | none => false)) := by
  refine ⟨fun q t hq => ?_, fun e he => ?_, fun hb e he => ?_, fun hb => ?_⟩
  · by_cases c : q = p
    · rw [if_pos c] at hq
      cases hq
      rw [c]; simp
    · rw [if_neg c] at hq
      exact List.mem_append_left _ (h.mem q t hq)
  · by_cases c : e.2 = p
    · simp [c]
    · simp only [c, if_false]
      rcases List.mem_append.1 he with he | he
      · exact h.all e he
      · simp at he
        rw [he] at c
        exact absurd rfl c
  · rw [Bool.or_eq_false_iff] at hb
    by_cases c : e.2 = p
    · simp only [c, if_true]
      rcases List.mem_append.1 he with he | he
      · have h1 := h.good hb.1 e he
        rw [c] at h1
        have h2 := hb.2
        rw [h1] at h2
        simp at h2
        rw [h2]
      · simp at he
        rw [he]
    · simp only [c, if_false]
      rcases List.mem_append.1 he with he | he
      · exact h.good hb.1 e he
      · simp at he
        rw [he] at c
        exact absurd rfl c
  · rw [Bool.or_eq_true] at hb
    rcases hb with hb | hb
    · obtain ⟨e, he, f, hf, h1, h2⟩ := h.bad hb
      exact ⟨e, List.mem_append_left _ he, f, List.mem_append_left _ hf, h1, h2⟩
    · cases hg : g p with
      | none => rw [hg] at hb; cases hb
      | some t =>
        rw [hg] at hb
        exact ⟨(t, p), List.mem_append_left _ (h.mem p t hg), (s, p), by simp, rfl, by simpa using hb⟩
theorem PtsT.iff {E : List (BA × Pt)} {g : Pt → Option BA} {b : Bool} (h : PtsT E g b) : b = true ↔ ∃ e ∈ E, ∃ f ∈ E, e.2 = f.2 ∧ e.1 ≠ f.1 := by
  refine ⟨h.bad, fun ⟨e, he, f, hf, h1, h2⟩ => ?_⟩
  cases b with
  | true => rfl
  | false =>
    have a1 := h.good rfl e he
    have a2 := h.good rfl f hf
    rw [h1, a2] at a1
    exact absurd (Option.some.inj a1).symm h2
/-- The nodes of the first borders, with their points. -/
def endsL (l : List Ob) (L : List Pr) : List (BA × Pt) := L.flatMap fun p => [(p.1, ptO l p.1), (p.2, ptO l p.2)]
theorem endsL_mem (l : List Ob) (L : List Pr) (e : BA × Pt) : e ∈ endsL l L ↔ (∃ p ∈ L, endP p e.1) ∧ e.2 = ptO l e.1 := by
  unfold endsL
  rw [List.mem_flatMap]
  constructor
  · rintro ⟨p, hp, he⟩
    simp at he
    rcases he with rfl | rfl
    · exact ⟨⟨p, hp, .inl rfl⟩, rfl⟩
    · exact ⟨⟨p, hp, .inr rfl⟩, rfl⟩
  · rintro ⟨⟨p, hp, he⟩, h2⟩
    refine ⟨p, hp, ?_⟩
    obtain ⟨e1, e2⟩ := e
    simp only at he h2
    subst h2
    rcases he with rfl | rfl <;> simp
theorem twin_iff (l : List Ob) : twinL l ↔ ∃ e ∈ endsL l (bordersL l), ∃ f ∈ endsL l (bordersL l), e.2 = f.2 ∧ e.1 ≠ f.1 := by
  constructor
  · rintro ⟨p, hp, q, hq, s, t, h1, h2, h3, h4⟩
    exact ⟨(s, ptO l s), (endsL_mem l _ _).2 ⟨⟨p, hp, h1⟩, rfl⟩, (t, ptO l t), (endsL_mem l _ _).2 ⟨⟨q, hq, h2⟩, rfl⟩, h4, h3⟩
  · rintro ⟨e, he, f, hf, h1, h2⟩
    obtain ⟨⟨p, hp, h3⟩, h4⟩ := (endsL_mem l _ _).1 he
    obtain ⟨⟨q, hq, h5⟩, h6⟩ := (endsL_mem l _ _).1 hf
    exact ⟨p, hp, q, hq, e.1, f.1, h3, h5, h2, by rw [← h4, ← h6, h1]⟩
/-- What the nodes of borders are. -/
theorem bordO_node {l : List Ob} {o : Ob} {p : Pr} (h : p ∈ bordO l o) : (o.kind = 2 ∨ o.kind = 3) ∧ p.1 ∈ o.refs ∧ p.2 ∈ o.refs ∧ isNode l p.1 = true ∧ isNode l p.2 = true := by
  unfold bordO at h
  split at h
  · rename_i hc
    rw [sidesO, List.mem_map] at h
    obtain ⟨i, hi, rfl⟩ := h
    rw [List.mem_range] at hi
    have hlen : 0 < o.refs.length ∧ i < o.refs.length := by
      unfold sidesN at hi
      split at hi
      · omega
      · split at hi <;> omega
    have hj := Nat.mod_lt (i + 1) hlen.1
    have m1 : o.refs.getD i ⟨#[]⟩ ∈ o.refs := by
      rw [List.getD_eq_getElem?_getD, List.getElem?_eq_getElem hlen.2]
      exact List.getElem_mem hlen.2
    have m2 : o.refs.getD ((i + 1) % o.refs.length) ⟨#[]⟩ ∈ o.refs := by
      rw [List.getD_eq_getElem?_getD, List.getElem?_eq_getElem hj]
      exact List.getElem_mem hj
    have key : ∀ a b : BA, a ∈ o.refs → b ∈ o.refs → minS a b ∈ o.refs ∧ maxS a b ∈ o.refs := fun a b ha hb => by
      unfold minS maxS
      refine ⟨?_, ?_⟩ <;> split <;> assumption
    obtain ⟨k1, k2⟩ := key _ _ m1 m2
    have ha := List.all_eq_true.1 hc.2
    exact ⟨hc.1, k1, k2, ha _ k1, ha _ k2⟩
  · cases h
theorem borders_node {l : List Ob} {p : Pr} (h : p ∈ bordersL l) : isNode l p.1 = true ∧ isNode l p.2 = true := by
  rw [borders_mem, pairsL, List.mem_flatMap] at h
  obtain ⟨o, _, h⟩ := h
  exact (bordO_node h).2.2.2
theorem node_find {l : List Ob} (hu : uniq l) {s : BA} (h : isNode l s = true) : ∃ o ∈ l, findO l s = some o ∧ o.id = s ∧ o.kind = 1 := by
  rw [find_node hu] at h
  cases e : findO l s with
  | none => rw [e] at h; cases h
  | some o =>
    rw [e] at h
    obtain ⟨h1, h2⟩ := findO_some e
    exact ⟨o, h1, rfl, h2, by simpa using h⟩
theorem node_grid {l : List Ob} (hm : mapB l = true) {s : BA} (h : isNode l s = true) : 0 ≤ (ptO l s).x ∧ (ptO l s).x < 1048576 ∧ 0 ≤ (ptO l s).y ∧ (ptO l s).y < 1048576 := by
  obtain ⟨o, ho, hf, _, hk⟩ := node_find (mapB_uniq hm) h
  have hb := mapB_obs hm o ho
  unfold obB tailB at hb
  rw [if_pos hk] at hb
  simp only [Bool.and_eq_true, gridB, decide_eq_true_eq] at hb
  unfold ptO
  rw [hf]
  exact hb.2.2
instance (p : Pr) (L : List Pr) : Decidable (p ∈ L) := decidable_of_iff (∃ q ∈ L, q = p) ⟨fun ⟨_, h, e⟩ => e ▸ h, fun h => ⟨p, h, rfl⟩⟩
/-- The owners of a border among the first objects. -/
def ownU (l M : List Ob) (p : Pr) : List BA := (M.filter (fun o => decide (p ∈ bordO l o))).map Ob.id
def ownersL (l : List Ob) (p : Pr) : List BA := ownU l l p
theorem ownU_snoc (l M : List Ob) (o : Ob) (p : Pr) : ownU l (M ++ [o]) p = ownU l M p ++ (if p ∈ bordO l o then [o.id] else []) := by
  unfold ownU
  rw [List.filter_append, List.map_append]
  by_cases h : p ∈ bordO l o <;> simp [h]
theorem ownU_mem {l M : List Ob} {p : Pr} {s : BA} : s ∈ ownU l M p ↔ ∃ o ∈ M, p ∈ bordO l o ∧ o.id = s := by
  unfold ownU
  rw [List.mem_map]
  constructor
  · rintro ⟨o, h, rfl⟩
    rw [List.mem_filter] at h
    exact ⟨o, h.1, by simpa using h.2, rfl⟩
  · rintro ⟨o, h1, h2, rfl⟩
    exact ⟨o, List.mem_filter.2 ⟨h1, by simpa using h2⟩, rfl⟩
theorem owners_ne {l : List Ob} {p : Pr} (h : p ∈ bordersL l) : ownersL l p ≠ [] := by
  rw [borders_mem, pairsL, List.mem_flatMap] at h
  obtain ⟨o, ho, h⟩ := h
  intro e
  have : o.id ∈ ownersL l p := ownU_mem.2 ⟨o, ho, h, rfl⟩
  rw [e] at this
  cases this
theorem borders_own {l : List Ob} {p : Pr} : p ∈ bordersL l ↔ ownersL l p ≠ [] := by
  refine ⟨owners_ne, fun h => ?_⟩
  obtain ⟨s, hs⟩ := List.exists_mem_of_ne_nil _ h
  obtain ⟨o, h1, h2, _⟩ := ownU_mem.1 hs
  rw [borders_mem, pairsL, List.mem_flatMap]
  exact ⟨o, h1, h2⟩
theorem normP_symm (s t : BA) : normP (s, t) = normP (t, s) := by
  unfold normP minS maxS
  simp only
  by_cases e : s = t
  · subst e; rfl
  · cases h : ltB s t with
    | true => rw [show ltB t s = false from (less_asymm h).1]; rfl
    | false => rw [ltB_tri h e]; rfl
/-- The pairs of texts that are noted. -/
def notedL (l : List Ob) (q : Pr) : Prop :=
  (∃ p ∈ bordersL l, ∃ p' ∈ bordersL l, ∃ s t, endP p s ∧ endP p' t ∧ s ≠ t ∧ ptO l s = ptO l t ∧ q = normP (s, t)) ∨
  ∃ (i k : Nat) (a b : Pr), i < k ∧ (bordersL l)[i]? = some a ∧ (bordersL l)[k]? = some b ∧ meets (segO l a) (segO l b) ≠ 0 ∧ ¬ (meets (segO l a) (segO l b) = 1 ∧ comP a b) ∧ ∃ x ∈ ownersL l a, ∃ y ∈ ownersL l b, q = normP (x, y)
theorem noted_bad (l : List Ob) : (∃ q, notedL l q) ↔ badC l := by
  constructor
  · rintro ⟨q, ⟨p, hp, p', hp', s, t, h1, h2, h3, h4, _⟩ | ⟨i, k, a, b, h1, h2, h3, h4, h5, _⟩⟩
    · exact .inl ⟨p, hp, p', hp', s, t, h1, h2, h3, h4⟩
    · exact .inr ⟨i, k, a, b, h1, h2, h3, h4, h5⟩
  · rintro (⟨p, hp, p', hp', s, t, h1, h2, h3, h4⟩ | ⟨i, k, a, b, h1, h2, h3, h4, h5⟩)
    · exact ⟨_, .inl ⟨p, hp, p', hp', s, t, h1, h2, h3, h4, rfl⟩⟩
    · obtain ⟨x, hx⟩ := List.exists_mem_of_ne_nil _ (owners_ne (List.mem_of_getElem? h2))
      obtain ⟨y, hy⟩ := List.exists_mem_of_ne_nil _ (owners_ne (List.mem_of_getElem? h3))
      exact ⟨_, .inr ⟨i, k, a, b, h1, h2, h3, h4, h5, x, hx, y, hy, rfl⟩⟩
end Go.Proofs.PlTop

/-! Boxes, and how many nodes a layer of the tree has. No program in sight. -/
namespace Go.Proofs.PlTop
open Go Go.Proofs.PlGeom Go.Proofs.PlLex Go.Proofs.PlNet

structure Bx where
  x0 : Int
  y0 : Int
  x1 : Int
  y1 : Int
deriving DecidableEq
/-- Two boxes have a common point. -/
def meetX (a b : Bx) : Bool := decide (a.x0 ≤ b.x1) && (decide (b.x0 ≤ a.x1) && (decide (a.y0 ≤ b.y1) && decide (b.y0 ≤ a.y1)))
def aroundX (a b : Bx) : Bx := ⟨min a.x0 b.x0, min a.y0 b.y0, max a.x1 b.x1, max a.y1 b.y1⟩
/-- A box is within another one. -/
def within (a b : Bx) : Prop := b.x0 ≤ a.x0 ∧ b.y0 ≤ a.y0 ∧ a.x1 ≤ b.x1 ∧ a.y1 ≤ b.y1
theorem within_refl (a : Bx) : within a a := ⟨Int.le_refl _, Int.le_refl _, Int.le_refl _, Int.le_refl _⟩
theorem within_trans {a b c : Bx} (h1 : within a b) (h2 : within b c) : within a c := by
  unfold within at *; omega
theorem within_left (a b : Bx) : within a (aroundX a b) := by
  unfold within aroundX; simp only; omega
theorem within_right (a b : Bx) : within b (aroundX a b) := by
  unfold within aroundX; simp only; omega
theorem within_meet {a b q : Bx} (h : within a b) (hm : meetX a q = true) : meetX b q = true := by
  unfold within at h
  unfold meetX at *
  simp only [Bool.and_eq_true, decide_eq_true_eq] at *
  omega
/-- A box is of a moderate size. -/
def okX (b : Bx) : Prop := -2097152 ≤ b.x0 ∧ b.x0 ≤ b.x1 ∧ b.x1 ≤ 2097152 ∧ -2097152 ≤ b.y0 ∧ b.y0 ≤ b.y1 ∧ b.y1 ≤ 2097152
theorem okX_around {a b : Bx} (ha : okX a) (hb : okX b) : okX (aroundX a b) := by
  unfold okX aroundX at *; simp only at *; omega
def aroundL (b : Bx) (l : List Bx) : Bx := l.foldl aroundX b
theorem aroundL_base (b : Bx) (l : List Bx) : within b (aroundL b l) := by
  induction l generalizing b with
  | nil => exact within_refl b
  | cons c l ih => exact within_trans (within_left b c) (ih (aroundX b c))
theorem aroundL_mem (b : Bx) (l : List Bx) : ∀ c ∈ l, within c (aroundL b l) := by
  induction l generalizing b with
  | nil => intro c h; cases h
  | cons d l ih =>
    intro c hc
    rcases List.mem_cons.1 hc with rfl | hc
    · exact within_trans (within_right b c) (aroundL_base _ l)
    · exact ih _ c hc
theorem aroundL_ok (b : Bx) (l : List Bx) (hb : okX b) (hl : ∀ c ∈ l, okX c) : okX (aroundL b l) := by
  induction l generalizing b with
  | nil => exact hb
  | cons c l ih => exact ih _ (okX_around hb (hl c (List.mem_cons_self ..))) (fun d hd => hl d (List.mem_cons_of_mem _ hd))
theorem aroundL_snoc (b : Bx) (l : List Bx) (c : Bx) : aroundL b (l ++ [c]) = aroundX (aroundL b l) c := by simp [aroundL]
/-- A leaf: a box and its text. -/
abbrev Lf := Bx × BA
/-- The texts of the leaves that meet a box. -/
def hitL (q : Bx) (l : List Lf) : List BA := (l.filter (fun x => meetX x.1 q)).map (·.2)
theorem hitL_app (q : Bx) (l m : List Lf) : hitL q (l ++ m) = hitL q l ++ hitL q m := by simp [hitL]
theorem hitL_none {q b : Bx} {l : List Lf} (h : ∀ x ∈ l, within x.1 b) (hm : meetX b q = false) : hitL q l = [] := by
  unfold hitL
  rw [List.map_eq_nil_iff, List.filter_eq_nil_iff]
  intro x hx e
  rw [within_meet (h x hx) e] at hm
  cases hm
theorem hitL_mem (q : Bx) (l : List Lf) (s : BA) : s ∈ hitL q l ↔ ∃ b, (b, s) ∈ l ∧ meetX b q = true := by
  unfold hitL
  rw [List.mem_map]
  constructor
  · rintro ⟨⟨b, t⟩, h, rfl⟩
    rw [List.mem_filter] at h
    exact ⟨b, h.1, h.2⟩
  · rintro ⟨b, h1, h2⟩
    exact ⟨(b, s), List.mem_filter.2 ⟨h1, h2⟩, rfl⟩
theorem hitL_perm (q : Bx) {l m : List Lf} (h : l.Perm m) : (hitL q l).Perm (hitL q m) := (h.filter _).map _
theorem hitL_len (q : Bx) (l : List Lf) : (hitL q l).length ≤ l.length := by
  unfold hitL
  rw [List.length_map]
  exact List.length_filter_le _ _
/-- The box of a segment. -/
def boxS (s : Sg) : Bx := ⟨min s.a.x s.b.x, min s.a.y s.b.y, max s.a.x s.b.x, max s.a.y s.b.y⟩
theorem boxS_meet {s t : Sg} (h : meets s t ≠ 0) : meetX (boxS t) (boxS s) = true := by
  have := meets_box h
  unfold boxMeet at this
  unfold meetX boxS
  simp only [Bool.and_eq_true, decide_eq_true_eq]
  omega
/-- How wide a strip is: the first multiple of 8 from k on whose square is enough. -/
def upN (p : Nat) : Nat := (p + 7) / 8
theorem upN_less {n : Nat} (h : 2 ≤ n) : upN n < n := by unfold upN; omega
end Go.Proofs.PlTop

/-! Nodes of the index, parts of a list, how packing goes on. No program in sight. -/
namespace Go.Proofs.PlTop
open Go Go.Proofs.PlGeom Go.Proofs.PlLex Go.Proofs.PlNet

/-- A node: its block, its box, its leaves. -/
structure Nd where
  g : Nat
  bx : Bx
  ls : List Lf
def leavesN (L : List Nd) : List Lf := L.flatMap Nd.ls
theorem leavesN_app (L M : List Nd) : leavesN (L ++ M) = leavesN L ++ leavesN M := by simp [leavesN]
theorem leavesN_perm {L M : List Nd} (h : L.Perm M) : (leavesN L).Perm (leavesN M) := h.flatMap_right _
section
variable {α : Type}
/-- A part of a list. -/
def subL (l : List α) (o m : Nat) : List α := (l.drop o).take m
/-- A list with a part replaced. -/
def putS (l : List α) (o : Nat) (c : List α) : List α := l.take o ++ (c ++ l.drop (o + c.length))
theorem subL_len (l : List α) {o m : Nat} (h : o + m ≤ l.length) : (subL l o m).length = m := by
  unfold subL
  rw [List.length_take, List.length_drop]
  omega
theorem subL_get (l : List α) {o m i : Nat} (h : i < m) : (subL l o m)[i]? = l[o + i]? := by
  unfold subL
  rw [List.getElem?_take_of_lt h, List.getElem?_drop]
theorem subL_split (l : List α) (o m : Nat) : l = l.take o ++ (subL l o m ++ l.drop (o + m)) := by
  unfold subL
  rw [← List.drop_drop, List.take_append_drop, List.take_append_drop]
theorem take_sub (l : List α) (o m : Nat) : l.take (o + m) = l.take o ++ subL l o m := by
  unfold subL
  rw [List.take_add]
theorem putS_len (l : List α) (o : Nat) (c : List α) (h : o + c.length ≤ l.length) : (putS l o c).length = l.length := by
  unfold putS
  rw [List.length_append, List.length_append, List.length_take, List.length_drop]
  omega
theorem putS_perm (l : List α) {o m : Nat} {c : List α} (h : o + m ≤ l.length) (hc : c.Perm (subL l o m)) : (putS l o c).Perm l := by
  have hl := hc.length_eq
  rw [subL_len l h] at hl
  unfold putS
  rw [hl]
  have := (hc.append_right (l.drop (o + m))).append_left (l.take o)
  rw [← subL_split] at this
  exact this
theorem putS_take (l : List α) (o : Nat) (c : List α) (h : o ≤ l.length) : (putS l o c).take o = l.take o := by
  unfold putS
  rw [List.take_append_of_le_length (by rw [List.length_take]; omega), List.take_take, Nat.min_self]
theorem putS_sub (l : List α) (o : Nat) (c : List α) (h : o ≤ l.length) : subL (putS l o c) o c.length = c := by
  unfold subL putS
  rw [List.drop_append_of_le_length (by rw [List.length_take]; omega)]
  rw [show (l.take o).drop o = [] from List.drop_eq_nil_of_le (by rw [List.length_take]; omega), List.nil_append]
  rw [List.take_append_of_le_length (Nat.le_refl _), List.take_length]
theorem putS_mem {l : List α} {o : Nat} {c : List α} {x : α} (h : x ∈ putS l o c) : x ∈ l ∨ x ∈ c := by
  unfold putS at h
  rcases List.mem_append.1 h with h | h
  · exact .inl (List.mem_of_mem_take h)
  · rcases List.mem_append.1 h with h | h
    · exact .inr h
    · exact .inl (List.mem_of_mem_drop h)
end
/-- How many parts of a width a list has. -/
def cntC (n m : Nat) : Nat := (m + n - 1) / n
theorem cntC_lt {n m j : Nat} (hn : 1 ≤ n) : j < cntC n m ↔ j * n < m := by
  unfold cntC
  rw [Nat.lt_iff_add_one_le, Nat.le_div_iff_mul_le (by omega), Nat.succ_mul]
  omega
/-- Numbers that come in order. -/
def Good (pre : List Nat) : Prop := pre = List.range pre.length
theorem good_nil : Good [] := rfl
theorem good_snoc {pre : List Nat} {x : Nat} (h : Good (pre ++ [x])) : Good pre ∧ x = pre.length := by
  unfold Good at *
  rw [List.length_append, List.length_singleton, List.range_succ] at h
  obtain ⟨h1, h2⟩ := List.append_inj h (by simp)
  exact ⟨h1, by simpa using h2⟩
theorem good_range (n : Nat) : Good (List.range n) := by unfold Good; rw [List.length_range]
/-- The strips behind k rounds. -/
structure StripR (L N : List Nd) (s k : Nat) : Prop where
  ls : (leavesN N).Perm (leavesN (L.take (k * s)))
  len : N.length = upN (min (k * s) L.length)
theorem stripR_zero (L : List Nd) (s : Nat) : StripR L [] s 0 := ⟨by simp [leavesN], by simp [upN]⟩
theorem stripR_step {L N M C : List Nd} {s t k : Nat} (h : StripR L N s k) (hs : s = 8 * t) (hk : k * s < L.length) (hC : C.length = min s (L.length - k * s)) (hl : leavesN M = leavesN C) (hm : M.length = upN C.length) : StripR (putS L (k * s) C) (N ++ M) s (k + 1) := by
  have hle : k * s + C.length ≤ L.length := by omega
  have hlen := putS_len L (k * s) C hle
  have htk : (putS L (k * s) C).take ((k + 1) * s) = L.take (k * s) ++ C := by
    rw [Nat.succ_mul, take_sub, putS_take L _ C (by omega)]
    congr 1
    have h1 := putS_sub L (k * s) C (by omega)
    by_cases e : C.length = s
    · rw [e] at h1; exact h1
    · have h2 : (putS L (k * s) C).length = k * s + C.length := by omega
      unfold subL at *
      rw [List.take_of_length_le (by rw [List.length_drop]; omega)] at h1 ⊢
      exact h1
  refine ⟨?_, ?_⟩
  · rw [htk, leavesN_app, leavesN_app, hl]
    exact h.ls.append_right _
  · rw [List.length_append, h.len, hm, hlen, Nat.succ_mul]
    obtain ⟨q, hq⟩ : ∃ q, k * s = 8 * q := ⟨k * t, by rw [hs]; grind⟩
    rw [hq] at hC hk hle ⊢
    unfold upN
    have : t * 8 = s := by omega
    omega
theorem stripR_end {L N : List Nd} {s : Nat} (h1 : 1 ≤ s) (h : StripR L N s (cntC s L.length)) : (leavesN N).Perm (leavesN L) ∧ N.length = upN L.length := by
  have hge : L.length ≤ cntC s L.length * s := by
    rcases Nat.lt_or_ge (cntC s L.length * s) L.length with h2 | h2
    · exact absurd ((cntC_lt h1).2 h2) (Nat.lt_irrefl _)
    · exact h2
  refine ⟨?_, ?_⟩
  · have := h.ls
    rw [List.take_of_length_le hge] at this
    exact this
  · rw [h.len, Nat.min_eq_right hge]
/-- The parts of a strip behind k rounds. -/
structure PartR (C M : List Nd) (k : Nat) : Prop where
  ls : leavesN M = leavesN (C.take (k * 8))
  len : M.length = k
theorem partR_zero (C : List Nd) : PartR C [] 0 := ⟨by simp [leavesN], rfl⟩
theorem partR_step {C M : List Nd} {k : Nat} {x : Nd} (h : PartR C M k) (hx : x.ls = leavesN (subL C (k * 8) 8)) : PartR C (M ++ [x]) (k + 1) := by
  refine ⟨?_, by simp [h.len]⟩
  rw [Nat.succ_mul, take_sub, leavesN_app, leavesN_app, h.ls]
  congr 1
  simp [leavesN, hx]
theorem partR_end {C M : List Nd} (h : PartR C M (cntC 8 C.length)) : leavesN M = leavesN C ∧ M.length = upN C.length := by
  have hge : C.length ≤ cntC 8 C.length * 8 := by unfold cntC; omega
  refine ⟨?_, ?_⟩
  · have := h.ls
    rw [List.take_of_length_le hge] at this
    exact this
  · rw [h.len]; unfold cntC upN; omega
end Go.Proofs.PlTop

/-! Ranging over maps in memory that are lists of pairs (from wip/net). No program in sight. -/

/-! Ranging over maps in memory that are lists of pairs. -/
namespace Go.Proofs.PlMap
open Go Go.Maps Go.ChangeMaps
open Go.WideElems (Fit rd rg pl rd_val rd_key rg_of)

section
variable {P : Program} {k : TypeId} {K : Type} [DecidableEq K]
/-- 'for k, v := range m' under way: what is still to come. -/
structure RangeL (B : KeyBy P k K) (w : World) (b r : Nat) (l : List (K × Value)) (left : K → Bool) (cnt : Nat) : Prop where
  own : ∃ D lf, w.ranges P k hv b r l.length D lf cnt ∧ Maps.size D = l.length ∧ (∀ x, B.ok x → Maps.has D (B.lit x) = (getL l x).isSome) ∧ (∀ x, B.ok x → ∀ v, getL l x = some v → ∀ z, D.atKey (B.lit x) z = .held v) ∧ (∀ q, Maps.has D q = true → ∃ p ∈ l, q = B.lit p.1) ∧ (∀ x, B.ok x → lf (B.lit x) = left x)
  okk : ∀ p ∈ l, B.ok p.1
theorem RangeL.map {B : KeyBy P k K} {w : World} {b r : Nat} {l : List (K × Value)} {left : K → Bool} {cnt : Nat} (h : RangeL B w b r l left cnt) : MapL B w b l := by
  obtain ⟨⟨D, lf, h1, h2, h3, h4, h5, _⟩, h6⟩ := h
  exact ⟨⟨D, h1.owns, h2, h3, h4, h5⟩, h6⟩
theorem RangeL.kept {B : KeyBy P k K} {w w' : World} {row : Option Nat} {b r : Nat} {l : List (K × Value)} {left : K → Bool} {cnt : Nat} (h : RangeL B w b r l left cnt) (hg : w.grownBy w' row) (h1 : some b ≠ row) (h2 : some r ≠ row) : RangeL B w' b r l left cnt := by
  obtain ⟨⟨D, lf, h3, h4⟩, h6⟩ := h
  exact ⟨⟨D, lf, h3.kept hg h1 h2, h4⟩, h6⟩
theorem RangeL.left_eq {B : KeyBy P k K} {w : World} {b r : Nat} {l : List (K × Value)} {left : K → Bool} {cnt : Nat} (h : RangeL B w b r l left cnt) : w.rangeLeft b r = cnt := by
  obtain ⟨⟨D, lf, h3, h4⟩, h6⟩ := h
  exact h3.left_eq
theorem RangeL.lt {B : KeyBy P k K} {w : World} {b r : Nat} {l : List (K × Value)} {left : K → Bool} {cnt : Nat} (h : RangeL B w b r l left cnt) : r < w.heap.size := by
  obtain ⟨⟨D, lf, h3, h4⟩, h6⟩ := h
  exact h3.lt
theorem MapL.range {B : KeyBy P k K} {w : World} {b : Nat} {l : List (K × Value)} (h : MapL B w b l) {t e : TypeId} (ht : P.underlying t = some (.map k e)) :
    ∃ w', (Instr.range t (.map (some b))).run P w = .ok (.pointer (some ⟨w.heap.size, 0, none⟩)) w' ∧ RangeL B w' b w.heap.size l (fun x => (getL l x).isSome) l.length ∧ w.grownBy w' none ∧ w'.heap.size = w.heap.size + 1 := by
  obtain ⟨⟨D, h1, h2, h3, h4, h5⟩, h6⟩ := h
  obtain ⟨w', e1, e2, e3, e4⟩ := h1.range B.keyed ht
  rw [h2] at e2
  exact ⟨w', e1, ⟨⟨D, _, e2, h2, h3, h4, h5, h3⟩, h6⟩, e3, e4⟩
theorem left_has {w : World} {b r n : Nat} {D : DataW Value} {lf : Lit → Bool} {cnt : Nat} (KK : Keyed P k) (h : w.ranges P k hv b r n D lf cnt) {q : Lit} (hq : lf q = true) : Maps.has D q = true := by
  obtain ⟨es, clock, since, seen, c0, hb, F, hs, rfl, hr, hold, hc, hl1, hl2, _⟩ := h
  obtain ⟨x, hx, rfl⟩ := hl2 q hq
  obtain ⟨y, hy⟩ := F.reads x hx
  exact List.any_eq_true.2 ⟨rg P k hv x, mem_sorted.2 (List.mem_map.2 ⟨x, hx, rfl⟩), WideAt.sameKey_self (by rw [rg_of hy]; exact KK.key (rd_key hy))⟩
theorem RangeL.next {B : KeyBy P k K} {w : World} {b r : Nat} {l : List (K × Value)} {left : K → Bool} {cnt : Nat} (h : RangeL B w b r l left cnt) :
    (cnt = 0 ∧ (∀ x, B.ok x → left x = false) ∧ ∀ ty, (Instr.next (.pointer (some ⟨r, 0, none⟩)) false ty).run P w = .ok (.tuple #[.bool false]) w) ∨
    ∃ x v w' cnt', B.ok x ∧ left x = true ∧ getL l x = some v ∧ (∀ ty, (Instr.next (.pointer (some ⟨r, 0, none⟩)) false ty).run P w = .ok (.tuple #[.bool true, B.val x, v]) w') ∧
      RangeL B w' b r l (fun y => left y && !decide (y = x)) cnt' ∧ cnt' < cnt ∧ w.grownBy w' (some r) ∧ w'.heap.size = w.heap.size ∧ (Instr.entry (.pointer (some ⟨r, 0, none⟩))).run P w' = .ok (.tuple #[B.val x, v]) w' := by
  obtain ⟨⟨D, lf, h1, h2, h3, h4, h5, h7⟩, h6⟩ := h
  -- one law for every type: the type plays no part
  have key : ∀ ty ty', (Instr.next (.pointer (some ⟨r, 0, none⟩)) false ty).run P w = (Instr.next (.pointer (some ⟨r, 0, none⟩)) false ty').run P w := fun ty ty' => rfl
  rcases h1.next B.keyed 0 with ⟨e0, e1, e2⟩ | ⟨key', v, kl, y, w', cnt', k1, k2, k3, k4, k5, k6, k7, k8, k9, k10⟩
  · exact .inl ⟨e0, fun x hx => by rw [← h7 x hx]; exact e1 _, fun ty => (key ty 0).trans e2⟩
  · obtain ⟨p, hp, rfl⟩ := h5 kl (left_has B.keyed h1 k2)
    have hok := h6 p hp
    obtain rfl : key' = B.val p.1 := B.keyed.inj k1 (B.key p.1 hok)
    have hy : y.1 = .held v := by
      have : (DataW.held v, []) = y := by simpa [hv] using k3
      rw [← this]
    cases e : getL l p.1 with
    | none => rw [getL_none] at e; exact (e p hp rfl).elim
    | some v' =>
      have hvv : v' = v := by
        have e1 := h4 p.1 hok v' e (.held v)
        rw [k4 (.held v), hy] at e1
        simpa using e1.symm
      subst hvv
      refine .inr ⟨p.1, v', w', cnt', hok, by rw [← h7 _ hok]; exact k2, e, fun ty => (key ty 0).trans k5, ⟨⟨D, _, k6, h2, h3, h4, h5, fun x hx => ?_⟩, h6⟩, k7, k8, k9, k10⟩
      rw [h7 x hx]
      congr 1
      by_cases ex : x = p.1
      · subst ex
        rw [WideAt.sameKey_self (lit_key hok)]
        simp
      · rw [sameKey_ne (fun e => ex (B.inj x p.1 hx hok e))]
        simp [ex]
end
end Go.Proofs.PlMap

/-! Keys of maps that are pairs or points; 'm[k] = f(m[k])' on a map in memory. No program in sight. -/
namespace Go.Proofs.PlMap
open Go Go.Maps Go.ChangeMaps Go.Proofs.PlNet Go.Proofs.PlTop Go.Proofs.PlGeom

section
variable {P : Program} {k : TypeId} {K : Type} [DecidableEq K]
/-- An element is taken and, later, put back: what 'm[k] = append(m[k], x)' does. -/
theorem MapL.entry {B : KeyBy P k K} {w : World} {b : Nat} {l : List (K × Value)} (h : MapL B w b l) (KL : WideMaps.KeyLaw P k) {t e : TypeId} (ht : P.underlying t = some (.map k e)) {z : Value} (hz : ∀ w : World, (zeroValue e).run P w = .ok z w) (hn : l.length < maxLen) {x : K} (hx : B.ok x) :
    ∃ (st : Nat) (w1 : World), (Instr.mapEntry t (.map (some b)) (B.val x)).run P w = .ok (.tuple #[(getL l x).getD z, goInt st]) w1 ∧ w.grownBy w1 (some b) ∧ w1.heap.size = w.heap.size ∧ w1.drawn = w.drawn ∧ (∃ es c, w1.heap[b]? = some (.map es c)) ∧
      ∀ (w2 : World) (v : Value), w2.heap[b]? = w1.heap[b]? → ∃ w3, (Instr.entryStore t (.map (some b)) (goInt st) v).run P w2 = .ok () w3 ∧ MapL B w3 b (putL l x v) ∧ w2.grownBy w3 (some b) ∧ w3.heap.size = w2.heap.size := by
  obtain ⟨w', hup, hml, _⟩ := h.store ht hn hx (.bool false)
  obtain ⟨D, h1, _⟩ := id h.own
  obtain ⟨es, clock, hb, hF, _⟩ := id h1
  obtain ⟨v0, st, es1, clock1, hrun, hv0, hback⟩ := WideElems.entry_then_store KL ht hz hb hF (B.key x hx)
  have hlk := h.look ht hz hx
  have hbl : b < w.heap.size := (Array.getElem?_eq_some_iff.1 hb).1
  have hs : ∀ (u : World) (o o' : Obj), u.heap[b]? = some o → u.grownBy (setBlock u b o') (some b) ∧ (setBlock u b o').heap.size = u.heap.size ∧ (setBlock u b o').heap[b]? = some o' := fun u o o' hu => by
    have hbu : b < u.heap.size := (Array.getElem?_eq_some_iff.1 hu).1
    refine ⟨⟨rfl, rfl, rfl, by simp [setBlock], fun i hi hne => ?_⟩, by simp [setBlock], by simp [setBlock, hbu]⟩
    have : ¬ b = i := fun e => hne (by rw [e])
    simp [setBlock, this]
  obtain ⟨g1, s1, b1⟩ := hs w _ (.map es1 clock1) hb
  have hv : v0 = (getL l x).getD z := by
    rcases KL.find w (B.key x hx) es.toList hF.keys with ⟨f1, f2⟩ | ⟨j, e0, f1, f2, f3⟩
    · have e1 : (Instr.lookup t (.map (some b)) (B.val x) false).run P w = .ok z w := by simp [Instr.lookup, run_underlying ht, MapKept.run_getObj_map hb, KL.check w _ (B.key x hx), f1, hz, Result.andThen]
      rw [hlk] at e1
      injection e1 with e1 _
      rw [e1]
      rcases hv0 with ⟨e0, h5, h6, _⟩ | ⟨_, h5⟩
      · exact absurd h6 (f2 e0 h5)
      · exact h5
    · have hj : es[j]? = some e0 := by simpa using f2
      have e1 : (Instr.lookup t (.map (some b)) (B.val x) false).run P w = .ok e0.val w := by simp [Instr.lookup, run_underlying ht, MapKept.run_getObj_map hb, KL.check w _ (B.key x hx), f1, Result.andThen]
      rw [hlk] at e1
      injection e1 with e1 _
      rw [e1]
      simp [Instr.mapEntry, run_underlying ht, MapKept.run_getObj_map hb, KL.check w _ (B.key x hx), f1, hj, f3, KL.stays w (B.key x hx), MapKept.run_setObj_map _ hb, Result.andThen] at hrun
      exact hrun.1.1.symm
  subst hv
  refine ⟨st, setBlock w b (.map es1 clock1), hrun, g1, s1, rfl, ⟨_, _, b1⟩, fun w2 v hw2 => ?_⟩
  rw [b1] at hw2
  obtain ⟨es', clock', hst, hupd⟩ := hback w2 v hw2
  obtain ⟨w9, hup9, hml9, _⟩ := h.store ht hn hx v
  rw [hupd] at hup9
  cases hup9
  obtain ⟨g2, s2, b2⟩ := hs w2 _ (.map es' clock') hw2
  obtain ⟨_, _, b3⟩ := hs w _ (.map es' clock') hb
  exact ⟨_, hst, hml9.same (b2.trans b3.symm), g2, s2⟩
end
/-- Keys that are pairs of texts. -/
def prV (p : Pr) : Value := .agg #[.string p.1, .string p.2]
def prL (p : Pr) : Lit := .string (keyBytes [.string p.1.data.toList, .string p.2.data.toList])
def okPr (p : Pr) : Prop := p.1.size ≤ 100000 ∧ p.2.size ≤ 100000
def prKeys (P : Program) (k : TypeId) (K : Keyed P k) (hk : ∀ a, okPr a → keyOf P k (prV a) = some (prL a)) : KeyBy P k Pr where
  val := prV
  lit := prL
  ok := okPr
  keyed := K
  key := hk
  inj := fun x y hx hy e => by
    have h1 := hk x hx
    have h2 := hk y hy
    rw [e] at h1
    have := K.inj h1 h2
    unfold prV at this
    simp only [Value.agg.injEq, Array.mk.injEq, List.cons.injEq, Value.string.injEq, and_true] at this
    exact Prod.ext this.1 this.2
/-- Keys that are pairs of numbers (points, pairs of indices). -/
def ptV (p : Pt) : Value := .agg #[.int .i64 p.x, .int .i64 p.y]
def ptL (p : Pt) : Lit := .string (keyBytes [.int .i64 p.x, .int .i64 p.y])
def okPt (p : Pt) : Prop := -4000000000 ≤ p.x ∧ p.x ≤ 4000000000 ∧ -4000000000 ≤ p.y ∧ p.y ≤ 4000000000
def ptKeys (P : Program) (k : TypeId) (K : Keyed P k) (hk : ∀ a, okPt a → keyOf P k (ptV a) = some (ptL a)) : KeyBy P k Pt where
  val := ptV
  lit := ptL
  ok := okPt
  keyed := K
  key := hk
  inj := fun x y hx hy e => by
    have h1 := hk x hx
    have h2 := hk y hy
    rw [e] at h1
    have := K.inj h1 h2
    unfold ptV at this
    simp only [Value.agg.injEq, Array.mk.injEq, List.cons.injEq, Value.int.injEq, true_and, and_true] at this
    cases x; cases y
    simp only at this
    rw [this.1, this.2]
end Go.Proofs.PlMap

/-! Lists of texts at keys, as a map keeps them; the owners of borders, side by side. No program in sight. -/
namespace Go.Proofs.PlTop
open Go Go.Proofs.PlGeom Go.Proofs.PlLex Go.Proofs.PlNet Go.Proofs.PlMap

section
variable {K : Type} [DecidableEq K]
/-- Keys, each with a slice value and what it holds. -/
abbrev Rw (K : Type) := K × (Value × List BA)
structure RowsR (rows : List (Rw K)) (G : K → List BA) : Prop where
  nd : rows.Pairwise (fun x y => x.1 ≠ y.1)
  val : ∀ x ∈ rows, x.2.2 = G x.1
  ne : ∀ x ∈ rows, G x.1 ≠ []
  dom : ∀ p, G p ≠ [] → ∃ x ∈ rows, x.1 = p
def keyed (rows : List (Rw K)) : List (K × Value) := rows.map (fun x => (x.1, x.2.1))
omit [DecidableEq K] in
theorem rowsR_nil : RowsR (K := K) [] (fun _ => []) := ⟨List.Pairwise.nil, fun _ h => (by cases h), fun _ h => (by cases h), fun _ h => absurd rfl h⟩
omit [DecidableEq K] in
theorem RowsR.same {rows : List (Rw K)} {G G' : K → List BA} (h : RowsR rows G) (e : ∀ p, G' p = G p) : RowsR rows G' := by
  have : G' = G := funext e
  rw [this]; exact h
theorem RowsR.look {rows : List (Rw K)} {G : K → List BA} (h : RowsR rows G) (p : K) :
    (G p = [] ∧ getL (keyed rows) p = none) ∨ ∃ pre x post, rows = pre ++ x :: post ∧ x.1 = p ∧ x.2.2 = G p ∧ G p ≠ [] ∧ getL (keyed rows) p = some x.2.1 := by
  by_cases e : G p = []
  · refine .inl ⟨e, getL_none.2 fun q hq he => ?_⟩
    obtain ⟨x, hx, rfl⟩ := List.mem_map.1 hq
    exact h.ne x hx (by rw [show x.1 = p from he]; exact e)
  · obtain ⟨x, hx, hxp⟩ := h.dom p e
    obtain ⟨pre, post, rfl⟩ := List.append_of_mem hx
    refine .inr ⟨pre, x, post, rfl, hxp, by rw [h.val x hx, hxp], e, ?_⟩
    have hpre : ∀ y ∈ pre, y.1 ≠ p := fun y hy => by
      have := (List.pairwise_append.1 h.nd).2.2 y hy x (List.mem_cons_self ..)
      rw [hxp] at this
      exact this
    unfold keyed getL
    rw [List.map_append, List.find?_append]
    have h0 : List.find? (fun q : K × Value => decide (q.1 = p)) (pre.map (fun x => (x.1, x.2.1))) = none := by
      rw [List.find?_eq_none]
      intro q hq
      obtain ⟨y, hy, rfl⟩ := List.mem_map.1 hq
      simpa using hpre y hy
    rw [h0]
    simp [hxp]
theorem RowsR.add {rows : List (Rw K)} {G : K → List BA} (h : RowsR rows G) {p : K} (e : G p = []) (v : Value) (s : BA) :
    RowsR (rows ++ [(p, v, [s])]) (fun q => if q = p then G p ++ [s] else G q) ∧ putL (keyed rows) p v = keyed (rows ++ [(p, v, [s])]) := by
  have hne : ∀ x ∈ rows, x.1 ≠ p := fun x hx he => h.ne x hx (by rw [he]; exact e)
  refine ⟨⟨List.pairwise_append.2 ⟨h.nd, List.pairwise_singleton _ _, fun x hx y hy => ?_⟩, fun x hx => ?_, fun x hx => ?_, fun q hq => ?_⟩, ?_⟩
  · simp at hy
    rw [hy]
    exact hne x hx
  · rcases List.mem_append.1 hx with hx | hx
    · rw [if_neg (hne x hx)]; exact h.val x hx
    · simp at hx
      rw [hx]
      simp [e]
  · rcases List.mem_append.1 hx with hx | hx
    · simp only [if_neg (hne x hx)]; exact h.ne x hx
    · simp at hx
      rw [hx]
      simp
  · by_cases c : q = p
    · exact ⟨(p, v, [s]), by simp, c.symm⟩
    · simp only [if_neg c] at hq
      obtain ⟨x, hx, hxp⟩ := h.dom q hq
      exact ⟨x, List.mem_append_left _ hx, hxp⟩
  · rcases h.look p with ⟨_, h2⟩ | ⟨_, _, _, _, _, _, h3, _⟩
    · rw [putL_new h2]
      simp [keyed]
    · exact absurd e h3
theorem RowsR.set {pre post : List (Rw K)} {x : Rw K} {G : K → List BA} (h : RowsR (pre ++ x :: post) G) {p : K} (e : x.1 = p) (v : Value) (s : BA) :
    RowsR (pre ++ (p, v, G p ++ [s]) :: post) (fun q => if q = p then G p ++ [s] else G q) ∧ putL (keyed (pre ++ x :: post)) p v = keyed (pre ++ (p, v, G p ++ [s]) :: post) := by
  obtain ⟨n1, n2, n3⟩ := List.pairwise_append.1 h.nd
  obtain ⟨n4, n5⟩ := List.pairwise_cons.1 n2
  have hpre : ∀ y ∈ pre, y.1 ≠ p := fun y hy => by have := n3 y hy x (List.mem_cons_self ..); rw [e] at this; exact this
  have hpost : ∀ y ∈ post, y.1 ≠ p := fun y hy he => n4 y hy (by rw [e, he])
  refine ⟨⟨?_, fun y hy => ?_, fun y hy => ?_, fun q hq => ?_⟩, ?_⟩
  · refine List.pairwise_append.2 ⟨n1, List.pairwise_cons.2 ⟨fun y hy => (hpost y hy).symm, n5⟩, fun y hy z hz => ?_⟩
    rcases List.mem_cons.1 hz with rfl | hz
    · exact hpre y hy
    · exact n3 y hy z (List.mem_cons_of_mem _ hz)
  · rcases List.mem_append.1 hy with hy | hy
    · rw [if_neg (hpre y hy)]; exact h.val y (List.mem_append_left _ hy)
    · rcases List.mem_cons.1 hy with rfl | hy
      · simp
      · rw [if_neg (hpost y hy)]; exact h.val y (List.mem_append_right _ (List.mem_cons_of_mem _ hy))
  · rcases List.mem_append.1 hy with hy | hy
    · simp only [if_neg (hpre y hy)]; exact h.ne y (List.mem_append_left _ hy)
    · rcases List.mem_cons.1 hy with rfl | hy
      · simp
      · simp only [if_neg (hpost y hy)]; exact h.ne y (List.mem_append_right _ (List.mem_cons_of_mem _ hy))
  · by_cases c : q = p
    · exact ⟨_, List.mem_append_right _ (List.mem_cons_self ..), c.symm⟩
    · simp only [if_neg c] at hq
      obtain ⟨y, hy, hyp⟩ := h.dom q hq
      rcases List.mem_append.1 hy with hy | hy
      · exact ⟨y, List.mem_append_left _ hy, hyp⟩
      · rcases List.mem_cons.1 hy with rfl | hy
        · exact absurd (hyp.symm.trans e) c
        · exact ⟨y, List.mem_append_right _ (List.mem_cons_of_mem _ hy), hyp⟩
  · have hs : (getL (keyed (pre ++ x :: post)) p).isSome = true := getL_isSome.2 ⟨(x.1, x.2.1), by simp [keyed], e⟩
    unfold putL
    rw [if_pos hs]
    unfold keyed
    have key : ∀ L : List (Rw K), (∀ y ∈ L, y.1 ≠ p) → (L.map (fun x => (x.1, x.2.1))).map (fun q : K × Value => if q.1 = p then (p, v) else q) = L.map (fun x => (x.1, x.2.1)) := fun L hL => by
      rw [List.map_map]
      refine List.map_congr_left fun y hy => ?_
      simp [hL y hy]
    rw [List.map_append, List.map_append, key pre hpre, List.map_cons, List.map_cons, key post hpost, List.map_append, List.map_cons]
    simp [e]
end
/-- The owners at a pair when object o has i sides behind it. -/
def keysO (o : Ob) (i : Nat) : List Pr := (List.range i).map (fun j => normP (sideAt o j))
def ownP (l M : List Ob) (o : Ob) (i : Nat) (p : Pr) : List BA := ownU l M p ++ (if p ∈ keysO o i then [o.id] else [])
theorem keysO_succ (o : Ob) (i : Nat) (p : Pr) : p ∈ keysO o (i + 1) ↔ p ∈ keysO o i ∨ p = normP (sideAt o i) := by
  unfold keysO
  rw [List.range_succ, List.map_append, List.mem_append]
  simp
theorem ownP_zero (l M : List Ob) (o : Ob) (p : Pr) : ownP l M o 0 p = ownU l M p := by simp [ownP, keysO]
theorem ownP_old {l M : List Ob} {o : Ob} {i : Nat} (h : normP (sideAt o i) ∈ keysO o i) (p : Pr) : ownP l M o (i + 1) p = ownP l M o i p := by
  unfold ownP
  congr 1
  by_cases c : p ∈ keysO o i
  · rw [if_pos c, if_pos ((keysO_succ o i p).2 (.inl c))]
  · rw [if_neg c, if_neg (fun hc => ?_)]
    rcases (keysO_succ o i p).1 hc with hc | hc
    · exact c hc
    · rw [hc] at c; exact c h
theorem ownP_new {l M : List Ob} {o : Ob} {i : Nat} (h : normP (sideAt o i) ∉ keysO o i) (p : Pr) : ownP l M o (i + 1) p = if p = normP (sideAt o i) then ownP l M o i (normP (sideAt o i)) ++ [o.id] else ownP l M o i p := by
  by_cases c : p = normP (sideAt o i)
  · rw [if_pos c, c]
    unfold ownP
    rw [if_pos ((keysO_succ o i _).2 (.inr rfl)), if_neg h, List.append_nil]
  · rw [if_neg c]
    unfold ownP
    congr 1
    by_cases c2 : p ∈ keysO o i
    · rw [if_pos c2, if_pos ((keysO_succ o i p).2 (.inl c2))]
    · rw [if_neg c2, if_neg (fun hc => ?_)]
      rcases (keysO_succ o i p).1 hc with hc | hc
      · exact c2 hc
      · exact c hc
theorem ownP_has {l M : List Ob} {o : Ob} (hid : ∀ x ∈ M, x.id ≠ o.id) (i : Nat) (p : Pr) : o.id ∈ ownP l M o i p ↔ p ∈ keysO o i := by
  unfold ownP
  rw [List.mem_append]
  constructor
  · rintro (h | h)
    · obtain ⟨x, h1, _, h2⟩ := ownU_mem.1 h
      exact absurd h2 (hid x h1)
    · split at h
      · rename_i hc; exact hc
      · cases h
  · intro h
    rw [if_pos h]
    exact .inr (by simp)
theorem ownP_all {l M : List Ob} {o : Ob} (h : bordO l o = sidesO o) (p : Pr) : ownP l M o (sidesN o) p = ownU l (M ++ [o]) p := by
  rw [ownU_snoc, h]
  rfl
theorem ownU_none {l M : List Ob} {o : Ob} (h : bordO l o = []) (p : Pr) : ownU l (M ++ [o]) p = ownU l M p := by
  rw [ownU_snoc, h]
  simp
theorem ownU_len (l M : List Ob) (p : Pr) : (ownU l M p).length ≤ M.length := by
  unfold ownU
  rw [List.length_map]
  exact List.length_filter_le _ _
/-- A border with its owners. -/
abbrev Ln := Pr × List BA
def linesL (l : List Ob) : List Ln := (bordersL l).map (fun p => (p, ownersL l p))
/-- The rows, put in order, are the borders with their owners. -/
theorem lines_eq {l : List Ob} {rows : List (Rw Pr)} (h : RowsR rows (ownersL l)) {L : List (Rw Pr)} (hp : L.Perm rows) (hs : L.Pairwise (fun x y => ¬ ltP y.1 x.1)) : L.map (fun x => (x.1, x.2.2)) = linesL l := by
  have h1 : L.map (fun x => (x.1, x.2.2)) = (L.map Prod.fst).map (fun p => (p, ownersL l p)) := by
    rw [List.map_map]
    refine List.map_congr_left fun x hx => ?_
    simp [h.val x (hp.mem_iff.1 hx)]
  rw [h1]
  unfold linesL
  congr 1
  refine borders_eq l _ ?_ (fun p => ?_)
  · rw [List.pairwise_map]
    have hnd : L.Pairwise (fun x y => x.1 ≠ y.1) := (hp.pairwise_iff (fun h e => h e.symm)).2 h.nd
    exact (hs.and hnd).imp (fun ⟨a, b⟩ => by
      rcases Classical.em (ltP _ _) with c | c
      · exact c
      · exact absurd (ltP_tri c (fun e => b e.symm)) a)
  · rw [List.mem_map]
    rw [← borders_mem, borders_own]
    constructor
    · rintro ⟨x, hx, rfl⟩
      exact h.ne x (hp.mem_iff.1 hx)
    · intro hne
      obtain ⟨x, hx, e⟩ := h.dom p hne
      exact ⟨x, hp.mem_iff.2 hx, e⟩
/-- What has been collected from the rows; what is still to come. -/
structure CollR (rows C : List (Rw Pr)) (left : Pr → Bool) : Prop where
  sub : ∀ x ∈ C, x ∈ rows ∧ left x.1 = false
  nd : C.Pairwise (fun x y => x.1 ≠ y.1)
  all : ∀ x ∈ rows, left x.1 = false → x ∈ C
theorem collR_start (rows : List (Rw Pr)) : CollR rows [] (fun p => (getL (keyed rows) p).isSome) :=
  ⟨fun _ h => (by cases h), List.Pairwise.nil, fun x hx h => by
    have : (getL (keyed rows) x.1).isSome = true := getL_isSome.2 ⟨_, List.mem_map.2 ⟨x, hx, rfl⟩, rfl⟩
    rw [this] at h
    cases h⟩
theorem CollR.step {rows C : List (Rw Pr)} {left : Pr → Bool} {G : Pr → List BA} (h : CollR rows C left) (hr : RowsR rows G) {p : Pr} {v : Value} (hl : left p = true) (hg : getL (keyed rows) p = some v) :
    ∃ x, x.1 = p ∧ x.2.1 = v ∧ x ∈ rows ∧ CollR rows (C ++ [x]) (fun y => left y && !decide (y = p)) := by
  rcases hr.look p with ⟨_, h2⟩ | ⟨pre, x, post, rfl, hxp, hx2, _, h3⟩
  · rw [h2] at hg; cases hg
  · rw [h3] at hg
    cases hg
    have hmem : x ∈ pre ++ x :: post := List.mem_append_right _ (List.mem_cons_self ..)
    refine ⟨x, hxp, rfl, hmem, fun y hy => ?_, ?_, fun y hy hly => ?_⟩
    · rcases List.mem_append.1 hy with hy | hy
      · exact ⟨(h.sub y hy).1, by rw [(h.sub y hy).2]; rfl⟩
      · simp at hy
        rw [hy]
        exact ⟨hmem, by rw [hxp]; simp⟩
    · refine List.pairwise_append.2 ⟨h.nd, List.pairwise_singleton _ _, fun y hy z hz e => ?_⟩
      simp at hz
      rw [hz, hxp] at e
      have := (h.sub y hy).2
      rw [e, hl] at this
      cases this
    · by_cases e : y.1 = p
      · obtain ⟨n1, n2, n3⟩ := List.pairwise_append.1 hr.nd
        obtain ⟨n4, n5⟩ := List.pairwise_cons.1 n2
        refine List.mem_append_right _ ?_
        rcases List.mem_append.1 hy with hy | hy
        · exact absurd (e.trans hxp.symm) (n3 y hy x (List.mem_cons_self ..))
        · rcases List.mem_cons.1 hy with rfl | hy
          · simp
          · exact absurd (hxp.trans e.symm) (n4 y hy)
      · rw [decide_eq_false e] at hly
        exact List.mem_append_left _ (h.all y hy (by simpa using hly))
theorem CollR.done {rows C : List (Rw Pr)} {left : Pr → Bool} {G : Pr → List BA} (h : CollR rows C left) (hr : RowsR rows G) (hl : ∀ x ∈ rows, left x.1 = false) : C.Perm rows := by
  have n1 : C.Nodup := h.nd.imp (fun h e => h (by rw [e]))
  have n2 : rows.Nodup := hr.nd.imp (fun h e => h (by rw [e]))
  rw [List.perm_ext_iff_of_nodup n1 n2]
  exact fun x => ⟨fun hx => (h.sub x hx).1, fun hx => h.all x hx (hl x hx)⟩
end Go.Proofs.PlTop

/-! Which pairs are noted, step by step. No program in sight. -/
namespace Go.Proofs.PlTop
open Go Go.Proofs.PlGeom Go.Proofs.PlLex Go.Proofs.PlNet Go.Proofs.PlMap

/-- The nodes at each point, and the pairs noted for them. -/
structure AtI (E : List (BA × Pt)) (G : Pt → List BA) (N : Pr → Prop) : Prop where
  mem : ∀ p s, s ∈ G p ↔ (s, p) ∈ E
  bad : ∀ q, N q ↔ ∃ e ∈ E, ∃ f ∈ E, e.2 = f.2 ∧ e.1 ≠ f.1 ∧ q = normP (e.1, f.1)
theorem AtI.nil : AtI [] (fun _ => []) (fun _ => False) := ⟨fun p s => by simp, fun q => by simp⟩
theorem AtI.old {E : List (BA × Pt)} {G : Pt → List BA} {N : Pr → Prop} (h : AtI E G N) {s : BA} {p : Pt} (hs : s ∈ G p) : AtI (E ++ [(s, p)]) G N := by
  have hin := (h.mem p s).1 hs
  have key : ∀ x, x ∈ E ++ [(s, p)] ↔ x ∈ E := fun x => by
    rw [List.mem_append]
    constructor
    · rintro (hx | hx)
      · exact hx
      · simp at hx; rw [hx]; exact hin
    · exact .inl
  exact ⟨fun q t => by rw [key]; exact h.mem q t, fun q => by simp only [key]; exact h.bad q⟩
theorem AtI.new {E : List (BA × Pt)} {G : Pt → List BA} {N : Pr → Prop} (h : AtI E G N) {s : BA} {p : Pt} (hs : s ∉ G p) : AtI (E ++ [(s, p)]) (fun q => if q = p then G p ++ [s] else G q) (fun q => N q ∨ ∃ o ∈ G p, q = normP (o, s)) := by
  refine ⟨fun q t => ?_, fun q => ?_⟩
  · by_cases e : q = p
    · subst e
      simp only [if_true, List.mem_append, List.mem_singleton, h.mem, Prod.mk.injEq, and_true]
    · simp only [if_neg e, List.mem_append, List.mem_singleton, h.mem, Prod.mk.injEq]
      constructor
      · exact .inl
      · rintro (h1 | ⟨_, h1⟩)
        · exact h1
        · exact absurd h1 e
  · rw [h.bad q]
    constructor
    · rintro (⟨e, he, f, hf, h1⟩ | ⟨o, ho, rfl⟩)
      · exact ⟨e, List.mem_append_left _ he, f, List.mem_append_left _ hf, h1⟩
      · refine ⟨(o, p), List.mem_append_left _ ((h.mem p o).1 ho), (s, p), by simp, rfl, ?_, rfl⟩
        rintro rfl
        exact hs ho
    · rintro ⟨e, he, f, hf, h1, h2, rfl⟩
      rcases List.mem_append.1 he with he' | he'
      · rcases List.mem_append.1 hf with hf' | hf'
        · exact .inl ⟨e, he', f, hf', h1, h2, rfl⟩
        · simp at hf'
          subst hf'
          right
          obtain ⟨e1, e2⟩ := e
          simp only at h1 h2
          subst h1
          exact ⟨e1, (h.mem _ _).2 he', rfl⟩
      · simp at he'
        subst he'
        rcases List.mem_append.1 hf with hf' | hf'
        · right
          obtain ⟨f1, f2⟩ := f
          simp only at h1 h2
          subst h1
          exact ⟨f1, (h.mem _ _).2 hf', by simp only; exact normP_symm _ _⟩
        · simp at hf'
          subst hf'
          exact absurd rfl h2
/-- A map that holds the noted pairs. -/
def BadR (bl : List (Pr × Value)) (N : Pr → Prop) : Prop := ∀ q, (getL bl q).isSome = true ↔ N q
theorem BadR.nil : BadR [] (fun _ => False) := fun q => by simp [getL]
theorem BadR.put {bl : List (Pr × Value)} {N : Pr → Prop} (h : BadR bl N) (p : Pr) (v : Value) : BadR (putL bl p v) (fun q => N q ∨ q = p) := fun q => by
  rw [getL_put]
  by_cases e : q = p
  · simp [e]
  · simp [e, h q]
theorem BadR.same {bl : List (Pr × Value)} {N N' : Pr → Prop} (h : BadR bl N) (e : ∀ q, N' q ↔ N q) : BadR bl N' := fun q => (h q).trans (e q).symm
theorem putL_le (bl : List (Pr × Value)) (p : Pr) (v : Value) : (putL bl p v).length ≤ bl.length + 1 := by
  rw [putL_len]; split <;> omega
/-- The two nodes of a pair, with their points. -/
theorem endsL_snoc (l : List Ob) (L : List Pr) (p : Pr) : endsL l (L ++ [p]) = endsL l L ++ [(p.1, ptO l p.1)] ++ [(p.2, ptO l p.2)] := by simp [endsL]
theorem endsL_len (l : List Ob) (L : List Pr) : (endsL l L).length = 2 * L.length := by
  induction L with
  | nil => rfl
  | cons p L ih =>
    show ([(p.1, ptO l p.1), (p.2, ptO l p.2)] ++ endsL l L).length = _
    rw [List.length_append, ih, List.length_cons]
    simp
    omega
/-- What a meeting makes noted. -/
def badM (l : List Ob) (m : Mt) (q : Pr) : Prop := ∃ a b, (bordersL l)[m.a]? = some a ∧ (bordersL l)[m.b]? = some b ∧ ¬ (m.kind = 1 ∧ comP a b) ∧ ∃ x ∈ ownersL l a, ∃ y ∈ ownersL l b, q = normP (x, y)
theorem noted_iff {l : List Ob} {G : Pt → List BA} {N : Pr → Prop} (h : AtI (endsL l (bordersL l)) G N) (q : Pr) : notedL l q ↔ N q ∨ ∃ m ∈ allP (segsL l), badM l m q := by
  unfold notedL
  rw [h.bad q]
  have hs : ∀ i s, (segsL l)[i]? = some s ↔ ∃ a, (bordersL l)[i]? = some a ∧ segO l a = s := fun i s => by
    unfold segsL
    rw [List.getElem?_map, Option.map_eq_some_iff]
  constructor
  · rintro (⟨p, hp, p', hp', s, t, h1, h2, h3, h4, rfl⟩ | ⟨i, k, a, b, hik, ha, hb, h0, h1, x, hx, y, hy, rfl⟩)
    · exact .inl ⟨(s, ptO l s), (endsL_mem l _ _).2 ⟨⟨p, hp, h1⟩, rfl⟩, (t, ptO l t), (endsL_mem l _ _).2 ⟨⟨p', hp', h2⟩, rfl⟩, h4, h3, rfl⟩
    · exact .inr ⟨⟨i, k, meets (segO l a) (segO l b)⟩, allP_mem.2 ⟨segO l a, segO l b, (hs _ _).2 ⟨a, ha, rfl⟩, (hs _ _).2 ⟨b, hb, rfl⟩, hik, h0, rfl⟩, a, b, ha, hb, h1, x, hx, y, hy, rfl⟩
  · rintro (⟨e, he, f, hf, h1, h2, rfl⟩ | ⟨m, hm, a, b, ha, hb, h1, x, hx, y, hy, rfl⟩)
    · obtain ⟨⟨p, hp, h3⟩, h4⟩ := (endsL_mem l _ _).1 he
      obtain ⟨⟨p', hp', h5⟩, h6⟩ := (endsL_mem l _ _).1 hf
      exact .inl ⟨p, hp, p', hp', e.1, f.1, h3, h5, h2, by rw [← h4, ← h6, h1], rfl⟩
    · obtain ⟨s, t, h2, h3, h4, h5, h6⟩ := allP_mem.1 hm
      obtain ⟨a', ha', rfl⟩ := (hs _ _).1 h2
      obtain ⟨b', hb', rfl⟩ := (hs _ _).1 h3
      rw [ha] at ha'
      rw [hb] at hb'
      cases ha'
      cases hb'
      exact .inr ⟨m.a, m.b, a, b, h4, ha, hb, h5, by rw [← h6]; exact h1, x, hx, y, hy, rfl⟩
/-- Keys that have been collected from a map. -/
structure CollK (bl : List (Pr × Value)) (C : List Pr) (left : Pr → Bool) : Prop where
  sub : ∀ x ∈ C, (getL bl x).isSome = true ∧ left x = false
  nd : C.Nodup
  all : ∀ x, (getL bl x).isSome = true → left x = false → x ∈ C
theorem collK_start (bl : List (Pr × Value)) : CollK bl [] (fun p => (getL bl p).isSome) := ⟨fun _ h => (by cases h), List.nodup_nil, fun x h1 h2 => by rw [h1] at h2; cases h2⟩
theorem CollK.step {bl : List (Pr × Value)} {C : List Pr} {left : Pr → Bool} (h : CollK bl C left) {p : Pr} {v : Value} (hl : left p = true) (hg : getL bl p = some v) : CollK bl (C ++ [p]) (fun y => left y && !decide (y = p)) := by
  refine ⟨fun x hx => ?_, ?_, fun x h1 h2 => ?_⟩
  · rcases List.mem_append.1 hx with hx | hx
    · obtain ⟨h1, h2⟩ := h.sub x hx
      exact ⟨h1, by rw [h2]; rfl⟩
    · simp at hx
      subst hx
      exact ⟨by rw [hg]; rfl, by simp⟩
  · rw [List.nodup_append]
    refine ⟨h.nd, by simp, fun x hx y hy e => ?_⟩
    simp at hy
    rw [hy] at e
    have := (h.sub x hx).2
    rw [e, hl] at this
    cases this
  · by_cases e : x = p
    · rw [e]; simp
    · rw [decide_eq_false e] at h2
      exact List.mem_append_left _ (h.all x h1 (by simpa using h2))
end Go.Proofs.PlTop
namespace Go.Proofs.PlTop
open Go Go.Proofs.PlGeom Go.Proofs.PlLex Go.Proofs.PlNet Go.Proofs.PlMap
/-- One meeting more has been looked at. -/
theorem seen_step {l : List Ob} {N : Pr → Prop} {left : Pt → Bool} {m : Mt} (hm : m ∈ allP (segsL l)) (q : Pr) :
    (N q ∨ ∃ m' ∈ allP (segsL l), (left ⟨(m'.a : Nat), (m'.b : Nat)⟩ && !decide ((⟨(m'.a : Nat), (m'.b : Nat)⟩ : Pt) = ⟨(m.a : Nat), (m.b : Nat)⟩)) = false ∧ badM l m' q) ↔ (N q ∨ ∃ m' ∈ allP (segsL l), left ⟨(m'.a : Nat), (m'.b : Nat)⟩ = false ∧ badM l m' q) ∨ badM l m q := by
  constructor
  · rintro (h | ⟨m', h1, h2, h3⟩)
    · exact .inl (.inl h)
    · by_cases e : (⟨(m'.a : Nat), (m'.b : Nat)⟩ : Pt) = ⟨(m.a : Nat), (m.b : Nat)⟩
      · right
        injection e with e1 e2
        have ea : m'.a = m.a := by omega
        have eb : m'.b = m.b := by omega
        have : m' = m := by
          obtain ⟨s, t, k1, k2, _, _, k3⟩ := allP_mem.1 h1
          obtain ⟨s', t', k1', k2', _, _, k3'⟩ := allP_mem.1 hm
          rw [ea, k1'] at k1
          rw [eb, k2'] at k2
          cases k1
          cases k2
          cases m
          cases m'
          simp only at ea eb k3 k3'
          rw [ea, eb, k3, k3']
        rw [← this]
        exact h3
      · rw [decide_eq_false e] at h2
        exact .inl (.inr ⟨m', h1, by simpa using h2, h3⟩)
  · rintro ((h | ⟨m', h1, h2, h3⟩) | h)
    · exact .inl h
    · exact .inr ⟨m', h1, by rw [h2]; rfl, h3⟩
    · exact .inr ⟨m, hm, by simp, h⟩
end Go.Proofs.PlTop

/-! A region that draws its order, in which most operations only read: what they read holds in every world between. -/
namespace Go.Proofs.PlTop
open Go
section
variable {P : Program} {ops : Array Oper} {Q : Exit → Act → World → Prop} {md : Region.Mode}

/-- An operation that yields in every world of a kind. -/
def YieldsM (M : World → Prop) (P : Program) (ops : Array Oper) (o : Oper) (v : Value) (a : Act) : Prop :=
  (Region.wanted o (yielded ops a.tmps) = true ∧ ∀ w, M w → (execOp a.eval o).run P w = .ok (.value v) w) ∨
  (Region.wanted o (yielded ops a.tmps) = false ∧ v = undef)
theorem YieldsM.wpOp {M : World → Prop} {i : Nat} {o : Oper} {v : Value} {a : Act} (hi : ops[i]? = some o) (hy : YieldsM M P ops o v a)
    {K : Act → World → Prop} {w : World} (hm : M w) (h : K (a.put o.dst v) w) : wpOp P ops Q i K a w := by
  unfold Go.wpOp
  simp only [hi]
  rcases hy with ⟨hw, hv⟩ | ⟨hw, rfl⟩
  · simp only [hw, if_true, Oper.wp, hv w hm, Oper.upon]; exact .inl h
  · simp only [hw, Bool.false_eq_true, if_false]; exact h
theorem YieldsM.of_same {M : World → Prop} {o : Oper} {v : Value} {a a' : Act} (hy : YieldsM M P ops o v a) (he : execOp a'.eval o = execOp a.eval o)
    (hw : Region.wanted o (yielded ops a'.tmps) = Region.wanted o (yielded ops a.tmps)) : YieldsM M P ops o v a' := by
  unfold YieldsM at *
  rw [he, hw]
  exact hy
theorem wpOp_putM {M : World → Prop} {j : Nat} {oi oj : Oper} {v : Value} (hj : ops[j]? = some oj) (hap : oi.apart ops oj = true)
    (hsi : ∀ cs b, oi.op ≠ .select cs b) (hsj : ∀ cs b, oj.op ≠ .select cs b)
    (hQ : ∀ c a w, Q (.panic c) (a.put oi.dst v) w → Q (.panic c) a w) {K : Act → World → Prop} {a : Act} {w : World}
    (hy : YieldsM M P ops oi v a) (h : wpOp P ops Q j K (a.put oi.dst v) w) :
    wpOp P ops Q j (fun a' w' => YieldsM M P ops oi v a' ∧ K (a'.put oi.dst v) w') a w := by
  obtain ⟨h1, h2, h3⟩ := Oper.apart_spec hap
  have keep : ∀ (a : Act), YieldsM M P ops oi v a → ∀ u, YieldsM M P ops oi v (a.put oj.dst u) := fun a hy u =>
    hy.of_same (execOp_put oi hsi a oj.dst u h3) (wanted_put oi a oj.dst u h3)
  have keepD : ∀ d, YieldsM M P ops oi v { a with defers := d :: a.defers } := fun d => hy.of_same rfl rfl
  unfold wpOp at *
  simp only [hj] at *
  rw [wanted_put oj a oi.dst v h1] at h
  split
  · rename_i hw
    simp only [hw, if_true] at h
    rcases h with h | ⟨hasks, hlets⟩
    case inr => exact .inr ⟨by unfold Oper.asks at *; rw [execOp_put oj hsj a oi.dst v h1] at hasks; exact hasks, hlets⟩
    refine .inl ?_
    unfold Oper.wp at *
    rw [execOp_put oj hsj a oi.dst v h1] at h
    generalize (execOp a.eval oj).run P w = r at *
    cases r with
    | ok n w' =>
      cases n <;> simp only [Oper.upon] at h ⊢
      case value u => exact ⟨keep a hy u, by rw [← Act.put_comm a v u h2]; exact h⟩
      case skip => exact ⟨keep a hy _, by rw [← Act.put_comm a v undef h2]; exact h⟩
      case defer d =>
        refine ⟨keep _ (keepD d) _, ?_⟩
        rw [← Act.put_comm _ v undef h2, ← Act.put_defers]
        exact h
      case enter f args =>
        refine Calls.mono h fun e w'' he => ?_
        cases e with
        | returned u => exact ⟨keep a hy u, by rw [← Act.put_comm a v u h2]; exact he⟩
        | panicked c => exact hQ _ _ _ he
        | outgrown => exact he
      case row row args => exact Rows.mono h fun u w'' he => ⟨keep a hy u, by rw [← Act.put_comm a v u h2]; exact he⟩
    | halt x w' =>
      cases x <;> simp only [Oper.upon] at h ⊢
      case panic u => exact hQ _ _ _ h
  · rename_i hw
    simp only [hw] at h
    exact ⟨keep a hy _, by rw [← Act.put_comm a v undef h2]; exact h⟩

/-- Every order ends well, and the worlds are of a kind until operation z, the last, has run. -/
def wpAnyM (M : World → Prop) (z : Nat) (P : Program) (md : Region.Mode) (ops : Array Oper) (Q : Exit → Act → World → Prop) : Nat → Array Bool → Act → World → Prop
  | 0, listed, a, w => (listed.getD z true = false → M w) ∧ Region.ready md ops listed = [] ∧ Q .normal a w
  | fuel + 1, listed, a, w => (listed.getD z true = false → M w) ∧ (Region.ready md ops listed = [] → Q .normal a w) ∧
    ∀ i ∈ Region.ready md ops listed, wpOp P ops Q i (wpAnyM M z P md ops Q fuel (listed.setIfInBounds i true)) a w
theorem wpAnyM.mem {M : World → Prop} {z : Nat} {fuel : Nat} {listed : Array Bool} {a : Act} {w : World} (h : wpAnyM M z P md ops Q fuel listed a w) (hz : listed.getD z true = false) : M w := by
  cases fuel with
  | zero => exact h.1 hz
  | succ n => exact h.1 hz
theorem wpAnyM.any {M : World → Prop} {z : Nat} : ∀ {fuel : Nat} {listed : Array Bool} {a : Act} {w : World}, wpAnyM M z P md ops Q fuel listed a w → wpAny P md ops Q fuel listed a w := by
  intro fuel
  induction fuel with
  | zero => intro l a w h; exact ⟨h.2.1, h.2.2⟩
  | succ n ih => intro l a w h; exact ⟨h.2.1, fun i hi => wpOp_mono (fun a w h => ih h) (h.2.2 i hi)⟩
theorem wpAnyM_first {M : World → Prop} {z i : Nat} {oi oz : Oper} {v : Value} (hz : ops[z]? = some oz) (hzi : ∃ e ∈ oz.after, Region.binds md e = true ∧ e.on = i) (hne : z ≠ i) (hi : ops[i]? = some oi) (hsel : ∀ (j : Nat) (o : Oper) cs b, ops[j]? = some o → o.op ≠ .select cs b)
    (hQ : ∀ c a w, Q (.panic c) (a.put oi.dst v) w → Q (.panic c) a w) :
    ∀ (fuel : Nat) (listed : Array Bool) (a : Act) (w : World), listed.getD z true = false →
      (∀ j oj, ops[j]? = some oj → j ≠ i → listed.getD j true = false → (∀ e ∈ oj.after, Region.binds md e = true → e.on ≠ i) → oi.apart ops oj = true) →
      i ∈ Region.ready md ops listed → YieldsM M P ops oi v a →
      wpAnyM M z P md ops Q fuel (listed.setIfInBounds i true) (a.put oi.dst v) w → wpAnyM M z P md ops Q (fuel + 1) listed a w := by
  intro fuel
  induction fuel with
  | zero =>
    intro listed a w hzl _ hr hy H
    have hM : M w := H.mem (by rw [getD_set_ne true (Ne.symm hne)]; exact hzl)
    refine ⟨fun _ => hM, fun h => (by rw [h] at hr; cases hr), fun j hj => ?_⟩
    by_cases hji : j = i
    · subst hji; exact hy.wpOp hi hM H
    · have := ready_mono hj hji
      rw [H.2.1] at this
      cases this
  | succ fuel ih =>
    intro listed a w hzl hfree hr hy H
    have hM : M w := H.mem (by rw [getD_set_ne true (Ne.symm hne)]; exact hzl)
    refine ⟨fun _ => hM, fun h => (by rw [h] at hr; cases hr), fun j hj => ?_⟩
    by_cases hji : j = i
    · subst hji; exact hy.wpOp hi hM H
    · have h1 := H.2.2 j (ready_mono hj hji)
      obtain ⟨hjun, oj, hoj, hall⟩ := mem_ready.1 hj
      have hnot : ∀ e ∈ oj.after, Region.binds md e = true → e.on ≠ i := fun e he hb heq => by
        have h1 := hall e he hb
        have h0 := (mem_ready.1 hr).1
        rw [heq] at h1
        rcases Nat.lt_or_ge i listed.size with h' | h'
        · simp [h'] at h0 h1; rw [h0] at h1; cases h1
        · simp [Array.getElem?_eq_none h'] at h1
      have hjz : j ≠ z := fun e => by
        subst e
        rw [hz] at hoj
        cases hoj
        obtain ⟨e, he, hb, hon⟩ := hzi
        exact hnot e he hb hon
      have h2 := wpOp_putM hoj (hfree j oj hoj hji hjun hnot) (fun cs b => hsel i oi cs b hi) (fun cs b => hsel j oj cs b hoj) hQ hy h1
      have hfree' : ∀ k ok, ops[k]? = some ok → k ≠ i → (listed.setIfInBounds j true).getD k true = false →
          (∀ e ∈ ok.after, Region.binds md e = true → e.on ≠ i) → oi.apart ops ok = true := fun k ok hk hki hun hno => by
        refine hfree k ok hk hki ?_ hno
        by_cases hjk : j = k
        · subst hjk; exact hjun
        · rw [getD_set_ne true hjk] at hun; exact hun
      refine wpOp_mono (fun a' w' h3 => ih (listed.setIfInBounds j true) a' w' (by rw [getD_set_ne true hjz]; exact hzl) hfree' (ready_mono hr (Ne.symm hji)) h3.1 ?_) h2
      rw [Array.setIfInBounds_comm _ _ hji]
      exact h3.2
/-- Operation i binds operation z, by a look at the text. -/
def bindsZ (md : Region.Mode) (ops : Array Oper) (z i : Nat) : Bool := match ops[z]? with
  | none => false
  | some oz => oz.after.any fun e => Region.binds md e && e.on == i
theorem wpAnyM_take {M : World → Prop} {z : Nat} {i : Nat} {oi : Oper} {v : Value} {fuel : Nat} {listed : Array Bool} {a : Act} {w : World} (hi : ops[i]? = some oi)
    (hs : Region.noSelect ops = true) (hf : Region.free md ops listed i = true) (hr : (Region.ready md ops listed).contains i = true)
    (hz : (bindsZ md ops z i && (!listed.getD z true && !(z == i))) = true) (hQ : ∀ c a w, Q (.panic c) (a.put oi.dst v) w → Q (.panic c) a w) (hy : YieldsM M P ops oi v a)
    (h : wpAnyM M z P md ops Q fuel (listed.setIfInBounds i true) (a.put oi.dst v) w) : wpAnyM M z P md ops Q (fuel + 1) listed a w := by
  simp only [Bool.and_eq_true, Bool.not_eq_true', beq_eq_false_iff_ne] at hz
  obtain ⟨h1, h2, h3⟩ := hz
  unfold bindsZ at h1
  cases hoz : ops[z]? with
  | none => rw [hoz] at h1; cases h1
  | some oz =>
    rw [hoz] at h1
    obtain ⟨e, he, hb⟩ := Array.any_eq_true'.1 h1
    simp only [Bool.and_eq_true, beq_iff_eq] at hb
    exact wpAnyM_first hoz ⟨e, he, hb⟩ h3 hi (Region.noSelect_spec hs) hQ fuel listed a w h2 (Region.free_spec hi hf) (by simpa using hr) hy h
/-- Each of the operations that are ready. -/
def AllReadyM (M : World → Prop) (z : Nat) (P : Program) (md : Region.Mode) (ops : Array Oper) (Q : Exit → Act → World → Prop) (fuel : Nat) (listed : Array Bool) (a : Act) (w : World) (rs : List Nat) : Prop :=
  ∀ i ∈ rs, wpOp P ops Q i (wpAnyM M z P md ops Q fuel (listed.setIfInBounds i true)) a w
theorem AllReadyM.nil {M : World → Prop} {z : Nat} {fuel : Nat} {listed : Array Bool} {a : Act} {w : World} : AllReadyM M z P md ops Q fuel listed a w [] := fun _ h => by cases h
theorem AllReadyM.cons {M : World → Prop} {z : Nat} {fuel : Nat} {listed : Array Bool} {a : Act} {w : World} {i : Nat} {o : Oper} {rs : List Nat} (ho : ops[i]? = some o)
    (h : ∀ K' : Act → World → Prop, (∀ a w, wpAnyM M z P md ops Q fuel (listed.setIfInBounds i true) a w → K' a w) → if Region.wanted o (yielded ops a.tmps) = true then Oper.wp P o a w K' Q else K' (a.put o.dst undef) w)
    (hs : AllReadyM M z P md ops Q fuel listed a w rs) : AllReadyM M z P md ops Q fuel listed a w (i :: rs) := fun j hj => by
  rcases List.mem_cons.1 hj with rfl | hj
  · exact wpOp_step ho h
  · exact hs j hj
theorem wpAnyM_ready {M : World → Prop} {z : Nat} {rs : List Nat} {fuel : Nat} {listed : Array Bool} {a : Act} {w : World} (hr : Region.ready md ops listed = rs) (hne : rs ≠ []) (hM : M w)
    (h : AllReadyM M z P md ops Q fuel listed a w rs) : wpAnyM M z P md ops Q (fuel + 1) listed a w := ⟨fun _ => hM, fun h0 => absurd (hr ▸ h0) hne, hr ▸ h⟩
theorem wpAnyM_done {M : World → Prop} {z : Nat} {listed : Array Bool} {a : Act} {w : World} (hz : listed.getD z true = true) (hr : Region.ready md ops listed = []) (h : Q .normal a w) :
    ∀ fuel, wpAnyM M z P md ops Q fuel listed a w
  | 0 => ⟨fun e => (by rw [hz] at e; cases e), hr, h⟩
  | _ + 1 => ⟨fun e => (by rw [hz] at e; cases e), fun _ => h, by rw [hr]; simp⟩
theorem wp_region_anyM {id : Nat} {a : Act} {w : World} (M : World → Prop) (z : Nat) (hm : P.follows .mixedOrders = true)
    (h : wpAnyM M z P .any ops Q ops.size (Array.replicate ops.size false) a w.drew) : (Code.region id ops true).wp P Q a w :=
  wp_region_any hm h.any
end
end Go.Proofs.PlTop

/-! The law of the pairs, step by step. No program in sight. -/
namespace Go.Proofs.PlTop
open Go Go.Proofs.PlGeom Go.Proofs.PlLex Go.Proofs.PlNet Go.Proofs.PlMap

/-- The meeting of two segments, if there is one. -/
def oneM (l : List Sg) (i k : Nat) : Option Mt :=
  match l[i]?, l[k]? with
  | some s, some t => if i < k ∧ meets s t ≠ 0 then some ⟨i, k, meets s t⟩ else none
  | _, _ => none
/-- The meetings of a segment with those before the k-th one. -/
def rowM (l : List Sg) (i k : Nat) : List Mt := (List.range k).filterMap (oneM l i)
/-- The meetings that the law has seen. -/
def preM (l : List Sg) (i k : Nat) : List Mt := (List.range i).flatMap (fun j => rowM l j l.length) ++ rowM l i k
theorem allP_row (l : List Sg) : allP l = (List.range l.length).flatMap (fun j => rowM l j l.length) := rfl
theorem rowM_succ (l : List Sg) (i k : Nat) : rowM l i (k + 1) = rowM l i k ++ (oneM l i k).toList := by
  unfold rowM
  rw [List.range_succ, List.filterMap_append]
  cases h : oneM l i k <;> simp [h]
theorem rowM_low (l : List Sg) (i k : Nat) (h : k ≤ i + 1) : rowM l i k = [] := by
  unfold rowM
  rw [List.filterMap_eq_nil_iff]
  intro j hj
  rw [List.mem_range] at hj
  unfold oneM
  split
  · rw [if_neg (by omega)]
  · rfl
theorem preM_low (l : List Sg) (i k : Nat) (h : k ≤ i + 1) : preM l i k = preM l i 0 := by
  unfold preM
  rw [rowM_low l i k h, rowM_low l i 0 (by omega)]
theorem preM_next (l : List Sg) (i : Nat) : preM l i l.length = preM l (i + 1) 0 := by
  unfold preM
  rw [rowM_low l (i + 1) 0 (by omega), List.append_nil, List.range_succ, List.flatMap_append]
  simp
theorem preM_step (l : List Sg) (i k : Nat) : preM l i (k + 1) = preM l i k ++ (oneM l i k).toList := by
  unfold preM
  rw [rowM_succ, List.append_assoc]
theorem preM_zero (l : List Sg) : preM l 0 0 = [] := rfl
theorem preM_all (l : List Sg) : preM l l.length 0 = allP l := by
  unfold preM
  rw [rowM_low l _ 0 (by omega), List.append_nil, allP_row]
theorem rowM_prefix (l : List Sg) (i : Nat) {k n : Nat} (h : k ≤ n) : rowM l i k <+: rowM l i n := by
  induction n with
  | zero => obtain rfl : k = 0 := by omega
            exact List.prefix_refl _
  | succ n ih =>
    by_cases e : k = n + 1
    · subst e; exact List.prefix_refl _
    · rw [rowM_succ]
      exact (ih (by omega)).trans (List.prefix_append _ _)
theorem preM_row (l : List Sg) (i : Nat) {k : Nat} (h : k ≤ l.length) : preM l i k <+: preM l (i + 1) 0 := by
  rw [← preM_next]
  unfold preM
  exact (List.prefix_append_right_inj _).2 (rowM_prefix l i h)
theorem preM_up (l : List Sg) {i n : Nat} (h : i ≤ n) : preM l i 0 <+: preM l n 0 := by
  induction n with
  | zero => obtain rfl : i = 0 := by omega
            exact List.prefix_refl _
  | succ n ih =>
    by_cases e : i = n + 1
    · subst e; exact List.prefix_refl _
    · exact (ih (by omega)).trans (preM_row l n (Nat.zero_le _))
theorem preM_prefix (l : List Sg) {i k : Nat} (hi : i < l.length) (hk : k ≤ l.length) : preM l i k <+: allP l := by
  rw [← preM_all]
  exact (preM_row l i hk).trans (preM_up l (by omega))
/-- The next meeting stands where the law looks for it. -/
theorem preM_at (l : List Sg) {i k : Nat} {s t : Sg} (hs : l[i]? = some s) (ht : l[k]? = some t) (hik : i < k) (hm : meets s t ≠ 0) :
    (allP l)[(preM l i k).length]? = some ⟨i, k, meets s t⟩ ∧ preM l i (k + 1) = preM l i k ++ [⟨i, k, meets s t⟩] := by
  have h1 := (List.getElem?_eq_some_iff.1 hs).1
  have h2 := (List.getElem?_eq_some_iff.1 ht).1
  have ho : oneM l i k = some ⟨i, k, meets s t⟩ := by
    unfold oneM
    rw [hs, ht]
    exact if_pos ⟨hik, hm⟩
  have hst : preM l i (k + 1) = preM l i k ++ [⟨i, k, meets s t⟩] := by rw [preM_step, ho]; rfl
  refine ⟨?_, hst⟩
  obtain ⟨r, hr⟩ := preM_prefix l h1 (show k + 1 ≤ l.length by omega)
  rw [← hr, hst, List.append_assoc, List.getElem?_append_right (Nat.le_refl _)]
  simp
theorem preM_skip (l : List Sg) {i k : Nat} {s t : Sg} (hs : l[i]? = some s) (ht : l[k]? = some t) (hm : meets s t = 0) : preM l i (k + 1) = preM l i k := by
  have ho : oneM l i k = none := by
    unfold oneM
    rw [hs, ht]
    exact if_neg (fun h => h.2 hm)
  rw [preM_step, ho]
  simp
/-- Does one of some meetings differ from a common end? -/
def oddM (L : List Mt) : Bool := L.any (fun m => decide (m.kind ≠ 1))
theorem oddM_snoc (L : List Mt) (m : Mt) : oddM (L ++ [m]) = (oddM L || decide (m.kind ≠ 1)) := by simp [oddM]
/-- What the law says at its end. -/
theorem bad_end {l : List Ob} {g : Pt → Option BA} {b : Bool} (h : PtsT (endsL l (bordersL l)) g b) : (oddM (allP (segsL l)) || b) = true ↔ badT l := by
  rw [Bool.or_eq_true]
  unfold badT
  rw [twin_iff, ← h.iff, or_comm]
  have hs : ∀ i s, (segsL l)[i]? = some s ↔ ∃ a, (bordersL l)[i]? = some a ∧ segO l a = s := fun i s => by
    unfold segsL
    rw [List.getElem?_map, Option.map_eq_some_iff]
  have key : oddM (allP (segsL l)) = true ↔ ∃ (i k : Nat) (a b : Pr), i < k ∧ (bordersL l)[i]? = some a ∧ (bordersL l)[k]? = some b ∧ meets (segO l a) (segO l b) ≠ 0 ∧ meets (segO l a) (segO l b) ≠ 1 := by
    unfold oddM
    rw [List.any_eq_true]
    constructor
    · rintro ⟨m, hm, hk⟩
      obtain ⟨s, t, h2, h3, h4, h5, h6⟩ := allP_mem.1 hm
      obtain ⟨a, ha, rfl⟩ := (hs _ _).1 h2
      obtain ⟨b, hb, rfl⟩ := (hs _ _).1 h3
      refine ⟨m.a, m.b, a, b, h4, ha, hb, h5, ?_⟩
      rw [← h6]
      simpa using hk
    · rintro ⟨i, k, a, b, hik, ha, hb, h0, h1⟩
      exact ⟨⟨i, k, meets (segO l a) (segO l b)⟩, allP_mem.2 ⟨_, _, (hs _ _).2 ⟨a, ha, rfl⟩, (hs _ _).2 ⟨b, hb, rfl⟩, hik, h0, rfl⟩, by simpa using h1⟩
  rw [key]
end Go.Proofs.PlTop

/-! The boxes of segments by their numbers. No program in sight. -/
namespace Go.Proofs.PlTop
open Go Go.Proofs.PlGeom Go.Proofs.PlLex Go.Proofs.PlNet

section
variable (nm : Nat → BA)
/-- The boxes with their names, from a number on. -/
def ixL : Nat → List Sg → List (BA × Bx)
  | _, [] => []
  | i, s :: r => (nm i, boxS s) :: ixL (i + 1) r
theorem ixL_app (i : Nat) (a b : List Sg) : ixL nm i (a ++ b) = ixL nm i a ++ ixL nm (i + a.length) b := by
  induction a generalizing i with
  | nil => simp [ixL]
  | cons s a ih => simp only [List.cons_append, ixL, ih, List.length_cons]; rw [show i + 1 + a.length = i + (a.length + 1) by omega]
theorem ixL_step {S : List Sg} {k : Nat} {s : Sg} (h : S[k]? = some s) : ixL nm 0 (S.take (k + 1)) = ixL nm 0 (S.take k) ++ [(nm k, boxS s)] := by
  have hk := (List.getElem?_eq_some_iff.1 h).1
  rw [List.take_add_one, h, ixL_app, List.length_take, Nat.min_eq_left (by omega), Nat.zero_add]
  rfl
theorem ixL_len (i : Nat) (S : List Sg) : (ixL nm i S).length = S.length := by
  induction S generalizing i with
  | nil => rfl
  | cons s r ih => simp [ixL, ih]
theorem ixL_mem {i : Nat} {S : List Sg} {x : BA × Bx} (h : x ∈ ixL nm i S) : ∃ j s, S[j]? = some s ∧ x = (nm (i + j), boxS s) := by
  induction S generalizing i with
  | nil => cases h
  | cons s r ih =>
    rcases List.mem_cons.1 h with rfl | h
    · exact ⟨0, s, rfl, rfl⟩
    · obtain ⟨j, t, h1, h2⟩ := ih h
      exact ⟨j + 1, t, by simpa using h1, by rw [h2, show i + 1 + j = i + (j + 1) by omega]⟩
theorem ixL_at {S : List Sg} {k : Nat} {s : Sg} (h : S[k]? = some s) (i : Nat) : (nm (i + k), boxS s) ∈ ixL nm i S := by
  induction S generalizing i k with
  | nil => simp at h
  | cons t r ih =>
    cases k with
    | zero => simp at h; subst h; exact List.mem_cons_self ..
    | succ k =>
      have := ih (by simpa using h) (i + 1)
      rw [show i + 1 + k = i + (k + 1) by omega] at this
      exact List.mem_cons_of_mem _ this
theorem ixL_nd {n : Nat} (hi : ∀ i k, i < n → k < n → nm i = nm k → i = k) : ∀ (S : List Sg) (i : Nat), i + S.length ≤ n → ((ixL nm i S).map Prod.fst).Nodup := by
  intro S
  induction S with
  | nil => intro i _; exact List.nodup_nil
  | cons s r ih =>
    intro i h
    rw [List.length_cons] at h
    simp only [ixL, List.map_cons, List.nodup_cons]
    refine ⟨fun hm => ?_, ih (i + 1) (by omega)⟩
    obtain ⟨x, hx, e⟩ := List.mem_map.1 hm
    obtain ⟨j, t, h1, rfl⟩ := ixL_mem nm hx
    have := (List.getElem?_eq_some_iff.1 h1).1
    have := hi (i + 1 + j) i (by omega) (by omega) e
    omega
theorem ixL_fresh {n : Nat} (hi : ∀ i k, i < n → k < n → nm i = nm k → i = k) {S : List Sg} {k : Nat} (hk : k ≤ S.length) (hn : S.length < n) : ∀ x ∈ ixL nm 0 (S.take k), x.1 ≠ nm k := by
  intro x hx e
  obtain ⟨j, t, h1, rfl⟩ := ixL_mem nm hx
  have := (List.getElem?_eq_some_iff.1 h1).1
  rw [List.length_take] at this
  have := hi (0 + j) k (by omega) (by omega) e
  omega
/-- A segment that meets another one is found by the box of this one. -/
theorem ix_found {S : List Sg} {k : Nat} {s t : Sg} (h : S[k]? = some t) (hm : meets s t ≠ 0) : nm k ∈ hitL (boxS s) ((ixL nm 0 S).map fun x => (x.2, x.1)) := by
  unfold hitL
  have h1 := ixL_at nm h 0
  rw [Nat.zero_add] at h1
  exact List.mem_map.2 ⟨(boxS t, nm k), List.mem_filter.2 ⟨List.mem_map.2 ⟨_, h1, rfl⟩, boxS_meet hm⟩, rfl⟩
end
theorem okX_box {s : Sg} (h : 0 ≤ s.a.x ∧ s.a.x < 1048576 ∧ 0 ≤ s.a.y ∧ s.a.y < 1048576 ∧ 0 ≤ s.b.x ∧ s.b.x < 1048576 ∧ 0 ≤ s.b.y ∧ s.b.y < 1048576) : okX (boxS s) := by
  unfold okX boxS
  simp only
  omega
theorem segs_ok {l : List Ob} (hm : mapB l = true) {s : Sg} (h : s ∈ segsL l) : 0 ≤ s.a.x ∧ s.a.x < 1048576 ∧ 0 ≤ s.a.y ∧ s.a.y < 1048576 ∧ 0 ≤ s.b.x ∧ s.b.x < 1048576 ∧ 0 ≤ s.b.y ∧ s.b.y < 1048576 := by
  obtain ⟨p, hp, rfl⟩ := List.mem_map.1 h
  obtain ⟨n1, n2⟩ := borders_node hp
  have g1 := node_grid hm n1
  have g2 := node_grid hm n2
  exact ⟨g1.1, g1.2.1, g1.2.2.1, g1.2.2.2, g2.1, g2.2.1, g2.2.2.1, g2.2.2.2⟩
end Go.Proofs.PlTop

/-! The example of the law of the pairs: of two ways that cross. No program in sight. -/
namespace Go.Proofs.PlTop
open Go Go.Proofs.PlGeom Go.Proofs.PlLex Go.Proofs.PlNet

def tx (b : UInt8) : BA := ⟨#[b]⟩
def crossO : List Ob := [⟨tx 97, 1, 0, 0, [], []⟩, ⟨tx 98, 1, 4, 4, [], []⟩, ⟨tx 99, 1, 0, 4, [], []⟩, ⟨tx 100, 1, 4, 0, [], []⟩, ⟨tx 118, 2, 0, 0, [tx 97, tx 98], []⟩, ⟨tx 119, 2, 0, 0, [tx 99, tx 100], []⟩]
theorem cross_map : mapB crossO = true := by decide +kernel
theorem cross_borders : bordersL crossO = [(tx 97, tx 98), (tx 99, tx 100)] := by decide +kernel
theorem cross_segs : segsL crossO = [⟨⟨0, 0⟩, ⟨4, 4⟩⟩, ⟨⟨0, 4⟩, ⟨4, 0⟩⟩] := by decide +kernel
theorem cross_all : allP (segsL crossO) = [⟨0, 1, 3⟩] := by rw [cross_segs]; decide +kernel
theorem cross_noted (q : Pr) : notedL crossO q ↔ q = (tx 118, tx 119) := by
  have hb := cross_borders
  have o1 : ownersL crossO (tx 97, tx 98) = [tx 118] := by decide +kernel
  have o2 : ownersL crossO (tx 99, tx 100) = [tx 119] := by decide +kernel
  have n1 : normP (tx 118, tx 119) = (tx 118, tx 119) := by decide +kernel
  have m1 : meets (segO crossO (tx 97, tx 98)) (segO crossO (tx 99, tx 100)) = 3 := by decide +kernel
  constructor
  · rintro (⟨p, hp, p', hp', s, t, h1, h2, h3, h4, _⟩ | ⟨i, k, a, b, hik, ha, hb', h4, h5, x, hx, y, hy, rfl⟩)
    · exfalso
      rw [hb] at hp hp'
      have key : ∀ s ∈ [tx 97, tx 98, tx 99, tx 100], ∀ t ∈ [tx 97, tx 98, tx 99, tx 100], ptO crossO s = ptO crossO t → s = t := by decide +kernel
      have mem : ∀ p ∈ [(tx 97, tx 98), (tx 99, tx 100)], ∀ s, endP p s → s ∈ [tx 97, tx 98, tx 99, tx 100] := by
        intro p hp s hs
        simp only [List.mem_cons, List.not_mem_nil, or_false] at hp ⊢
        unfold endP at hs
        rcases hp with rfl | rfl <;> rcases hs with rfl | rfl <;> simp
      exact h3 (key s (mem p hp s h1) t (mem p' hp' t h2) h4)
    · rw [hb] at ha hb'
      match i, k, hik, ha, hb' with
      | 0, 1, _, ha, hb' =>
        simp at ha hb'
        subst ha hb'
        rw [o1] at hx
        rw [o2] at hy
        simp at hx hy
        rw [hx, hy]
        exact n1
      | 0, k + 2, _, _, hb' => simp at hb'
      | i + 1, 0, h, _, _ => omega
      | i + 1, 1, h, _, _ => omega
      | i + 1, k + 2, _, _, hb' => simp at hb'
  · rintro rfl
    exact .inr ⟨0, 1, _, _, by omega, by rw [hb]; rfl, by rw [hb]; rfl, by rw [m1]; decide, by rw [m1]; simp, tx 118, by rw [o1]; simp, tx 119, by rw [o2]; simp, n1.symm⟩
theorem cross_one {Q : List Pr} (hn : Q.Nodup) (h : ∀ q, q ∈ Q ↔ notedL crossO q) : Q.length = 1 := by
  have hm : ∀ q, q ∈ Q ↔ q = (tx 118, tx 119) := fun q => (h q).trans (cross_noted q)
  match Q, hn, hm with
  | [], _, hm => have := (hm (tx 118, tx 119)).2 rfl; cases this
  | [_], _, _ => rfl
  | a :: b :: r, hn, hm =>
    have e1 := (hm a).1 (by simp)
    have e2 := (hm b).1 (by simp)
    rw [e1, e2] at hn
    simp at hn
theorem cross_hit (f : Nat → BA) : (hitL (boxS ⟨⟨0, 0⟩, ⟨4, 4⟩⟩) [(boxS ⟨⟨0, 0⟩, ⟨4, 4⟩⟩, f 0), (boxS ⟨⟨0, 4⟩, ⟨4, 0⟩⟩, f 1)]) = [f 0, f 1] := by
  have h1 : meetX (boxS ⟨⟨0, 0⟩, ⟨4, 4⟩⟩) (boxS ⟨⟨0, 0⟩, ⟨4, 4⟩⟩) = true := by decide +kernel
  have h2 : meetX (boxS ⟨⟨0, 4⟩, ⟨4, 0⟩⟩) (boxS ⟨⟨0, 0⟩, ⟨4, 4⟩⟩) = true := by decide +kernel
  simp [hitL, h1, h2]
end Go.Proofs.PlTop
