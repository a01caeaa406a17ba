/-
  The plain laws of names (layer 18): the folded form of a string. No program in sight.
-/
import Derived.Test.YtjniicmhndflpaaPlain
import Derived.Lib.FieldsP
import Derived.Lib.MapLaws
import Derived.Lib.Join
import Derived.Lib.Strings
import GoSem.Op.String
namespace Go.Proofs.PlName
open Go.Proofs.PlLex

def lowerB (c : B) : B := if 65 ≤ c && c ≤ 90 then c + 32 else c
def upperB (c : B) : B := if 97 ≤ c && c ≤ 122 then c - 32 else c
/-- What stands between blanks. -/
def pieces : L → L → List L
  | cur, [] => if cur = [] then [] else [cur]
  | cur, c :: l => if isBlank c then (if cur = [] then pieces [] l else cur :: pieces [] l) else pieces (cur ++ [c]) l
def foldL (l : L) : L := (Go.Lib.join (pieces [] l) [32]).map lowerB
/-- The folded form, byte by byte: has it begun, and was there a blank? -/
def foldD : Bool → Bool → L → L
  | _, _, [] => []
  | st, gp, c :: l => if isBlank c then foldD st true l else if st && gp then 32 :: lowerB c :: foldD true false l else lowerB c :: foldD true false l
theorem join_cons (x : L) (r : List L) : Go.Lib.join (x :: r) [32] = x ++ (if r = [] then [] else 32 :: Go.Lib.join r [32]) := by
  cases r with
  | nil => simp [Go.Lib.join, List.intercalate]
  | cons y r => simp [Go.Lib.join, List.intercalate]
theorem pieces_ne (cur l : L) (h : cur ≠ []) : pieces cur l ≠ [] := by
  induction l generalizing cur with
  | nil => unfold pieces; rw [if_neg h]; simp
  | cons c l ih =>
    by_cases hb : isBlank c = true
    · simp [pieces, hb, h]
    · simp only [pieces, hb, Bool.false_eq_true, if_false]
      exact ih _ (by simp)
theorem pieces_end {cur : L} (h : cur ≠ []) {c : B} (hb : isBlank c = true) (l : L) : pieces cur (c :: l) = cur :: pieces [] l := by simp [pieces, hb, h]
theorem fold_rel (l : L) : (∀ g, (Go.Lib.join (pieces [] l) [32]).map lowerB = foldD false g l) ∧ (∀ cur : L, cur ≠ [] → (Go.Lib.join (pieces cur l) [32]).map lowerB = cur.map lowerB ++ foldD true false l) ∧
    (foldD true true l = if pieces [] l = [] then [] else 32 :: (Go.Lib.join (pieces [] l) [32]).map lowerB) := by
  induction l with
  | nil =>
    refine ⟨fun g => ?_, fun cur h => ?_, ?_⟩
    · simp [pieces, foldD, Go.Lib.join, List.intercalate]
    · simp [pieces, foldD, h, Go.Lib.join, List.intercalate]
    · simp [pieces, foldD]
  | cons c l ih =>
    obtain ⟨i1, i2, i3⟩ := ih
    by_cases hb : isBlank c = true
    · refine ⟨fun g => ?_, fun cur h => ?_, ?_⟩
      · simp only [pieces, foldD, hb, if_true]
        exact i1 true
      · simp only [pieces, foldD, hb, if_true, if_neg h]
        rw [join_cons, List.map_append, i3]
        congr 1
        by_cases e : pieces [] l = []
        · simp [e]
        · rw [if_neg e, if_neg e]
          simp only [List.map_cons]
          rfl
      · simp only [pieces, foldD, hb, if_true]
        exact i3
    · refine ⟨fun g => ?_, fun cur h => ?_, ?_⟩
      · simp only [pieces, foldD, hb, Bool.false_eq_true, if_false, List.nil_append, Bool.false_and]
        rw [i2 [c] (by simp)]
        rfl
      · simp only [pieces, foldD, hb, Bool.false_eq_true, if_false, Bool.true_and]
        rw [i2 (cur ++ [c]) (by simp)]
        simp
      · simp only [pieces, foldD, hb, Bool.false_eq_true, if_false, List.nil_append, Bool.true_and, if_true]
        rw [if_neg (pieces_ne [c] l (by simp)), i2 [c] (by simp)]
        rfl
theorem foldD_blank {c : B} (h : isBlank c = true) (st gp : Bool) (l : L) : foldD st gp (c :: l) = foldD st true l := by
  conv => lhs; unfold foldD
  rw [if_pos h]
theorem foldD_not {c : B} (h : isBlank c = false) (st gp : Bool) (l : L) : foldD st gp (c :: l) = if st && gp then 32 :: lowerB c :: foldD true false l else lowerB c :: foldD true false l := by
  conv => lhs; unfold foldD
  rw [if_neg (by rw [h]; decide)]
theorem foldL_D (l : L) : foldL l = foldD false false l := (fold_rel l).1 false

/-! What the statement says of it. -/
def okB (c : B) : Bool := !(65 ≤ c && c ≤ 90) && c != 9 && c != 10
theorem all_bytes (p : B → Bool) (h : (List.range 256).all (fun n => p (UInt8.ofNat n)) = true) (c : B) : p c = true := by
  have := List.all_eq_true.1 h c.toNat (List.mem_range.2 c.toNat_lt)
  simpa using this
theorem lower_ok (c : B) (h : isBlank c = false) : okB (lowerB c) = true ∧ (lowerB c == 32) = false ∧ lowerB (lowerB c) = lowerB c ∧ isBlank (lowerB c) = false := by
  have := all_bytes (fun c => isBlank c || (okB (lowerB c) && !(lowerB c == 32) && (lowerB (lowerB c) == lowerB c) && !isBlank (lowerB c))) (by decide +kernel) c
  rw [h, Bool.false_or] at this
  simp only [Bool.and_eq_true, Bool.not_eq_true', beq_iff_eq] at this
  exact ⟨this.1.1.1, this.1.1.2, this.1.2, this.2⟩
theorem raise_ok (c : B) : (isBlank c = true → upperB c = c) ∧ (isBlank c = false → isBlank (upperB c) = false ∧ lowerB (upperB c) = lowerB c) := by
  have := all_bytes (fun c => if isBlank c then upperB c == c else (!isBlank (upperB c) && lowerB (upperB c) == lowerB c)) (by decide +kernel) c
  constructor
  · intro h
    simp only [h, if_true, beq_iff_eq] at this
    exact this
  · intro h
    simp only [h, Bool.false_eq_true, if_false, Bool.and_eq_true, Bool.not_eq_true', beq_iff_eq] at this
    exact this
theorem fold_ok (l : L) : ∀ st gp, ∀ c ∈ foldD st gp l, okB c = true := by
  induction l with
  | nil => intro st gp c hc; cases hc
  | cons d l ih =>
    intro st gp c hc
    unfold foldD at hc
    by_cases hb : isBlank d = true
    · rw [if_pos hb] at hc; exact ih _ _ c hc
    · rw [if_neg hb] at hc
      have hl := lower_ok d (by simpa using hb)
      split at hc
      · rcases List.mem_cons.1 hc with e | e
        · rw [e]; decide
        · rcases List.mem_cons.1 e with e | e
          · rw [e]; exact hl.1
          · exact ih _ _ c e
      · rcases List.mem_cons.1 hc with e | e
        · rw [e]; exact hl.1
        · exact ih _ _ c e
/-- Blanks alone, each before something else. -/
def t1 : L → Bool
  | [] => true
  | c :: l => if c == 32 then (match l with | [] => false | d :: _ => d != 32) && t1 l else t1 l
def t0 : L → Bool
  | [] => true
  | c :: l => c != 32 && t1 l
theorem fold_t (l : L) : (∀ gp, t1 (foldD true gp l) = true) ∧ (∀ gp, t0 (foldD false gp l) = true) := by
  induction l with
  | nil => exact ⟨fun _ => rfl, fun _ => rfl⟩
  | cons d l ih =>
    obtain ⟨i1, i2⟩ := ih
    by_cases hb : isBlank d = true
    · exact ⟨fun gp => by unfold foldD; rw [if_pos hb]; exact i1 _, fun gp => by unfold foldD; rw [if_pos hb]; exact i2 _⟩
    · have hl := lower_ok d (by simpa using hb)
      refine ⟨fun gp => ?_, fun gp => ?_⟩
      · unfold foldD
        rw [if_neg hb]
        cases gp with
        | true =>
          simp only [Bool.and_self, if_true, t1, hl.2.1, Bool.false_eq_true, if_false]
          rw [i1, bne, hl.2.1]
          rfl
        | false =>
          simp only [Bool.and_false, Bool.false_eq_true, if_false, t1, hl.2.1]
          exact i1 _
      · unfold foldD
        rw [if_neg hb]
        simp only [Bool.false_and, Bool.false_eq_true, if_false, t0]
        rw [i1, bne, hl.2.1]
        rfl
theorem t1_at (l : List B) (h : t1 l = true) (i : Nat) (hi : l[i]? = some 32) : ∃ d : B, l[i + 1]? = some d ∧ d ≠ 32 := by
  induction l generalizing i with
  | nil => simp at hi
  | cons c l ih =>
    unfold t1 at h
    cases i with
    | zero =>
      simp only [List.getElem?_cons_zero, Option.some.injEq] at hi
      subst hi
      simp only [beq_self_eq_true, if_true, Bool.and_eq_true] at h
      cases l with
      | nil => simp at h
      | cons d l => exact ⟨d, by simp, by simpa using h.1⟩
    | succ i =>
      have ht : t1 l = true := by
        split at h
        · simp only [Bool.and_eq_true] at h; exact h.2
        · exact h
      simp only [List.getElem?_cons_succ] at hi ⊢
      exact ih ht i hi
theorem t0_at (l : List B) (h : t0 l = true) : l[0]? ≠ some 32 ∧ ∀ i : Nat, l[i]? = some 32 → ∃ d : B, l[i + 1]? = some d ∧ d ≠ 32 := by
  cases l with
  | nil => exact ⟨by simp, fun i hi => by simp at hi⟩
  | cons c l =>
    simp only [t0, Bool.and_eq_true, bne_iff_ne, ne_eq] at h
    refine ⟨by simpa using h.1, fun i hi => ?_⟩
    cases i with
    | zero => simp only [List.getElem?_cons_zero, Option.some.injEq] at hi; exact (h.1 hi).elim
    | succ i =>
      simp only [List.getElem?_cons_succ] at hi ⊢
      exact t1_at l h.2 i hi
theorem fold_len (l : L) : (∀ gp, (foldD false gp l).length ≤ l.length) ∧ (foldD true false l).length ≤ l.length ∧ (foldD true true l).length ≤ l.length + 1 := by
  induction l with
  | nil => exact ⟨fun _ => Nat.le_refl _, Nat.le_refl _, by simp [foldD]⟩
  | cons d l ih =>
    obtain ⟨i1, i2, i3⟩ := ih
    by_cases hb : isBlank d = true
    · refine ⟨fun gp => ?_, ?_, ?_⟩ <;> (unfold foldD; rw [if_pos hb]; simp only [List.length_cons])
      · have := i1 true; omega
      · omega
      · omega
    · refine ⟨fun gp => ?_, ?_, ?_⟩ <;> (unfold foldD; rw [if_neg hb]; simp only [Bool.false_and, Bool.and_false, Bool.and_self, Bool.false_eq_true, if_false, if_true, List.length_cons]; omega)
theorem ok_keep (c : B) (h : okB c = true) (h2 : (c == 32) = false) : isBlank c = false ∧ lowerB c = c := by
  have := all_bytes (fun c => !okB c || c == 32 || (!isBlank c && lowerB c == c)) (by decide +kernel) c
  simp only [h, h2, Bool.not_true, Bool.false_or, Bool.and_eq_true, Bool.not_eq_true', beq_iff_eq] at this
  exact this
theorem fold_t1_id (l : L) (h : t1 l = true) (ho : ∀ c ∈ l, okB c = true) : foldD true false l = l ∧ (l = [] ∨ l.head? ≠ some 32 → foldD true true l = if l = [] then [] else 32 :: l) := by
  induction l with
  | nil => exact ⟨rfl, fun _ => rfl⟩
  | cons c l ih =>
    have hol : ∀ d ∈ l, okB d = true := fun d hd => ho d (List.mem_cons_of_mem _ hd)
    unfold t1 at h
    cases hc : (c == 32) with
    | true =>
      simp only [hc, if_true, Bool.and_eq_true] at h
      obtain ⟨i1, i2⟩ := ih h.2 hol
      have hce : c = 32 := by simpa using hc
      subst hce
      refine ⟨?_, fun hh => ?_⟩
      · unfold foldD
        rw [if_pos (show isBlank 32 = true from rfl), i2 ?_]
        · cases l with
          | nil => simp at h
          | cons d l => simp
        · right
          cases l with
          | nil => simp
          | cons d l => simpa using h.1
      · simp at hh
    | false =>
      simp only [hc, Bool.false_eq_true, if_false] at h
      obtain ⟨i1, _⟩ := ih h hol
      obtain ⟨k1, k2⟩ := ok_keep c (ho c List.mem_cons_self) hc
      refine ⟨?_, fun _ => ?_⟩
      · unfold foldD
        simp only [k1, k2, Bool.false_eq_true, if_false, Bool.and_false, i1]
      · unfold foldD
        simp only [k1, k2, Bool.false_eq_true, if_false, Bool.and_self, if_true, i1]
        simp
theorem fold_t0_id (l : L) (h : t0 l = true) (ho : ∀ c ∈ l, okB c = true) : foldD false false l = l := by
  cases l with
  | nil => rfl
  | cons c l =>
    simp only [t0, Bool.and_eq_true, bne_iff_ne, ne_eq] at h
    obtain ⟨k1, k2⟩ := ok_keep c (ho c List.mem_cons_self) (by simpa using h.1)
    obtain ⟨i1, _⟩ := fold_t1_id l h.2 (fun d hd => ho d (List.mem_cons_of_mem _ hd))
    unfold foldD
    simp only [k1, k2, Bool.false_eq_true, if_false, Bool.false_and, i1]
theorem foldL_idem (l : L) : foldL (foldL l) = foldL l := by
  rw [foldL_D (foldL l), foldL_D l]
  exact fold_t0_id _ ((fold_t l).2 _) (fold_ok l _ _)
/-- The string with upper case and more blanks. -/
def raiseB (c : B) : L := if upperB c == 32 then [upperB c, 32] else [upperB c]
def raisedL (l : L) : L := 32 :: (l.flatMap raiseB ++ [10])
theorem fold_raise (l : L) : ∀ st gp, foldD st gp (l.flatMap raiseB ++ [10]) = foldD st gp l := by
  induction l with
  | nil => intro st gp; rfl
  | cons c l ih =>
    intro st gp
    obtain ⟨r1, r2⟩ := raise_ok c
    cases hb : isBlank c with
    | true =>
      have e := r1 hb
      have hr : raiseB c = [c, 32] ∨ raiseB c = [c] := by unfold raiseB; rw [e]; split <;> simp
      rw [foldD_blank hb, List.flatMap_cons]
      rcases hr with h | h
      · rw [h]
        show foldD st gp (c :: 32 :: (l.flatMap raiseB ++ [10])) = _
        rw [foldD_blank hb, foldD_blank (show isBlank 32 = true from rfl), ih]
      · rw [h]
        show foldD st gp (c :: (l.flatMap raiseB ++ [10])) = _
        rw [foldD_blank hb, ih]
    | false =>
      obtain ⟨k1, k2⟩ := r2 hb
      have hr : raiseB c = [upperB c] := by
        unfold raiseB
        rw [if_neg]
        intro e
        have e2 : upperB c = 32 := by simpa using e
        rw [e2] at k1
        exact absurd k1 (by decide)
      rw [List.flatMap_cons, hr]
      show foldD st gp (upperB c :: (l.flatMap raiseB ++ [10])) = _
      rw [foldD_not k1, foldD_not hb, k2, ih]
theorem foldL_raised (l : L) : foldL (raisedL l) = foldL l := by
  rw [foldL_D, foldL_D]
  unfold raisedL
  rw [foldD_blank (show isBlank 32 = true from rfl), fold_raise, ← (fold_rel l).1 true, ← (fold_rel l).1 false]
theorem foldL_len (l : L) : (foldL l).length ≤ l.length := by rw [foldL_D]; exact (fold_len l).1 false
theorem foldL_chars (l : L) (i : Nat) (c : B) (h : (foldL l : List B)[i]? = some c) : okB c = true := by
  rw [foldL_D] at h
  exact fold_ok l _ _ c (List.mem_of_getElem? h)
theorem foldL_blank (l : L) : (foldL l : List B)[0]? ≠ some 32 ∧ ∀ i : Nat, (foldL l : List B)[i]? = some 32 → ∃ d : B, (foldL l : List B)[i + 1]? = some d ∧ d ≠ 32 := by
  rw [foldL_D]
  exact t0_at _ ((fold_t l).2 _)
theorem raised_len (l : L) : (raisedL l).length ≤ 2 * l.length + 2 := by
  unfold raisedL
  have : ∀ l : L, (l.flatMap raiseB).length ≤ 2 * l.length := by
    intro l
    induction l with
    | nil => simp
    | cons c l ih =>
      have : (raiseB c).length ≤ 2 := by unfold raiseB; split <;> simp
      simp only [List.flatMap_cons, List.length_append, List.length_cons]
      omega
  have := this l
  simp only [List.length_cons, List.length_append, List.length_nil]
  omega

/-! The library's way by runes. -/
def sepR (r : Nat) : Bool := r == 32 || r == 9 || r == 10
theorem blank_nat (c : B) : isBlank c = sepR c.toNat := by
  have := all_bytes (fun c => isBlank c == sepR c.toNat) (by decide +kernel) c
  simpa using this
theorem high_not (n : Nat) (h : 128 ≤ n) : sepR n = false := by
  unfold sepR
  simp only [Bool.or_eq_false_iff, beq_eq_false_iff_ne]
  omega
/-- A rune: its bytes are all blank or all not, as it is. -/
theorem rune_bytes (n b0 b1 b2 b3 : Nat) : (sepR (Go.Lib.decodeN n b0 b1 b2 b3).1 = sepR b0) ∧ (1 < (Go.Lib.decodeN n b0 b1 b2 b3).2 → sepR b0 = false ∧ sepR b1 = false) ∧ (2 < (Go.Lib.decodeN n b0 b1 b2 b3).2 → sepR b2 = false) ∧ (3 < (Go.Lib.decodeN n b0 b1 b2 b3).2 → sepR b3 = false) ∧ (Go.Lib.decodeN n b0 b1 b2 b3).2 ≤ 4 ∧ ((Go.Lib.decodeN n b0 b1 b2 b3).2 = 1 ∨ 128 ≤ b0) := by
  rcases Go.Lib.decodeN_shape n b0 b1 b2 b3 with ⟨h, e⟩ | ⟨h, _, h1, h2, e⟩ | ⟨h, _, h1, h2, h3, _, e⟩ | ⟨h, _, h1, h2, h3, h4, _, e⟩ | e
  · rw [e]
    exact ⟨rfl, fun g => by simp at g, fun g => by simp at g, fun g => by simp at g, by simp, .inl rfl⟩
  · rw [e]
    exact ⟨by rw [high_not _ h2, high_not b0 (by omega)], fun _ => ⟨high_not b0 (by omega), high_not b1 (by omega)⟩, fun g => by simp at g, fun g => by simp at g, by simp, .inr (by omega)⟩
  · rw [e]
    exact ⟨by rw [high_not _ (by omega), high_not b0 (by omega)], fun _ => ⟨high_not b0 (by omega), high_not b1 (by omega)⟩, fun _ => high_not b2 (by omega), fun g => by simp at g, by simp, .inr (by omega)⟩
  · rw [e]
    exact ⟨by rw [high_not _ (by omega), high_not b0 (by omega)], fun _ => ⟨high_not b0 (by omega), high_not b1 (by omega)⟩, fun _ => high_not b2 (by omega), fun _ => high_not b3 (by omega), by simp, .inr (by omega)⟩
  · by_cases hlt : b0 < 128
    · have e2 : Go.Lib.decodeN n b0 b1 b2 b3 = (b0, 1) := by unfold Go.Lib.decodeN; rw [if_pos hlt]
      rw [e2]
      exact ⟨rfl, fun g => by simp at g, fun g => by simp at g, fun g => by simp at g, by simp, .inl rfl⟩
    · rw [e]
      exact ⟨by rw [high_not b0 (by omega)]; rfl, fun g => by simp at g, fun g => by simp at g, fun g => by simp at g, by simp, .inl rfl⟩
theorem get_list (s : ByteArray) (i : Nat) (h : i < s.size) : s.data.toList[i]? = some (s.get! i) := by
  have h2 : i < s.data.size := h
  rw [Array.getElem?_toList, Array.getElem?_eq_getElem h2]
  congr 1
  show _ = s.data[i]!
  rw [getElem!_pos s.data i h2]
theorem pieces_skip (xs : L) (hx : ∀ c ∈ xs, isBlank c = false) : ∀ (cur l : L), pieces cur (xs ++ l) = pieces (cur ++ xs) l := by
  induction xs with
  | nil => intro cur l; simp
  | cons c xs ih =>
    intro cur l
    rw [List.cons_append, pieces, hx c List.mem_cons_self]
    simp only [Bool.false_eq_true, if_false]
    rw [ih (fun d hd => hx d (List.mem_cons_of_mem _ hd))]
    simp
open Go.Lib in
theorem spans_pieces (s : ByteArray) : ∀ (f pos : Nat) (st : Option Nat) (acc : List (Nat × Nat)), s.size ≤ pos + f → pos ≤ s.size → (∀ a, st = some a → a < pos) →
    acc.map (fun p => pieceU s.data.toList p.1 p.2) ++ pieces (openPiece s.data.toList st pos) (s.data.toList.drop pos) = (closeSpans s (spansFromP sepR s f pos st acc)).map (fun p => pieceU s.data.toList p.1 p.2) := by
  have hsz : s.data.toList.length = s.size := rfl
  intro f
  induction f with
  | zero =>
    intro pos st acc h hp hst
    obtain rfl : pos = s.size := by omega
    rw [List.drop_eq_nil_of_le (by rw [hsz]; omega)]
    cases st with
    | none => simp [spansFromP, closeSpans, openPiece, pieces]
    | some a =>
      have ha := hst a rfl
      have hne : pieceU s.data.toList a s.size ≠ [] := by
        intro e
        have := congrArg List.length e
        simp only [pieceU, List.length_take, List.length_drop, hsz, List.length_nil] at this
        omega
      simp [spansFromP, closeSpans, openPiece, pieces, hne]
  | succ f ih =>
    intro pos st acc h hp hst
    by_cases hlt : pos < s.size
    · obtain ⟨w, hw⟩ : ∃ w, (Utf8.decode s pos).2 = w := ⟨_, rfl⟩
      have hat := decode_at s pos
      have hrb := rune_bytes (s.size - pos) (s.get! pos).toNat (s.get! (pos + 1)).toNat (s.get! (pos + 2)).toNat (s.get! (pos + 3)).toNat
      rw [← hat, hw] at hrb
      obtain ⟨r0, r1, r2, r3, r4, r5⟩ := hrb
      have hw1 : 1 ≤ w := by rw [← hw]; exact width_pos s pos
      have hwle : w ≤ s.size - pos := by rw [← hw, hat]; exact decodeN_le_n' _ _ _ _ _ (by omega)
      unfold spansFromP
      rw [if_pos hlt, hw]
      have hdrop : s.data.toList.drop pos = (s.data.toList.drop pos).take w ++ s.data.toList.drop (pos + w) := by
        rw [← List.drop_drop, List.take_append_drop]
      by_cases hb : sepR (Utf8.decode s pos).1 = true
      · rw [if_pos hb]
        rw [r0] at hb
        have hww : w = 1 := by
          rcases r5 with e | e
          · exact e
          · rw [high_not _ e] at hb; cases hb
        have hhd : s.data.toList.drop pos = s.get! pos :: s.data.toList.drop (pos + 1) := by
          have g := get_list s pos hlt
          have hl : pos < s.data.toList.length := by rw [hsz]; exact hlt
          rw [List.drop_eq_getElem_cons hl]
          congr 1
          rw [List.getElem?_eq_getElem hl] at g
          exact Option.some.inj g
        have hbl : isBlank (s.get! pos) = true := by rw [blank_nat]; exact hb
        rw [hww]
        cases st with
        | none =>
          rw [← ih (pos + 1) none acc (by omega) (by omega) (fun a e => by cases e), hhd]
          simp only [openPiece, pieces, hbl, if_true]
        | some a =>
          have ha := hst a rfl
          have hne : pieceU s.data.toList a pos ≠ [] := by
            intro e
            have := congrArg List.length e
            simp only [pieceU, List.length_take, List.length_drop, hsz, List.length_nil] at this
            omega
          rw [← ih (pos + 1) none (acc ++ [(a, pos)]) (by omega) (by omega) (fun a e => by cases e), hhd]
          have e1 : openPiece s.data.toList (some a) pos = pieceU s.data.toList a pos := rfl
          rw [e1, pieces_end hne hbl]
          simp only [openPiece, List.map_append, List.map_cons, List.map_nil, List.append_assoc, List.cons_append, List.nil_append]
      · have hb' : sepR (Utf8.decode s pos).1 = false := by simpa using hb
        rw [if_neg hb]
        rw [r0] at hb'
        have hxs : ∀ c ∈ (s.data.toList.drop pos).take w, isBlank c = false := by
          intro c hc
          obtain ⟨i, hi, e⟩ := List.mem_iff_getElem.1 hc
          rw [List.length_take] at hi
          have hi2 : i < w := by omega
          have hg : s.data.toList[pos + i]? = some c := by
            rw [← e, List.getElem_take, List.getElem_drop]
            exact List.getElem?_eq_getElem (by rw [hsz]; omega)
          rw [get_list s (pos + i) (by omega)] at hg
          rw [← Option.some.inj hg, blank_nat]
          have : i = 0 ∨ i = 1 ∨ i = 2 ∨ i = 3 := by omega
          rcases this with e | e | e | e <;> subst e
          · exact hb'
          · exact (r1 (by omega)).2
          · exact r2 (by omega)
          · exact r3 (by omega)
        have hskip := fun cur => pieces_skip _ hxs cur (s.data.toList.drop (pos + w))
        rw [← hdrop] at hskip
        cases st with
        | none =>
          rw [← ih (pos + w) (some pos) acc (by omega) (by omega) (fun a e => by cases e; omega), hskip]
          simp only [openPiece, List.nil_append, pieceU, Nat.add_sub_cancel_left]
        | some a =>
          have ha := hst a rfl
          rw [← ih (pos + w) (some a) acc (by omega) (by omega) (fun b e => by cases e; omega), hskip]
          simp only [openPiece]
          rw [pieceU_grow _ _ _ _ (by omega)]
    · obtain rfl : pos = s.size := by omega
      have := ih s.size st acc (by omega) (Nat.le_refl _) hst
      rw [this]
      congr 2
      rw [spansFromP_end _ _ _ _ _ _ (by omega), spansFromP_end _ _ _ _ _ _ (by omega)]
/-- strings.FieldsFunc at blanks: the pieces. -/
theorem fields_pieces (s : ByteArray) : (Go.Lib.goFieldsP sepR s).map (fun x => x.data.toList) = pieces [] s.data.toList := by
  have h := spans_pieces s s.size 0 none [] (by omega) (by omega) (fun a e => by cases e)
  simp only [List.map_nil, List.nil_append, Go.Lib.openPiece, List.drop_zero] at h
  rw [h]
  unfold Go.Lib.goFieldsP Go.Lib.spansOfP
  rw [List.map_map]
  refine List.map_congr_left fun x _ => ?_
  show (s.extract x.1 x.2).data.toList = _
  unfold Go.Lib.pieceU
  rw [ByteArray.data_extract, Array.toList_extract, List.extract_eq_take_drop]

/-! The languages of keys. -/
def nameB : L := [110, 97, 109, 101]
def namePre : L := [110, 97, 109, 101, 95]
def lowB (c : B) : Bool := 97 ≤ c && c ≤ 122
def langR (l : L) : L := if l = nameB then [] else Go.Lib.trimPrefix l namePre
def langB (l : L) : Bool := if l = nameB then true else Go.Lib.hasPrefix l namePre && (Go.Lib.trimPrefix l namePre).all lowB && decide (0 < (Go.Lib.trimPrefix l namePre).length) && decide ((Go.Lib.trimPrefix l namePre).length ≤ 8)
def lowR (r : Nat) : Bool := decide (97 ≤ r) && decide (r ≤ 122)
theorem low_nat (c : B) : lowB c = lowR c.toNat := by
  have := all_bytes (fun c => lowB c == lowR c.toNat) (by decide +kernel) c
  simpa using this
theorem high_low (n : Nat) (h : 128 ≤ n) : lowR n = false := by
  unfold lowR
  simp only [Bool.and_eq_false_iff, decide_eq_false_iff_not]
  omega
/-- A rune is a small letter just where its first byte is; then it has no other. -/
theorem rune_low (n b0 b1 b2 b3 : Nat) : lowR (Go.Lib.decodeN n b0 b1 b2 b3).1 = lowR b0 ∧ (lowR b0 = true → (Go.Lib.decodeN n b0 b1 b2 b3).2 = 1) := by
  by_cases hlt : b0 < 128
  · have e2 : Go.Lib.decodeN n b0 b1 b2 b3 = (b0, 1) := by unfold Go.Lib.decodeN; rw [if_pos hlt]
    rw [e2]
    exact ⟨rfl, fun _ => rfl⟩
  · have h0 := high_low b0 (by omega)
    refine ⟨?_, fun h => by rw [h0] at h; cases h⟩
    rw [h0]
    rcases Go.Lib.decodeN_shape n b0 b1 b2 b3 with ⟨h, e⟩ | ⟨h, _, h1, h2, e⟩ | ⟨h, _, h1, h2, h3, _, e⟩ | ⟨h, _, h1, h2, h3, h4, _, e⟩ | e
    · omega
    · rw [e]; exact high_low _ h2
    · rw [e]; exact high_low _ (by omega)
    · rw [e]; exact high_low _ (by omega)
    · rw [e]; rfl

/-! Tags. -/
structure Tg where
  k : ByteArray
  v : ByteArray
/-- Keys that are names and increase, values of 1 to 200 bytes. -/
def tagL (last : ByteArray) : List Tg → Bool
  | [] => true
  | t :: l => name t.k.data.toList && !Go.Op.bytesLess t.k.toList last.toList && !(t.k.toList == last.toList) && !t.v.toList.isEmpty && decide (t.v.size ≤ 200) && tagL t.k l
def tagsB (l : List Tg) : Bool := tagL ⟨#[]⟩ l && decide (l.length ≤ 60)

/-- The name tags, in order. -/
def namesL (l : List Tg) : List Tg := l.filter (fun t => langB t.k.data.toList)
/-! Lists of strings; values of keys. -/
def hasS (s : ByteArray) : List ByteArray → Bool
  | [] => false
  | x :: l => x.toList == s.toList || hasS s l
def sameS : List ByteArray → List ByteArray → Bool
  | [], [] => true
  | x :: a, y :: b => x.toList == y.toList && sameS a b
  | _, _ => false
theorem sameS_len (a b : List ByteArray) (h : a.length ≠ b.length) : sameS a b = false := by
  induction a generalizing b with
  | nil => cases b with
    | nil => exact (h rfl).elim
    | cons y b => rfl
  | cons x a ih => cases b with
    | nil => rfl
    | cons y b => simp only [sameS, ih b (fun e => h (by simp [e])), Bool.and_false]
def getT (key : ByteArray) : List Tg → Option ByteArray
  | [] => none
  | t :: l => if t.k.toList == key.toList then some t.v else getT key l
def fewT (n : Nat) (l : List Tg) : Bool := decide (l.length ≤ n) && l.all (fun t => decide (t.k.size ≤ 300) && decide (t.v.size ≤ 300))
def fewS (n : Nat) (l : List ByteArray) : Bool := decide (l.length ≤ n) && l.all (fun s => decide (s.size ≤ 30))
/-- The reference's language: empty where there is none. -/
def langX (l : L) : L := if langB l then langR l else []
theorem pre_take (l : L) : Go.Lib.hasPrefix l namePre = (l.take 5 == namePre) := by
  unfold Go.Lib.hasPrefix
  rw [Bool.eq_iff_iff, List.isPrefixOf_iff_prefix, beq_iff_eq, List.prefix_iff_eq_take]
  exact ⟨fun h => h.symm, fun h => h.symm⟩
theorem lang_parts (l : L) (h : ¬ l = nameB) : langB l = (decide (6 ≤ l.length) && decide (l.length ≤ 13) && (l.take 5 == namePre) && (l.drop 5).all lowB) ∧ (langB l = true → langR l = l.drop 5) := by
  have hp := pre_take l
  unfold langB langR
  rw [if_neg h, if_neg h]
  unfold Go.Lib.trimPrefix
  rw [hp]
  cases e : (l.take 5 == namePre) with
  | false => simp
  | true =>
    have e5 : l.take 5 = namePre := by simpa using e
    have hl : 5 ≤ l.length := by
      have := congrArg List.length e5
      rw [List.length_take] at this
      have : namePre.length = 5 := rfl
      omega
    refine ⟨?_, fun _ => rfl⟩
    simp only [if_true, Bool.true_and, Bool.and_true]
    have : namePre.length = 5 := rfl
    rw [this, Bool.eq_iff_iff]
    simp only [Bool.and_eq_true, decide_eq_true_eq, List.length_drop]
    constructor
    · rintro ⟨⟨h1, h2⟩, h3⟩; exact ⟨⟨by omega, by omega⟩, h1⟩
    · rintro ⟨⟨h1, h2⟩, h3⟩; exact ⟨⟨h3, by omega⟩, by omega⟩
end Go.Proofs.PlName
