/-
  The reference lexer's next, walked.
-/
import Derived.Test.YtoodmhlefaepaaaLexC
namespace Go.Proofs.Ytoodmhlefaepaaa
open Go.RowKit Go.Proofs.PlLex

def nextEnd (a : Nat) : Except Nat (Nat × L × Nat) → Value
  | .error e => .tuple #[.agg #[.int .i64 0, .string ⟨#[]⟩, .int .i64 0], .int .i64 0, .int .i64 (e : Int)]
  | .ok (k, t, n) => .tuple #[.agg #[.int .i64 (k : Int), .string ⟨t.toArray⟩, .int .i64 (a : Int)], .int .i64 ((a + n : Nat) : Int), .int .i64 0]
def twl (p : UInt8 → Bool) (l : L) : Nat := (l.takeWhile p).length
theorem twl_yes (p : UInt8 → Bool) (c : UInt8) (l : L) (h : p c = true) : twl p (c :: l) = twl p l + 1 := by simp [twl, h]
theorem twl_no (p : UInt8 → Bool) (c : UInt8) (l : L) (h : p c = false) : twl p (c :: l) = 0 := by simp [twl, h]
theorem twl_le (p : UInt8 → Bool) (l : L) : twl p l ≤ l.length := (List.takeWhile_sublist p).length_le
theorem take_twl (p : UInt8 → Bool) (l : L) : l.take (twl p l) = l.takeWhile p := by
  induction l with
  | nil => rfl
  | cons c l ih =>
    cases h : p c
    · simp [twl, h]
    · rw [twl_yes p c l h]; simp [h, ih]
theorem drop_twl (p : UInt8 → Bool) (l : L) : l.drop (twl p l) = l.dropWhile p := by
  induction l with
  | nil => rfl
  | cons c l ih =>
    cases h : p c
    · simp [twl, h]
    · rw [twl_yes p c l h]; simp [h, ih]
theorem word_text (s : ByteArray) (a n : Nat) (ha : a < s.size) (p : UInt8 → Bool) (hn : n = twl p (s.data.toList.drop (a + 1))) : s.extract a (a + 1 + n) = ⟨(s[a] :: (s.data.toList.drop (a + 1)).takeWhile p).toArray⟩ := by
  refine str_of_list _ _ ?_
  rw [ext_list, drop_cons s a ha, show a + 1 + n - a = n + 1 by omega, List.take_succ_cons, hn, take_twl]
theorem next_letter (c : UInt8) (l : L) (h : isLetter c = true) : nextT c l = if 24 < twl isWord l + 1 then .error 2 else .ok (1, c :: l.takeWhile isWord, twl isWord l + 1) := by
  simp only [nextT, h, if_true, twl, List.length_cons]; rfl
theorem next_digit (c : UInt8) (l : L) (h0 : isLetter c = false) (h : isDigit c = true) : nextT c l = if 7 < twl isDigit l + 1 || headWord (l.dropWhile isDigit) then .error 4 else .ok (2, c :: l.takeWhile isDigit, twl isDigit l + 1) := by
  simp only [nextT, h0, h, if_true, twl, List.length_cons]; rfl

theorem headWord_cons (c : UInt8) (l : L) : headWord (c :: l) = isWord c := rfl

theorem sym_has (c : UInt8) : hasB [59, 44, 46, 58, 40, 41, 123, 125, 91, 93, 61, 60, 62, 47, 45] c = isSym c := rfl
theorem sym_any (c : UInt8) (b : Bool) (hb : isSym c = b) (w : World) :
    Calls Try.prog 45 #[.string ⟨#[59, 44, 46, 58, 40, 41, 123, 125, 91, 93, 61, 60, 62, 47, 45]⟩, .int .u8 c.toNat] w fun e w' => e = .returned (.bool b) ∧ w = w' := by
  have := has_any ⟨#[59, 44, 46, 58, 40, 41, 123, 125, 91, 93, 61, 60, 62, 47, 45]⟩ c w (by decide)
  rw [show (ByteArray.mk #[59, 44, 46, 58, 40, 41, 123, 125, 91, 93, 61, 60, 62, 47, 45]).data.toList = [59, 44, 46, 58, 40, 41, 123, 125, 91, 93, 61, 60, 62, 47, 45] from rfl, sym_has, hb] at this
  exact this
theorem next_rest (c : UInt8) (l : L) (h0 : isLetter c = false) (h1 : isDigit c = false) : nextT c l = if c == 34 then (match str l with | none => .error 3 | some (s, n) => .ok (3, s, n + 1)) else if isSym c then .ok (4, [c], 1) else .error 3 := by
  simp only [nextT, h0, h1]; rfl
