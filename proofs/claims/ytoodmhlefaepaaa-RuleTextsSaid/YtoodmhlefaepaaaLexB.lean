/-
  The reference lexer's Name, Quote and str, walked.
-/
import Derived.Test.YtoodmhlefaepaaaLexA
namespace Go.Proofs.Ytoodmhlefaepaaa
open Go.RowKit Go.Proofs.PlLex

theorem name_parts (l : L) : name l = (l.all isWord && (match l with | [] => false | c :: _ => isLetter c) && decide (l.length ≤ 24)) := rfl
def headLetter : L → Bool
  | [] => false
  | c :: _ => isLetter c
def allWord (l : L) : Bool := l.all isWord
theorem name_eq (l : L) : name l = (allWord l && headLetter l && decide (l.length ≤ 24)) := by cases l <;> rfl
theorem size_list (s : ByteArray) : s.data.toList.length = s.size := rfl

theorem ext_list (s : ByteArray) (a b : Nat) : (s.extract a b).data.toList = (s.data.toList.drop a).take (b - a) := by
  simp [List.extract]
theorem app_list (a b : ByteArray) : (a ++ b).data.toList = a.data.toList ++ b.data.toList := by simp
theorem str_of_list (a : ByteArray) (l : L) (h : a.data.toList = l) : a = ⟨l.toArray⟩ := by
  cases a with | mk d => simp at h; rw [← h]
theorem take_snoc (s : ByteArray) (k : Nat) (h : k < s.size) : s.data.toList.take (k + 1) = s.data.toList.take k ++ [s[k]] := by
  rw [List.take_succ_eq_append_getElem (by simpa using h)]; rfl
theorem mid_snoc (s : ByteArray) (f k : Nat) (hf : f ≤ k) (h : k < s.size) : (s.data.toList.drop f).take (k + 1 - f) = (s.data.toList.drop f).take (k - f) ++ [s[k]] := by
  rw [show k + 1 - f = (k - f) + 1 by omega, List.take_succ_eq_append_getElem (by simp; omega), List.getElem_drop]
  congr 2
  show s.data.toList[f + (k - f)]'_ = s.data.toList[k]'_
  congr 1; omega
theorem quoteB_snoc (l : L) (c : UInt8) : quoteB (l ++ [c]) = quoteB l ++ (if c == 10 then [92, 110] else if c == 34 || c == 92 then [92, c] else [c]) := by
  induction l with
  | nil => simp only [quoteB, List.nil_append]
  | cons d l ih =>
    simp only [List.cons_append, quoteB, ih]
    split
    · simp
    · split
      · simp
      · simp
