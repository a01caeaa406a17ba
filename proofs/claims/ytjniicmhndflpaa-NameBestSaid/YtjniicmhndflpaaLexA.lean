/-
  The reference lexer's small functions, walked: each returns what the plain function on lists of bytes says.
-/
import Derived.Test.YtjniicmhndflpaaRows
import Derived.Test.YtjniicmhndflpaaPlain
import Derived.WalkKit
import Derived.WalkSpells
import Derived.WalkLawsBesides
namespace Go.Proofs.Ytjniicmhndflpaa
open Go.RowKit Go.Proofs.PlLex

theorem hide {p : Prop} (h : p) : Hid p := h
theorem ret_bool {a b : Bool} (h : a = b) : Ending.returned (.bool a) = .returned (.bool b) := by rw [h]
theorem ret_int {k : IntKind} {a b : Int} (h : a = b) : Ending.returned (.int k a) = .returned (.int k b) := by rw [h]
theorem ret_str {a b : ByteArray} (h : a = b) : Ending.returned (.string a) = .returned (.string b) := by rw [h]
theorem drop_cons (s : ByteArray) (k : Nat) (h : k < s.size) : s.data.toList.drop k = s[k] :: s.data.toList.drop (k + 1) := by
  rw [List.drop_eq_getElem_cons (by simpa using h)]; rfl
theorem drop_end (s : ByteArray) (k : Nat) (h : ¬ k < s.size) : s.data.toList.drop k = [] := by
  rw [List.drop_eq_nil_iff]; simp; exact Nat.le_of_not_lt h
theorem u8_eq (a b : UInt8) : ((a.toNat : Int) == (b.toNat : Int)) = (a == b) := by
  rw [Bool.eq_iff_iff, beq_iff_eq, beq_iff_eq, ← UInt8.toNat_inj]; omega
theorem u8_lt (a : UInt8) : (a.toNat : Int) < 256 := by have := a.toNat_lt; omega

/-- Does a list have a byte? Behind a name of its own. -/
def hasB (l : L) (c : UInt8) : Bool := l.contains c
theorem hasB_cons (x : UInt8) (l : L) (c : UInt8) : hasB (x :: l) c = (x == c || hasB l c) := by
  simp only [hasB, List.contains_cons]
  rw [show (c == x) = (x == c) from by rw [Bool.eq_iff_iff, beq_iff_eq, beq_iff_eq]; exact eq_comm]

theorem isDigit_int (c : UInt8) : decide (48 ≤ (c.toNat : Int) ∧ (c.toNat : Int) ≤ 57) = isDigit c := by
  rw [Bool.eq_iff_iff]; simp [isDigit, UInt8.le_iff_toNat_le]; omega
theorem isLetter_int (c : UInt8) : decide ((97 ≤ (c.toNat : Int) ∧ (c.toNat : Int) ≤ 122) ∨ (65 ≤ (c.toNat : Int) ∧ (c.toNat : Int) ≤ 90)) = isLetter c := by
  rw [Bool.eq_iff_iff]; simp [isLetter, UInt8.le_iff_toNat_le]; omega

theorem blank_has (c : UInt8) : hasB [32, 9, 10] c = isBlank c := by
  simp only [hasB, isBlank, List.contains_cons, List.contains_nil, Bool.or_false, Bool.or_assoc]

theorem gapF_blank (c : UInt8) (l : L) (hb : isBlank c = true) : gapF false (c :: l) = gapF false l + 1 := by simp [gapF, hb]
theorem gapF_hash (c : UInt8) (l : L) (hb : isBlank c = false) (hc : (c == 35) = true) : gapF false (c :: l) = gapF true (c :: l) := by
  have : c = 35 := by simpa using hc
  subst this
  simp [gapF, hb]
theorem gapF_other (c : UInt8) (l : L) (hb : isBlank c = false) (hc : (c == 35) = false) : gapF false (c :: l) = 0 := by simp only [gapF, hb, hc]; rfl
theorem gapF_in (c : UInt8) (l : L) (hc : (c == 10) = false) : gapF true (c :: l) = gapF true l + 1 := by simp only [gapF, hc]; rfl
theorem gapF_out (c : UInt8) (l : L) (hc : (c == 10) = true) : gapF true (c :: l) = gapF false (c :: l) := by
  have : c = 10 := by simpa using hc
  subst this
  simp [gapF, isBlank]
