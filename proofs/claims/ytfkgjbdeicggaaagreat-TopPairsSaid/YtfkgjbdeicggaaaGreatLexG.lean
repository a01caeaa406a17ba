/-
  The reference's Written and Decimal, and the law's written, walked.
-/
import Derived.Test.YtfkgjbdeicggaaaGreatLexAE
namespace Go.Proofs.YtfkgjbdeicggaaaGreat
open Go.RowKit Go.Proofs.PlLex

/-- A number in decimal digits. -/
def dgt (n : Nat) : UInt8 := UInt8.ofNat (48 + n)
def decimal : Nat → Nat → L
  | 0, _ => []
  | f + 1, n => if n < 10 then [dgt n] else decimal f (n / 10) ++ [dgt (n % 10)]

theorem digit_text (n : Nat) (h : n < 10) : (ByteArray.mk #[48, 49, 50, 51, 52, 53, 54, 55, 56, 57]).extract n (n + 1) = ⟨#[dgt n]⟩ := by
  match n, h with
  | 0, _ => rfl
  | 1, _ => rfl
  | 2, _ => rfl
  | 3, _ => rfl
  | 4, _ => rfl
  | 5, _ => rfl
  | 6, _ => rfl
  | 7, _ => rfl
  | 8, _ => rfl
  | 9, _ => rfl
theorem decimal_one (f n : Nat) (h : n < 10) : decimal (f + 1) n = [dgt n] := by simp [decimal, h]
theorem decimal_more (f n : Nat) (h : ¬ n < 10) (hf : 1 ≤ f) : decimal (f + 1) n = decimal f (n / 10) ++ decimal f (n % 10) := by
  obtain ⟨f, rfl⟩ : ∃ g, f = g + 1 := ⟨f - 1, by omega⟩
  rw [decimal, if_neg h, decimal_one f (n % 10) (by omega)]
theorem decimal_len (f n : Nat) : (decimal f n).length ≤ f := by
  induction f generalizing n with
  | zero => simp [decimal]
  | succ f ih =>
    rw [decimal]
    split
    · simp
    · have := ih (n / 10); simp; exact this
theorem decimal_ne (f n : Nat) : decimal (f + 1) n ≠ [] := by
  rw [decimal]; split <;> simp
theorem dgt_digit (m : Nat) (hm : m < 10) : isDigit (dgt m) = true := by
  match m, hm with
  | 0, _ => rfl
  | 1, _ => rfl
  | 2, _ => rfl
  | 3, _ => rfl
  | 4, _ => rfl
  | 5, _ => rfl
  | 6, _ => rfl
  | 7, _ => rfl
  | 8, _ => rfl
  | 9, _ => rfl
theorem decimal_digits (f n : Nat) : (decimal f n).all isDigit = true := by
  induction f generalizing n with
  | zero => rfl
  | succ f ih =>
    rw [decimal]
    split
    · rename_i h
      simp [dgt_digit n h]
    · simp [ih, dgt_digit (n % 10) (by omega)]

def decText (f : Nat) (x : Int) : ByteArray := ⟨(decimal f x.toNat).toArray⟩
theorem decText_size (f : Nat) (x : Int) : (decText f x).size ≤ f := by
  unfold decText
  show ((decimal f x.toNat).toArray).size ≤ f
  simpa using decimal_len f x.toNat

set_option maxHeartbeats 400000 in
theorem decimal_any (f : Nat) : ∀ (x : Int) (w : World), f ≤ 20 → 0 ≤ x → x < 10 ^ f → x ≤ 1000000000 →
    Calls Tryz.prog 22 #[.int .i64 x] w fun e w' => e = .returned (.string (decText (f + 1) x)) ∧ w = w' := by
  induction f with
  | zero =>
    intro x w hf h0 h h9
    obtain rfl : x = 0 := by simp at h; omega
    go_enter Tryz.func22, Tryz.ntmps22
    go_wp2_with fail
    go_ret
    exact ⟨rfl, rfl⟩
  | succ f ih =>
    intro x w hf h0 h h9
    have IH := hide ih
    have HH := hide h
    clear ih h
    by_cases h10 : x < 10
    · have ht : decText (f + 1 + 1) x = (ByteArray.mk #[48, 49, 50, 51, 52, 53, 54, 55, 56, 57]).extract x.toNat (x.toNat + 1) := by
        rw [digit_text _ (by omega)]
        unfold decText
        rw [decimal_one _ _ (by omega)]
      have HT := hide ht
      clear ht
      obtain ⟨n, rfl⟩ := Int.eq_ofNat_of_zero_le h0
      go_enter Tryz.func22, Tryz.ntmps22
      go_wp2_with fail
      go_ret
      refine ⟨ret_str ?_, rfl⟩
      rw [HT.out]; simp
    · have h1 : 1 ≤ f + 1 := by omega
      have ht : decText (f + 1 + 1) x = decText (f + 1) (x / 10) ++ decText (f + 1) (x % 10) := by
        refine (str_of_list _ _ ?_).symm
        unfold decText
        rw [app_list, decimal_more (f + 1) _ (by omega) h1, show (x / 10).toNat = x.toNat / 10 by omega, show (x % 10).toNat = x.toNat % 10 by omega]
      have HT := hide ht
      clear ht
      have hp : x / 10 < 10 ^ f := by
        have := HH.out
        rw [Int.pow_succ] at this
        omega
      have hp2 : x % 10 < 10 ^ f := by
        have e1 : 1 ≤ f := by
          rcases Nat.eq_zero_or_pos f with h0 | h0
          · subst h0; have := HH.out; simp at this; omega
          · exact h0
        obtain ⟨g, rfl⟩ : ∃ g, f = g + 1 := ⟨f - 1, by omega⟩
        have e2 : (0 : Int) < 10 ^ g := Int.pow_pos (by decide)
        rw [Int.pow_succ]
        omega
      have HP := hide hp
      have HP2 := hide hp2
      have s1 := decText_size (f + 1) (x / 10)
      have s2 := decText_size (f + 1) (x % 10)
      clear hp hp2
      go_enter Tryz.func22, Tryz.ntmps22
      go_wp2_with fail
      refine (IH.out _ _ (by omega) (by omega) HP.out (by omega)).mono ?_
      rintro e w' ⟨rfl, rfl⟩
      go_wp2_with fail
      refine (IH.out _ _ (by omega) (by omega) HP2.out (by omega)).mono ?_
      rintro e w' ⟨rfl, rfl⟩
      go_wp2_with fail
      go_ret
      refine ⟨ret_str ?_, rfl⟩
      rw [HT.out]

theorem writtenAll_snoc (ts : List Tok) (k : Nat) (h : k < ts.length) : writtenAll (ts.take (k + 1)) = writtenAll (ts.take k) ++ (wr ts[k].kind ts[k].text ++ [32]) := by
  have gen : ∀ a b : List Tok, writtenAll (a ++ b) = writtenAll a ++ writtenAll b := by
    intro a b
    induction a with
    | nil => rfl
    | cons t a ih => simp [writtenAll, ih]
  rw [List.take_succ_eq_append_getElem h, gen]
  rfl
theorem wlen_take (ts : List Tok) (k : Nat) : wlen (ts.take k) ≤ wlen ts := by
  induction ts generalizing k with
  | nil => simp
  | cons t ts ih =>
    cases k with
    | zero => simp [wlen]
    | succ k => simp only [List.take_succ_cons, wlen]; have := ih k; omega
theorem wlen_mem (ts : List Tok) (t : Tok) (h : t ∈ ts) : (wr t.kind t.text).length ≤ wlen ts := by
  induction ts with
  | nil => cases h
  | cons u ts ih =>
    simp only [wlen]
    rcases List.mem_cons.1 h with rfl | h
    · omega
    · have := ih h; omega
theorem quoteB_len (l : L) : l.length ≤ (quoteB l).length := by
  induction l with
  | nil => simp
  | cons c l ih => simp only [quoteB]; split <;> (try split) <;> simp <;> omega
theorem wr_len (k : Nat) (t : L) : t.length ≤ (wr k t).length := by
  unfold wr
  split
  · have := quoteB_len t; simp [quote]; omega
  · omega
