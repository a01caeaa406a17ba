/-
  The plain law of a digit of a long division (Knuth). No program in sight.
-/
namespace Go.Proofs.PlGeom

/-- A divisor of 64 bits, its upper bit set, in two halves; a dividend's upper part below it, and a digit more. -/
structure Dig (y1 y0 u c : Nat) : Prop where
  h1 : 2147483648 ≤ y1
  h2 : y1 < 4294967296
  h3 : y0 < 4294967296
  hu : u < y1 * 4294967296 + y0
  hc : c < 4294967296

def digit (y1 y0 u c : Nat) : Nat := (u * 4294967296 + c) / (y1 * 4294967296 + y0)

theorem digit_lt {y1 y0 u c : Nat} (h : Dig y1 y0 u c) : digit y1 y0 u c < 4294967296 := by
  unfold digit
  rw [Nat.div_lt_iff_lt_mul (by have := h.h1; omega)]
  have hu := h.hu
  have hc := h.hc
  obtain ⟨Y, hY⟩ : ∃ Y, y1 * 4294967296 + y0 = Y := ⟨_, rfl⟩
  rw [hY] at hu ⊢
  omega

/-- The first guess is not too small, and at most one above the base. -/
theorem digit_start {y1 y0 u c : Nat} (h : Dig y1 y0 u c) : digit y1 y0 u c ≤ u / y1 ∧ u / y1 ≤ 4294967297 ∧ u / y1 * y1 + (u - u / y1 * y1) = u ∧ u - u / y1 * y1 < y1 := by
  have a1 := h.h1
  have a2 := h.h2
  have a3 := h.h3
  have a4 := h.hu
  have a5 := h.hc
  have hy : 0 < y1 := by omega
  have e1 := Nat.div_add_mod u y1
  have e2 := Nat.mod_lt u hy
  have e3 : u / y1 * y1 = y1 * (u / y1) := Nat.mul_comm _ _
  refine ⟨?_, ?_, by omega, by omega⟩
  · rw [Nat.le_div_iff_mul_le hy]
    have hq : digit y1 y0 u c * (y1 * 4294967296 + y0) ≤ u * 4294967296 + c := Nat.div_mul_le_self _ _
    generalize digit y1 y0 u c = Q at *
    have e : Q * (y1 * 4294967296 + y0) = Q * y1 * 4294967296 + Q * y0 := by grind
    rw [e] at hq
    generalize Q * y1 = a at *
    generalize Q * y0 = b at *
    omega
  · rw [← Nat.lt_succ_iff, Nat.div_lt_iff_lt_mul hy]
    omega

/-- The test says that the guess is too great. -/
theorem over_plain (a b r u c : Nat) (hq : a + r = u) (ht : r * 4294967296 + c < b) : u * 4294967296 + c < a * 4294967296 + b := by
  rw [← hq, Nat.add_mul, Nat.add_assoc]
  exact Nat.add_lt_add_left ht _
theorem digit_over {y1 y0 u c q r : Nat} (h : Dig y1 y0 u c) (hq : q * y1 + r = u) (ht : 4294967296 ≤ q ∨ r * 4294967296 + c < q * y0) : digit y1 y0 u c < q := by
  rcases ht with ht | ht
  · have := digit_lt h; omega
  · unfold digit
    have a1 := h.h1
    rw [Nat.div_lt_iff_lt_mul (by omega)]
    have e : q * (y1 * 4294967296 + y0) = q * y1 * 4294967296 + q * y0 := by grind
    rw [e]
    exact over_plain _ _ r u c hq ht

/-- The test says no: the guess is the digit. -/
theorem digit_done {y1 y0 u c q r : Nat} (h : Dig y1 y0 u c) (hq : q * y1 + r = u) (hge : digit y1 y0 u c ≤ q) (ht : q * y0 ≤ r * 4294967296 + c) : q = digit y1 y0 u c := by
  refine Nat.le_antisymm ?_ hge
  unfold digit
  have a1 := h.h1
  rw [Nat.le_div_iff_mul_le (by omega)]
  have e : q * (y1 * 4294967296 + y0) = q * y1 * 4294967296 + q * y0 := by grind
  rw [e]
  generalize q * y1 = a at *
  generalize q * y0 = b at *
  omega

/-- The rest has grown to the base: the test would say no. -/
theorem digit_full {y1 y0 u c q r : Nat} (h : Dig y1 y0 u c) (hq : q * y1 + r = u) (hge : digit y1 y0 u c ≤ q) (hq2 : q ≤ 4294967296) (hr : 4294967296 ≤ r) : q = digit y1 y0 u c := by
  refine digit_done h hq hge ?_
  have := h.h3
  have e : q * y0 ≤ 4294967296 * 4294967295 := Nat.mul_le_mul hq2 (by omega)
  omega

theorem digit_rest {y1 y0 u c : Nat} (h : Dig y1 y0 u c) : digit y1 y0 u c * (y1 * 4294967296 + y0) ≤ u * 4294967296 + c ∧ u * 4294967296 + c - digit y1 y0 u c * (y1 * 4294967296 + y0) < y1 * 4294967296 + y0 := by
  have a1 := h.h1
  have hy : 0 < y1 * 4294967296 + y0 := by omega
  unfold digit
  obtain ⟨Y, hY⟩ : ∃ Y, y1 * 4294967296 + y0 = Y := ⟨_, rfl⟩
  obtain ⟨U, hU⟩ : ∃ U, u * 4294967296 + c = U := ⟨_, rfl⟩
  rw [hY, hU]
  rw [hY] at hy
  clear hY hU
  have e1 := Nat.div_add_mod U Y
  have e2 := Nat.mod_lt U hy
  have e3 : U / Y * Y = Y * (U / Y) := Nat.mul_comm _ _
  omega

/-- Two digits make the quotient. -/
theorem digits_two {y1 y0 u c d : Nat} (h : Dig y1 y0 u c) :
    (u * 18446744073709551616 + c * 4294967296 + d) / (y1 * 4294967296 + y0) = digit y1 y0 u c * 4294967296 + digit y1 y0 (u * 4294967296 + c - digit y1 y0 u c * (y1 * 4294967296 + y0)) d := by
  obtain ⟨r1, r2⟩ := digit_rest h
  have a1 := h.h1
  have hy : 0 < y1 * 4294967296 + y0 := by omega
  generalize hq : digit y1 y0 u c = q at *
  have e : u * 18446744073709551616 + c * 4294967296 + d = (u * 4294967296 + c - q * (y1 * 4294967296 + y0)) * 4294967296 + d + q * 4294967296 * (y1 * 4294967296 + y0) := by
    have e1 : q * 4294967296 * (y1 * 4294967296 + y0) = q * (y1 * 4294967296 + y0) * 4294967296 := by grind
    rw [e1]
    generalize q * (y1 * 4294967296 + y0) = Z at *
    omega
  rw [e, Nat.add_mul_div_right _ _ hy, Nat.add_comm]
  rfl

/-- The dividend and the divisor, moved up so that the divisor's upper bit is set. -/
theorem div_norm (hi lo y s : Nat) (hs : s ≤ 64) (h1 : hi < y) (h2 : lo < 2 ^ 64) :
    lo / 2 ^ (64 - s) < 2 ^ s ∧ hi * 2 ^ s + lo / 2 ^ (64 - s) < y * 2 ^ s ∧ (hi * 2 ^ 64 + lo) * 2 ^ s = (hi * 2 ^ s + lo / 2 ^ (64 - s)) * 2 ^ 64 + lo * 2 ^ s % 2 ^ 64 := by
  have hp : 0 < 2 ^ s := Nat.pow_pos (by decide)
  have e : 2 ^ 64 = 2 ^ (64 - s) * 2 ^ s := by rw [← Nat.pow_add]; congr 1; omega
  have hL : lo / 2 ^ (64 - s) < 2 ^ s := by
    rw [Nat.div_lt_iff_lt_mul (Nat.pow_pos (by decide)), Nat.mul_comm, ← e]; exact h2
  have hd : lo * 2 ^ s / 2 ^ 64 = lo / 2 ^ (64 - s) := by rw [e, Nat.mul_div_mul_right _ _ hp]
  have hm := Nat.div_add_mod (lo * 2 ^ s) (2 ^ 64)
  rw [hd] at hm
  refine ⟨hL, ?_, ?_⟩
  · have := Nat.mul_le_mul_right (2 ^ s) (show hi + 1 ≤ y from h1)
    rw [Nat.add_mul, Nat.one_mul] at this
    omega
  · rw [Nat.add_mul, Nat.add_mul, Nat.mul_right_comm hi]
    rw [Nat.mul_comm (lo / 2 ^ (64 - s)), Nat.add_assoc, hm]
end Go.Proofs.PlGeom
