/-
  Mul64, walked at a square.
-/
import Derived.Test.YtepfhifogkopcaaGeoR
namespace Go.Proofs.Ytepfhifogkopcaa
open Go.RowKit Go.Proofs.PlGeom

theorem band32 (n : Nat) (hn : n < 9223372036854775808) : bits .and .u64 (n : Int) 4294967295 = ((n % 4294967296 : Nat) : Int) := by
  have h := bits_mask .u64 63 (by decide) (fun n h0 h1 => by rw [IntKind.wrap_u64]; omega) 32 (by decide) (n : Int) (by omega) (by omega)
  rw [show ((2 : Int) ^ 32 - 1) = 4294967295 from rfl, show ((2 : Int) ^ 32) = 4294967296 from rfl] at h
  rw [h]; omega

/-- The high and the low half of a square. -/
theorem sq_halves (m x1 x0 P Q R : Nat) (hm : m = x1 * 4294967296 + x0) (hP : x0 * x0 = P) (hQ : x1 * x0 = Q) (hR : x1 * x1 = R) :
    m * m = R * 18446744073709551616 + 2 * Q * 4294967296 + P := by
  subst hm hP hQ hR
  grind

set_option maxHeartbeats 1000000 in
theorem mul_sq (m : Nat) (hm : m ≤ 35184372088832) (w : World) : Calls Try.prog 42 #[.int .u64 m, .int .u64 m] w fun e w' => e = .returned (.tuple #[.int .u64 (m * m / 18446744073709551616 : Nat), .int .u64 (m * m % 18446744073709551616 : Nat)]) ∧ w = w' := by
  obtain ⟨x0, h0⟩ : ∃ x, x = m % 4294967296 := ⟨_, rfl⟩
  obtain ⟨x1, h1⟩ : ∃ x, x = m / 4294967296 := ⟨_, rfl⟩
  have hx0 : x0 ≤ 4294967295 := by omega
  have hx1 : x1 ≤ 8192 := by omega
  obtain ⟨P, hP⟩ : ∃ P, x0 * x0 = P := ⟨_, rfl⟩
  obtain ⟨Q, hQ⟩ : ∃ Q, x1 * x0 = Q := ⟨_, rfl⟩
  obtain ⟨R, hR⟩ : ∃ R, x1 * x1 = R := ⟨_, rfl⟩
  have hs := sq_halves m x1 x0 P Q R (by omega) hP hQ hR
  have bP : P ≤ 18446744065119617025 := by rw [← hP]; exact Nat.mul_le_mul hx0 hx0
  have bQ : Q ≤ 35184372080640 := by rw [← hQ]; exact Nat.mul_le_mul hx1 hx0
  have bR : R ≤ 67108864 := by rw [← hR]; exact Nat.mul_le_mul hx1 hx1
  have e1 : bits .and .u64 (m : Int) 4294967295 = (x0 : Int) := by rw [band32 m (by omega), ← h0]
  have e2 : (m : Int) / 4294967296 = (x1 : Int) := by rw [h1]; omega
  have e3 : (x0 : Int) * x0 = (P : Int) := by rw [← hP]; push_cast; rfl
  have e4 : (x1 : Int) * x0 = (Q : Int) := by rw [← hQ]; push_cast; rfl
  have e5 : (x0 : Int) * x1 = (Q : Int) := by rw [← hQ, Int.mul_comm]; push_cast; rfl
  have e6 : (x1 : Int) * x1 = (R : Int) := by rw [← hR]; push_cast; rfl
  obtain ⟨c, hc⟩ : ∃ c, c = P / 4294967296 := ⟨_, rfl⟩
  have e7 : (P : Int) / 4294967296 = (c : Int) := by rw [hc]; omega
  obtain ⟨t, ht⟩ : ∃ t, t = Q + c := ⟨_, rfl⟩
  have e8 : (Q : Int) + c = (t : Int) := by omega
  obtain ⟨w1, hw1⟩ : ∃ w1, w1 = t % 4294967296 := ⟨_, rfl⟩
  obtain ⟨w2, hw2⟩ : ∃ w2, w2 = t / 4294967296 := ⟨_, rfl⟩
  have e9 : bits .and .u64 (t : Int) 4294967295 = (w1 : Int) := by rw [band32 t (by omega), ← hw1]
  have e10 : (t : Int) / 4294967296 = (w2 : Int) := by rw [hw2]; omega
  obtain ⟨w3, hw3⟩ : ∃ w3, w3 = w1 + Q := ⟨_, rfl⟩
  have e11 : (w1 : Int) + Q = (w3 : Int) := by omega
  obtain ⟨w4, hw4⟩ : ∃ w4, w4 = w3 / 4294967296 := ⟨_, rfl⟩
  have e12 : (w3 : Int) / 4294967296 = (w4 : Int) := by rw [hw4]; omega
  have hhi : R + w2 + w4 = m * m / 18446744073709551616 := by omega
  have hhi2 : (R : Int) + w2 + w4 = ((m * m / 18446744073709551616 : Nat) : Int) := by rw [← hhi]; push_cast; rfl
  have elo : IntKind.u64.wrap ((m : Int) * m) = ((m * m % 18446744073709551616 : Nat) : Int) := by
    rw [IntKind.wrap_u64]
    have : (m : Int) * m = ((m * m : Nat) : Int) := by push_cast; rfl
    rw [this]; omega
  have b1 : P ≤ 18446744073709551615 := by omega
  have b2 : t ≤ 1000000000000000000 := by omega
  have b3 : w3 ≤ 1000000000000000000 := by omega
  have b4 : w2 ≤ 1000000000 := by omega
  have b5 : w4 ≤ 1000000000 := by omega
  generalize m * m / 18446744073709551616 = hi at *
  generalize m * m % 18446744073709551616 = lo at *
  have bm : m ≤ 1000000000000000000 := by omega
  have bw1 : w1 ≤ 1000000000000 := by omega
  have bc : c ≤ 1000000000000 := by omega
  have bhi : hi ≤ 1000000000000 := by omega
  clear hs hhi hP hQ hR h0 h1 hc ht hw1 hw2 hw3 hw4 hm
  go_enter Try.func42, Try.ntmps42
  go_wp2
  go_ret2
  exact ⟨rfl, rfl⟩
