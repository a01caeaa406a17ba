/-
  Root of the geometry, walked.
-/
import Derived.Test.YtepfhifogkopcaaGeoA
import Derived.Test.YtepfhifogkopcaaPlainR
import Derived.Laws.Bits64b
import Derived.Laws.BitsLemmas
namespace Go.Proofs.Ytepfhifogkopcaa
open Go.RowKit Go.Proofs.PlGeom

theorem vint {k : IntKind} {a b : Int} (h : a = b) : Value.int k a = Value.int k b := by rw [h]
theorem or_low (a d j : Nat) (hd : d < 2 ^ j) : a * 2 ^ j ||| d = a * 2 ^ j + d := by
  rw [← Nat.shiftLeft_eq]
  exact (Nat.shiftLeft_add_eq_or_of_lt hd a).symm
theorem bor (a d j : Nat) (hd : d < 2 ^ j) (ha : a * 2 ^ j + d < 18446744073709551616) : bits .or .u64 ((a * 2 ^ j : Nat) : Int) (d : Int) = ((a * 2 ^ j + d : Nat) : Int) := by
  rw [bits_or_u64_nat _ _ (by omega) (by omega), or_low a d j hd]
theorem band3 (n : Nat) (hn : n < 9223372036854775808) : bits .and .u64 (n : Int) 3 = ((n % 4 : Nat) : Int) := by
  have h := bits_mask .u64 63 (by decide) (fun n h0 h1 => by rw [IntKind.wrap_u64]; omega) 2 (by decide) (n : Int) (by omega) (by omega)
  rw [show ((2 : Int) ^ 2 - 1) = 3 from rfl, show ((2 : Int) ^ 2) = 4 from rfl] at h
  rw [h]; omega

set_option maxHeartbeats 1000000 in
theorem root_neg (n : Int) (h : n < 0) (w : World) : Calls Try.prog 23 #[.int .i64 n] w fun e w' => e = .returned (.int .i64 0) ∧ w = w' := by
  go_enter Try.func23, Try.ntmps23
  go_wp2
  go_ret
  exact ⟨rfl, rfl⟩

set_option maxHeartbeats 1000000 in
theorem root_any (n : Nat) (h : n < 9223372036854775808) (w : World) : Calls Try.prog 23 #[.int .i64 n] w fun e w' => e = .returned (.int .i64 (isq n)) ∧ w = w' := by
  have h0 : (0 : Int) ≤ n := by omega
  have HT : Hid (∀ k ≤ 32, (rt n k).1 < 4294967296 ∧ (rt n k).2 ≤ 2 * (rt n k).1) := fun k hk => rt_bd n (by omega) k hk
  obtain ⟨R, hR⟩ : ∃ R, R = isq n := ⟨_, rfl⟩
  rw [← hR]
  have HR := hide hR
  clear hR
  go_enter Try.func23, Try.ntmps23
  go_wp2
  go_loop [3, 4, 9] (fun r q i => ∃ (k : Nat) (a b : Nat), k ≤ 32 ∧ r = .int .u64 a ∧ q = .int .u64 b ∧ i = .int .i64 k ∧ Hid (rt n k = (a, b))) (fun _ _ i => 32 - (intOf i).toNat)
  case atStart => exact ⟨0, 0, 0, by omega, rfl, rfl, rfl, rfl⟩
  case round =>
    obtain ⟨k, a, b, hk, rfl, rfl, rfl, hrel⟩ := hrel
    have hbd := HT.out k hk
    rw [hrel.out] at hbd
    obtain ⟨ha, hb⟩ := hbd
    simp only at ha hb
    by_cases hlt : k < 32
    · obtain ⟨D, hD⟩ : ∃ D, D = n / 2 ^ (62 - 2 * k) := ⟨_, rfl⟩
      have hDn : D ≤ n := by rw [hD]; exact Nat.div_le_self _ _
      have hDi : ((n : Int) / 2 ^ (62 - 2 * k)) = (D : Int) := by rw [hD]; push_cast; rfl
      obtain ⟨d, hd⟩ : ∃ d, d = D % 4 := ⟨_, rfl⟩
      have hd4 : d < 4 := by omega
      have e1 : bits .and .u64 (D : Int) 3 = (d : Int) := by rw [band3 D (by omega), hd]
      have e2 : bits .or .u64 ((b : Int) * 4) (d : Int) = (b : Int) * 4 + d := by
        have := bor b d 2 (by omega) (by omega)
        push_cast at this
        exact this
      have e3 : bits .or .u64 ((a : Int) * 2 * 2) 1 = (a : Int) * 4 + 1 := by
        have := bor a 1 2 (by omega) (by omega)
        push_cast at this
        rw [show (a : Int) * 2 * 2 = (a : Int) * 4 by omega]
        exact this
      have e4 : bits .or .u64 ((a : Int) * 2) 1 = (a : Int) * 2 + 1 := by
        have := bor a 1 1 (by omega) (by omega)
        push_cast at this
        exact this
      have hstep : rt n (k + 1) = if a * 4 + 1 ≤ b * 4 + d then (a * 2 + 1, b * 4 + d - (a * 4 + 1)) else (a * 2, b * 4 + d) := by
        rw [rt, hrel.out]; simp only [← hD, ← hd]
      have HS := hide hstep
      clear hstep hD hd hrel
      by_cases ht : a * 4 + 1 ≤ b * 4 + d
      · have hs2 := HS.out
        rw [if_pos ht] at hs2
        have HS2 := hide hs2
        have ht' : (a : Int) * 4 + 1 ≤ b * 4 + d := by omega
        clear hs2 HS
        go_wp2
        refine ⟨⟨k + 1, a * 2 + 1, b * 4 + d - (a * 4 + 1), by omega, vint (by omega), vint (by omega), by go_num, HS2.out⟩, ?_⟩
        simp [intOf]; omega
      · have hs2 := HS.out
        rw [if_neg ht] at hs2
        have HS2 := hide hs2
        have ht' : ¬ ((a : Int) * 4 + 1 ≤ b * 4 + d) := by omega
        clear hs2 HS
        go_wp2
        refine ⟨⟨k + 1, a * 2, b * 4 + d, by omega, vint (by omega), vint (by omega), by go_num, HS2.out⟩, ?_⟩
        simp [intOf]; omega
    · obtain rfl : k = 32 := by omega
      have hr : R = a := by rw [HR.out, isq, hrel.out]
      have HR2 := hide hr
      clear hr hrel
      go_wp2
      go_ret
      exact ⟨ret_int (by rw [HR2.out]), rfl⟩
