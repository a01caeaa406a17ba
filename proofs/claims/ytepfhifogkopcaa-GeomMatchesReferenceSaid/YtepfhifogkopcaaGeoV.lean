/-
  The reference's On and Root of the geometry, walked.
-/
import Derived.Test.YtepfhifogkopcaaGeoU
import Derived.Test.YtepfhifogkopcaaPlainO
namespace Go.Proofs.Ytepfhifogkopcaa
open Go.RowKit Go.Proofs.PlGeom

theorem onR_out {A B C D : Prop} [Decidable A] [Decidable B] [Decidable C] [Decidable D] (e : Bool) (h : ¬ (A ∧ B ∧ C ∧ D)) : (decide A && decide B && decide C && decide D && e) = false := by
  cases e
  · simp
  · simp only [Bool.and_true, Bool.and_eq_false_iff, decide_eq_false_iff_not]
    by_cases a : A
    · by_cases b : B
      · by_cases c : C
        · by_cases d : D
          · exact absurd ⟨a, b, c, d⟩ h
          · exact .inr d
        · exact .inl (.inr c)
      · exact .inl (.inl (.inr b))
    · exact .inl (.inl (.inl a))

set_option maxRecDepth 100000 in
set_option maxHeartbeats 2000000 in
theorem ron_in (ax ay bx bY px py : Int) (w : World) (hn : nearL [⟨ax, ay⟩, ⟨bx, bY⟩, ⟨px, py⟩] = true) :
    Calls Try.prog 16 #[.agg #[.int .i64 ax, .int .i64 ay, .int .i64 bx, .int .i64 bY], .agg #[.int .i64 px, .int .i64 py]] w fun e w' => e = .returned (.bool (onS ⟨⟨ax, ay⟩, ⟨bx, bY⟩⟩ ⟨px, py⟩)) ∧ Below w.heap.size w w' := by
  obtain ⟨R, hR⟩ : ∃ R, R = onS ⟨⟨ax, ay⟩, ⟨bx, bY⟩⟩ ⟨px, py⟩ := ⟨_, rfl⟩
  rw [← hR]
  rw [onR_onS _ _ hn] at hR
  simp only [onR] at hR
  have HX := hide (fun w => rcross_any ax ay bx bY px py w hn)
  have HA := hide (rseg_any ax ay bx bY)
  have HB := hide (is_any px py)
  simp only [nearL, Bool.and_true, Bool.and_eq_true] at hn
  obtain ⟨n1, n2, n3⟩ := hn
  rw [n1, n2] at HA
  rw [n3] at HB
  clear n1 n2 n3
  generalize cross ⟨ax, ay⟩ ⟨bx, bY⟩ ⟨px, py⟩ = X at *
  have HR := hide hR
  clear hR
  go_enter Try.func16, Try.ntmps16
  go_wp2_with fail
  refine (HA.out _).mono ?_
  rintro _ w1 ⟨rfl, b1⟩
  have A1 := blkB b1 (new2 w _ _).1
  have B1 := blkB b1 (new2 w _ _).2.1
  have E1 := bto (new2 w _ _).2.2 b1
  clear b1
  obtain ⟨⟨d1, d2⟩, _⟩ := blk2 B1
  go_wp2_with fail
  refine (HB.out _).mono ?_
  rintro _ w2 ⟨rfl, b2⟩
  have A2 := blkB b2 A1
  have B2 := blkB b2 B1
  have E2 := bto E1 b2
  clear d1 d2 A1 B1 E1 b2
  obtain ⟨⟨d1, d2, d3, d4⟩, _⟩ := blk4 A2
  obtain ⟨⟨d5, d6⟩, _⟩ := blk2 B2
  go_wp2_with fail
  all_goals first
    | (go_ret
       exact ⟨ret_bool (by rw [HR.out]; exact (onR_out _ (by omega)).symm), E2⟩)
    | ((with_reducible refine (HX.out _).mono ?_)
       rintro _ w3 ⟨rfl, b3⟩
       go_wp2_with fail
       go_ret
       exact ⟨ret_bool (by rw [HR.out, decide_eq_true (by omega), decide_eq_true (by omega), decide_eq_true (by omega), decide_eq_true (by omega)]; rfl), bto E2 b3⟩)

set_option maxHeartbeats 1000000 in
theorem ron_any (ax ay bx bY px py : Int) (w : World) :
    Calls Try.prog 16 #[.agg #[.int .i64 ax, .int .i64 ay, .int .i64 bx, .int .i64 bY], .agg #[.int .i64 px, .int .i64 py]] w fun e w' => e = .returned (.bool (onS ⟨⟨ax, ay⟩, ⟨bx, bY⟩⟩ ⟨px, py⟩)) ∧ Below w.heap.size w w' := by
  cases hn : nearL [⟨ax, ay⟩, ⟨bx, bY⟩, ⟨px, py⟩] with
  | true => exact ron_in ax ay bx bY px py w hn
  | false =>
    have hR : onS ⟨⟨ax, ay⟩, ⟨bx, bY⟩⟩ ⟨px, py⟩ = false := by unfold onS; simp only; rw [hn]; rfl
    rw [hR]
    have HA := hide (rseg_any ax ay bx bY)
    have HB := hide (is_any px py)
    simp only [nearL, Bool.and_true, ← Bool.and_assoc] at hn
    generalize (nearB ⟨ax, ay⟩ && nearB ⟨bx, bY⟩) = p at *
    cases p with
    | false =>
      clear hn hR
      go_enter Try.func16, Try.ntmps16
      go_wp2_with fail
      refine (HA.out _).mono ?_
      rintro _ w1 ⟨rfl, b1⟩
      go_wp2_with fail
      go_ret
      exact ⟨rfl, bto (new2 w _ _).2.2 b1⟩
    | true =>
      rw [Bool.true_and] at hn
      rw [hn] at HB
      clear hn hR
      go_enter Try.func16, Try.ntmps16
      go_wp2_with fail
      refine (HA.out _).mono ?_
      rintro _ w1 ⟨rfl, b1⟩
      obtain ⟨⟨d1, d2⟩, _⟩ := blk2 (blkB b1 (new2 w _ _).2.1)
      go_wp2_with fail
      refine (HB.out _).mono ?_
      rintro _ w2 ⟨rfl, b2⟩
      go_wp2_with fail
      go_ret
      exact ⟨rfl, bto (bto (new2 w _ _).2.2 b1) b2⟩

theorem sq_le_iff (R n : Nat) (h1 : R * R ≤ n) (h2 : n < (R + 1) * (R + 1)) (x : Nat) : x * x ≤ n ↔ x ≤ R := by
  constructor
  · intro h
    rcases Nat.lt_or_ge R x with g | g
    · have := Nat.mul_le_mul (show R + 1 ≤ x from g) (show R + 1 ≤ x from g); omega
    · exact g
  · intro h
    exact Nat.le_trans (Nat.mul_le_mul h h) h1

set_option maxHeartbeats 1000000 in
/-- The root by bits, for a number R with 'x * x ≤ n' exactly for the x up to R. -/
theorem rroot_core (n : Int) (R : Nat) (hR : R ≤ 3037000499) (h0 : ∀ x : Nat, 1 ≤ x → x ≤ 3037000499 → (((x : Int) * x ≤ n) ↔ x ≤ R)) (w : World) :
    Calls Try.prog 24 #[.int .i64 n] w fun e w' => e = .returned (.int .i64 R) ∧ w = w' := by
  have H0 := hide h0
  clear h0
  go_enter Try.func24, Try.ntmps24
  go_wp2
  go_loop [3, 4] (fun o i => ∃ x : Int, -1 ≤ x ∧ x ≤ 31 ∧ i = .int .i64 x ∧ ∃ q : Nat, q ≤ R ∧ o = .int .i64 q ∧ Hid (q = R / 2 ^ (x + 1).toNat * 2 ^ (x + 1).toNat)) (fun _ i => (intOf i + 1).toNat)
  case atStart => exact ⟨31, by omega, by omega, rfl, 0, by omega, rfl, by show 0 = R / 2 ^ 32 * 2 ^ 32; omega⟩
  case round =>
    obtain ⟨x, hx0, hx1, rfl, q, hq, rfl, hrel⟩ := hrel
    by_cases hlt : 0 ≤ x
    · obtain ⟨t, rfl⟩ : ∃ t : Nat, x = t := ⟨x.toNat, by omega⟩
      have hrel' := hrel.out
      rw [show ((t : Int) + 1).toNat = t + 1 by omega] at hrel'
      obtain ⟨B, hB⟩ : ∃ B, B = 2 ^ t := ⟨_, rfl⟩
      have hB1 : 1 ≤ B := by rw [hB]; exact Nat.one_le_two_pow
      have hB2 : B ≤ 2147483648 := by rw [hB]; exact Nat.pow_le_pow_right (by decide) (show t ≤ 31 by omega)
      have eB : (2 : Int) ^ t = (B : Int) := by rw [hB]; push_cast; rfl
      have hstep : (q + B ≤ R → q + B = R / 2 ^ t * 2 ^ t) ∧ (¬ q + B ≤ R → q = R / 2 ^ t * 2 ^ t) := by
        rw [Nat.pow_succ, ← hB] at hrel'
        rw [← hB]
        have e : R / (B * 2) = R / B / 2 := (Nat.div_div_eq_div_mul R B 2).symm
        rw [e] at hrel'
        have h1 := Nat.div_add_mod R B
        have h2 := Nat.mod_lt R (show 0 < B by omega)
        generalize R / B = d at *
        generalize R % B = m at *
        have h3 : d / 2 * (B * 2) = d / 2 * 2 * B := by grind
        rw [h3] at hrel'
        rcases (by omega : d % 2 = 0 ∨ d % 2 = 1) with g | g
        · have e1 : d / 2 * 2 = d := by omega
          rw [e1] at hrel'
          rw [Nat.mul_comm] at h1
          constructor <;> intro k <;> omega
        · have e1 : d / 2 * 2 = d - 1 := by omega
          rw [e1, Nat.sub_mul, Nat.one_mul] at hrel'
          have : B ≤ d * B := Nat.le_mul_of_pos_left B (by omega)
          rw [Nat.mul_comm] at h1
          constructor <;> intro k <;> omega
      have HS := hide hstep
      have hn0 := H0.out (q + B) (by omega)
      have hqB : q + B ≤ 8000000000 := by omega
      clear hstep hrel hrel' hB
      by_cases g1 : q + B ≤ 3037000499
      · have hn1 := hn0 g1
        have hp : ((q + B : Nat) : Int) * ((q + B : Nat) : Int) ≤ 9223372030926249001 := by
          have := Nat.mul_le_mul g1 g1
          have e : ((q + B : Nat) : Int) * ((q + B : Nat) : Int) = (((q + B) * (q + B) : Nat) : Int) := by push_cast; rfl
          omega
        rw [Int.natCast_add] at hp hn1
        have hp0 : 0 ≤ ((q : Int) + B) * ((q : Int) + B) := Int.mul_nonneg (by omega) (by omega)
        clear hn0
        by_cases g2 : q + B ≤ R
        · have z := hn1.2 g2
          have HF := hide (HS.out.1 g2)
          clear hn1 HS
          go_wp2
          refine ⟨⟨(t : Int) - 1, by omega, by omega, rfl, q + B, g2, by go_num, ?_⟩, ?_⟩
          · rw [show ((t : Int) - 1 + 1).toNat = t by omega]; exact HF
          · simp [intOf]
        · have z : ¬ (((q : Int) + B) * ((q : Int) + B) ≤ n) := fun h => g2 (hn1.1 h)
          have HF := hide (HS.out.2 g2)
          clear hn1 HS
          go_wp2
          refine ⟨⟨(t : Int) - 1, by omega, by omega, rfl, q, hq, rfl, ?_⟩, ?_⟩
          · rw [show ((t : Int) - 1 + 1).toNat = t by omega]; exact HF
          · simp [intOf]
      · have HF := hide (HS.out.2 (by omega))
        clear HS hn0
        go_wp2
        refine ⟨⟨(t : Int) - 1, by omega, by omega, rfl, q, hq, rfl, ?_⟩, ?_⟩
        · rw [show ((t : Int) - 1 + 1).toNat = t by omega]; exact HF
        · simp [intOf]
    · obtain rfl : x = -1 := by omega
      have hr := hrel.out
      rw [show ((-1 : Int) + 1).toNat = 0 from rfl] at hr
      simp only [Nat.pow_zero, Nat.div_one, Nat.mul_one] at hr
      subst hr
      clear hrel
      go_wp2
      go_ret
      exact ⟨rfl, rfl⟩
theorem rroot_neg (n : Int) (h : n < 0) (w : World) : Calls Try.prog 24 #[.int .i64 n] w fun e w' => e = .returned (.int .i64 0) ∧ w = w' :=
  rroot_core n 0 (by decide) (fun x h1 _ => ⟨fun g => by have : (0 : Int) ≤ (x : Int) * x := Int.mul_nonneg (by omega) (by omega); omega, fun g => by omega⟩) w
theorem rroot_any (n : Nat) (h : n < 9223372036854775808) (w : World) : Calls Try.prog 24 #[.int .i64 n] w fun e w' => e = .returned (.int .i64 (isq n)) ∧ w = w' := by
  obtain ⟨h1, h2⟩ := isq_spec n (by omega)
  refine rroot_core n (isq n) ?_ (fun x _ _ => ?_) w
  · rcases Nat.lt_or_ge 3037000499 (isq n) with g | g
    · have := Nat.mul_le_mul (show 3037000500 ≤ isq n from g) (show 3037000500 ≤ isq n from g); omega
    · exact g
  · rw [← sq_le_iff (isq n) n h1 h2 x]
    have e : (x : Int) * x = ((x * x : Nat) : Int) := by push_cast; rfl
    rw [e]; omega
end Go.Proofs.Ytepfhifogkopcaa
