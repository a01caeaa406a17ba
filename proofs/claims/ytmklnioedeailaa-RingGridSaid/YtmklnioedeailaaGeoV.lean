/-
  The reference's On and Root of the geometry, walked.
-/
import Derived.Test.YtmklnioedeailaaGeoU
import Derived.Test.YtmklnioedeailaaPlainO
namespace Go.Proofs.Ytmklnioedeailaa
open Go.RowKit Go.Proofs.PlGeom

theorem onR_out {A B C D : Prop} [Decidable A] [Decidable B] [Decidable C] [Decidable D] (e : Bool) (h : ¬ (A ∧ B ∧ C ∧ D)) : (decide A && decide B && decide C && decide D && e) = false := by
  cases e
  · simp
  · simp only [Bool.and_true, Bool.and_eq_false_iff, decide_eq_false_iff_not]
    by_cases a : A
    · by_cases b : B
      · by_cases c : C
        · by_cases d : D
          · exact absurd ⟨a, b, c, d⟩ h
          · exact .inr d
        · exact .inl (.inr c)
      · exact .inl (.inl (.inr b))
    · exact .inl (.inl (.inl a))

set_option maxRecDepth 100000 in
set_option maxHeartbeats 2000000 in
theorem ron_in (ax ay bx bY px py : Int) (w : World) (hn : nearL [⟨ax, ay⟩, ⟨bx, bY⟩, ⟨px, py⟩] = true) :
    Calls Try.prog 48 #[.agg #[.int .i64 ax, .int .i64 ay, .int .i64 bx, .int .i64 bY], .agg #[.int .i64 px, .int .i64 py]] w fun e w' => e = .returned (.bool (onS ⟨⟨ax, ay⟩, ⟨bx, bY⟩⟩ ⟨px, py⟩)) ∧ Below w.heap.size w w' := by
  obtain ⟨R, hR⟩ : ∃ R, R = onS ⟨⟨ax, ay⟩, ⟨bx, bY⟩⟩ ⟨px, py⟩ := ⟨_, rfl⟩
  rw [← hR]
  rw [onR_onS _ _ hn] at hR
  simp only [onR] at hR
  have HX := hide (fun w => rcross_any ax ay bx bY px py w hn)
  have HA := hide (rseg_any ax ay bx bY)
  have HB := hide (is_any px py)
  simp only [nearL, Bool.and_true, Bool.and_eq_true] at hn
  obtain ⟨n1, n2, n3⟩ := hn
  rw [n1, n2] at HA
  rw [n3] at HB
  clear n1 n2 n3
  generalize cross ⟨ax, ay⟩ ⟨bx, bY⟩ ⟨px, py⟩ = X at *
  have HR := hide hR
  clear hR
  go_enter Try.func48, Try.ntmps48
  go_wp2_with fail
  refine (HA.out _).mono ?_
  rintro _ w1 ⟨rfl, b1⟩
  have A1 := blkB b1 (new2 w _ _).1
  have B1 := blkB b1 (new2 w _ _).2.1
  have E1 := bto (new2 w _ _).2.2 b1
  clear b1
  obtain ⟨⟨d1, d2⟩, _⟩ := blk2 B1
  go_wp2_with fail
  refine (HB.out _).mono ?_
  rintro _ w2 ⟨rfl, b2⟩
  have A2 := blkB b2 A1
  have B2 := blkB b2 B1
  have E2 := bto E1 b2
  clear d1 d2 A1 B1 E1 b2
  obtain ⟨⟨d1, d2, d3, d4⟩, _⟩ := blk4 A2
  obtain ⟨⟨d5, d6⟩, _⟩ := blk2 B2
  go_wp2_with fail
  all_goals first
    | (go_ret
       exact ⟨ret_bool (by rw [HR.out]; exact (onR_out _ (by omega)).symm), E2⟩)
    | ((with_reducible refine (HX.out _).mono ?_)
       rintro _ w3 ⟨rfl, b3⟩
       go_wp2_with fail
       go_ret
       exact ⟨ret_bool (by rw [HR.out, decide_eq_true (by omega), decide_eq_true (by omega), decide_eq_true (by omega), decide_eq_true (by omega)]; rfl), bto E2 b3⟩)

set_option maxHeartbeats 1000000 in
theorem ron_any (ax ay bx bY px py : Int) (w : World) :
    Calls Try.prog 48 #[.agg #[.int .i64 ax, .int .i64 ay, .int .i64 bx, .int .i64 bY], .agg #[.int .i64 px, .int .i64 py]] w fun e w' => e = .returned (.bool (onS ⟨⟨ax, ay⟩, ⟨bx, bY⟩⟩ ⟨px, py⟩)) ∧ Below w.heap.size w w' := by
  cases hn : nearL [⟨ax, ay⟩, ⟨bx, bY⟩, ⟨px, py⟩] with
  | true => exact ron_in ax ay bx bY px py w hn
  | false =>
    have hR : onS ⟨⟨ax, ay⟩, ⟨bx, bY⟩⟩ ⟨px, py⟩ = false := by unfold onS; simp only; rw [hn]; rfl
    rw [hR]
    have HA := hide (rseg_any ax ay bx bY)
    have HB := hide (is_any px py)
    simp only [nearL, Bool.and_true, ← Bool.and_assoc] at hn
    generalize (nearB ⟨ax, ay⟩ && nearB ⟨bx, bY⟩) = p at *
    cases p with
    | false =>
      clear hn hR
      go_enter Try.func48, Try.ntmps48
      go_wp2_with fail
      refine (HA.out _).mono ?_
      rintro _ w1 ⟨rfl, b1⟩
      go_wp2_with fail
      go_ret
      exact ⟨rfl, bto (new2 w _ _).2.2 b1⟩
    | true =>
      rw [Bool.true_and] at hn
      rw [hn] at HB
      clear hn hR
      go_enter Try.func48, Try.ntmps48
      go_wp2_with fail
      refine (HA.out _).mono ?_
      rintro _ w1 ⟨rfl, b1⟩
      obtain ⟨⟨d1, d2⟩, _⟩ := blk2 (blkB b1 (new2 w _ _).2.1)
      go_wp2_with fail
      refine (HB.out _).mono ?_
      rintro _ w2 ⟨rfl, b2⟩
      go_wp2_with fail
      go_ret
      exact ⟨rfl, bto (bto (new2 w _ _).2.2 b1) b2⟩

theorem sq_le_iff (R n : Nat) (h1 : R * R ≤ n) (h2 : n < (R + 1) * (R + 1)) (x : Nat) : x * x ≤ n ↔ x ≤ R := by
  constructor
  · intro h
    rcases Nat.lt_or_ge R x with g | g
    · have := Nat.mul_le_mul (show R + 1 ≤ x from g) (show R + 1 ≤ x from g); omega
    · exact g
  · intro h
    exact Nat.le_trans (Nat.mul_le_mul h h) h1

end Go.Proofs.Ytmklnioedeailaa
