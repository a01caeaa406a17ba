/-
  The reference's Near of the geometry, walked.
-/
import Derived.Test.YtepfhifogkopcaaGeoV
import Derived.Test.YtepfhifogkopcaaGeoS
namespace Go.Proofs.Ytepfhifogkopcaa
open Go.RowKit Go.Proofs.PlGeom

/-- The quotient and the rest of the product's upper bits. -/
theorem times_step (a b c t Q r : Nat) (h : a / 2 ^ (t + 1) * b = Q * c + r) : a / 2 ^ t * b = 2 * Q * c + (2 * r + (if a / 2 ^ t % 2 = 1 then b else 0)) := by
  rw [Nat.pow_succ, ← Nat.div_div_eq_div_mul] at h
  generalize a / 2 ^ t = d at *
  have e : d = d / 2 * 2 + d % 2 := by omega
  rcases (by omega : d % 2 = 0 ∨ d % 2 = 1) with g | g
  · rw [if_neg (by omega)]
    have : d * b = 2 * (d / 2 * b) := by
      have : d = d / 2 * 2 := by omega
      rw [show d * b = d / 2 * 2 * b from by rw [← this]]; grind
    rw [this, h]; grind
  · rw [if_pos g]
    have : d * b = 2 * (d / 2 * b) + b := by
      have : d = d / 2 * 2 + 1 := by omega
      rw [show d * b = (d / 2 * 2 + 1) * b from by rw [← this]]; grind
    rw [this, h]; grind

theorem band1 (n : Nat) (hn : n < 9223372036854775808) : bits .and .i64 (n : Int) 1 = ((n % 2 : Nat) : Int) := by
  have h := bits_mask .i64 63 (by decide) (fun n h0 h1 => by rw [IntKind.wrap_i64]; omega) 1 (by decide) (n : Int) (by omega) (by omega)
  rw [show ((2 : Int) ^ 1 - 1) = 1 from rfl, show ((2 : Int) ^ 1) = 2 from rfl] at h
  rw [h]; omega
/-- The state of the long multiplication: the product of the upper bits. -/
def TimesAt (a b c : Nat) (x : Int) (q r : Nat) : Prop := a / 2 ^ (x + 1).toNat * b = q * c + r ∧ r < c ∧ q ≤ a

set_option maxRecDepth 100000 in
set_option maxHeartbeats 2000000 in
theorem times_any (a b c : Nat) (ha : a ≤ 70368744177664) (hb : b ≤ 70368744177664) (hc0 : 1 ≤ c) (hc : c ≤ 70368744177664) (hq : a * (b / c) ≤ 1000000000000000000) (w : World) :
    Calls Try.prog 44 #[.int .i64 a, .int .i64 b, .int .i64 c] w fun e w' => e = .returned (.int .i64 (a * b / c : Nat)) ∧ w = w' := by
  obtain ⟨d, hd⟩ : ∃ d, b / c = d := ⟨_, rfl⟩
  obtain ⟨m, hm⟩ : ∃ m, b % c = m := ⟨_, rfl⟩
  have hmc : m < c := by rw [← hm]; exact Nat.mod_lt _ (by omega)
  have e1 : (b : Int) / c = (d : Int) := by rw [← hd]; push_cast; rfl
  have e2 : (b : Int).tdiv c = (d : Int) := by rw [Int.tdiv_eq_ediv_of_nonneg (by omega)]; exact e1
  have e3 : (b : Int) % c = (m : Int) := by rw [← hm]; push_cast; rfl
  have e4 : (b : Int).tmod c = (m : Int) := by rw [Int.tmod_eq_emod_of_nonneg (by omega)]; exact e3
  obtain ⟨P, hP⟩ : ∃ P, a * d = P := ⟨_, rfl⟩
  have e5 : (a : Int) * d = (P : Int) := by rw [← hP]; push_cast; rfl
  have hP1 : P ≤ 1000000000000000000 := by rw [← hP, ← hd]; exact hq
  have hd1 : d ≤ 70368744177664 := by rw [← hd]; exact Nat.le_trans (Nat.div_le_self _ _) hb
  have hfin : ∀ q r, a * m = q * c + r → r < c → a * b / c = P + q := by
    intro q r h hr
    have hbm : b = d * c + m := by have := Nat.div_add_mod b c; rw [hd, hm, Nat.mul_comm] at this; exact this.symm
    have : a * b = (P + q) * c + r := by rw [hbm, Nat.mul_add, h, ← hP]; grind
    rw [this, Nat.add_comm, Nat.add_mul_div_right _ _ (by omega), Nat.div_eq_of_lt hr, Nat.zero_add]
  have HF := hide hfin
  have yc : ((c : Int) == 0) = false := by rw [beq_eq_false_iff_ne]; omega
  generalize a * b / c = R at *
  clear hfin hd hm hP hq
  go_enter Try.func44, Try.ntmps44
  go_wp2
  clear e1 e2 e3 e4 e5 yc
  go_loop [8, 9, 10] (fun u v i => ∃ x : Int, -1 ≤ x ∧ x ≤ 50 ∧ i = .int .i64 x ∧ ∃ q r : Nat, u = .int .i64 q ∧ v = .int .i64 r ∧ Hid (TimesAt a m c x q r)) (fun _ _ i => (intOf i + 1).toNat)
  case atStart => exact ⟨50, by omega, by omega, rfl, 0, 0, rfl, rfl, by
    have : a / 2 ^ 51 = 0 := Nat.div_eq_of_lt (by omega)
    show a / 2 ^ 51 * m = _ ∧ _
    rw [this]; omega⟩
  case round =>
    obtain ⟨x, hx0, hx1, rfl, q, r, rfl, rfl, hrel⟩ := hrel
    have hr : r < c := hrel.out.2.1
    have hqa : q ≤ a := hrel.out.2.2
    by_cases hlt : 0 ≤ x
    · obtain ⟨t, rfl⟩ : ∃ t : Nat, x = t := ⟨x.toNat, by omega⟩
      obtain ⟨D, hD⟩ : ∃ D, D = a / 2 ^ t := ⟨_, rfl⟩
      have hDa : D ≤ a := by rw [hD]; exact Nat.div_le_self _ _
      have eD : (a : Int) / 2 ^ t = (D : Int) := by rw [hD]; push_cast; rfl
      obtain ⟨bt, hbt⟩ : ∃ bt, bt = D % 2 := ⟨_, rfl⟩
      have hb2 : bt ≤ 1 := by omega
      have eb : bits .and .i64 (D : Int) 1 = (bt : Int) := by rw [band1 D (by omega), hbt]
      have hst := times_step a m c t q r (by have := hrel.out.1; rw [show ((t : Int) + 1).toNat = t + 1 by omega] at this; exact this)
      rw [← hD, ← hbt] at hst
      have hN : D * m ≤ a * c := Nat.mul_le_mul hDa (by omega)
      have HD := hide hD
      obtain ⟨N, hNN⟩ : ∃ N, N = D * m := ⟨_, rfl⟩
      rw [← hNN] at hst hN
      have HN := hide hNN
      have HAC := hide hN
      clear hD hbt hrel hNN hN
      by_cases g : bt = 1
      · rw [if_pos g] at hst
        subst g
        have HS : Hid (N = 2 * q * c + (2 * r + m)) := hst
        clear hst
        go_wp2
        go_loop [8, 9] (fun u v => ∃ q r : Nat, u = .int .i64 q ∧ v = .int .i64 r ∧ r ≤ 300000000000000 ∧ q ≤ 300000000000000 ∧ Hid (N = q * c + r)) (fun _ v => (intOf v).toNat)
        case atStart => exact ⟨2 * q, 2 * r + m, by go_num, by go_num, by omega, by omega, HS⟩
        case round =>
          obtain ⟨q2, r2, rfl, rfl, hr2, hq2, hrel⟩ := hrel
          have hqa2 : q2 ≤ a := by
            have h1 := hrel.out
            have h2 := HAC.out
            exact Nat.le_of_mul_le_mul_right (show q2 * c ≤ a * c by omega) (by omega)
          by_cases gc : c ≤ r2
          · have HS2 : Hid (N = (q2 + 1) * c + (r2 - c)) := by
              have h1 := hrel.out
              have : (q2 + 1) * c = q2 * c + c := by grind
              show N = _
              omega
            clear hrel
            go_wp2
            refine ⟨⟨q2 + 1, r2 - c, by go_num, vint (by omega), by omega, by omega, HS2⟩, ?_⟩
            simp [intOf]; omega
          · go_wp2
            refine ⟨⟨(t : Int) - 1, by omega, by omega, rfl, q2, r2, rfl, rfl, ?_⟩, ?_⟩
            · show a / 2 ^ ((t : Int) - 1 + 1).toNat * m = _ ∧ _
              rw [show ((t : Int) - 1 + 1).toNat = t by omega, ← HD.out, ← HN.out]
              exact ⟨hrel.out, by omega, hqa2⟩
            · simp [intOf]
      · rw [if_neg g] at hst
        obtain rfl : bt = 0 := by omega
        have HS : Hid (N = 2 * q * c + 2 * r) := hst
        clear hst g
        go_wp2
        go_loop [8, 9] (fun u v => ∃ q r : Nat, u = .int .i64 q ∧ v = .int .i64 r ∧ r ≤ 300000000000000 ∧ q ≤ 300000000000000 ∧ Hid (N = q * c + r)) (fun _ v => (intOf v).toNat)
        case atStart => exact ⟨2 * q, 2 * r, by go_num, by go_num, by omega, by omega, HS⟩
        case round =>
          obtain ⟨q2, r2, rfl, rfl, hr2, hq2, hrel⟩ := hrel
          have hqa2 : q2 ≤ a := by
            have h1 := hrel.out
            have h2 := HAC.out
            exact Nat.le_of_mul_le_mul_right (show q2 * c ≤ a * c by omega) (by omega)
          by_cases gc : c ≤ r2
          · have HS2 : Hid (N = (q2 + 1) * c + (r2 - c)) := by
              have h1 := hrel.out
              have : (q2 + 1) * c = q2 * c + c := by grind
              show N = _
              omega
            clear hrel
            go_wp2
            refine ⟨⟨q2 + 1, r2 - c, by go_num, vint (by omega), by omega, by omega, HS2⟩, ?_⟩
            simp [intOf]; omega
          · go_wp2
            refine ⟨⟨(t : Int) - 1, by omega, by omega, rfl, q2, r2, rfl, rfl, ?_⟩, ?_⟩
            · show a / 2 ^ ((t : Int) - 1 + 1).toNat * m = _ ∧ _
              rw [show ((t : Int) - 1 + 1).toNat = t by omega, ← HD.out, ← HN.out]
              exact ⟨hrel.out, by omega, hqa2⟩
            · simp [intOf]
    · obtain rfl : x = -1 := by omega
      have hr0 := hrel.out.1
      rw [show ((-1 : Int) + 1).toNat = 0 from rfl, Nat.pow_zero, Nat.div_one] at hr0
      have HR := hide (HF.out q r hr0 hr)
      clear hrel hr0 HF
      go_wp2
      go_ret
      exact ⟨ret_int (by rw [HR.out]; push_cast; rfl), rfl⟩

set_option maxRecDepth 100000 in
set_option maxHeartbeats 2000000 in
theorem rnear_in (ax ay bx bY px py : Int) (w : World) (hn : nearL [⟨ax, ay⟩, ⟨bx, bY⟩, ⟨px, py⟩] = true) :
    Calls Try.prog 22 #[.agg #[.int .i64 ax, .int .i64 ay, .int .i64 bx, .int .i64 bY], .agg #[.int .i64 px, .int .i64 py]] w fun e w' => e = .returned (.int .i64 (nearV ⟨⟨ax, ay⟩, ⟨bx, bY⟩⟩ ⟨px, py⟩)) ∧ Below w.heap.size w w' := by
  obtain ⟨R, hR⟩ : ∃ R, R = nearV ⟨⟨ax, ay⟩, ⟨bx, bY⟩⟩ ⟨px, py⟩ := ⟨_, rfl⟩
  rw [← hR]
  unfold nearV at hR
  simp only at hR
  rw [hn, if_pos rfl] at hR
  have HX := hide (fun w => rcross_any ax ay bx bY px py w hn)
  have HA := hide (rseg_any ax ay bx bY)
  have HB := hide (is_any px py)
  have HS := hide (rdist_any ax ay bx bY)
  have HD1 := hide (rdist_any ax ay px py)
  have HD2 := hide (rdist_any bx bY px py)
  simp only [nearL, Bool.and_true, Bool.and_eq_true] at hn
  obtain ⟨n1, n2, n3⟩ := hn
  rw [n1, n2] at HA
  rw [n3] at HB
  have hsq : dist ⟨ax, ay⟩ ⟨bx, bY⟩ = sqv ⟨⟨ax, ay⟩, ⟨bx, bY⟩⟩ := by unfold dist sqv; rw [if_pos (by simp [nearL, n1, n2])]
  rw [hsq] at HS
  rw [nearB_iff] at n1 n2 n3
  obtain ⟨i1, i2, i3, i4⟩ := n1
  obtain ⟨j1, j2, j3, j4⟩ := n2
  obtain ⟨k1, k2, k3, k4⟩ := n3
  simp only at i1 i2 i3 i4 j1 j2 j3 j4 k1 k2 k3 k4
  obtain ⟨m1, m2⟩ := prod_near (px - ax) (bx - ax) (by omega) (by omega) (by omega) (by omega)
  obtain ⟨m3, m4⟩ := prod_near (py - ay) (bY - ay) (by omega) (by omega) (by omega) (by omega)
  obtain ⟨m5, m6⟩ := prod_near (bx - ax) (bx - ax) (by omega) (by omega) (by omega) (by omega)
  obtain ⟨m7, m8⟩ := prod_near (bY - ay) (bY - ay) (by omega) (by omega) (by omega) (by omega)
  obtain ⟨p5, p6⟩ := prod_near (px - ax) (px - ax) (by omega) (by omega) (by omega) (by omega)
  obtain ⟨p7, p8⟩ := prod_near (py - ay) (py - ay) (by omega) (by omega) (by omega) (by omega)
  obtain ⟨o1, o2⟩ := prod_near (bx - ax) (py - ay) (by omega) (by omega) (by omega) (by omega)
  obtain ⟨o3, o4⟩ := prod_near (bY - ay) (px - ax) (by omega) (by omega) (by omega) (by omega)
  have hl := lagrange (bx - ax) (bY - ay) (px - ax) (py - ay)
  have hsn := sq_nonneg ((bx - ax) * (px - ax) + (bY - ay) * (py - ay))
  have hal : (px - ax) * (bx - ax) + (py - ay) * (bY - ay) = along ⟨⟨ax, ay⟩, ⟨bx, bY⟩⟩ ⟨px, py⟩ := by unfold along; rw [Int.mul_comm (px - ax), Int.mul_comm (py - ay)]
  have hcr : cross ⟨ax, ay⟩ ⟨bx, bY⟩ ⟨px, py⟩ = crs ⟨⟨ax, ay⟩, ⟨bx, bY⟩⟩ ⟨px, py⟩ := rfl
  rw [hcr] at HX
  have hC : crs ⟨⟨ax, ay⟩, ⟨bx, bY⟩⟩ ⟨px, py⟩ * crs ⟨⟨ax, ay⟩, ⟨bx, bY⟩⟩ ⟨px, py⟩ ≤ sqv ⟨⟨ax, ay⟩, ⟨bx, bY⟩⟩ * ((px - ax) * (px - ax) + (py - ay) * (py - ay)) := by simp only [crs, sqv]; omega
  have hS2 : sqv ⟨⟨ax, ay⟩, ⟨bx, bY⟩⟩ ≤ 35184372088832 := by simp only [sqv]; omega
  have hC1 : (crs ⟨⟨ax, ay⟩, ⟨bx, bY⟩⟩ ⟨px, py⟩).natAbs ≤ 35184372088832 := by simp only [crs]; omega
  have hD : (px - ax) * (px - ax) + (py - ay) * (py - ay) ≤ 35184372088832 := by omega
  generalize (px - ax) * (px - ax) + (py - ay) * (py - ay) = D at *
  generalize crs ⟨⟨ax, ay⟩, ⟨bx, bY⟩⟩ ⟨px, py⟩ = C at *
  generalize sqv ⟨⟨ax, ay⟩, ⟨bx, bY⟩⟩ = S at *
  generalize along ⟨⟨ax, ay⟩, ⟨bx, bY⟩⟩ ⟨px, py⟩ = A at *
  have hT : 0 < A → ¬ S ≤ A → ∀ w, Calls Try.prog 44 #[.int .i64 (C.natAbs : Nat), .int .i64 (C.natAbs : Nat), .int .i64 S] w fun e w' => e = .returned (.int .i64 (C * C / S)) ∧ w = w' := by
    intro g1 g2 w
    obtain ⟨y, rfl⟩ : ∃ y : Nat, S = y := ⟨S.toNat, by omega⟩
    obtain ⟨m, hm⟩ : ∃ m : Nat, m = C.natAbs := ⟨_, rfl⟩
    have hCC : C * C = ((m * m : Nat) : Int) := by rw [hm]; exact Int.natAbs_mul_self.symm
    rw [← hm, hCC]
    have hq : m * (m / y) ≤ 1000000000000000000 := by
      have h1 : m * (m / y) ≤ m * m / y := Nat.mul_div_le_mul_div_assoc m m y
      have h2 : m * m ≤ 35184372088832 * y := by
        have h3 := Int.mul_le_mul_of_nonneg_right hD (show (0 : Int) ≤ y by omega)
        rw [hCC, Int.mul_comm (y : Int) D] at hC
        have e : ((m * m : Nat) : Int) = (m : Int) * m := Int.natCast_mul m m
        omega
      have h3 : m * m / y ≤ 35184372088832 := by
        rw [← Nat.lt_succ_iff, Nat.div_lt_iff_lt_mul (by omega), Nat.succ_mul]
        omega
      omega
    exact (times_any m m y (by omega) (by omega) (by omega) (by omega) hq w).mono fun e w' ⟨he, hw⟩ => ⟨by rw [he]; exact ret_int (by push_cast; rfl), hw⟩
  have HT := hide hT
  have HR := hide hR
  have HAL := hide hal
  have ma : -35184372088832 ≤ A := by omega
  have mb : A ≤ 35184372088832 := by omega
  clear hR hT hl hsn hC hS2 hD hcr hsq hal m5 m6 m7 m8 p5 p6 p7 p8 o1 o2 o3 o4
  by_cases g1 : A ≤ 0
  · have hr := HR.out
    rw [if_pos g1] at hr
    rw [← hr] at HD1
    have hal := HAL.out
    have g1' : (px - ax) * (bx - ax) + (py - ay) * (bY - ay) ≤ 0 := by omega
    clear hr HR HT HAL hal g1
    go_enter Try.func22, Try.ntmps22
    go_wp2_with fail
    refine (HA.out _).mono ?_
    rintro _ w1 ⟨rfl, b1⟩
    have A1 := blkB b1 (new2 w _ _).1
    have B1 := blkB b1 (new2 w _ _).2.1
    have E1 := bto (new2 w _ _).2.2 b1
    clear b1
    obtain ⟨⟨d1, d2, d3, d4⟩, _⟩ := blk4 A1
    obtain ⟨⟨d5, d6⟩, _⟩ := blk2 B1
    go_wp2_with fail
    refine (HB.out _).mono ?_
    rintro _ w2 ⟨rfl, b2⟩
    have A2 := blkB b2 A1
    have B2 := blkB b2 B1
    have E2 := bto E1 b2
    clear d1 d2 d3 d4 d5 d6 A1 B1 E1 b2
    obtain ⟨⟨d1, d2, d3, d4⟩, _⟩ := blk4 A2
    obtain ⟨⟨d5, d6⟩, _⟩ := blk2 B2
    go_wp2_with fail
    refine (HS.out _).mono ?_
    rintro _ w3 ⟨rfl, b3⟩
    have A3 := blkB b3 A2
    have B3 := blkB b3 B2
    have E3 := bto E2 b3
    clear d1 d2 d3 d4 d5 d6 A2 B2 E2 b3
    obtain ⟨⟨d1, d2, d3, d4⟩, _⟩ := blk4 A3
    obtain ⟨⟨d5, d6⟩, _⟩ := blk2 B3
    go_wp2_with fail
    refine (HD1.out _).mono ?_
    rintro _ w4 ⟨rfl, b4⟩
    have A4 := blkB b4 A3
    have B4 := blkB b4 B3
    have E4 := bto E3 b4
    clear d1 d2 d3 d4 d5 d6 A3 B3 E3 b4
    obtain ⟨⟨d1, d2, d3, d4⟩, _⟩ := blk4 A4
    obtain ⟨⟨d5, d6⟩, _⟩ := blk2 B4
    go_wp2_with fail
    go_ret
    exact ⟨rfl, E4⟩
  · by_cases g2 : S ≤ A
    · have hr := HR.out
      rw [if_neg g1, if_pos g2] at hr
      rw [← hr] at HD2
      have hal := HAL.out
      have g1' : ¬ ((px - ax) * (bx - ax) + (py - ay) * (bY - ay) ≤ 0) := by omega
      have g2' : S ≤ (px - ax) * (bx - ax) + (py - ay) * (bY - ay) := by omega
      clear hr HR HT HAL hal g1 g2
      go_enter Try.func22, Try.ntmps22
      go_wp2_with fail
      refine (HA.out _).mono ?_
      rintro _ w1 ⟨rfl, b1⟩
      have A1 := blkB b1 (new2 w _ _).1
      have B1 := blkB b1 (new2 w _ _).2.1
      have E1 := bto (new2 w _ _).2.2 b1
      clear b1
      obtain ⟨⟨d1, d2, d3, d4⟩, _⟩ := blk4 A1
      obtain ⟨⟨d5, d6⟩, _⟩ := blk2 B1
      go_wp2_with fail
      refine (HB.out _).mono ?_
      rintro _ w2 ⟨rfl, b2⟩
      have A2 := blkB b2 A1
      have B2 := blkB b2 B1
      have E2 := bto E1 b2
      clear d1 d2 d3 d4 d5 d6 A1 B1 E1 b2
      obtain ⟨⟨d1, d2, d3, d4⟩, _⟩ := blk4 A2
      obtain ⟨⟨d5, d6⟩, _⟩ := blk2 B2
      go_wp2_with fail
      refine (HS.out _).mono ?_
      rintro _ w3 ⟨rfl, b3⟩
      have A3 := blkB b3 A2
      have B3 := blkB b3 B2
      have E3 := bto E2 b3
      clear d1 d2 d3 d4 d5 d6 A2 B2 E2 b3
      obtain ⟨⟨d1, d2, d3, d4⟩, _⟩ := blk4 A3
      obtain ⟨⟨d5, d6⟩, _⟩ := blk2 B3
      go_wp2_with fail
      refine (HD2.out _).mono ?_
      rintro _ w4 ⟨rfl, b4⟩
      have A4 := blkB b4 A3
      have B4 := blkB b4 B3
      have E4 := bto E3 b4
      clear d1 d2 d3 d4 d5 d6 A3 B3 E3 b4
      obtain ⟨⟨d1, d2, d3, d4⟩, _⟩ := blk4 A4
      obtain ⟨⟨d5, d6⟩, _⟩ := blk2 B4
      go_wp2_with fail
      go_ret
      exact ⟨rfl, E4⟩
    · have hr := HR.out
      rw [if_neg g1, if_neg g2] at hr
      have HT2 := hide (HT.out (by omega) g2)
      rw [← hr] at HT2
      have hal := HAL.out
      have g1' : ¬ ((px - ax) * (bx - ax) + (py - ay) * (bY - ay) ≤ 0) := by omega
      have g2' : ¬ (S ≤ (px - ax) * (bx - ax) + (py - ay) * (bY - ay)) := by omega
      have hc1 : -35184372088832 ≤ C := by omega
      have hc2 : C ≤ 35184372088832 := by omega
      have e0 : ((C.natAbs : Nat) : Int) = max C (-C) := by omega
      rw [e0] at HT2
      clear hr HR HT HAL hal g1 g2 e0 hC1
      go_enter Try.func22, Try.ntmps22
      go_wp2_with fail
      refine (HA.out _).mono ?_
      rintro _ w1 ⟨rfl, b1⟩
      have A1 := blkB b1 (new2 w _ _).1
      have B1 := blkB b1 (new2 w _ _).2.1
      have E1 := bto (new2 w _ _).2.2 b1
      clear b1
      obtain ⟨⟨d1, d2, d3, d4⟩, _⟩ := blk4 A1
      obtain ⟨⟨d5, d6⟩, _⟩ := blk2 B1
      go_wp2_with fail
      refine (HB.out _).mono ?_
      rintro _ w2 ⟨rfl, b2⟩
      have A2 := blkB b2 A1
      have B2 := blkB b2 B1
      have E2 := bto E1 b2
      clear d1 d2 d3 d4 d5 d6 A1 B1 E1 b2
      obtain ⟨⟨d1, d2, d3, d4⟩, _⟩ := blk4 A2
      obtain ⟨⟨d5, d6⟩, _⟩ := blk2 B2
      go_wp2_with fail
      refine (HS.out _).mono ?_
      rintro _ w3 ⟨rfl, b3⟩
      have A3 := blkB b3 A2
      have B3 := blkB b3 B2
      have E3 := bto E2 b3
      clear d1 d2 d3 d4 d5 d6 A2 B2 E2 b3
      obtain ⟨⟨d1, d2, d3, d4⟩, _⟩ := blk4 A3
      obtain ⟨⟨d5, d6⟩, _⟩ := blk2 B3
      go_wp2_with fail
      refine (HX.out _).mono ?_
      rintro _ w4 ⟨rfl, b4⟩
      have A4 := blkB b4 A3
      have B4 := blkB b4 B3
      have E4 := bto E3 b4
      clear d1 d2 d3 d4 d5 d6 A3 B3 E3 b4
      obtain ⟨⟨d1, d2, d3, d4⟩, _⟩ := blk4 A4
      obtain ⟨⟨d5, d6⟩, _⟩ := blk2 B4
      go_wp2_with fail
      (with_reducible refine (HT2.out _).mono ?_)
      rintro _ _ ⟨rfl, rfl⟩
      go_wp2_with fail
      go_ret
      exact ⟨rfl, E4⟩

set_option maxHeartbeats 1000000 in
theorem rnear_any (ax ay bx bY px py : Int) (w : World) :
    Calls Try.prog 22 #[.agg #[.int .i64 ax, .int .i64 ay, .int .i64 bx, .int .i64 bY], .agg #[.int .i64 px, .int .i64 py]] w fun e w' => e = .returned (.int .i64 (nearV ⟨⟨ax, ay⟩, ⟨bx, bY⟩⟩ ⟨px, py⟩)) ∧ Below w.heap.size w w' := by
  cases hn : nearL [⟨ax, ay⟩, ⟨bx, bY⟩, ⟨px, py⟩] with
  | true => exact rnear_in ax ay bx bY px py w hn
  | false =>
    have hR : nearV ⟨⟨ax, ay⟩, ⟨bx, bY⟩⟩ ⟨px, py⟩ = 0 := by unfold nearV; simp only; rw [hn]; rfl
    rw [hR]
    have HA := hide (rseg_any ax ay bx bY)
    have HB := hide (is_any px py)
    simp only [nearL, Bool.and_true, ← Bool.and_assoc] at hn
    generalize (nearB ⟨ax, ay⟩ && nearB ⟨bx, bY⟩) = p at *
    cases p with
    | false =>
      clear hn hR
      go_enter Try.func22, Try.ntmps22
      go_wp2_with fail
      refine (HA.out _).mono ?_
      rintro _ w1 ⟨rfl, b1⟩
      go_wp2_with fail
      go_ret
      exact ⟨rfl, bto (new2 w _ _).2.2 b1⟩
    | true =>
      rw [Bool.true_and] at hn
      rw [hn] at HB
      clear hn hR
      go_enter Try.func22, Try.ntmps22
      go_wp2_with fail
      refine (HA.out _).mono ?_
      rintro _ w1 ⟨rfl, b1⟩
      obtain ⟨⟨d1, d2⟩, _⟩ := blk2 (blkB b1 (new2 w _ _).2.1)
      go_wp2_with fail
      refine (HB.out _).mono ?_
      rintro _ w2 ⟨rfl, b2⟩
      go_wp2_with fail
      go_ret
      exact ⟨rfl, bto (bto (new2 w _ _).2.2 b1) b2⟩
end Go.Proofs.Ytepfhifogkopcaa
