/-
  Div64 in general, and Near.
-/
import Derived.Test.YtepfhifogkopcaaGeoQ
import Derived.Test.YtepfhifogkopcaaPlainB
import Derived.Test.YtepfhifogkopcaaPlainK
import Derived.Test.YtepfhifogkopcaaGeoP
namespace Go.Proofs.Ytepfhifogkopcaa
open Go.RowKit Go.Proofs.PlGeom

theorem div_names (hi lo y s : Nat) (h0 : 1 ≤ hi) (h1 : hi < y) (h2 : lo < 2 ^ 64) (h3 : y ≤ 35184372088832) (hs : s = 64 - Lib.bitLen y) :
    ∃ Y u V c1 c0 y1 y0, DivN hi lo y s Y u V c1 c0 y1 y0 ∧ digit y1 y0 u c1 * 4294967296 + digit y1 y0 (u * 4294967296 + c1 - digit y1 y0 u c1 * Y) c0 = (hi * 2 ^ 64 + lo) / y := by
  obtain ⟨b1, b2, b3⟩ := PlGeom.bitLen_spec y (by omega) (by omega)
  have hbl : Lib.bitLen y ≤ 46 := by
    rcases Nat.lt_or_ge 46 (Lib.bitLen y) with h | h
    · have := Nat.pow_le_pow_right (show 0 < 2 by decide) (show 46 ≤ Lib.bitLen y - 1 by omega)
      have e : (2 : Nat) ^ 46 = 70368744177664 := by decide
      omega
    · exact h
  have hs2 : Lib.bitLen y = 64 - s := by omega
  have hs3 : 18 ≤ s := by omega
  have hs4 : s ≤ 63 := by omega
  rw [hs2] at b2 b3
  have hp : 0 < 2 ^ s := Nat.pow_pos (by decide)
  have hYl : 9223372036854775808 ≤ y * 2 ^ s := by
    have := Nat.mul_le_mul_right (2 ^ s) b2
    rw [← Nat.pow_add, show 64 - s - 1 + s = 63 by omega] at this
    exact this
  have hYu : y * 2 ^ s < 18446744073709551616 := by
    have := Nat.mul_lt_mul_of_pos_right b3 hp
    rw [← Nat.pow_add, show 64 - s + s = 64 by omega] at this
    exact this
  obtain ⟨hL, hu, hN⟩ := div_norm hi lo y s (by omega) h1 h2
  have hq : (hi * 2 ^ 64 + lo) * 2 ^ s / (y * 2 ^ s) = (hi * 2 ^ 64 + lo) / y := Nat.mul_div_mul_right _ _ hp
  have hH : hi * 2 ^ s < 18446744073709551616 := by
    have := Nat.mul_lt_mul_of_pos_right h1 hp
    omega
  have e6 : bits .or .u64 (IntKind.u64.wrap ((hi : Int) * 2 ^ s)) ((lo : Int) / 2 ^ (64 - s)) = ((hi * 2 ^ s + lo / 2 ^ (64 - s) : Nat) : Int) := by
    have c1 : (hi : Int) * 2 ^ s = ((hi * 2 ^ s : Nat) : Int) := by push_cast; rfl
    have c2 : (lo : Int) / 2 ^ (64 - s) = ((lo / 2 ^ (64 - s) : Nat) : Int) := by push_cast; rfl
    have c3 : IntKind.u64.wrap ((hi * 2 ^ s : Nat) : Int) = ((hi * 2 ^ s : Nat) : Int) := by rw [IntKind.wrap_u64]; omega
    rw [c1, c2, c3]
    exact bor hi (lo / 2 ^ (64 - s)) s hL (by omega)
  have e1 : IntKind.u64.wrap ((y : Int) * 2 ^ s) = ((y * 2 ^ s : Nat) : Int) := by
    have c1 : (y : Int) * 2 ^ s = ((y * 2 ^ s : Nat) : Int) := by push_cast; rfl
    rw [c1, IntKind.wrap_u64]; omega
  have e7 : IntKind.u64.wrap ((lo : Int) * 2 ^ s) = ((lo * 2 ^ s % 18446744073709551616 : Nat) : Int) := by
    have c1 : (lo : Int) * 2 ^ s = ((lo * 2 ^ s : Nat) : Int) := by push_cast; rfl
    rw [c1, IntKind.wrap_u64]; omega
  have hN' : (hi * 2 ^ 64 + lo) * 2 ^ s = (hi * 2 ^ s + lo / 2 ^ (64 - s)) * 18446744073709551616 + lo * 2 ^ s % 18446744073709551616 := hN
  rw [hN'] at hq
  generalize hYd : y * 2 ^ s = Y at *
  generalize hi * 2 ^ s + lo / 2 ^ (64 - s) = u at *
  generalize hVd : lo * 2 ^ s % 18446744073709551616 = V at *
  have hV : V < 18446744073709551616 := by rw [← hVd]; exact Nat.mod_lt _ (by decide)
  clear hN hN' hYd hVd
  have hD : Dig (Y / 4294967296) (Y % 4294967296) u (V / 4294967296) := ⟨by omega, by omega, by omega, by omega, by omega⟩
  have hYe : Y = Y / 4294967296 * 4294967296 + Y % 4294967296 := by omega
  refine ⟨Y, u, V, V / 4294967296, V % 4294967296, Y / 4294967296, Y % 4294967296, ⟨e1, by omega, by rw [band32w Y hYu], e6, e7, by omega, by rw [band32w V hV], hD, by omega, hYe, h0, h1, h3, by omega, hs4⟩, ?_⟩
  have := digits_two (d := V % 4294967296) hD
  rw [← hYe] at this
  rw [← hq, ← this]
  rw [show u * 18446744073709551616 + V / 4294967296 * 4294967296 + V % 4294967296 = u * 18446744073709551616 + V by omega]

set_option maxRecDepth 100000 in
set_option maxHeartbeats 1000000 in
theorem div_lo (lo y : Nat) (h0 : 0 < y) (hl : lo < 18446744073709551616) (hy : y ≤ 35184372088832) (w : World) :
    Calls Try.prog 43 #[.int .u64 0, .int .u64 lo, .int .u64 y] w fun e w' => (∃ r : Int, e = .returned (.tuple #[.int .u64 (lo / y : Nat), .int .u64 r])) ∧ Below w.heap.size w w' := by
  obtain ⟨q, hq⟩ : ∃ q, lo / y = q := ⟨_, rfl⟩
  obtain ⟨r, hr⟩ : ∃ r, lo % y = r := ⟨_, rfl⟩
  have y0' : ((y : Int) == 0) = false := by rw [beq_eq_false_iff_ne]; omega
  have y1' : (1 : Int) ≤ y := by omega
  have hl' : (lo : Int) ≤ 18446744073709551615 := by omega
  have e1 : (lo : Int) / y = (q : Int) := by rw [← hq]; push_cast; rfl
  have e2 : (lo : Int).tdiv y = (q : Int) := by rw [Int.tdiv_eq_ediv_of_nonneg (by omega)]; exact e1
  have e4 : (lo : Int) % y = (r : Int) := by rw [← hr]; push_cast; rfl
  have e5 : (lo : Int).tmod y = (r : Int) := by rw [Int.tmod_eq_emod_of_nonneg (by omega)]; exact e4
  have e3 : q ≤ 18446744073709551615 := by have := Nat.div_le_self lo y; omega
  have e6 : r ≤ 18446744073709551615 := by have := Nat.mod_le lo y; omega
  rw [hq]
  clear hl hq hr
  go_enter Try.func43, Try.ntmps43
  go_wp2
  go_quiet (fail)
  go_wp2
  go_ret2
  exact ⟨⟨_, rfl⟩, below_drewN (Below.refl _ _) _⟩

theorem div_any (hi lo y : Nat) (h1 : hi < y) (h2 : lo < 18446744073709551616) (h3 : y ≤ 35184372088832) (w : World) :
    Calls Try.prog 43 #[.int .u64 hi, .int .u64 lo, .int .u64 y] w fun e w' => (∃ r : Int, e = .returned (.tuple #[.int .u64 ((hi * 18446744073709551616 + lo) / y : Nat), .int .u64 r])) ∧ Below w.heap.size w w' := by
  rcases Nat.eq_zero_or_pos hi with h | h
  · subst h
    rw [Nat.zero_mul, Nat.zero_add]
    exact div_lo lo y h1 h2 h3 w
  · obtain ⟨Y, u, V, c1, c0, y1, y0, hN, hq⟩ := div_names hi lo y _ h h1 h2 h3 rfl
    have := div_core hi lo y _ Y u V c1 c0 y1 y0 hN w (hide fun w => (Try.bits_LeadingZeros64 (y : Int) w (by omega) (by omega)).mono fun e w' ⟨he, hw⟩ => ⟨by
      rw [he, Int.toNat_natCast]
      have := hN.hs0
      congr 2
      omega, hw.symm⟩)
    refine this.mono ?_
    rintro _ _ ⟨r, rfl, rfl⟩
    rw [hq]
    exact ⟨⟨r, rfl⟩, Below.refl _ _⟩

theorem divok (C S : Int) (D : Int) (h0 : 0 < S) (hS : S ≤ 35184372088832) (hC : C * C ≤ S * D) (hD : D ≤ 1000000000000000000) (hc : C.natAbs ≤ 35184372088832) : DivOk C S := by
  obtain ⟨y, rfl⟩ : ∃ y : Nat, S = y := ⟨S.toNat, by omega⟩
  obtain ⟨m, hm⟩ : ∃ m : Nat, m = C.natAbs := ⟨_, rfl⟩
  have hCC : C * C = ((m * m : Nat) : Int) := by rw [hm]; exact Int.natAbs_mul_self.symm
  have hq : m * m / y ≤ 1000000000000000000 := by
    have h1 : (m * m : Int) ≤ 1000000000000000000 * y := by
      rw [hCC] at hC
      have := Int.mul_le_mul_of_nonneg_right hD (show (0 : Int) ≤ y by omega)
      rw [Int.mul_comm (y : Int) D] at hC
      have e : ((m * m : Nat) : Int) = (m : Int) * m := Int.natCast_mul m m
      rw [e] at hC
      omega
    have h2 : m * m ≤ 1000000000000000000 * y := by
      have e : ((m * m : Nat) : Int) = (m : Int) * m := Int.natCast_mul m m
      omega
    rw [← Nat.lt_succ_iff, Nat.div_lt_iff_lt_mul (by omega), Nat.succ_mul]
    omega
  have hhi : m * m / 18446744073709551616 < y := by
    rw [Nat.div_lt_iff_lt_mul (by decide)]
    have := Nat.div_mul_le_self (m * m) y
    have h2 := Nat.lt_succ_self (m * m / y)
    rw [Nat.div_lt_iff_lt_mul (by omega)] at h2
    have h3 := Nat.mul_le_mul_right y (show (m * m / y).succ ≤ 1000000000000000001 by omega)
    omega
  refine ⟨((m * m / 18446744073709551616 : Nat) : Int), ((m * m % 18446744073709551616 : Nat) : Int), ((m * m / y : Nat) : Int), ?_, Int.natCast_nonneg _, Int.ofNat_le.2 hq, ?_, ?_⟩
  · rw [hCC]; push_cast; rfl
  · rw [← hm]; exact fun w => mul_sq m (by omega) w
  · intro w
    have := div_any (m * m / 18446744073709551616) (m * m % 18446744073709551616) y hhi (Nat.mod_lt _ (by decide)) (by omega) w
    rw [show m * m / 18446744073709551616 * 18446744073709551616 + m * m % 18446744073709551616 = m * m by omega] at this
    exact this

theorem near_gen (ax ay bx bY px py : Int) (w : World) :
    Calls Try.prog 21 #[.agg #[.int .i64 ax, .int .i64 ay, .int .i64 bx, .int .i64 bY], .agg #[.int .i64 px, .int .i64 py]] w fun e w' => e = .returned (.int .i64 (nearV ⟨⟨ax, ay⟩, ⟨bx, bY⟩⟩ ⟨px, py⟩)) ∧ Below w.heap.size w w' :=
  near_of ax ay bx bY px py w fun hn h1 h2 => by
    simp only [nearL, Bool.and_true, Bool.and_eq_true, nearB_iff] at hn
    obtain ⟨⟨i1, i2, i3, i4⟩, ⟨j1, j2, j3, j4⟩, k1, k2, k3, k4⟩ := hn
    obtain ⟨m5, m6⟩ := prod_near (bx - ax) (bx - ax) (by omega) (by omega) (by omega) (by omega)
    obtain ⟨m7, m8⟩ := prod_near (bY - ay) (bY - ay) (by omega) (by omega) (by omega) (by omega)
    obtain ⟨p5, p6⟩ := prod_near (px - ax) (px - ax) (by omega) (by omega) (by omega) (by omega)
    obtain ⟨p7, p8⟩ := prod_near (py - ay) (py - ay) (by omega) (by omega) (by omega) (by omega)
    obtain ⟨n1, n2⟩ := prod_near (bx - ax) (py - ay) (by omega) (by omega) (by omega) (by omega)
    obtain ⟨n3, n4⟩ := prod_near (bY - ay) (px - ax) (by omega) (by omega) (by omega) (by omega)
    have hl := lagrange (bx - ax) (bY - ay) (px - ax) (py - ay)
    simp only [along, sqv] at h1 h2
    refine divok _ _ ((px - ax) * (px - ax) + (py - ay) * (py - ay)) ?_ ?_ ?_ (by omega) ?_
    · simp only [sqv]; omega
    · simp only [sqv]; omega
    · have hA := sq_nonneg ((bx - ax) * (px - ax) + (bY - ay) * (py - ay)); simp only [sqv, crs]; omega
    · simp only [crs]; omega
end Go.Proofs.Ytepfhifogkopcaa
