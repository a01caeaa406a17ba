/-
  Div64, walked: the long division.
-/
import Derived.Test.YtepfhifogkopcaaGeoH
import Derived.Test.YtepfhifogkopcaaPlainD
import Derived.Test.YtepfhifogkopcaaShelf
import Derived.Lib.BitFns
import Derived.Deep.DeepCutAuto
import Derived.Deep.CutBlock
namespace Go.Proofs.Ytepfhifogkopcaa
open Go.RowKit Go.Proofs.PlGeom

theorem band32w (n : Nat) (hn : n < 18446744073709551616) : bits .and .u64 (n : Int) 4294967295 = ((n % 4294967296 : Nat) : Int) := by
  have h := bits_mask .u64 64 (by decide) (fun n h0 h1 => by rw [IntKind.wrap_u64]; omega) 32 (by decide) (n : Int) (by omega) (by omega)
  rw [show ((2 : Int) ^ 32 - 1) = 4294967295 from rfl, show ((2 : Int) ^ 32) = 4294967296 from rfl] at h
  rw [h]; omega

/-- The numbers of a long division, by their names. -/
structure DivN (hi lo y s Y u V c1 c0 y1 y0 : Nat) : Prop where
  e1 : IntKind.u64.wrap ((y : Int) * 2 ^ s) = (Y : Int)
  e2 : (Y : Int) / 4294967296 = (y1 : Int)
  e3 : bits .and .u64 (Y : Int) 4294967295 = (y0 : Int)
  e6 : bits .or .u64 (IntKind.u64.wrap ((hi : Int) * 2 ^ s)) ((lo : Int) / 2 ^ (64 - s)) = (u : Int)
  e7 : IntKind.u64.wrap ((lo : Int) * 2 ^ s) = (V : Int)
  e8 : (V : Int) / 4294967296 = (c1 : Int)
  e9 : bits .and .u64 (V : Int) 4294967295 = (c0 : Int)
  d : Dig y1 y0 u c1
  c : c0 < 4294967296
  Y : Y = y1 * 4294967296 + y0
  h0 : 1 ≤ hi
  h1 : hi < y
  hy : y ≤ 35184372088832
  hs0 : 1 ≤ s
  hs1 : s ≤ 63

theorem ret_two {k : IntKind} {a b : Int} {v : Value} (h : a = b) : Ending.returned (.tuple #[.int k a, v]) = .returned (.tuple #[.int k b, v]) := by rw [h]
def DivRes (q : Nat) (w : World) (e : Ending) (w' : World) : Prop := ∃ r : Int, e = .returned (.tuple #[.int .u64 (q : Int), .int .u64 r]) ∧ w = w'
def LoopAt (y1 y0 u c1 q r : Nat) : Prop := q * y1 + r = u ∧ digit y1 y0 u c1 ≤ q ∧ q ≤ 4294967297 ∧ r < 4294967296

set_option maxRecDepth 100000 in
set_option maxHeartbeats 4000000 in
theorem div_core (hi lo y s Y u V c1 c0 y1 y0 : Nat) (h : DivN hi lo y s Y u V c1 c0 y1 y0) (w : World)
    (HL : Hid (∀ w, Calls Try.prog 46 #[.int .u64 (y : Int)] w fun e w' => e = .returned (.int .i64 (s : Int)) ∧ w = w')) :
    Calls Try.prog 43 #[.int .u64 hi, .int .u64 lo, .int .u64 y] w (DivRes (digit y1 y0 u c1 * 4294967296 + digit y1 y0 (u * 4294967296 + c1 - digit y1 y0 u c1 * Y) c0) w) := by
  obtain ⟨R, hR⟩ : ∃ R, R = digit y1 y0 u c1 * 4294967296 + digit y1 y0 (u * 4294967296 + c1 - digit y1 y0 u c1 * Y) c0 := ⟨_, rfl⟩
  rw [← hR]
  have HR0 := hide hR
  clear hR
  have e1 := h.e1
  have e2 := h.e2
  have e3 := h.e3
  have e6 := h.e6
  have e7 := h.e7
  have e8 := h.e8
  have e9 := h.e9
  have d1 := h.d.h1
  have d2 : y1 ≤ 4294967295 := by have := h.d.h2; omega
  have d3 : y0 ≤ 4294967295 := by have := h.d.h3; omega
  have dc : c1 ≤ 4294967295 := by have := h.d.hc; omega
  have hs0 := h.hs0
  have hs1 := h.hs1
  have hst := digit_start h.d
  obtain ⟨q, hq⟩ : ∃ q, q = u / y1 := ⟨_, rfl⟩
  obtain ⟨m, hm⟩ : ∃ m, m = q * y1 := ⟨_, rfl⟩
  rw [← hq, ← hm] at hst
  obtain ⟨t1, t2, t3, t4⟩ := hst
  have e10 : (u : Int) / y1 = (q : Int) := by rw [hq]; push_cast; rfl
  have e11 : (q : Int) * y1 = (m : Int) := by rw [hm]; push_cast; rfl
  obtain ⟨r, hr⟩ : ∃ r, r = u - m := ⟨_, rfl⟩
  have e12 : (u : Int) - m = (r : Int) := by omega
  have HLP : Hid (LoopAt y1 y0 u c1 q r) := ⟨by omega, t1, t2, by omega⟩
  have y0' : ((y : Int) == 0) = false := by have := h.h1; rw [beq_eq_false_iff_ne]; omega
  have hi0 : ((hi : Int) == 0) = false := by have := h.h0; rw [beq_eq_false_iff_ne]; omega
  have hlt : hi < y := h.h1
  have H := hide h
  have hul : u ≤ 18446744073709551615 := by
    have := h.d.hu
    omega
  have hml : m ≤ 18446744073709551615 := by omega
  clear h hq hm hr t1 t3 t4
  go_enter Try.func43, Try.ntmps43
  go_wp2_with fail
  refine (HL.out _).mono ?_
  rintro _ _ ⟨rfl, rfl⟩
  go_upto_block 0 with (fail)
  go_cut [15, 16] from 67 to 85 (fun s15 s16 wx => s15 = .int .u64 (digit y1 y0 u c1 : Nat) ∧ (∃ r : Nat, s16 = .int .u64 r) ∧ w = wx)
  case first =>
    clear e1 e2 e3 e6 e7 e8 e9 e10 e11 e12 y0' hi0
    go_wp2_with fail
    go_loop [15, 16] (fun a b => ∃ q r : Nat, a = .int .u64 q ∧ b = .int .u64 r ∧ Hid (LoopAt y1 y0 u c1 q r)) (fun a _ => (intOf a).toNat)
    case atStart => exact ⟨q, r, rfl, rfl, HLP⟩
    case round =>
      obtain ⟨q, r, rfl, rfl, hrel⟩ := hrel
      have hq2 : q ≤ 4294967297 := hrel.out.2.2.1
      have hr2 : r ≤ 4294967295 := by have := hrel.out.2.2.2; omega
      obtain ⟨P, hP⟩ : ∃ P, P = q * y0 := ⟨_, rfl⟩
      have eP : (q : Int) * y0 = (P : Int) := by rw [hP]; push_cast; rfl
      have hPl : P ≤ 18446744073709551615 := by
        rw [hP]
        exact Nat.le_trans (Nat.mul_le_mul hq2 d3) (by decide)
      have HP := hide hP
      clear hP
      by_cases g2 : q ≤ 4294967295
      · by_cases g1 : P ≤ r * 4294967296 + c1
        · have z1 : decide ((4294967296 : Int) ≤ q) = false := by simp; omega
          have z2 : decide (4294967296 * (r : Int) + c1 < P) = false := by simp; omega
          have z3 : (0 : Int) ≤ 4294967296 * (r : Int) + c1 := by omega
          have hfin : q = digit y1 y0 u c1 := digit_done H.out.d hrel.out.1 hrel.out.2.1 (by rw [← HP.out]; exact g1)
          have HF := hide hfin
          clear g1 g2 hrel HLP hul hml hq2 hfin
          go_wp2_with fail
          go_meet
          exact ⟨vint (by rw [← HF.out]), ⟨r, rfl⟩, rfl⟩
        · have hov := digit_over H.out.d hrel.out.1 (by rw [← HP.out]; exact .inr (by omega))
          have hq1 : 1 ≤ q := by omega
          have HR := hide hrel.out
          have z1 : decide ((4294967296 : Int) ≤ q) = false := by simp; omega
          have z2 : decide (4294967296 * (r : Int) + c1 < P) = true := by simp; omega
          have z3 : (0 : Int) ≤ 4294967296 * (r : Int) + c1 := by omega
          by_cases g3 : 4294967296 ≤ r + y1
          · have z4 : decide ((4294967296 : Int) ≤ (r : Int) + y1) = true := by simp; omega
            have hfin : q - 1 = digit y1 y0 u c1 := digit_full H.out.d (r := r + y1) (by have := HR.out.1; rw [Nat.sub_mul, Nat.one_mul]; have : y1 ≤ q * y1 := Nat.le_mul_of_pos_left _ hq1; omega) (by omega) (by omega) g3
            have HF := hide hfin
            clear hfin g3 g1 g2 hrel HLP hul hml hov HR
            go_wp2_with fail
            go_meet
            exact ⟨vint (by rw [← HF.out]; omega), ⟨r + y1, vint (by omega)⟩, rfl⟩
          · have z4 : decide ((4294967296 : Int) ≤ (r : Int) + y1) = false := by simp; omega
            have HN : Hid (LoopAt y1 y0 u c1 (q - 1) (r + y1)) := ⟨by have := HR.out.1; rw [Nat.sub_mul, Nat.one_mul]; have : y1 ≤ q * y1 := Nat.le_mul_of_pos_left _ hq1; omega, by omega, by omega, by omega⟩
            have g3' : r + y1 ≤ 4294967295 := by omega
            clear g3 g1 g2 hrel HLP hul hml hov HR
            go_wp2_with fail
            refine ⟨⟨q - 1, r + y1, vint (by omega), vint (by omega), HN⟩, ?_⟩
            simp [intOf]; omega
      · have hov := digit_over H.out.d hrel.out.1 (by rw [← HP.out]; exact .inl (by omega))
        have hq1 : 1 ≤ q := by omega
        have HR := hide hrel.out
        have z1 : decide ((4294967296 : Int) ≤ q) = true := by simp; omega
        by_cases g3 : 4294967296 ≤ r + y1
        · have z4 : decide ((4294967296 : Int) ≤ (r : Int) + y1) = true := by simp; omega
          have hfin : q - 1 = digit y1 y0 u c1 := digit_full H.out.d (r := r + y1) (by have := HR.out.1; rw [Nat.sub_mul, Nat.one_mul]; have : y1 ≤ q * y1 := Nat.le_mul_of_pos_left _ hq1; omega) (by omega) (by omega) g3
          have HF := hide hfin
          clear hfin g3 g2 hrel HLP hul hml hov HR
          go_wp2_with fail
          go_meet
          exact ⟨vint (by rw [← HF.out]; omega), ⟨r + y1, vint (by omega)⟩, rfl⟩
        · have z4 : decide ((4294967296 : Int) ≤ (r : Int) + y1) = false := by simp; omega
          have HN : Hid (LoopAt y1 y0 u c1 (q - 1) (r + y1)) := ⟨by have := HR.out.1; rw [Nat.sub_mul, Nat.one_mul]; have : y1 ≤ q * y1 := Nat.le_mul_of_pos_left _ hq1; omega, by omega, by omega, by omega⟩
          have g3' : r + y1 ≤ 4294967295 := by omega
          clear g3 g2 hrel HLP hul hml hov HR
          go_wp2_with fail
          refine ⟨⟨q - 1, r + y1, vint (by omega), vint (by omega), HN⟩, ?_⟩
          simp [intOf]; omega
  case rest =>
    obtain ⟨rfl, ⟨r0, rfl⟩, rfl⟩ := hcut
    clear e1 e2 e3 e6 e7 e8 e9 e10 e11 e12 HLP hul hml
    obtain ⟨Q1, hQ1⟩ : ∃ Q, Q = digit y1 y0 u c1 := ⟨_, rfl⟩
    rw [← hQ1]
    have hr1 := digit_rest H.out.d
    rw [← hQ1, ← H.out.Y] at hr1
    have hq1l := digit_lt H.out.d
    rw [← hQ1] at hq1l
    obtain ⟨u2, hu2⟩ : ∃ v, v = u * 4294967296 + c1 - Q1 * Y := ⟨_, rfl⟩
    have hD2 : Dig y1 y0 u2 c0 := ⟨H.out.d.h1, H.out.d.h2, H.out.d.h3, by rw [hu2, ← H.out.Y]; exact hr1.2, H.out.c⟩
    have f13 : IntKind.u64.wrap (IntKind.u64.wrap (IntKind.u64.wrap ((u : Int) * 4294967296) + c1) - IntKind.u64.wrap ((Q1 : Int) * Y)) = (u2 : Int) := by
      have hYl : Y ≤ 18446744073709551615 := by have := H.out.d.h2; have := H.out.d.h3; have := H.out.Y; omega
      have eQ : (Q1 : Int) * Y = ((Q1 * Y : Nat) : Int) := by push_cast; rfl
      have h1 := hr1.1
      have h2 := hr1.2
      rw [eQ]
      generalize Q1 * Y = Z at *
      simp only [IntKind.wrap_u64]
      omega
    have hst := digit_start hD2
    obtain ⟨q', hq'⟩ : ∃ q, q = u2 / y1 := ⟨_, rfl⟩
    obtain ⟨m', hm'⟩ : ∃ m, m = q' * y1 := ⟨_, rfl⟩
    rw [← hq', ← hm'] at hst
    obtain ⟨v1, v2, v3, v4⟩ := hst
    have f10 : (u2 : Int) / y1 = (q' : Int) := by rw [hq']; push_cast; rfl
    have f11 : (q' : Int) * y1 = (m' : Int) := by rw [hm']; push_cast; rfl
    obtain ⟨r', hr'⟩ : ∃ r, r = u2 - m' := ⟨_, rfl⟩
    have f12 : (u2 : Int) - m' = (r' : Int) := by omega
    have HLQ : Hid (LoopAt y1 y0 u2 c0 q' r') := ⟨by omega, v1, v2, by have := H.out.d.h2; omega⟩
    have dc0 : c0 ≤ 4294967295 := by have := H.out.c; omega
    have hq1m : Q1 ≤ 4294967295 := by omega
    have hvl : u2 ≤ 18446744073709551615 := by
      have := hD2.hu
      have := hD2.h2
      have := hD2.h3
      omega
    have hwl : m' ≤ 18446744073709551615 := by omega
    have HD2 := hide hD2
    have HQ1 := hide hQ1
    have HU2 := hide hu2
    clear hD2 hQ1 hu2 hr1 hq1l hq' hm' hr' v1 v3 v4
    go_upto_block 2 with (fail)
    go_cut [18, 16] from 102 to 120 (fun s18 s16 wx => s18 = .int .u64 (digit y1 y0 u2 c0 : Nat) ∧ (∃ r : Nat, s16 = .int .u64 r) ∧ w = wx)
    case first =>
      clear f13 f10 f11 f12
      go_wp2_with fail
      go_loop [18, 16] (fun a b => ∃ q r : Nat, a = .int .u64 q ∧ b = .int .u64 r ∧ Hid (LoopAt y1 y0 u2 c0 q r)) (fun a _ => (intOf a).toNat)
      case atStart => exact ⟨q', r', rfl, rfl, HLQ⟩
      case round =>
        obtain ⟨q, r, rfl, rfl, hrel⟩ := hrel
        have hq2 : q ≤ 4294967297 := hrel.out.2.2.1
        have hr2 : r ≤ 4294967295 := by have := hrel.out.2.2.2; omega
        obtain ⟨P, hP⟩ : ∃ P, P = q * y0 := ⟨_, rfl⟩
        have eP : (q : Int) * y0 = (P : Int) := by rw [hP]; push_cast; rfl
        have hPl : P ≤ 18446744073709551615 := by
          rw [hP]
          exact Nat.le_trans (Nat.mul_le_mul hq2 d3) (by decide)
        have HP := hide hP
        clear hP
        by_cases g2 : q ≤ 4294967295
        · by_cases g1 : P ≤ r * 4294967296 + c0
          · have z1 : decide ((4294967296 : Int) ≤ q) = false := by simp; omega
            have z2 : decide (4294967296 * (r : Int) + c0 < P) = false := by simp; omega
            have z3 : (0 : Int) ≤ 4294967296 * (r : Int) + c0 := by omega
            have hfin : q = digit y1 y0 u2 c0 := digit_done HD2.out hrel.out.1 hrel.out.2.1 (by rw [← HP.out]; exact g1)
            have HF := hide hfin
            clear g1 g2 hrel HLQ hvl hwl hq2 hfin
            go_wp2_with fail
            go_meet
            exact ⟨vint (by rw [← HF.out]), ⟨r, rfl⟩, rfl⟩
          · have hov := digit_over HD2.out hrel.out.1 (by rw [← HP.out]; exact .inr (by omega))
            have hq1 : 1 ≤ q := by omega
            have HR := hide hrel.out
            have z1 : decide ((4294967296 : Int) ≤ q) = false := by simp; omega
            have z2 : decide (4294967296 * (r : Int) + c0 < P) = true := by simp; omega
            have z3 : (0 : Int) ≤ 4294967296 * (r : Int) + c0 := by omega
            by_cases g3 : 4294967296 ≤ r + y1
            · have z4 : decide ((4294967296 : Int) ≤ (r : Int) + y1) = true := by simp; omega
              have hfin : q - 1 = digit y1 y0 u2 c0 := digit_full HD2.out (r := r + y1) (by have := HR.out.1; rw [Nat.sub_mul, Nat.one_mul]; have : y1 ≤ q * y1 := Nat.le_mul_of_pos_left _ hq1; omega) (by omega) (by omega) g3
              have HF := hide hfin
              clear hfin g3 g1 g2 hrel HLQ hvl hwl hov HR
              go_wp2_with fail
              go_meet
              exact ⟨vint (by rw [← HF.out]; omega), ⟨r + y1, vint (by omega)⟩, rfl⟩
            · have z4 : decide ((4294967296 : Int) ≤ (r : Int) + y1) = false := by simp; omega
              have HN : Hid (LoopAt y1 y0 u2 c0 (q - 1) (r + y1)) := ⟨by have := HR.out.1; rw [Nat.sub_mul, Nat.one_mul]; have : y1 ≤ q * y1 := Nat.le_mul_of_pos_left _ hq1; omega, by omega, by omega, by omega⟩
              have g3' : r + y1 ≤ 4294967295 := by omega
              clear g3 g1 g2 hrel HLQ hvl hwl hov HR
              go_wp2_with fail
              refine ⟨⟨q - 1, r + y1, vint (by omega), vint (by omega), HN⟩, ?_⟩
              simp [intOf]; omega
        · have hov := digit_over HD2.out hrel.out.1 (by rw [← HP.out]; exact .inl (by omega))
          have hq1 : 1 ≤ q := by omega
          have HR := hide hrel.out
          have z1 : decide ((4294967296 : Int) ≤ q) = true := by simp; omega
          by_cases g3 : 4294967296 ≤ r + y1
          · have z4 : decide ((4294967296 : Int) ≤ (r : Int) + y1) = true := by simp; omega
            have hfin : q - 1 = digit y1 y0 u2 c0 := digit_full HD2.out (r := r + y1) (by have := HR.out.1; rw [Nat.sub_mul, Nat.one_mul]; have : y1 ≤ q * y1 := Nat.le_mul_of_pos_left _ hq1; omega) (by omega) (by omega) g3
            have HF := hide hfin
            clear hfin g3 g2 hrel HLQ hvl hwl hov HR
            go_wp2_with fail
            go_meet
            exact ⟨vint (by rw [← HF.out]; omega), ⟨r + y1, vint (by omega)⟩, rfl⟩
          · have z4 : decide ((4294967296 : Int) ≤ (r : Int) + y1) = false := by simp; omega
            have HN : Hid (LoopAt y1 y0 u2 c0 (q - 1) (r + y1)) := ⟨by have := HR.out.1; rw [Nat.sub_mul, Nat.one_mul]; have : y1 ≤ q * y1 := Nat.le_mul_of_pos_left _ hq1; omega, by omega, by omega, by omega⟩
            have g3' : r + y1 ≤ 4294967295 := by omega
            clear g3 g2 hrel HLQ hvl hwl hov HR
            go_wp2_with fail
            refine ⟨⟨q - 1, r + y1, vint (by omega), vint (by omega), HN⟩, ?_⟩
            simp [intOf]; omega
    case rest =>
      obtain ⟨rfl, ⟨r9, rfl⟩, rfl⟩ := hcut
      clear f13 f10 f11 f12 HLQ hvl hwl
      have hq2l := digit_lt HD2.out
      have hR2 : R = Q1 * 4294967296 + digit y1 y0 u2 c0 := by rw [HR0.out, HQ1.out, HU2.out, HQ1.out]
      generalize digit y1 y0 u2 c0 = Q0 at *
      have hq0l : Q0 ≤ 4294967295 := by omega
      have HR2 := hide hR2
      clear hq2l hR2
      go_wp2
      go_ret2
      exact ⟨_, ret_two (by have := HR2.out; omega), rfl⟩
