/-
  RingAreas, walked: it returns true.
-/
import Derived.Test.YtmklnioedeailaaRngM
import Derived.Test.YtmklnioedeailaaRPlainZ
namespace Go.Proofs.Ytmklnioedeailaa
open Go.RowKit Go.Proofs.PlGeom Go.Proofs.PlRing

set_option maxRecDepth 100000 in
set_option maxHeartbeats 8000000 in
theorem areas_small (r : List Pt) (v : Value) (i : Nat) (hi : i < 256) (w : World) (hv : SlC w v r) (hr : r.length ≤ 40) (z : Bool) (hz : decide (twice r = 0) = z) :
    Calls Try.prog 4 #[v, .int .u8 (i : Int)] w fun e w' => e = .returned (.bool true) ∧ Below w.heap.size w w' := by
  have la : (turnR r (i % r.length)).length ≤ 40 := by simp [turnR]; omega
  have ld : r.reverse.length ≤ 40 := by rw [List.length_reverse]; exact hr
  have e1 := twice_rev r
  have e2 := twice_turnQ r i
  have hbd := twice_bd r hr
  have hne : z = true → simple r = false := fun h => by
    cases e : simple r with
    | false => rfl
    | true => exact (twice_ne r e (of_decide_eq_true (hz.trans h))).elim
  have T1 := hide (fun w h => turned_sl r v i w h (by omega) hi)
  have B1 := hide (fun w h => back_sl r v w h (by omega))
  generalize turnR r (i % r.length) = b at *
  generalize r.reverse = a at *
  have C1 := hide (fun w h => twice_any r v w h (by omega))
  have C2 := hide (fun u w h => twice_any a u w h (by omega))
  have C3 := hide (fun u w h => twice_any b u w h (by omega))
  have C4 := hide (fun w h => simple_any r v w h (by omega))
  simp only [e1] at C2
  simp only [e2] at C3
  clear e1 e2
  generalize simple r = s at *
  generalize twice r = q at *
  have hv0 := hide hv
  obtain ⟨A, cp, rfl, _, _⟩ := hv
  have n1 : ¬ (40 : Int) < r.length := by omega
  obtain ⟨lo, hi2⟩ := hbd
  clear la ld hr
  go_enter Try.func4, Try.ntmps4
  go_wp2_with fail
  refine (rhead_any _).mono ?_
  rintro _ w1 ⟨rfl, b1⟩
  have V1 := hide (hv0.out.below b1)
  go_wp2_with fail
  refine (C1.out _ V1.out.sl).mono ?_
  rintro _ w2 ⟨rfl, b2⟩
  have V2 := hide (V1.out.below b2)
  go_wp2_with fail
  refine (B1.out _ V2.out.sl).mono ?_
  rintro _ w3 ⟨ua, rfl, sa, b3⟩
  have V3 := hide (V2.out.below b3)
  go_wp2_with fail
  refine (C2.out _ _ sa).mono ?_
  rintro _ w4 ⟨rfl, b4⟩
  have V4 := hide (V3.out.below b4)
  go_wp2_with fail
  refine (T1.out _ V4.out).mono ?_
  rintro _ w5 ⟨ub, rfl, sb, b5⟩
  have V5 := hide (V4.out.below b5)
  go_wp2_with fail
  refine (C3.out _ _ sb).mono ?_
  rintro _ w6 ⟨rfl, b6⟩
  have V6 := hide (V5.out.below b6)
  have B6 := hide (bto (bto (bto (bto (bto b1 b2) b3) b4) b5) b6)
  clear b1 b2 b3 b4 b5 b6
  cases z with
  | false =>
    have hq := of_decide_eq_false hz
    go_wp2_with fail
    go_ret
    exact ⟨rfl, B6.out⟩
  | true =>
    have hq := of_decide_eq_true hz
    have hs := hne rfl
    subst hq
    subst hs
    go_wp2_with fail
    refine (C4.out _ V6.out.sl).mono ?_
    rintro _ w7 ⟨rfl, b7⟩
    go_wp2_with fail
    go_ret
    exact ⟨rfl, bto B6.out b7⟩

set_option maxHeartbeats 2000000 in
theorem areas_walk (r : List Pt) (v : Value) (i : Int) (w : World) (hv : SlC w v r) (_ : r.length ≤ maxLen) (hi : 0 ≤ i ∧ i < 256) :
    Calls Try.prog 4 #[v, .int .u8 i] w fun e w' => e = .returned (.bool true) ∧ Below w.heap.size w w' := by
  obtain ⟨i, rfl⟩ := Int.eq_ofNat_of_zero_le hi.1
  by_cases h1 : r.length ≤ 40
  · exact areas_small r v i (by omega) w hv h1 _ rfl
  · obtain ⟨A, cp, rfl, _, _⟩ := hv
    have n1 : (40 : Int) < r.length := by omega
    go_enter Try.func4, Try.ntmps4
    go_wp2_with fail
    refine (rhead_any _).mono ?_
    rintro _ w1 ⟨rfl, b1⟩
    go_wp2_with fail
    go_ret
    exact ⟨rfl, b1⟩
end Go.Proofs.Ytmklnioedeailaa
