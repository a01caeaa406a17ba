/-
  RingSymmetry, walked: it returns true.
-/
import Derived.Test.YtmklnioedeailaaRngM
import Derived.Test.YtmklnioedeailaaRPlainG2
namespace Go.Proofs.Ytmklnioedeailaa
open Go.RowKit Go.Proofs.PlGeom Go.Proofs.PlRing

theorem swapR_two : swapR 2 = 3 := rfl
theorem swapR_three : swapR 3 = 2 := rfl
theorem swapR_else {a : Int} (h2 : ¬ a = 2) (h3 : ¬ a = 3) : swapR a = a := by unfold swapR; rw [if_neg h2, if_neg h3]
set_option maxRecDepth 100000 in
set_option maxHeartbeats 8000000 in
theorem symm_small (r s : List Pt) (v v2 : Value) (w : World) (hv : SlP w v r) (hv2 : SlP w v2 s) (hr : r.length ≤ 40) (hs : s.length ≤ 40) :
    Calls Try.prog 7 #[v, v2] w fun e w' => e = .returned (.bool true) ∧ Below w.heap.size w w' := by
  have C1 := hide (fun w h h' => relation_any r s v v2 w h h' (by omega) (by omega))
  have C2 := hide (fun w h h' => relation_any s r v2 v w h' h (by omega) (by omega))
  have C3 := hide (fun w h => relation_any r r v v w h h (by omega) (by omega))
  have C4 := hide (fun w h => simple_any r v w h (by omega))
  have hno : simple r = false → relation r s = 0 := fun h => relation_not h
  simp only [relation_swap r s] at C2
  simp only [relation_self r] at C3
  generalize simple r = q1 at *
  generalize relation r s = q3 at *
  have hv0 := hide hv
  have hv20 := hide hv2
  obtain ⟨A, cp, rfl, _⟩ := hv
  obtain ⟨A2, cp2, rfl, _⟩ := hv2
  have n1 : ¬ (40 : Int) < r.length := by omega
  have n2 : ¬ (40 : Int) < s.length := by omega
  clear hr hs
  have fin : ∀ q4 : Int, swapR q3 = q4 → (q3 = 2 ∧ q4 = 3) ∨ (q3 = 3 ∧ q4 = 2) ∨ (¬ q3 = 2 ∧ ¬ q3 = 3 ∧ q4 = q3) := by
    intro q4 e
    by_cases h2 : q3 = 2
    · left; subst h2; exact ⟨rfl, e.symm⟩
    by_cases h3 : q3 = 3
    · right; left; subst h3; exact ⟨rfl, e.symm⟩
    right; right
    exact ⟨h2, h3, by rw [← e, swapR_else h2 h3]⟩
  obtain ⟨q4, hq4⟩ : ∃ q4, swapR q3 = q4 := ⟨_, rfl⟩
  have hf := fin q4 hq4
  rw [hq4] at C2
  clear fin hq4
  have HN := hide hno
  clear hno
  rcases hf with ⟨rfl, rfl⟩ | ⟨rfl, rfl⟩ | ⟨h2, h3, rfl⟩
  all_goals
    go_enter Try.func7, Try.ntmps7
    go_wp2_with fail
    refine (rhead_any _).mono ?_
    rintro _ w1 ⟨rfl, b1⟩
    have V1 := hide (hv0.out.below b1)
    have U1 := hide (hv20.out.below b1)
    go_wp2_with fail
    refine (C1.out _ V1.out U1.out).mono ?_
    rintro _ w2 ⟨rfl, b2⟩
    have V2 := hide (V1.out.below b2)
    have U2 := hide (U1.out.below b2)
    go_wp2_with fail
    refine (C2.out _ V2.out U2.out).mono ?_
    rintro _ w3 ⟨rfl, b3⟩
    have V3 := hide (V2.out.below b3)
    have B3 := hide (bto (bto b1 b2) b3)
    clear b1 b2 b3
    go_wp2_with fail
    refine (C3.out _ V3.out).mono ?_
    rintro _ w4 ⟨rfl, b4⟩
    have V4 := hide (V3.out.below b4)
    have B4 := hide (bto B3.out b4)
    clear b4
  · cases q1 with
    | false => exact absurd (HN.out rfl) (by decide)
    | true =>
      simp only [if_true]
      go_wp2_with fail
      refine (C4.out _ V4.out).mono ?_
      rintro _ w5 ⟨rfl, b5⟩
      have V5 := hide (V4.out.below b5)
      have B5 := hide (bto B4.out b5)
      clear b5
      go_wp2_with fail
      refine (C4.out _ V5.out).mono ?_
      rintro _ w6 ⟨rfl, b6⟩
      go_wp2_with fail
      go_ret
      exact ⟨rfl, bto B5.out b6⟩
  · cases q1 with
    | false => exact absurd (HN.out rfl) (by decide)
    | true =>
      simp only [if_true]
      go_wp2_with fail
      refine (C4.out _ V4.out).mono ?_
      rintro _ w5 ⟨rfl, b5⟩
      have V5 := hide (V4.out.below b5)
      have B5 := hide (bto B4.out b5)
      clear b5
      go_wp2_with fail
      refine (C4.out _ V5.out).mono ?_
      rintro _ w6 ⟨rfl, b6⟩
      go_wp2_with fail
      go_ret
      exact ⟨rfl, bto B5.out b6⟩
  · cases q1 with
    | false =>
      have e := HN.out rfl
      subst e
      simp only [Bool.false_eq_true, if_false]
      go_wp2_with fail
      refine (C4.out _ V4.out).mono ?_
      rintro _ w5 ⟨rfl, b5⟩
      have V5 := hide (V4.out.below b5)
      have B5 := hide (bto B4.out b5)
      clear b5
      go_wp2_with fail
      refine (C4.out _ V5.out).mono ?_
      rintro _ w6 ⟨rfl, b6⟩
      go_wp2_with fail
      go_ret
      exact ⟨rfl, bto B5.out b6⟩
    | true =>
      simp only [if_true]
      go_wp2_with fail
      refine (C4.out _ V4.out).mono ?_
      rintro _ w5 ⟨rfl, b5⟩
      have V5 := hide (V4.out.below b5)
      have B5 := hide (bto B4.out b5)
      clear b5
      go_wp2_with fail
      refine (C4.out _ V5.out).mono ?_
      rintro _ w6 ⟨rfl, b6⟩
      go_wp2_with fail
      go_ret
      exact ⟨rfl, bto B5.out b6⟩

set_option maxHeartbeats 2000000 in
theorem symm_walk (r : List Pt) (v : Value) (s : List Pt) (v2 : Value) (w : World) (hv : SlC w v r) (_ : r.length ≤ maxLen) (hv2 : SlC w v2 s) (_ : s.length ≤ maxLen) :
    Calls Try.prog 7 #[v, v2] w fun e w' => e = .returned (.bool true) ∧ Below w.heap.size w w' := by
  by_cases h1 : r.length ≤ 40
  · by_cases h2 : s.length ≤ 40
    · exact symm_small r s v v2 w hv.sl hv2.sl h1 h2
    · obtain ⟨A, cp, rfl, _, _⟩ := hv
      obtain ⟨A2, cp2, rfl, _, _⟩ := hv2
      have n1 : ¬ (40 : Int) < r.length := by omega
      have n2 : (40 : Int) < s.length := by omega
      go_enter Try.func7, Try.ntmps7
      go_wp2_with fail
      refine (rhead_any _).mono ?_
      rintro _ w1 ⟨rfl, b1⟩
      go_wp2_with fail
      go_ret
      exact ⟨rfl, b1⟩
  · obtain ⟨A, cp, rfl, _, _⟩ := hv
    obtain ⟨A2, cp2, rfl, _, _⟩ := hv2
    have n1 : (40 : Int) < r.length := by omega
    go_enter Try.func7, Try.ntmps7
    go_wp2_with fail
    refine (rhead_any _).mono ?_
    rintro _ w1 ⟨rfl, b1⟩
    go_wp2_with fail
    go_ret
    exact ⟨rfl, b1⟩
end Go.Proofs.Ytmklnioedeailaa
