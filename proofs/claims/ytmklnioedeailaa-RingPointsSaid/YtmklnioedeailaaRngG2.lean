/-
  RingPoints, walked: it returns true.
-/
import Derived.Test.YtmklnioedeailaaRngM
import Derived.Test.YtmklnioedeailaaRPlainH2
namespace Go.Proofs.Ytmklnioedeailaa
open Go.RowKit Go.Proofs.PlGeom Go.Proofs.PlRing

set_option maxRecDepth 100000 in
set_option maxHeartbeats 8000000 in
theorem points_in (r s : List Pt) (v v2 : Value) (px py : Int) (w : World) (hv : SlP w v r) (hv2 : SlP w v2 s) (hr : r.length ≤ 40) (hs : s.length ≤ 40) (s1 : simple r = true) (s2 : simple s = true) (M N : Int)
    (hM : (twice r < -twice r ∧ ¬ -twice r < twice r ∧ M = -twice r) ∨ (-twice r < twice r ∧ ¬ twice r < -twice r ∧ M = twice r)) (hN : (twice s < -twice s ∧ ¬ -twice s < twice s ∧ N = -twice s) ∨ (-twice s < twice s ∧ ¬ twice s < -twice s ∧ N = twice s)) :
    Calls Try.prog 8 #[v, v2, .agg #[.int .i64 px, .int .i64 py]] w fun e w' => e = .returned (.bool true) ∧ Below w.heap.size w w' := by
  have C1 := hide (fun w h => simple_any r v w h (by omega))
  have C2 := hide (fun w h => simple_any s v2 w h (by omega))
  have C3 := hide (fun w h => side_any r v px py w h (by omega))
  have C4 := hide (fun w h => side_any s v2 px py w h (by omega))
  have C5 := hide (fun w h => twice_any r v w h (by omega))
  have C6 := hide (fun w h => twice_any s v2 w h (by omega))
  have C7 := hide (fun w h h' => relation_any r s v v2 w h h' (by omega) (by omega))
  have law := points_law s1 s2 ⟨px, py⟩
  have bd1 := twice_bd r hr
  have bd2 := twice_bd s hs
  rw [s1] at C1
  rw [s2] at C2
  have a1 : absI (twice r) = M := by unfold absI; omega
  have a2 : absI (twice s) = N := by unfold absI; omega
  rw [a1, a2] at law
  clear a1 a2
  generalize sideR r ⟨px, py⟩ = a at *
  generalize sideR s ⟨px, py⟩ = b at *
  generalize twice r = m at *
  generalize twice s = n at *
  generalize relation r s = q at *
  have HLAW := hide law
  clear law s1 s2
  obtain ⟨m1, m2⟩ := bd1
  obtain ⟨n1, n2⟩ := bd2
  have hv0 := hide hv
  have hv20 := hide hv2
  obtain ⟨A, cp, rfl, _⟩ := hv
  obtain ⟨A2, cp2, rfl, _⟩ := hv2
  have l1 : ¬ (40 : Int) < r.length := by omega
  have l2 : ¬ (40 : Int) < s.length := by omega
  clear hr hs
  rcases hM with ⟨k1, k2, rfl⟩ | ⟨k1, k2, rfl⟩ <;> rcases hN with ⟨k3, k4, rfl⟩ | ⟨k3, k4, rfl⟩
  all_goals
   go_enter Try.func8, Try.ntmps8
   go_wp2_with fail
   have hp0 : (w.alloc (.cells #[.int .i64 px, .int .i64 py] 24)).heap[w.heap.size]? = some (.cells #[.int .i64 px, .int .i64 py] 24 (0, 0)) := blkN _ _ _ rfl
   have HB0 := hide (show Below w.heap.size w (w.alloc (.cells #[.int .i64 px, .int .i64 py] 24)) from (Below.refl _ w).alloc (Nat.le_refl _) _)
   have HP0 := hide hp0
   clear hp0
   refine (rhead_any _).mono ?_
   rintro _ w1 ⟨rfl, b1⟩
   have HB1 := hide (bto HB0.out b1)
   have HP1 := hide (blkB b1 HP0.out)
   clear b1
   go_wp2_with fail
   refine (C1.out _ (hv0.out.below HB1.out)).mono ?_
   rintro _ w2 ⟨rfl, b2⟩
   have HB2 := hide (bto HB1.out b2)
   have HP2 := hide (blkB b2 HP1.out)
   clear b2
   go_wp2_with fail
   refine (C2.out _ (hv20.out.below HB2.out)).mono ?_
   rintro _ w3 ⟨rfl, b3⟩
   have HB3 := hide (bto HB2.out b3)
   have HP3 := hide (blkB b3 HP2.out)
   clear b3
   obtain ⟨⟨d1, d2⟩, _⟩ := blk2 HP3.out
   go_wp2_with fail
   refine (C3.out _ (hv0.out.below HB3.out)).mono ?_
   rintro _ w4 ⟨rfl, b4⟩
   have HB4 := hide (bto HB3.out b4)
   have HP4 := hide (blkB b4 HP3.out)
   clear b4 d1 d2
   obtain ⟨⟨d1, d2⟩, _⟩ := blk2 HP4.out
   go_wp2_with fail
   refine (C4.out _ (hv20.out.below HB4.out)).mono ?_
   rintro _ w5 ⟨rfl, b5⟩
   have HB5 := hide (bto HB4.out b5)
   clear b5 d1 d2
   go_wp2_with fail
   refine (C5.out _ (hv0.out.below HB5.out)).mono ?_
   rintro _ w6 ⟨rfl, b6⟩
   have HB6 := hide (bto HB5.out b6)
   clear b6
   go_wp2_with fail
   refine (C6.out _ (hv20.out.below HB6.out)).mono ?_
   rintro _ w7 ⟨rfl, b7⟩
   have HB7 := hide (bto HB6.out b7)
   clear b7
   go_wp2_with fail
   refine (C7.out _ (hv0.out.below HB7.out) (hv20.out.below HB7.out)).mono ?_
   rintro _ w8 ⟨rfl, b8⟩
   have HB8 := hide (bto HB7.out b8)
   clear b8
   by_cases q2 : q = 2
   · obtain ⟨g1, g2⟩ := HLAW.out.1 q2
     subst q2
     go_wp2_with fail
     go_ret
     exact ⟨rfl, HB8.out⟩
   by_cases q3 : q = 3
   · obtain ⟨g1, g2⟩ := HLAW.out.2.1 q3
     subst q3
     clear q2
     go_wp2_with fail
     go_ret
     exact ⟨rfl, HB8.out⟩
   by_cases q1 : q = 1
   · have g := HLAW.out.2.2.1 q1
     subst q1
     clear q2 q3
     by_cases ga : a < 1
     · go_wp2_with fail
       go_ret
       exact ⟨rfl, HB8.out⟩
     · have gb : b < 1 := by omega
       clear g
       go_wp2_with fail
       go_ret
       exact ⟨rfl, HB8.out⟩
   by_cases q4 : q = 4
   · obtain ⟨g1, g2⟩ := HLAW.out.2.2.2 q4
     subst q4
     subst g1
     clear q1 q2 q3
     go_wp2_with fail
     go_ret
     exact ⟨rfl, HB8.out⟩
   go_wp2_with fail
   go_ret
   exact ⟨rfl, HB8.out⟩

theorem max_cases {x : Int} (h : x ≠ 0) : ∃ M : Int, (x < -x ∧ ¬ -x < x ∧ M = -x) ∨ (-x < x ∧ ¬ x < -x ∧ M = x) := by
  by_cases g : 0 < x
  · exact ⟨x, .inr (by omega)⟩
  · exact ⟨-x, .inl (by omega)⟩
set_option maxRecDepth 100000 in
set_option maxHeartbeats 8000000 in
theorem points_out (r s : List Pt) (v v2 : Value) (px py : Int) (w : World) (hv : SlP w v r) (hv2 : SlP w v2 s) (hr : r.length ≤ 40) (hs : s.length ≤ 40) (hn : simple r = false ∨ (simple r = true ∧ simple s = false)) :
    Calls Try.prog 8 #[v, v2, .agg #[.int .i64 px, .int .i64 py]] w fun e w' => e = .returned (.bool true) ∧ Below w.heap.size w w' := by
  have C1 := hide (fun w h => simple_any r v w h (by omega))
  have C2 := hide (fun w h => simple_any s v2 w h (by omega))
  have hv0 := hide hv
  have hv20 := hide hv2
  obtain ⟨A, cp, rfl, _⟩ := hv
  obtain ⟨A2, cp2, rfl, _⟩ := hv2
  have l1 : ¬ (40 : Int) < r.length := by omega
  have l2 : ¬ (40 : Int) < s.length := by omega
  clear hr hs
  generalize simple r = q1 at *
  generalize simple s = q2 at *
  rcases hn with rfl | ⟨rfl, rfl⟩
  · go_enter Try.func8, Try.ntmps8
    go_wp2_with fail
    have HB0 := hide (show Below w.heap.size w (w.alloc (.cells #[.int .i64 px, .int .i64 py] 24)) from (Below.refl _ w).alloc (Nat.le_refl _) _)
    refine (rhead_any _).mono ?_
    rintro _ w1 ⟨rfl, b1⟩
    have HB1 := hide (bto HB0.out b1)
    clear b1
    go_wp2_with fail
    refine (C1.out _ (hv0.out.below HB1.out)).mono ?_
    rintro _ w2 ⟨rfl, b2⟩
    have HB2 := hide (bto HB1.out b2)
    clear b2
    go_wp2_with fail
    go_ret
    exact ⟨rfl, HB2.out⟩
  · go_enter Try.func8, Try.ntmps8
    go_wp2_with fail
    have HB0 := hide (show Below w.heap.size w (w.alloc (.cells #[.int .i64 px, .int .i64 py] 24)) from (Below.refl _ w).alloc (Nat.le_refl _) _)
    refine (rhead_any _).mono ?_
    rintro _ w1 ⟨rfl, b1⟩
    have HB1 := hide (bto HB0.out b1)
    clear b1
    go_wp2_with fail
    refine (C1.out _ (hv0.out.below HB1.out)).mono ?_
    rintro _ w2 ⟨rfl, b2⟩
    have HB2 := hide (bto HB1.out b2)
    clear b2
    go_wp2_with fail
    refine (C2.out _ (hv20.out.below HB2.out)).mono ?_
    rintro _ w3 ⟨rfl, b3⟩
    have HB3 := hide (bto HB2.out b3)
    clear b3
    go_wp2_with fail
    go_ret
    exact ⟨rfl, HB3.out⟩

set_option maxHeartbeats 2000000 in
theorem points_walk (r : List Pt) (v : Value) (s : List Pt) (v2 : Value) (px py : Int) (w : World) (hv : SlC w v r) (_ : r.length ≤ maxLen) (hv2 : SlC w v2 s) (_ : s.length ≤ maxLen) :
    Calls Try.prog 8 #[v, v2, .agg #[.int .i64 px, .int .i64 py]] w fun e w' => e = .returned (.bool true) ∧ Below w.heap.size w w' := by
  by_cases h1 : r.length ≤ 40
  · by_cases h2 : s.length ≤ 40
    · cases s1 : simple r with
      | false => exact points_out r s v v2 px py w hv.sl hv2.sl h1 h2 (.inl s1)
      | true =>
        cases s2 : simple s with
        | false => exact points_out r s v v2 px py w hv.sl hv2.sl h1 h2 (.inr ⟨s1, s2⟩)
        | true =>
          obtain ⟨M, hM⟩ := max_cases (twice_ne r s1)
          obtain ⟨N, hN⟩ := max_cases (twice_ne s s2)
          exact points_in r s v v2 px py w hv.sl hv2.sl h1 h2 s1 s2 M N hM hN
    · obtain ⟨A, cp, rfl, _, _⟩ := hv
      obtain ⟨A2, cp2, rfl, _, _⟩ := hv2
      have n1 : ¬ (40 : Int) < r.length := by omega
      have n2 : (40 : Int) < s.length := by omega
      go_enter Try.func8, Try.ntmps8
      go_wp2_with fail
      refine (rhead_any _).mono ?_
      rintro _ w1 ⟨rfl, b1⟩
      go_wp2_with fail
      go_ret
      exact ⟨rfl, bto ((Below.refl _ w).alloc (Nat.le_refl _) _) b1⟩
  · obtain ⟨A, cp, rfl, _, _⟩ := hv
    obtain ⟨A2, cp2, rfl, _, _⟩ := hv2
    have n1 : (40 : Int) < r.length := by omega
    go_enter Try.func8, Try.ntmps8
    go_wp2_with fail
    refine (rhead_any _).mono ?_
    rintro _ w1 ⟨rfl, b1⟩
    go_wp2_with fail
    go_ret
    exact ⟨rfl, bto ((Below.refl _ w).alloc (Nat.le_refl _) _) b1⟩
end Go.Proofs.Ytmklnioedeailaa
