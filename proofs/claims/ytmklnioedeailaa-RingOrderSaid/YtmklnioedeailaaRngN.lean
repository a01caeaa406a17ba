/-
  RingOrder, walked: it returns true.
-/
import Derived.Test.YtmklnioedeailaaRngM
import Derived.BigQuiet
import Derived.Deep.RegionHeld3
import Derived.Deep.DrawnRows
namespace Go.Proofs.Ytmklnioedeailaa
open Go.RowKit Go.Proofs.PlGeom Go.Proofs.PlRing
attribute [local go_sem ↓] Go.wp_at_zero Go.wp_at_succ

/-- The memory of RingOrder: both rings, both in another order, the point. -/
structure OrB (w : World) (v v2 ua ub : Value) (r s a b : List Pt) (px py : Int) (wx : World) : Prop where
  r : SlC wx v r
  s : SlC wx v2 s
  a : SlP wx ua a
  b : SlP wx ub b
  p : wx.heap[w.heap.size]? = some (.cells #[.int .i64 px, .int .i64 py] 24 (0, 0))
  below : Below w.heap.size w wx
theorem OrB.lift {w : World} {v v2 ua ub : Value} {r s a b : List Pt} {px py : Int} {wx wy : World} (h : OrB w v v2 ua ub r s a b px py wx) (hb : Below wx.heap.size wx wy) : OrB w v v2 ua ub r s a b px py wy :=
  ⟨h.r.below hb, h.s.below hb, h.a.below hb, h.b.below hb, blkB hb h.p, bto h.below hb⟩
theorem OrB.drew {w : World} {v v2 ua ub : Value} {r s a b : List Pt} {px py : Int} {wx : World} (h : OrB w v v2 ua ub r s a b px py wx) : OrB w v v2 ua ub r s a b px py wx.drew := h.lift ((Below.refl _ _).drew)
theorem OrB.cells {w : World} {v v2 ua ub : Value} {r s a b : List Pt} {px py : Int} {wx : World} (h : OrB w v v2 ua ub r s a b px py wx) : OrB w v v2 ua ub r s a b px py wx ∧ wx.cell? ⟨w.heap.size, 0, none⟩ = some (.int .i64 px) ∧ wx.cell? ⟨w.heap.size, 1, none⟩ = some (.int .i64 py) :=
  ⟨h, (blk2 h.p).1.1, (blk2 h.p).1.2⟩

set_option maxRecDepth 100000 in
set_option maxHeartbeats 8000000 in
theorem order_small (r s : List Pt) (v v2 : Value) (px py : Int) (i j : Nat) (hi : i < 256) (hj : j < 256) (w : World) (hv : SlC w v r) (hv2 : SlC w v2 s) (hr : r.length ≤ 40) (hs : s.length ≤ 40) :
    Calls Try.prog 6 #[v, v2, .agg #[.int .i64 px, .int .i64 py], .int .u8 (i : Int), .int .u8 (j : Int)] w fun e w' => e = .returned (.bool true) ∧ Below w.heap.size w w' := by
  have la : (turnR r (i % r.length)).length ≤ 40 := by simp [turnR]; omega
  have lb : (turnR s (j % s.length)).length ≤ 40 := by simp [turnR]; omega
  have lc : (turnR r (j % r.length)).length ≤ 40 := by simp [turnR]; omega
  have oa : Ord r (turnR r (i % r.length)).reverse := (ord_turnQ r i).trans (ord_rev _)
  have ob := ord_turnQ s j
  have oc := ord_turnQ r j
  have od := ord_rev s
  have la2 : (turnR r (i % r.length)).reverse.length ≤ 40 := by rw [List.length_reverse]; exact la
  have ld : s.reverse.length ≤ 40 := by rw [List.length_reverse]; exact hs
  have T1 := hide (fun w h => turned_sl r v i w h (by omega) hi)
  have T2 := hide (fun w h => turned_sl s v2 j w h (by omega) hj)
  have T3 := hide (fun w h => turned_sl r v j w h (by omega) hj)
  have e1 : simple (turnR r (i % r.length)).reverse = simple r := oa.simple
  have e2 : sideR (turnR r (i % r.length)).reverse ⟨px, py⟩ = sideR r ⟨px, py⟩ := side_ord oa _
  have e3 : relation (turnR r (i % r.length)).reverse (turnR s (j % s.length)) = relation r s := relation_ord oa ob
  have e4 : relation (turnR r (j % r.length)) s.reverse = relation r s := relation_ord oc od
  generalize turnR s (j % s.length) = b at *
  generalize turnR r (j % r.length) = c at *
  have B1 := hide (fun u w h => back_sl (turnR r (i % r.length)) u w h (by omega))
  generalize (turnR r (i % r.length)).reverse = a at *
  have B2 := hide (fun w h => back_sl s v2 w h (by omega))
  generalize s.reverse = d at *
  have C1 := hide (fun u w h => simple_any a u w h (by omega))
  have C2 := hide (fun w h => simple_any r v w h (by omega))
  have C3 := hide (fun u w h => side_any a u px py w h (by omega))
  have C4 := hide (fun w h => side_any r v px py w h (by omega))
  have C5 := hide (fun u1 u2 w h1 h2 => relation_any a b u1 u2 w h1 h2 (by omega) (by omega))
  have C6 := hide (fun w h1 h2 => relation_any r s v v2 w h1 h2 (by omega) (by omega))
  have C7 := hide (fun u1 u2 w h1 h2 => relation_any c d u1 u2 w h1 h2 (by omega) (by omega))
  simp only [e1] at C1
  simp only [e2] at C3
  simp only [e3] at C5
  simp only [e4] at C7
  generalize simple r = q1 at *
  generalize sideR r ⟨px, py⟩ = q2 at *
  generalize relation r s = q3 at *
  have hv0 := hide hv
  have hv20 := hide hv2
  obtain ⟨A, cp, rfl, _, _⟩ := hv
  obtain ⟨A2, cp2, rfl, _, _⟩ := hv2
  have n1 : ¬ (40 : Int) < r.length := by omega
  have n2 : ¬ (40 : Int) < s.length := by omega
  clear oa ob oc od e1 e2 e3 e4 la lb lc la2 ld hr hs
  go_enter Try.func6, Try.ntmps6
  go_wp2_with fail
  refine (rhead_any _).mono ?_
  rintro _ w1 ⟨rfl, b1⟩
  have hp1 : w1.heap[w.heap.size]? = some (.cells #[.int .i64 px, .int .i64 py] 24 (0, 0)) := blkB b1 (blkN _ _ _ rfl)
  have bw1 : Below w.heap.size w w1 := bto ((Below.refl _ w).alloc (Nat.le_refl _) _) b1
  have HP1 := hide hp1
  have HB1 := hide bw1
  clear hp1 bw1 b1
  go_wp2_with fail
  refine (T1.out _ (hv0.out.below HB1.out)).mono ?_
  rintro _ w2 ⟨ut, rfl, st, b2⟩
  go_wp2_with fail
  refine (B1.out _ _ st).mono ?_
  rintro _ w3 ⟨ua, rfl, sa, b3⟩
  have HB3 := hide (bto (bto HB1.out b2) b3)
  have HP3 := hide (blkB b3 (blkB b2 HP1.out))
  clear b2 b3 st
  go_wp2_with fail
  refine (T2.out _ (hv20.out.below HB3.out)).mono ?_
  rintro _ w4 ⟨ub, rfl, sb, b4⟩
  have hm : OrB w (.slice A r.length cp) (.slice A2 s.length cp2) ua ub r s a b px py w4 := ⟨hv0.out.below (bto HB3.out b4), hv20.out.below (bto HB3.out b4), sa.below b4, sb, blkB b4 HP3.out, bto HB3.out b4⟩
  have HM := hide hm
  clear hm sa sb b4
  go_wp2_with fail
  go_region_held3 (fun w' => OrB w (.slice A r.length cp) (.slice A2 s.length cp2) ua ub r s a b px py w' ∧ w'.cell? ⟨w.heap.size, 0, none⟩ = some (.int .i64 px) ∧ w'.cell? ⟨w.heap.size, 1, none⟩ = some (.int .i64 py))
    (first | exact HM.out.drew.cells | exact hk7.cells)
    (first
      | (go_at_call 14; (with_reducible refine (C1.out _ _ (OrB.a (And.left (by assumption)))).mono ?_); rintro _ w7 ⟨rfl, b7⟩; have hk7 := OrB.lift (And.left (by assumption)) b7)
      | (go_at_call 14; (with_reducible refine (C2.out _ (OrB.r (And.left (by assumption))).sl).mono ?_); rintro _ w7 ⟨rfl, b7⟩; have hk7 := OrB.lift (And.left (by assumption)) b7)
      | (go_at_call 16; (with_reducible refine (C3.out _ _ (OrB.a (And.left (by assumption)))).mono ?_); rintro _ w7 ⟨rfl, b7⟩; have hk7 := OrB.lift (And.left (by assumption)) b7)
      | (go_at_call 16; (with_reducible refine (C4.out _ (OrB.r (And.left (by assumption))).sl).mono ?_); rintro _ w7 ⟨rfl, b7⟩; have hk7 := OrB.lift (And.left (by assumption)) b7)
      | (go_at_call 18; (with_reducible refine (C5.out _ _ _ (OrB.a (And.left (by assumption))) (OrB.b (And.left (by assumption)))).mono ?_); rintro _ w7 ⟨rfl, b7⟩; have hk7 := OrB.lift (And.left (by assumption)) b7)
      | (go_at_call 18; (with_reducible refine (C6.out _ (OrB.r (And.left (by assumption))).sl (OrB.s (And.left (by assumption))).sl).mono ?_); rintro _ w7 ⟨rfl, b7⟩; have hk7 := OrB.lift (And.left (by assumption)) b7)
      | (go_at_call 21; (with_reducible refine (T3.out _ (OrB.r (And.left (by assumption)))).mono ?_); rintro _ w7 ⟨uc, rfl, sc, b7⟩; have hk7 := OrB.lift (And.left (by assumption)) b7)
      | (go_at_call 20; (with_reducible refine (B2.out _ (OrB.s (And.left (by assumption))).sl).mono ?_); rintro _ w7 ⟨ud, rfl, se, b7⟩; have hk7 := OrB.lift (And.left (by assumption)) b7; have sc8 := sc.below b7)
      | (go_at_call 18; (with_reducible refine (C7.out _ _ _ sc8 se).mono ?_); rintro _ w7 ⟨rfl, b7⟩; have hk7 := OrB.lift (And.left (by assumption)) b7))
  all_goals
    go_wp2_with fail
    go_ret
    exact ⟨rfl, OrB.below (And.left (by assumption))⟩

set_option maxHeartbeats 2000000 in
theorem order_walk (r : List Pt) (v : Value) (s : List Pt) (v2 : Value) (px py i j : Int) (w : World) (hv : SlC w v r) (_ : r.length ≤ maxLen) (hv2 : SlC w v2 s) (_ : s.length ≤ maxLen) (hi : 0 ≤ i ∧ i < 256) (hj : 0 ≤ j ∧ j < 256) :
    Calls Try.prog 6 #[v, v2, .agg #[.int .i64 px, .int .i64 py], .int .u8 i, .int .u8 j] w fun e w' => e = .returned (.bool true) ∧ Below w.heap.size w w' := by
  obtain ⟨i, rfl⟩ := Int.eq_ofNat_of_zero_le hi.1
  obtain ⟨j, rfl⟩ := Int.eq_ofNat_of_zero_le hj.1
  by_cases h1 : r.length ≤ 40
  · by_cases h2 : s.length ≤ 40
    · exact order_small r s v v2 px py i j (by omega) (by omega) w hv hv2 h1 h2
    · obtain ⟨A, cp, rfl, _, _⟩ := hv
      obtain ⟨A2, cp2, rfl, _, _⟩ := hv2
      have n1 : ¬ (40 : Int) < r.length := by omega
      have n2 : (40 : Int) < s.length := by omega
      go_enter Try.func6, Try.ntmps6
      go_wp2_with fail
      refine (rhead_any _).mono ?_
      rintro _ w1 ⟨rfl, b1⟩
      go_wp2_with fail
      go_ret
      exact ⟨rfl, bto ((Below.refl _ w).alloc (Nat.le_refl _) _) b1⟩
  · obtain ⟨A, cp, rfl, _, _⟩ := hv
    obtain ⟨A2, cp2, rfl, _, _⟩ := hv2
    have n1 : (40 : Int) < r.length := by omega
    go_enter Try.func6, Try.ntmps6
    go_wp2_with fail
    refine (rhead_any _).mono ?_
    rintro _ w1 ⟨rfl, b1⟩
    go_wp2_with fail
    go_ret
    exact ⟨rfl, bto ((Below.refl _ w).alloc (Nat.le_refl _) _) b1⟩
end Go.Proofs.Ytmklnioedeailaa
