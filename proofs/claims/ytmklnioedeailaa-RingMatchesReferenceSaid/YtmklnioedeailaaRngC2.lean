/-
  RingMatchesReference, walked: it returns true.
-/
import Derived.Test.YtmklnioedeailaaRngB2
import Derived.Test.YtmklnioedeailaaRngM
import Derived.Test.YtmklnioedeailaaRPlainG2
namespace Go.Proofs.Ytmklnioedeailaa
open Go.RowKit Go.Proofs.PlGeom Go.Proofs.PlRing
attribute [local go_sem ↓] Go.wp_at_zero Go.wp_at_succ

/-- The memory of RingMatchesReference: both rings, the point. -/
structure MtB (w : World) (v v2 : Value) (r s : List Pt) (px py : Int) (wx : World) : Prop where
  r : SlP wx v r
  s : SlP wx v2 s
  p : wx.heap[w.heap.size]? = some (.cells #[.int .i64 px, .int .i64 py] 24 (0, 0))
  below : Below w.heap.size w wx
theorem MtB.lift {w : World} {v v2 : Value} {r s : List Pt} {px py : Int} {wx wy : World} (h : MtB w v v2 r s px py wx) (hb : Below wx.heap.size wx wy) : MtB w v v2 r s px py wy :=
  ⟨h.r.below hb, h.s.below hb, blkB hb h.p, bto h.below hb⟩
theorem MtB.drew {w : World} {v v2 : Value} {r s : List Pt} {px py : Int} {wx : World} (h : MtB w v v2 r s px py wx) : MtB w v v2 r s px py wx.drew := h.lift ((Below.refl _ _).drew)
theorem MtB.cells {w : World} {v v2 : Value} {r s : List Pt} {px py : Int} {wx : World} (h : MtB w v v2 r s px py wx) : MtB w v v2 r s px py wx ∧ wx.cell? ⟨w.heap.size, 0, none⟩ = some (.int .i64 px) ∧ wx.cell? ⟨w.heap.size, 1, none⟩ = some (.int .i64 py) :=
  ⟨h, (blk2 h.p).1.1, (blk2 h.p).1.2⟩

set_option maxRecDepth 100000 in
set_option maxHeartbeats 8000000 in
theorem match_small (r s : List Pt) (v v2 : Value) (px py : Int) (w : World) (hv : SlP w v r) (hv2 : SlP w v2 s) (hr : r.length ≤ 40) (hs : s.length ≤ 40) :
    Calls Try.prog 3 #[v, v2, .agg #[.int .i64 px, .int .i64 py]] w fun e w' => e = .returned (.bool true) ∧ Below w.heap.size w w' := by
  have C1 := hide (fun w h => twice_any r v w h (by omega))
  have C2 := hide (fun w h => xtwice_any r v w h (by omega))
  have C3 := hide (fun w h => simple_any r v w h (by omega))
  have C4 := hide (fun w h => xsimple_any r v w h (by omega))
  have C5 := hide (fun w h => side_any r v px py w h (by omega))
  have C6 := hide (fun w h => xside_any r v px py w h (by omega))
  have C7 := hide (fun w h h' => relation_any r s v v2 w h h' (by omega) (by omega))
  have C8 := hide (fun w h h' => xrelation_any r s v v2 w h h' (by omega) (by omega))
  simp only [relX_relation] at C8
  generalize simple r = q1 at *
  generalize sideR r ⟨px, py⟩ = q2 at *
  generalize relation r s = q3 at *
  generalize twice r = q4 at *
  have hv0 := hide hv
  have hv20 := hide hv2
  obtain ⟨A, cp, rfl, _⟩ := hv
  obtain ⟨A2, cp2, rfl, _⟩ := hv2
  have n1 : ¬ (40 : Int) < r.length := by omega
  have n2 : ¬ (40 : Int) < s.length := by omega
  clear hr hs
  go_enter Try.func3, Try.ntmps3
  go_wp2_with fail
  refine (rhead_any _).mono ?_
  rintro _ w1 ⟨rfl, b1⟩
  have hp1 : w1.heap[w.heap.size]? = some (.cells #[.int .i64 px, .int .i64 py] 24 (0, 0)) := blkB b1 (blkN _ _ _ rfl)
  have bw1 : Below w.heap.size w w1 := bto ((Below.refl _ w).alloc (Nat.le_refl _) _) b1
  have hm : MtB w (.slice A r.length cp) (.slice A2 s.length cp2) r s px py w1 := ⟨hv0.out.below bw1, hv20.out.below bw1, hp1, bw1⟩
  have HM := hide hm
  clear hm hp1 bw1 b1
  go_wp2_with fail
  go_region_held3 (fun w' => MtB w (.slice A r.length cp) (.slice A2 s.length cp2) r s px py w' ∧ w'.cell? ⟨w.heap.size, 0, none⟩ = some (.int .i64 px) ∧ w'.cell? ⟨w.heap.size, 1, none⟩ = some (.int .i64 py))
    (first | exact HM.out.drew.cells | exact hk7.cells)
    (first
      | (go_at_call 12; (with_reducible refine (C1.out _ (MtB.r (And.left (by assumption)))).mono ?_); rintro _ w7 ⟨rfl, b7⟩; have hk7 := MtB.lift (And.left (by assumption)) b7)
      | (go_at_call 13; (with_reducible refine (C2.out _ (MtB.r (And.left (by assumption)))).mono ?_); rintro _ w7 ⟨rfl, b7⟩; have hk7 := MtB.lift (And.left (by assumption)) b7)
      | (go_at_call 14; (with_reducible refine (C3.out _ (MtB.r (And.left (by assumption)))).mono ?_); rintro _ w7 ⟨rfl, b7⟩; have hk7 := MtB.lift (And.left (by assumption)) b7)
      | (go_at_call 15; (with_reducible refine (C4.out _ (MtB.r (And.left (by assumption)))).mono ?_); rintro _ w7 ⟨rfl, b7⟩; have hk7 := MtB.lift (And.left (by assumption)) b7)
      | (go_at_call 16; (with_reducible refine (C5.out _ (MtB.r (And.left (by assumption)))).mono ?_); rintro _ w7 ⟨rfl, b7⟩; have hk7 := MtB.lift (And.left (by assumption)) b7)
      | (go_at_call 17; (with_reducible refine (C6.out _ (MtB.r (And.left (by assumption)))).mono ?_); rintro _ w7 ⟨rfl, b7⟩; have hk7 := MtB.lift (And.left (by assumption)) b7)
      | (go_at_call 18; (with_reducible refine (C7.out _ (MtB.r (And.left (by assumption))) (MtB.s (And.left (by assumption)))).mono ?_); rintro _ w7 ⟨rfl, b7⟩; have hk7 := MtB.lift (And.left (by assumption)) b7)
      | (go_at_call 19; (with_reducible refine (C8.out _ (MtB.r (And.left (by assumption))) (MtB.s (And.left (by assumption)))).mono ?_); rintro _ w7 ⟨rfl, b7⟩; have hk7 := MtB.lift (And.left (by assumption)) b7))
  all_goals
    go_wp2_with fail
    go_ret
    exact ⟨rfl, MtB.below (And.left (by assumption))⟩

set_option maxHeartbeats 2000000 in
theorem match_walk (r : List Pt) (v : Value) (s : List Pt) (v2 : Value) (px py : Int) (w : World) (hv : SlC w v r) (_ : r.length ≤ maxLen) (hv2 : SlC w v2 s) (_ : s.length ≤ maxLen) :
    Calls Try.prog 3 #[v, v2, .agg #[.int .i64 px, .int .i64 py]] w fun e w' => e = .returned (.bool true) ∧ Below w.heap.size w w' := by
  by_cases h1 : r.length ≤ 40
  · by_cases h2 : s.length ≤ 40
    · exact match_small r s v v2 px py w hv.sl hv2.sl h1 h2
    · obtain ⟨A, cp, rfl, _, _⟩ := hv
      obtain ⟨A2, cp2, rfl, _, _⟩ := hv2
      have n1 : ¬ (40 : Int) < r.length := by omega
      have n2 : (40 : Int) < s.length := by omega
      go_enter Try.func3, Try.ntmps3
      go_wp2_with fail
      refine (rhead_any _).mono ?_
      rintro _ w1 ⟨rfl, b1⟩
      go_wp2_with fail
      go_ret
      exact ⟨rfl, bto ((Below.refl _ w).alloc (Nat.le_refl _) _) b1⟩
  · obtain ⟨A, cp, rfl, _, _⟩ := hv
    obtain ⟨A2, cp2, rfl, _, _⟩ := hv2
    have n1 : (40 : Int) < r.length := by omega
    go_enter Try.func3, Try.ntmps3
    go_wp2_with fail
    refine (rhead_any _).mono ?_
    rintro _ w1 ⟨rfl, b1⟩
    go_wp2_with fail
    go_ret
    exact ⟨rfl, bto ((Below.refl _ w).alloc (Nat.le_refl _) _) b1⟩
end Go.Proofs.Ytmklnioedeailaa
