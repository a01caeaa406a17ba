/-
  On of the geometry, walked.
-/
import Derived.Test.YtfkgjbdeicggaaaGreatGeoC
namespace Go.Proofs.YtfkgjbdeicggaaaGreat
open Go.RowKit Go.Proofs.PlGeom

theorem sub_pt (p : Pt) : (⟨p.x, p.y⟩ : Pt) = p := rfl

set_option maxRecDepth 100000 in
set_option maxHeartbeats 2000000 in
theorem gon_any (ax ay bx bY cx cy : Int) (w : World) :
    Calls Tryz.prog 128 #[.agg #[.int .i64 ax, .int .i64 ay, .int .i64 bx, .int .i64 bY], .agg #[.int .i64 cx, .int .i64 cy]] w fun e w' => e = .returned (.bool (onS ⟨⟨ax, ay⟩, ⟨bx, bY⟩⟩ ⟨cx, cy⟩)) ∧ Below w.heap.size w w' := by
  obtain ⟨R, hR⟩ : ∃ R, R = onS ⟨⟨ax, ay⟩, ⟨bx, bY⟩⟩ ⟨cx, cy⟩ := ⟨_, rfl⟩
  rw [← hR]
  cases hn : nearL [⟨ax, ay⟩, ⟨bx, bY⟩, ⟨cx, cy⟩] with
  | false =>
    have HN := hide (near3 ax ay bx bY cx cy false hn)
    have hr : R = false := by rw [hR, onS, hn]; rfl
    have HR2 := hide hr
    clear hn hr hR
    go_enter Tryz.func128, Tryz.ntmps128
    go_wp2_with fail
    refine (HN.out _ _ _ _ (by simp)).mono ?_
    rintro _ w1 ⟨rfl, b1⟩
    go_wp2_with fail
    go_ret
    exact ⟨ret_bool HR2.out.symm, bto (((Below.refl _ _).alloc (Nat.le_refl _) _).alloc (by simp) _) b1⟩
  | true =>
    have HN := hide (near3 ax ay bx bY cx cy true hn)
    have HS := hide (sorted_any ax ay bx bY)
    obtain ⟨s', hs'⟩ : ∃ s', sortS ⟨⟨ax, ay⟩, ⟨bx, bY⟩⟩ = s' := ⟨_, rfl⟩
    obtain ⟨⟨sx, sy⟩, ⟨tx, ty⟩⟩ := s'
    have hr : R = (orient ⟨sx, sy⟩ ⟨tx, ty⟩ ⟨cx, cy⟩ == 0 && cmpP ⟨sx, sy⟩ ⟨cx, cy⟩ ≤ 0 && cmpP ⟨cx, cy⟩ ⟨tx, ty⟩ ≤ 0 && (!ptEq sx sy tx ty || ptEq cx cy sx sy)) := by
      have e1 := ptEq_iff ⟨sx, sy⟩ ⟨tx, ty⟩
      have e2 := ptEq_iff ⟨cx, cy⟩ ⟨sx, sy⟩
      simp only at e1 e2
      rw [hR, onS, hn, hs', e1, e2]
      simp only [Bool.true_and, decide_not]
    have HO := hide (orient_any sx sy tx ty cx cy)
    have HC1 := hide (compare_any sx sy cx cy)
    have HC2 := hide (compare_any cx cy tx ty)
    rw [hs'] at HS
    unfold vS at HS
    generalize orient ⟨sx, sy⟩ ⟨tx, ty⟩ ⟨cx, cy⟩ = o at hr HO
    generalize cmpP ⟨sx, sy⟩ ⟨cx, cy⟩ = c1 at hr HC1
    generalize cmpP ⟨cx, cy⟩ ⟨tx, ty⟩ = c2 at hr HC2
    have HR := hide hr
    clear hn hr hR hs'
    cases ho : (o == 0) with
    | false =>
      go_enter Tryz.func128, Tryz.ntmps128
      go_wp2_with fail
      refine (HN.out _ _ _ _ (by simp)).mono ?_
      rintro _ w1 ⟨rfl, b1⟩
      have q := bcell b1
      obtain ⟨q1, q2⟩ := q
      go_wp2_with fail
      refine (HS.out _).mono ?_
      rintro _ w2 ⟨rfl, b2⟩
      have HB1 := hide (bto (((Below.refl _ w).alloc (Nat.le_refl _) _).alloc (by simp) _) b1)
      have HB := hide (bto HB1.out b2)
      have k1 : w2.heap[w.heap.size]? = some (.cells #[.int .i64 ax, .int .i64 ay, .int .i64 bx, .int .i64 bY] 68 (0, 0)) := blkB b2 (blkB (bto ((Below.refl _ _).alloc (Nat.le_refl _) _) b1) (blkN _ _ _ rfl))
      have k2 : w2.heap[w.heap.size + 1]? = some (.cells #[.int .i64 cx, .int .i64 cy] 44 (0, 0)) := blkB b2 (blkB b1 (blkN _ _ _ (by simp)))
      have hz2 := lt_of_block k2
      have hz1 : w.heap.size < w2.heap.size := by omega
      obtain ⟨⟨e1, e2, e3, e4⟩, f1, f2, f3, f4⟩ := blk4 k1
      obtain ⟨⟨e5, e6⟩, f5, f6⟩ := blk2 k2
      clear k1 k2 q1 q2 b1 b2 HB1
      go_wp2_with fail
      refine (HO.out _).mono ?_
      rintro _ w3 ⟨rfl, b3⟩
      obtain ⟨q1, q2⟩ := bcell b3
      have HB3 := hide (bto ((((HB.out.setCell (p := ⟨w.heap.size, 0, none⟩) (by simp) (.int .i64 sx)).setCell (p := ⟨w.heap.size, 1, none⟩) (by simp) (.int .i64 sy)).setCell (p := ⟨w.heap.size, 2, none⟩) (by simp) (.int .i64 tx)).setCell (p := ⟨w.heap.size, 3, none⟩) (by simp) (.int .i64 ty)) b3)
      have hz := b3.size
      simp only [World.size_setCell] at hz
      have hz3 : w.heap.size < w3.heap.size := by omega
      have hz4 : w.heap.size + 1 < w3.heap.size := by omega
      clear b3 hz
      go_wp2_with fail
      go_ret
      exact ⟨ret_bool (by rw [HR.out, ho]; rfl), HB3.out⟩
    | true =>
      by_cases h1 : c1 ≤ 0
      · by_cases h2 : c2 ≤ 0
        · cases h3 : ptEq sx sy tx ty with
          | false =>
            go_enter Tryz.func128, Tryz.ntmps128
            go_wp2_with fail
            refine (HN.out _ _ _ _ (by simp)).mono ?_
            rintro _ w1 ⟨rfl, b1⟩
            have q := bcell b1
            obtain ⟨q1, q2⟩ := q
            go_wp2_with fail
            refine (HS.out _).mono ?_
            rintro _ w2 ⟨rfl, b2⟩
            have HB1 := hide (bto (((Below.refl _ w).alloc (Nat.le_refl _) _).alloc (by simp) _) b1)
            have HB := hide (bto HB1.out b2)
            have k1 : w2.heap[w.heap.size]? = some (.cells #[.int .i64 ax, .int .i64 ay, .int .i64 bx, .int .i64 bY] 68 (0, 0)) := blkB b2 (blkB (bto ((Below.refl _ _).alloc (Nat.le_refl _) _) b1) (blkN _ _ _ rfl))
            have k2 : w2.heap[w.heap.size + 1]? = some (.cells #[.int .i64 cx, .int .i64 cy] 44 (0, 0)) := blkB b2 (blkB b1 (blkN _ _ _ (by simp)))
            have hz2 := lt_of_block k2
            have hz1 : w.heap.size < w2.heap.size := by omega
            obtain ⟨⟨e1, e2, e3, e4⟩, f1, f2, f3, f4⟩ := blk4 k1
            obtain ⟨⟨e5, e6⟩, f5, f6⟩ := blk2 k2
            clear k1 k2 q1 q2 b1 b2 HB1
            go_wp2_with fail
            refine (HO.out _).mono ?_
            rintro _ w3 ⟨rfl, b3⟩
            obtain ⟨q1, q2⟩ := bcell b3
            have HB3 := hide (bto ((((HB.out.setCell (p := ⟨w.heap.size, 0, none⟩) (by simp) (.int .i64 sx)).setCell (p := ⟨w.heap.size, 1, none⟩) (by simp) (.int .i64 sy)).setCell (p := ⟨w.heap.size, 2, none⟩) (by simp) (.int .i64 tx)).setCell (p := ⟨w.heap.size, 3, none⟩) (by simp) (.int .i64 ty)) b3)
            have hz := b3.size
            simp only [World.size_setCell] at hz
            have hz3 : w.heap.size < w3.heap.size := by omega
            have hz4 : w.heap.size + 1 < w3.heap.size := by omega
            clear b3 hz
            go_wp2_with fail
            refine (HC1.out _).mono ?_
            rintro _ w4 ⟨rfl, b4⟩
            obtain ⟨r1, r2⟩ := bcell b4
            have HB4 := hide (bto HB3.out b4)
            have hz := b4.size
            have hz5 : w.heap.size < w4.heap.size := by omega
            have hz6 : w.heap.size + 1 < w4.heap.size := by omega
            clear b4 hz
            go_wp2_with fail
            refine (HC2.out _).mono ?_
            rintro _ w5 ⟨rfl, b5⟩
            obtain ⟨s1, s2⟩ := bcell b5
            have HB5 := hide (bto HB4.out b5)
            clear b5
            go_wp2_with fail
            go_ret
            exact ⟨ret_bool (by rw [HR.out, ho, h3]; simp [h1, h2]), HB5.out⟩
          | true =>
            cases h4 : ptEq cx cy sx sy with
            | true =>
              go_enter Tryz.func128, Tryz.ntmps128
              go_wp2_with fail
              refine (HN.out _ _ _ _ (by simp)).mono ?_
              rintro _ w1 ⟨rfl, b1⟩
              have q := bcell b1
              obtain ⟨q1, q2⟩ := q
              go_wp2_with fail
              refine (HS.out _).mono ?_
              rintro _ w2 ⟨rfl, b2⟩
              have HB1 := hide (bto (((Below.refl _ w).alloc (Nat.le_refl _) _).alloc (by simp) _) b1)
              have HB := hide (bto HB1.out b2)
              have k1 : w2.heap[w.heap.size]? = some (.cells #[.int .i64 ax, .int .i64 ay, .int .i64 bx, .int .i64 bY] 68 (0, 0)) := blkB b2 (blkB (bto ((Below.refl _ _).alloc (Nat.le_refl _) _) b1) (blkN _ _ _ rfl))
              have k2 : w2.heap[w.heap.size + 1]? = some (.cells #[.int .i64 cx, .int .i64 cy] 44 (0, 0)) := blkB b2 (blkB b1 (blkN _ _ _ (by simp)))
              have hz2 := lt_of_block k2
              have hz1 : w.heap.size < w2.heap.size := by omega
              obtain ⟨⟨e1, e2, e3, e4⟩, f1, f2, f3, f4⟩ := blk4 k1
              obtain ⟨⟨e5, e6⟩, f5, f6⟩ := blk2 k2
              clear k1 k2 q1 q2 b1 b2 HB1
              go_wp2_with fail
              refine (HO.out _).mono ?_
              rintro _ w3 ⟨rfl, b3⟩
              obtain ⟨q1, q2⟩ := bcell b3
              have HB3 := hide (bto ((((HB.out.setCell (p := ⟨w.heap.size, 0, none⟩) (by simp) (.int .i64 sx)).setCell (p := ⟨w.heap.size, 1, none⟩) (by simp) (.int .i64 sy)).setCell (p := ⟨w.heap.size, 2, none⟩) (by simp) (.int .i64 tx)).setCell (p := ⟨w.heap.size, 3, none⟩) (by simp) (.int .i64 ty)) b3)
              have hz := b3.size
              simp only [World.size_setCell] at hz
              have hz3 : w.heap.size < w3.heap.size := by omega
              have hz4 : w.heap.size + 1 < w3.heap.size := by omega
              clear b3 hz
              go_wp2_with fail
              refine (HC1.out _).mono ?_
              rintro _ w4 ⟨rfl, b4⟩
              obtain ⟨r1, r2⟩ := bcell b4
              have HB4 := hide (bto HB3.out b4)
              have hz := b4.size
              have hz5 : w.heap.size < w4.heap.size := by omega
              have hz6 : w.heap.size + 1 < w4.heap.size := by omega
              clear b4 hz
              go_wp2_with fail
              refine (HC2.out _).mono ?_
              rintro _ w5 ⟨rfl, b5⟩
              obtain ⟨s1, s2⟩ := bcell b5
              have HB5 := hide (bto HB4.out b5)
              clear b5
              go_wp2_with fail
              go_ret
              exact ⟨ret_bool (by rw [HR.out, ho, h3, h4]; simp [h1, h2]), HB5.out⟩
            | false =>
              go_enter Tryz.func128, Tryz.ntmps128
              go_wp2_with fail
              refine (HN.out _ _ _ _ (by simp)).mono ?_
              rintro _ w1 ⟨rfl, b1⟩
              have q := bcell b1
              obtain ⟨q1, q2⟩ := q
              go_wp2_with fail
              refine (HS.out _).mono ?_
              rintro _ w2 ⟨rfl, b2⟩
              have HB1 := hide (bto (((Below.refl _ w).alloc (Nat.le_refl _) _).alloc (by simp) _) b1)
              have HB := hide (bto HB1.out b2)
              have k1 : w2.heap[w.heap.size]? = some (.cells #[.int .i64 ax, .int .i64 ay, .int .i64 bx, .int .i64 bY] 68 (0, 0)) := blkB b2 (blkB (bto ((Below.refl _ _).alloc (Nat.le_refl _) _) b1) (blkN _ _ _ rfl))
              have k2 : w2.heap[w.heap.size + 1]? = some (.cells #[.int .i64 cx, .int .i64 cy] 44 (0, 0)) := blkB b2 (blkB b1 (blkN _ _ _ (by simp)))
              have hz2 := lt_of_block k2
              have hz1 : w.heap.size < w2.heap.size := by omega
              obtain ⟨⟨e1, e2, e3, e4⟩, f1, f2, f3, f4⟩ := blk4 k1
              obtain ⟨⟨e5, e6⟩, f5, f6⟩ := blk2 k2
              clear k1 k2 q1 q2 b1 b2 HB1
              go_wp2_with fail
              refine (HO.out _).mono ?_
              rintro _ w3 ⟨rfl, b3⟩
              obtain ⟨q1, q2⟩ := bcell b3
              have HB3 := hide (bto ((((HB.out.setCell (p := ⟨w.heap.size, 0, none⟩) (by simp) (.int .i64 sx)).setCell (p := ⟨w.heap.size, 1, none⟩) (by simp) (.int .i64 sy)).setCell (p := ⟨w.heap.size, 2, none⟩) (by simp) (.int .i64 tx)).setCell (p := ⟨w.heap.size, 3, none⟩) (by simp) (.int .i64 ty)) b3)
              have hz := b3.size
              simp only [World.size_setCell] at hz
              have hz3 : w.heap.size < w3.heap.size := by omega
              have hz4 : w.heap.size + 1 < w3.heap.size := by omega
              clear b3 hz
              go_wp2_with fail
              refine (HC1.out _).mono ?_
              rintro _ w4 ⟨rfl, b4⟩
              obtain ⟨r1, r2⟩ := bcell b4
              have HB4 := hide (bto HB3.out b4)
              have hz := b4.size
              have hz5 : w.heap.size < w4.heap.size := by omega
              have hz6 : w.heap.size + 1 < w4.heap.size := by omega
              clear b4 hz
              go_wp2_with fail
              refine (HC2.out _).mono ?_
              rintro _ w5 ⟨rfl, b5⟩
              obtain ⟨s1, s2⟩ := bcell b5
              have HB5 := hide (bto HB4.out b5)
              clear b5
              go_wp2_with fail
              go_ret
              exact ⟨ret_bool (by rw [HR.out, ho, h3, h4]; simp [h1, h2]), HB5.out⟩
        · have h2' : decide (c2 ≤ 0) = false := by simpa using h2
          go_enter Tryz.func128, Tryz.ntmps128
          go_wp2_with fail
          refine (HN.out _ _ _ _ (by simp)).mono ?_
          rintro _ w1 ⟨rfl, b1⟩
          have q := bcell b1
          obtain ⟨q1, q2⟩ := q
          go_wp2_with fail
          refine (HS.out _).mono ?_
          rintro _ w2 ⟨rfl, b2⟩
          have HB1 := hide (bto (((Below.refl _ w).alloc (Nat.le_refl _) _).alloc (by simp) _) b1)
          have HB := hide (bto HB1.out b2)
          have k1 : w2.heap[w.heap.size]? = some (.cells #[.int .i64 ax, .int .i64 ay, .int .i64 bx, .int .i64 bY] 68 (0, 0)) := blkB b2 (blkB (bto ((Below.refl _ _).alloc (Nat.le_refl _) _) b1) (blkN _ _ _ rfl))
          have k2 : w2.heap[w.heap.size + 1]? = some (.cells #[.int .i64 cx, .int .i64 cy] 44 (0, 0)) := blkB b2 (blkB b1 (blkN _ _ _ (by simp)))
          have hz2 := lt_of_block k2
          have hz1 : w.heap.size < w2.heap.size := by omega
          obtain ⟨⟨e1, e2, e3, e4⟩, f1, f2, f3, f4⟩ := blk4 k1
          obtain ⟨⟨e5, e6⟩, f5, f6⟩ := blk2 k2
          clear k1 k2 q1 q2 b1 b2 HB1
          go_wp2_with fail
          refine (HO.out _).mono ?_
          rintro _ w3 ⟨rfl, b3⟩
          obtain ⟨q1, q2⟩ := bcell b3
          have HB3 := hide (bto ((((HB.out.setCell (p := ⟨w.heap.size, 0, none⟩) (by simp) (.int .i64 sx)).setCell (p := ⟨w.heap.size, 1, none⟩) (by simp) (.int .i64 sy)).setCell (p := ⟨w.heap.size, 2, none⟩) (by simp) (.int .i64 tx)).setCell (p := ⟨w.heap.size, 3, none⟩) (by simp) (.int .i64 ty)) b3)
          have hz := b3.size
          simp only [World.size_setCell] at hz
          have hz3 : w.heap.size < w3.heap.size := by omega
          have hz4 : w.heap.size + 1 < w3.heap.size := by omega
          clear b3 hz
          go_wp2_with fail
          refine (HC1.out _).mono ?_
          rintro _ w4 ⟨rfl, b4⟩
          obtain ⟨r1, r2⟩ := bcell b4
          have HB4 := hide (bto HB3.out b4)
          have hz := b4.size
          have hz5 : w.heap.size < w4.heap.size := by omega
          have hz6 : w.heap.size + 1 < w4.heap.size := by omega
          clear b4 hz
          go_wp2_with fail
          refine (HC2.out _).mono ?_
          rintro _ w5 ⟨rfl, b5⟩
          obtain ⟨s1, s2⟩ := bcell b5
          have HB5 := hide (bto HB4.out b5)
          clear b5
          go_wp2_with fail
          go_ret
          exact ⟨ret_bool (by rw [HR.out, ho, h2']; simp), HB5.out⟩
      · have h1' : decide (c1 ≤ 0) = false := by simpa using h1
        go_enter Tryz.func128, Tryz.ntmps128
        go_wp2_with fail
        refine (HN.out _ _ _ _ (by simp)).mono ?_
        rintro _ w1 ⟨rfl, b1⟩
        have q := bcell b1
        obtain ⟨q1, q2⟩ := q
        go_wp2_with fail
        refine (HS.out _).mono ?_
        rintro _ w2 ⟨rfl, b2⟩
        have HB1 := hide (bto (((Below.refl _ w).alloc (Nat.le_refl _) _).alloc (by simp) _) b1)
        have HB := hide (bto HB1.out b2)
        have k1 : w2.heap[w.heap.size]? = some (.cells #[.int .i64 ax, .int .i64 ay, .int .i64 bx, .int .i64 bY] 68 (0, 0)) := blkB b2 (blkB (bto ((Below.refl _ _).alloc (Nat.le_refl _) _) b1) (blkN _ _ _ rfl))
        have k2 : w2.heap[w.heap.size + 1]? = some (.cells #[.int .i64 cx, .int .i64 cy] 44 (0, 0)) := blkB b2 (blkB b1 (blkN _ _ _ (by simp)))
        have hz2 := lt_of_block k2
        have hz1 : w.heap.size < w2.heap.size := by omega
        obtain ⟨⟨e1, e2, e3, e4⟩, f1, f2, f3, f4⟩ := blk4 k1
        obtain ⟨⟨e5, e6⟩, f5, f6⟩ := blk2 k2
        clear k1 k2 q1 q2 b1 b2 HB1
        go_wp2_with fail
        refine (HO.out _).mono ?_
        rintro _ w3 ⟨rfl, b3⟩
        obtain ⟨q1, q2⟩ := bcell b3
        have HB3 := hide (bto ((((HB.out.setCell (p := ⟨w.heap.size, 0, none⟩) (by simp) (.int .i64 sx)).setCell (p := ⟨w.heap.size, 1, none⟩) (by simp) (.int .i64 sy)).setCell (p := ⟨w.heap.size, 2, none⟩) (by simp) (.int .i64 tx)).setCell (p := ⟨w.heap.size, 3, none⟩) (by simp) (.int .i64 ty)) b3)
        have hz := b3.size
        simp only [World.size_setCell] at hz
        have hz3 : w.heap.size < w3.heap.size := by omega
        have hz4 : w.heap.size + 1 < w3.heap.size := by omega
        clear b3 hz
        go_wp2_with fail
        refine (HC1.out _).mono ?_
        rintro _ w4 ⟨rfl, b4⟩
        obtain ⟨r1, r2⟩ := bcell b4
        have HB4 := hide (bto HB3.out b4)
        have hz := b4.size
        have hz5 : w.heap.size < w4.heap.size := by omega
        have hz6 : w.heap.size + 1 < w4.heap.size := by omega
        clear b4 hz
        go_wp2_with fail
        go_ret
        exact ⟨ret_bool (by rw [HR.out, ho, h1']; simp), HB4.out⟩
