/-
  GeomNear, walked: it returns true.
-/
import Derived.Test.YtepfhifogkopcaaGeoI
import Derived.Test.YtepfhifogkopcaaGeoS
import Derived.Test.YtepfhifogkopcaaGeoL3
namespace Go.Proofs.Ytepfhifogkopcaa
open Go.RowKit Go.Proofs.PlGeom

/-- A segment and two points in boxes. -/
structure SB (w wx : World) (ax ay bx bY px py qx qy : Int) : Prop where
  a : wx.heap[w.heap.size]? = some (.cells #[.int .i64 ax, .int .i64 ay, .int .i64 bx, .int .i64 bY] 25 (0, 0))
  b : wx.heap[w.heap.size + 1]? = some (.cells #[.int .i64 px, .int .i64 py] 23 (0, 0))
  c : wx.heap[w.heap.size + 2]? = some (.cells #[.int .i64 qx, .int .i64 qy] 23 (0, 0))
  below : Below w.heap.size w wx
theorem SB.lift {w wx wy : World} {ax ay bx bY px py qx qy : Int} (h : SB w wx ax ay bx bY px py qx qy) (hb : Below wx.heap.size wx wy) : SB w wy ax ay bx bY px py qx qy := ⟨blkB hb h.a, blkB hb h.b, blkB hb h.c, bto h.below hb⟩
theorem SB.drew {w wx : World} {ax ay bx bY px py qx qy : Int} (h : SB w wx ax ay bx bY px py qx qy) : SB w wx.drew ax ay bx bY px py qx qy := ⟨h.a, h.b, h.c, h.below.drew⟩
theorem SB.s {w wx : World} {ax ay bx bY px py qx qy : Int} (h : SB w wx ax ay bx bY px py qx qy) : SB w wx ax ay bx bY px py qx qy ∧ wx.cell? ⟨w.heap.size, 0, none⟩ = some (.int .i64 ax) ∧ wx.cell? ⟨w.heap.size, 1, none⟩ = some (.int .i64 ay) ∧ wx.cell? ⟨w.heap.size, 2, none⟩ = some (.int .i64 bx) ∧ wx.cell? ⟨w.heap.size, 3, none⟩ = some (.int .i64 bY) ∧ wx.cell? ⟨w.heap.size + 1, 0, none⟩ = some (.int .i64 px) ∧ wx.cell? ⟨w.heap.size + 1, 1, none⟩ = some (.int .i64 py) ∧ wx.cell? ⟨w.heap.size + 2, 0, none⟩ = some (.int .i64 qx) ∧ wx.cell? ⟨w.heap.size + 2, 1, none⟩ = some (.int .i64 qy) :=
  ⟨h, (blk4 h.a).1.1, (blk4 h.a).1.2.1, (blk4 h.a).1.2.2.1, (blk4 h.a).1.2.2.2, (blk2 h.b).1.1, (blk2 h.b).1.2, (blk2 h.c).1.1, (blk2 h.c).1.2⟩

set_option maxRecDepth 100000 in
set_option maxHeartbeats 4000000 in
theorem near_walk (ax ay bx bY px py qx qy : Int) (w : World) : Calls Try.prog 8 #[.agg #[.int .i64 ax, .int .i64 ay, .int .i64 bx, .int .i64 bY], .agg #[.int .i64 px, .int .i64 py], .agg #[.int .i64 qx, .int .i64 qy]] w fun e w' => e = .returned (.bool true) ∧ Below w.heap.size w w' := by
  have HB1 := hide (back_any ax ay bx bY)
  have H1 := hide (near_gen ax ay bx bY px py)
  cases hn : nearL [⟨ax, ay⟩, ⟨bx, bY⟩, ⟨px, py⟩, ⟨qx, qy⟩] with
  | false =>
    have HN := hide (lnear4 ax ay bx bY px py qx qy false hn)
    clear hn
    go_enter Try.func8, Try.ntmps8
    go_wp2_with fail
    refine (head_any _).mono ?_
    rintro _ w1 ⟨rfl, b1⟩
    have hm : SB w w1 ax ay bx bY px py qx qy := ⟨blkB b1 (blkO _ (blkO _ (blkN _ _ _ rfl))), blkB b1 (blkO _ (blkN _ _ _ (by simp))), blkB b1 (blkN _ _ _ (by simp)), bto ((((Below.refl _ _).alloc (Nat.le_refl _) _).alloc (by simp) _).alloc (by simp; omega) _) b1⟩
    clear b1
    obtain ⟨_, d1, d2, d3, d4, d5, d6, d7, d8⟩ := hm.s
    go_wp2_with fail
    refine (HN.out _ _ _ _ (by simp)).mono ?_
    rintro _ w2 ⟨rfl, b2⟩
    have hm2 := hm.lift b2
    clear d1 d2 d3 d4 d5 d6 d7 d8
    clear b2
    obtain ⟨_, d1, d2, d3, d4, d5, d6, d7, d8⟩ := hm2.s
    go_wp2_with fail
    go_ret
    exact ⟨rfl, hm2.below⟩
  | true =>
    have HN := hide (lnear4 ax ay bx bY px py qx qy true hn)
    have H2 := hide (near_gen bx bY ax ay px py)
    have HD1 := hide (distance_any ax ay px py)
    have HD2 := hide (distance_any bx bY px py)
    have HD3 := hide (distance_any qx qy px py)
    have HO1 := hide (on_any ax ay bx bY px py)
    have HO2 := hide (on_any ax ay bx bY qx qy)
    obtain ⟨n0, n1, n2, n3, n4, n5, n6⟩ := near_law ⟨⟨ax, ay⟩, ⟨bx, bY⟩⟩ ⟨px, py⟩ ⟨qx, qy⟩ hn
    simp only [backS] at n1
    rw [n1] at H2
    simp only at n2 n3 n6
    have he := ptEq_iff ⟨ax, ay⟩ ⟨bx, bY⟩
    simp only at he
    obtain ⟨q, hq⟩ : ∃ q, ptEq ax ay bx bY = q := ⟨_, rfl⟩
    rw [hq] at he
    have h6 : q = true → nearV ⟨⟨ax, ay⟩, ⟨bx, bY⟩⟩ ⟨px, py⟩ = dist ⟨ax, ay⟩ ⟨px, py⟩ := fun e => by
      rw [e] at he
      exact n6 (by simpa using he.symm)
    generalize nearV ⟨⟨ax, ay⟩, ⟨bx, bY⟩⟩ ⟨px, py⟩ = k at *
    generalize onS ⟨⟨ax, ay⟩, ⟨bx, bY⟩⟩ ⟨px, py⟩ = o1 at *
    generalize onS ⟨⟨ax, ay⟩, ⟨bx, bY⟩⟩ ⟨qx, qy⟩ = o2 at *
    generalize dist ⟨ax, ay⟩ ⟨px, py⟩ = D1 at *
    generalize dist ⟨bx, bY⟩ ⟨px, py⟩ = D2 at *
    generalize dist ⟨qx, qy⟩ ⟨px, py⟩ = D3 at *
    have z1 : decide (k < 0) = false := by simpa using n0
    have z2 : decide (D1 < k) = false := by simpa using n2
    have z3 : decide (D2 < k) = false := by simpa using n3
    have z4 : o1 = true → (k != 0) = false := fun e => by simp [n4 e]
    have z5 : o2 = true → decide (k ≤ D3) = true := fun e => by simpa using n5 e
    have z6 : q = true → (k == D1) = true := fun e => by simpa using h6 e
    have Z4 := hide z4
    have Z5 := hide z5
    have Z6 := hide z6
    have HQ := hide hq
    clear hn he n0 n1 n2 n3 n4 n5 n6 h6 z4 z5 z6 hq
    go_enter Try.func8, Try.ntmps8
    go_wp2_with fail
    refine (head_any _).mono ?_
    rintro _ w1 ⟨rfl, b1⟩
    have hm : SB w w1 ax ay bx bY px py qx qy := ⟨blkB b1 (blkO _ (blkO _ (blkN _ _ _ rfl))), blkB b1 (blkO _ (blkN _ _ _ (by simp))), blkB b1 (blkN _ _ _ (by simp)), bto ((((Below.refl _ _).alloc (Nat.le_refl _) _).alloc (by simp) _).alloc (by simp; omega) _) b1⟩
    clear b1
    obtain ⟨_, d1, d2, d3, d4, d5, d6, d7, d8⟩ := hm.s
    go_wp2_with fail
    refine (HN.out _ _ _ _ (by simp)).mono ?_
    rintro _ w2 ⟨rfl, b2⟩
    have hm2 := hm.lift b2
    clear d1 d2 d3 d4 d5 d6 d7 d8
    clear b2
    obtain ⟨_, d1, d2, d3, d4, d5, d6, d7, d8⟩ := hm2.s
    go_wp2_with fail
    refine (H1.out _).mono ?_
    rintro _ w3 ⟨rfl, b3⟩
    have hm3 := hm2.lift b3
    clear d1 d2 d3 d4 d5 d6 d7 d8
    clear b3
    obtain ⟨_, d1, d2, d3, d4, d5, d6, d7, d8⟩ := hm3.s
    go_upto_region 5 with (fail)
    go_cut [57] (fun s57 wx => s57 = .bool false ∧ SB w wx ax ay bx bY px py qx qy)
    case first =>
      clear HN
      cases o1
      all_goals
        first
          | have z7 := Z4.out rfl
          | skip
        clear Z4 Z5 Z6 HQ
        first | fail | (go_region_held (fun w' => SB w w' ax ay bx bY px py qx qy ∧ w'.cell? ⟨w.heap.size, 0, none⟩ = some (.int .i64 ax) ∧ w'.cell? ⟨w.heap.size, 1, none⟩ = some (.int .i64 ay) ∧ w'.cell? ⟨w.heap.size, 2, none⟩ = some (.int .i64 bx) ∧ w'.cell? ⟨w.heap.size, 3, none⟩ = some (.int .i64 bY) ∧ w'.cell? ⟨w.heap.size + 1, 0, none⟩ = some (.int .i64 px) ∧ w'.cell? ⟨w.heap.size + 1, 1, none⟩ = some (.int .i64 py) ∧ w'.cell? ⟨w.heap.size + 2, 0, none⟩ = some (.int .i64 qx) ∧ w'.cell? ⟨w.heap.size + 2, 1, none⟩ = some (.int .i64 qy))
          ((first | exact hk7.s | exact hm3.drew.s))
          (first
            | (go_at_call 27; (with_reducible refine (HB1.out _).mono ?_); rintro _ w7 ⟨rfl, b7⟩; have hk7 := SB.lift (And.left (by assumption)) b7)
            | (go_at_call 21; (with_reducible refine (H2.out _).mono ?_); rintro _ w7 ⟨rfl, b7⟩; have hk7 := SB.lift (And.left (by assumption)) b7)
            | (go_at_call 19; (with_reducible refine (HD1.out _).mono ?_); rintro _ w7 ⟨rfl, b7⟩; have hk7 := SB.lift (And.left (by assumption)) b7)
            | (go_at_call 19; (with_reducible refine (HD2.out _).mono ?_); rintro _ w7 ⟨rfl, b7⟩; have hk7 := SB.lift (And.left (by assumption)) b7)
            | (go_at_call 15; (with_reducible refine (HO1.out _).mono ?_); rintro _ w7 ⟨rfl, b7⟩; have hk7 := SB.lift (And.left (by assumption)) b7))) | fail
        all_goals (go_wp2_with fail; go_meet; exact ⟨rfl, And.left (by assumption)⟩)
    case rest =>
      clear hm hm2 hm3 d1 d2 d3 d4 d5 d6 d7 d8 H1 H2 HB1 HD2 HO1 Z4
      obtain ⟨rfl, hm⟩ := hcut
      obtain ⟨_, d1, d2, d3, d4, d5, d6, d7, d8⟩ := hm.s
      have z7 := HQ.out
      clear HQ
      cases o2 with
      | true =>
        have z8 := Z5.out rfl
        clear Z5
        cases q with
        | true =>
          have z9 := Z6.out rfl
          clear Z6
          go_wp2_with fail
          refine (HO2.out _).mono ?_
          rintro _ w4 ⟨rfl, b4⟩
          have hm4 := hm.lift b4
          clear d1 d2 d3 d4 d5 d6 d7 d8
          clear b4
          obtain ⟨_, d1, d2, d3, d4, d5, d6, d7, d8⟩ := hm4.s
          go_wp2_with fail
          refine (HD3.out _).mono ?_
          rintro _ w5 ⟨rfl, b5⟩
          have hm5 := hm4.lift b5
          clear d1 d2 d3 d4 d5 d6 d7 d8
          clear b5
          obtain ⟨_, d1, d2, d3, d4, d5, d6, d7, d8⟩ := hm5.s
          go_wp2_with fail
          refine (HD1.out _).mono ?_
          rintro _ w6 ⟨rfl, b6⟩
          have hm6 := hm5.lift b6
          clear d1 d2 d3 d4 d5 d6 d7 d8
          clear b6
          obtain ⟨_, d1, d2, d3, d4, d5, d6, d7, d8⟩ := hm6.s
          go_wp2_with fail
          go_ret
          exact ⟨rfl, hm6.below⟩
        | false =>
          clear Z6
          go_wp2_with fail
          refine (HO2.out _).mono ?_
          rintro _ w4 ⟨rfl, b4⟩
          have hm4 := hm.lift b4
          clear d1 d2 d3 d4 d5 d6 d7 d8
          clear b4
          obtain ⟨_, d1, d2, d3, d4, d5, d6, d7, d8⟩ := hm4.s
          go_wp2_with fail
          refine (HD3.out _).mono ?_
          rintro _ w5 ⟨rfl, b5⟩
          have hm5 := hm4.lift b5
          clear d1 d2 d3 d4 d5 d6 d7 d8
          clear b5
          obtain ⟨_, d1, d2, d3, d4, d5, d6, d7, d8⟩ := hm5.s
          go_wp2_with fail
          go_ret
          exact ⟨rfl, hm5.below⟩
      | false =>
        clear Z5
        cases q with
        | true =>
          have z9 := Z6.out rfl
          clear Z6
          go_wp2_with fail
          refine (HO2.out _).mono ?_
          rintro _ w4 ⟨rfl, b4⟩
          have hm4 := hm.lift b4
          clear d1 d2 d3 d4 d5 d6 d7 d8
          clear b4
          obtain ⟨_, d1, d2, d3, d4, d5, d6, d7, d8⟩ := hm4.s
          go_wp2_with fail
          refine (HD1.out _).mono ?_
          rintro _ w6 ⟨rfl, b6⟩
          have hm6 := hm4.lift b6
          clear d1 d2 d3 d4 d5 d6 d7 d8
          clear b6
          obtain ⟨_, d1, d2, d3, d4, d5, d6, d7, d8⟩ := hm6.s
          go_wp2_with fail
          go_ret
          exact ⟨rfl, hm6.below⟩
        | false =>
          clear Z6
          go_wp2_with fail
          refine (HO2.out _).mono ?_
          rintro _ w4 ⟨rfl, b4⟩
          have hm4 := hm.lift b4
          clear d1 d2 d3 d4 d5 d6 d7 d8
          clear b4
          obtain ⟨_, d1, d2, d3, d4, d5, d6, d7, d8⟩ := hm4.s
          go_wp2_with fail
          go_ret
          exact ⟨rfl, hm4.below⟩
end Go.Proofs.Ytepfhifogkopcaa
