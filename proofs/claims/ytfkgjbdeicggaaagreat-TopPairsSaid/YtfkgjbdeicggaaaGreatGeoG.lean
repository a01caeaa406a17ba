/-
  Meets of the geometry, walked: the ways on which the segments may cross.
-/
import Derived.Test.YtfkgjbdeicggaaaGreatGeoF
namespace Go.Proofs.YtfkgjbdeicggaaaGreat
open Go.RowKit Go.Proofs.PlGeom

theorem orient_bd (a b c : Pt) : -1 ≤ orient a b c ∧ orient a b c ≤ 1 := by
  unfold orient
  have := cmpI_cases (cross a b c) 0
  split <;> omega
theorem orient_prod (a b c d e f : Pt) : -1 ≤ orient a b c * orient d e f ∧ orient a b c * orient d e f ≤ 1 := by
  have h1 := orient_bd a b c
  have h2 := orient_bd d e f
  exact prod_bd 1 _ _ h1.1 h1.2 h2.1 h2.2

set_option maxRecDepth 100000 in
set_option maxHeartbeats 4000000 in
theorem meets_x1 (ax ay bx bY cx cy dx dy sx sy ux uy tx ty vx vy : Int) (w : World) (hn : nearL [⟨ax, ay⟩, ⟨bx, bY⟩, ⟨cx, cy⟩, ⟨dx, dy⟩] = true) (hs : sortS ⟨⟨ax, ay⟩, ⟨bx, bY⟩⟩ = ⟨⟨sx, sy⟩, ⟨ux, uy⟩⟩) (ht : sortS ⟨⟨cx, cy⟩, ⟨dx, dy⟩⟩ = ⟨⟨tx, ty⟩, ⟨vx, vy⟩⟩)
    (h0 : sgEq sx sy ux uy tx ty vx vy = false) (h1 : ptEq sx sy ux uy = false) (h2 : ptEq tx ty vx vy = false) (h3 : (orient ⟨sx, sy⟩ ⟨ux, uy⟩ ⟨tx, ty⟩ == 0) = false) :
    Calls Tryz.prog 25 #[.agg #[.int .i64 ax, .int .i64 ay, .int .i64 bx, .int .i64 bY], .agg #[.int .i64 cx, .int .i64 cy, .int .i64 dx, .int .i64 dy]] w fun e w' => e = .returned (.int .i64 (crossC (orient ⟨sx, sy⟩ ⟨ux, uy⟩ ⟨tx, ty⟩) (orient ⟨sx, sy⟩ ⟨ux, uy⟩ ⟨vx, vy⟩) (orient ⟨tx, ty⟩ ⟨vx, vy⟩ ⟨sx, sy⟩) (orient ⟨tx, ty⟩ ⟨vx, vy⟩ ⟨ux, uy⟩))) ∧ Below w.heap.size w w' := by
  have HO1 := hide (orient_any sx sy ux uy tx ty)
  have HO2 := hide (orient_any sx sy ux uy vx vy)
  have HO3 := hide (orient_any tx ty vx vy sx sy)
  have HO4 := hide (orient_any tx ty vx vy ux uy)
  have p1 := orient_prod ⟨sx, sy⟩ ⟨ux, uy⟩ ⟨tx, ty⟩ ⟨sx, sy⟩ ⟨ux, uy⟩ ⟨vx, vy⟩
  have p2 := orient_prod ⟨tx, ty⟩ ⟨vx, vy⟩ ⟨sx, sy⟩ ⟨tx, ty⟩ ⟨vx, vy⟩ ⟨ux, uy⟩
  generalize orient ⟨sx, sy⟩ ⟨ux, uy⟩ ⟨tx, ty⟩ = o1 at *
  generalize orient ⟨sx, sy⟩ ⟨ux, uy⟩ ⟨vx, vy⟩ = o2 at *
  generalize orient ⟨tx, ty⟩ ⟨vx, vy⟩ ⟨sx, sy⟩ = o3 at *
  generalize orient ⟨tx, ty⟩ ⟨vx, vy⟩ ⟨ux, uy⟩ = o4 at *
  obtain ⟨R, hR⟩ : ∃ R, R = crossC o1 o2 o3 o4 := ⟨_, rfl⟩
  rw [← hR]
  have HR := hide hR
  clear hR
  have HN := hide (near4 ax ay bx bY cx cy dx dy true hn)
  have HS1 := hide (sorted_any ax ay bx bY)
  have HS2 := hide (sorted_any cx cy dx dy)
  rw [hs] at HS1
  rw [ht] at HS2
  unfold vS at HS1 HS2
  clear hn hs ht
  go_enter Tryz.func25, Tryz.ntmps25
  go_wp2_with fail
  refine (HN.out _ _ _ _ (by simp)).mono ?_
  rintro _ w1 ⟨rfl, b1⟩
  have hm : MB w w1 ax ay bx bY cx cy dx dy := ⟨blkB b1 (blkO _ (blkN _ _ _ rfl)), blkB b1 (blkN _ _ _ (by simp)), bto (((Below.refl _ _).alloc (Nat.le_refl _) _).alloc (by simp) _) b1⟩
  obtain ⟨⟨a1, a2, a3, a4⟩, a5, a6, a7, a8⟩ := blk4 hm.a
  obtain ⟨⟨c1, c2, c3, c4⟩, c5, c6, c7, c8⟩ := blk4 hm.b
  have hz1 := lt_of_block hm.a
  have hz2 := lt_of_block hm.b
  clear b1
  go_upto_region 3 with (fail)
  go_cut [] (fun wx => MB w wx sx sy ux uy tx ty vx vy)
  case first =>
    go_region_with (first
      | (go_at_call 75; (with_reducible refine (HS1.out _).mono ?_); rintro _ w2 ⟨rfl, b2⟩; first | (have hm2 := hm.drew.lift b2; (obtain ⟨⟨d1, d2, d3, d4⟩, d5, d6, d7, d8⟩ := blk4 hm2.a); (obtain ⟨⟨e1, e2, e3, e4⟩, e5, e6, e7, e8⟩ := blk4 hm2.b)) | (have hm2 := hm3.lift b2; (obtain ⟨⟨d1, d2, d3, d4⟩, d5, d6, d7, d8⟩ := blk4 hm2.a); (obtain ⟨⟨e1, e2, e3, e4⟩, e5, e6, e7, e8⟩ := blk4 hm2.b)))
      | (go_at_call 75; (with_reducible refine (HS2.out _).mono ?_); rintro _ w3 ⟨rfl, b3⟩; first | (have hm3 := hm.drew.lift b3; (obtain ⟨⟨f1, f2, f3, f4⟩, f5, f6, f7, f8⟩ := blk4 hm3.a); (obtain ⟨⟨g1, g2, g3, g4⟩, g5, g6, g7, g8⟩ := blk4 hm3.b)) | (have hm3 := hm2.lift b3; (obtain ⟨⟨f1, f2, f3, f4⟩, f5, f6, f7, f8⟩ := blk4 hm3.a); (obtain ⟨⟨g1, g2, g3, g4⟩, g5, g6, g7, g8⟩ := blk4 hm3.b))))
    all_goals (go_wp2_with fail; go_meet; first | exact hm3.set _ _ _ _ _ _ _ _ | exact hm2.set _ _ _ _ _ _ _ _)
  case rest =>
    clear hm a1 a2 a3 a4 a5 a6 a7 a8 c1 c2 c3 c4 c5 c6 c7 c8 hz1 hz2 HS1 HS2 HN
    have hm := hcut
    clear hcut
    obtain ⟨⟨d1, d2, d3, d4⟩, d5, d6, d7, d8⟩ := blk4 hm.a
    obtain ⟨⟨e1, e2, e3, e4⟩, e5, e6, e7, e8⟩ := blk4 hm.b
    go_upto_region 8 with ((go_at_call 76; (with_reducible refine (HO1.out _).mono ?_); rintro _ w5 ⟨rfl, b5⟩; have hm5 := hm.lift b5; clear d1 d2 d3 d4 d5 d6 d7 d8 e1 e2 e3 e4 e5 e6 e7 e8; obtain ⟨⟨d1, d2, d3, d4⟩, d5, d6, d7, d8⟩ := blk4 hm5.a; obtain ⟨⟨e1, e2, e3, e4⟩, e5, e6, e7, e8⟩ := blk4 hm5.b))
    go_cut [5, 6] (fun s5 s6 wx => s5 = .int .i64 o1 ∧ s6 = .int .i64 o2 ∧ MB w wx sx sy ux uy tx ty vx vy)
    case first =>
    
      go_region_held3 (fun w' => MB w w' sx sy ux uy tx ty vx vy ∧ w'.cell? ⟨w.heap.size, 0, none⟩ = some (.int .i64 sx) ∧ w'.cell? ⟨w.heap.size, 1, none⟩ = some (.int .i64 sy) ∧ w'.cell? ⟨w.heap.size, 2, none⟩ = some (.int .i64 ux) ∧ w'.cell? ⟨w.heap.size, 3, none⟩ = some (.int .i64 uy) ∧ w'.cell? ⟨w.heap.size + 1, 0, none⟩ = some (.int .i64 tx) ∧ w'.cell? ⟨w.heap.size + 1, 1, none⟩ = some (.int .i64 ty) ∧ w'.cell? ⟨w.heap.size + 1, 2, none⟩ = some (.int .i64 vx) ∧ w'.cell? ⟨w.heap.size + 1, 3, none⟩ = some (.int .i64 vy))
        ((first
          | exact ⟨hk7, (blk4 hk7.a).1.1, (blk4 hk7.a).1.2.1, (blk4 hk7.a).1.2.2.1, (blk4 hk7.a).1.2.2.2, (blk4 hk7.b).1.1, (blk4 hk7.b).1.2.1, (blk4 hk7.b).1.2.2.1, (blk4 hk7.b).1.2.2.2⟩
          | exact ⟨hm5.drew, (blk4 hm5.a).1.1, (blk4 hm5.a).1.2.1, (blk4 hm5.a).1.2.2.1, (blk4 hm5.a).1.2.2.2, (blk4 hm5.b).1.1, (blk4 hm5.b).1.2.1, (blk4 hm5.b).1.2.2.1, (blk4 hm5.b).1.2.2.2⟩))
        (first | (go_at_call 76; (with_reducible refine (HO1.out _).mono ?_); rintro _ w7 ⟨rfl, b7⟩; have hk7 := MB.lift (And.left (by assumption)) b7) | (go_at_call 76; (with_reducible refine (HO2.out _).mono ?_); rintro _ w7 ⟨rfl, b7⟩; have hk7 := MB.lift (And.left (by assumption)) b7))
      all_goals (go_wp2_with fail; go_meet; exact ⟨rfl, rfl, And.left (by assumption)⟩)
    case rest =>
      obtain ⟨rfl, rfl, hm10⟩ := hcut
      clear d1 d2 d3 d4 d5 d6 d7 d8 e1 e2 e3 e4 e5 e6 e7 e8
      obtain ⟨⟨d1, d2, d3, d4⟩, d5, d6, d7, d8⟩ := blk4 hm10.a
      obtain ⟨⟨e1, e2, e3, e4⟩, e5, e6, e7, e8⟩ := blk4 hm10.b
      go_upto_region 9 with (fail)
      go_cut [7, 8] (fun s5 s6 wx => s5 = .int .i64 o3 ∧ s6 = .int .i64 o4 ∧ MB w wx sx sy ux uy tx ty vx vy)
      case first =>
      
        go_region_held3 (fun w' => MB w w' sx sy ux uy tx ty vx vy ∧ w'.cell? ⟨w.heap.size, 0, none⟩ = some (.int .i64 sx) ∧ w'.cell? ⟨w.heap.size, 1, none⟩ = some (.int .i64 sy) ∧ w'.cell? ⟨w.heap.size, 2, none⟩ = some (.int .i64 ux) ∧ w'.cell? ⟨w.heap.size, 3, none⟩ = some (.int .i64 uy) ∧ w'.cell? ⟨w.heap.size + 1, 0, none⟩ = some (.int .i64 tx) ∧ w'.cell? ⟨w.heap.size + 1, 1, none⟩ = some (.int .i64 ty) ∧ w'.cell? ⟨w.heap.size + 1, 2, none⟩ = some (.int .i64 vx) ∧ w'.cell? ⟨w.heap.size + 1, 3, none⟩ = some (.int .i64 vy))
          ((first
            | exact ⟨hk7, (blk4 hk7.a).1.1, (blk4 hk7.a).1.2.1, (blk4 hk7.a).1.2.2.1, (blk4 hk7.a).1.2.2.2, (blk4 hk7.b).1.1, (blk4 hk7.b).1.2.1, (blk4 hk7.b).1.2.2.1, (blk4 hk7.b).1.2.2.2⟩
            | exact ⟨hm10.drew, (blk4 hm10.a).1.1, (blk4 hm10.a).1.2.1, (blk4 hm10.a).1.2.2.1, (blk4 hm10.a).1.2.2.2, (blk4 hm10.b).1.1, (blk4 hm10.b).1.2.1, (blk4 hm10.b).1.2.2.1, (blk4 hm10.b).1.2.2.2⟩))
          (first | (go_at_call 76; (with_reducible refine (HO3.out _).mono ?_); rintro _ w7 ⟨rfl, b7⟩; have hk7 := MB.lift (And.left (by assumption)) b7) | (go_at_call 76; (with_reducible refine (HO4.out _).mono ?_); rintro _ w7 ⟨rfl, b7⟩; have hk7 := MB.lift (And.left (by assumption)) b7))
        all_goals (go_wp2_with fail; go_meet; exact ⟨rfl, rfl, And.left (by assumption)⟩)
      case rest =>
        obtain ⟨rfl, rfl, hm11⟩ := hcut
        clear d1 d2 d3 d4 d5 d6 d7 d8 e1 e2 e3 e4 e5 e6 e7 e8
        obtain ⟨⟨d1, d2, d3, d4⟩, d5, d6, d7, d8⟩ := blk4 hm11.a
        obtain ⟨⟨e1, e2, e3, e4⟩, e5, e6, e7, e8⟩ := blk4 hm11.b
        obtain ⟨p11, p12⟩ := p1
        obtain ⟨p21, p22⟩ := p2
        have hmf := hm11.below
        clear d1 d2 d3 d4 d5 d6 d7 d8 e1 e2 e3 e4 e5 e6 e7 e8 hm11
        have t1 : o1 * o2 < 0 ∨ o1 * o2 = 0 ∨ 0 < o1 * o2 := by omega
        have t2 : o3 * o4 < 0 ∨ o3 * o4 = 0 ∨ 0 < o3 * o4 := by omega
        rcases t1 with t1 | t1 | t1
        all_goals rcases t2 with t2 | t2 | t2
        all_goals
          go_wp2_with fail
          go_ret
          exact ⟨ret_int (by rw [HR.out]; unfold crossC; (repeat' split) <;> first | rfl | omega), hmf⟩

set_option maxRecDepth 100000 in
set_option maxHeartbeats 4000000 in
theorem meets_x2 (ax ay bx bY cx cy dx dy sx sy ux uy tx ty vx vy : Int) (w : World) (hn : nearL [⟨ax, ay⟩, ⟨bx, bY⟩, ⟨cx, cy⟩, ⟨dx, dy⟩] = true) (hs : sortS ⟨⟨ax, ay⟩, ⟨bx, bY⟩⟩ = ⟨⟨sx, sy⟩, ⟨ux, uy⟩⟩) (ht : sortS ⟨⟨cx, cy⟩, ⟨dx, dy⟩⟩ = ⟨⟨tx, ty⟩, ⟨vx, vy⟩⟩)
    (h0 : sgEq sx sy ux uy tx ty vx vy = false) (h1 : ptEq sx sy ux uy = false) (h2 : ptEq tx ty vx vy = false) (h3 : (orient ⟨sx, sy⟩ ⟨ux, uy⟩ ⟨tx, ty⟩ == 0) = true) (h4 : (orient ⟨sx, sy⟩ ⟨ux, uy⟩ ⟨vx, vy⟩ == 0) = false) :
    Calls Tryz.prog 25 #[.agg #[.int .i64 ax, .int .i64 ay, .int .i64 bx, .int .i64 bY], .agg #[.int .i64 cx, .int .i64 cy, .int .i64 dx, .int .i64 dy]] w fun e w' => e = .returned (.int .i64 (crossC (orient ⟨sx, sy⟩ ⟨ux, uy⟩ ⟨tx, ty⟩) (orient ⟨sx, sy⟩ ⟨ux, uy⟩ ⟨vx, vy⟩) (orient ⟨tx, ty⟩ ⟨vx, vy⟩ ⟨sx, sy⟩) (orient ⟨tx, ty⟩ ⟨vx, vy⟩ ⟨ux, uy⟩))) ∧ Below w.heap.size w w' := by
  have HO1 := hide (orient_any sx sy ux uy tx ty)
  have HO2 := hide (orient_any sx sy ux uy vx vy)
  have HO3 := hide (orient_any tx ty vx vy sx sy)
  have HO4 := hide (orient_any tx ty vx vy ux uy)
  have p1 := orient_prod ⟨sx, sy⟩ ⟨ux, uy⟩ ⟨tx, ty⟩ ⟨sx, sy⟩ ⟨ux, uy⟩ ⟨vx, vy⟩
  have p2 := orient_prod ⟨tx, ty⟩ ⟨vx, vy⟩ ⟨sx, sy⟩ ⟨tx, ty⟩ ⟨vx, vy⟩ ⟨ux, uy⟩
  generalize orient ⟨sx, sy⟩ ⟨ux, uy⟩ ⟨tx, ty⟩ = o1 at *
  generalize orient ⟨sx, sy⟩ ⟨ux, uy⟩ ⟨vx, vy⟩ = o2 at *
  generalize orient ⟨tx, ty⟩ ⟨vx, vy⟩ ⟨sx, sy⟩ = o3 at *
  generalize orient ⟨tx, ty⟩ ⟨vx, vy⟩ ⟨ux, uy⟩ = o4 at *
  obtain ⟨R, hR⟩ : ∃ R, R = crossC o1 o2 o3 o4 := ⟨_, rfl⟩
  rw [← hR]
  have HR := hide hR
  clear hR
  have HN := hide (near4 ax ay bx bY cx cy dx dy true hn)
  have HS1 := hide (sorted_any ax ay bx bY)
  have HS2 := hide (sorted_any cx cy dx dy)
  rw [hs] at HS1
  rw [ht] at HS2
  unfold vS at HS1 HS2
  clear hn hs ht
  go_enter Tryz.func25, Tryz.ntmps25
  go_wp2_with fail
  refine (HN.out _ _ _ _ (by simp)).mono ?_
  rintro _ w1 ⟨rfl, b1⟩
  have hm : MB w w1 ax ay bx bY cx cy dx dy := ⟨blkB b1 (blkO _ (blkN _ _ _ rfl)), blkB b1 (blkN _ _ _ (by simp)), bto (((Below.refl _ _).alloc (Nat.le_refl _) _).alloc (by simp) _) b1⟩
  obtain ⟨⟨a1, a2, a3, a4⟩, a5, a6, a7, a8⟩ := blk4 hm.a
  obtain ⟨⟨c1, c2, c3, c4⟩, c5, c6, c7, c8⟩ := blk4 hm.b
  have hz1 := lt_of_block hm.a
  have hz2 := lt_of_block hm.b
  clear b1
  go_upto_region 3 with (fail)
  go_cut [] (fun wx => MB w wx sx sy ux uy tx ty vx vy)
  case first =>
    go_region_with (first
      | (go_at_call 75; (with_reducible refine (HS1.out _).mono ?_); rintro _ w2 ⟨rfl, b2⟩; first | (have hm2 := hm.drew.lift b2; (obtain ⟨⟨d1, d2, d3, d4⟩, d5, d6, d7, d8⟩ := blk4 hm2.a); (obtain ⟨⟨e1, e2, e3, e4⟩, e5, e6, e7, e8⟩ := blk4 hm2.b)) | (have hm2 := hm3.lift b2; (obtain ⟨⟨d1, d2, d3, d4⟩, d5, d6, d7, d8⟩ := blk4 hm2.a); (obtain ⟨⟨e1, e2, e3, e4⟩, e5, e6, e7, e8⟩ := blk4 hm2.b)))
      | (go_at_call 75; (with_reducible refine (HS2.out _).mono ?_); rintro _ w3 ⟨rfl, b3⟩; first | (have hm3 := hm.drew.lift b3; (obtain ⟨⟨f1, f2, f3, f4⟩, f5, f6, f7, f8⟩ := blk4 hm3.a); (obtain ⟨⟨g1, g2, g3, g4⟩, g5, g6, g7, g8⟩ := blk4 hm3.b)) | (have hm3 := hm2.lift b3; (obtain ⟨⟨f1, f2, f3, f4⟩, f5, f6, f7, f8⟩ := blk4 hm3.a); (obtain ⟨⟨g1, g2, g3, g4⟩, g5, g6, g7, g8⟩ := blk4 hm3.b))))
    all_goals (go_wp2_with fail; go_meet; first | exact hm3.set _ _ _ _ _ _ _ _ | exact hm2.set _ _ _ _ _ _ _ _)
  case rest =>
    clear hm a1 a2 a3 a4 a5 a6 a7 a8 c1 c2 c3 c4 c5 c6 c7 c8 hz1 hz2 HS1 HS2 HN
    have hm := hcut
    clear hcut
    obtain ⟨⟨d1, d2, d3, d4⟩, d5, d6, d7, d8⟩ := blk4 hm.a
    obtain ⟨⟨e1, e2, e3, e4⟩, e5, e6, e7, e8⟩ := blk4 hm.b
    go_wp2_with fail
    refine (HO1.out _).mono ?_
    rintro _ w5 ⟨rfl, b5⟩
    have hm5 := hm.lift b5
    clear d1 d2 d3 d4 d5 d6 d7 d8 e1 e2 e3 e4 e5 e6 e7 e8
    clear b5
    obtain ⟨⟨d1, d2, d3, d4⟩, d5, d6, d7, d8⟩ := blk4 hm5.a
    obtain ⟨⟨e1, e2, e3, e4⟩, e5, e6, e7, e8⟩ := blk4 hm5.b
    go_wp2_with fail
    refine (HO2.out _).mono ?_
    rintro _ w6 ⟨rfl, b6⟩
    have hm6 := hm5.lift b6
    clear d1 d2 d3 d4 d5 d6 d7 d8 e1 e2 e3 e4 e5 e6 e7 e8
    clear b6
    obtain ⟨⟨d1, d2, d3, d4⟩, d5, d6, d7, d8⟩ := blk4 hm6.a
    obtain ⟨⟨e1, e2, e3, e4⟩, e5, e6, e7, e8⟩ := blk4 hm6.b
    go_upto_region 8 with (fail)
    go_cut [5, 6] (fun s5 s6 wx => s5 = .int .i64 o1 ∧ s6 = .int .i64 o2 ∧ MB w wx sx sy ux uy tx ty vx vy)
    case first =>
    
      go_region_held3 (fun w' => MB w w' sx sy ux uy tx ty vx vy ∧ w'.cell? ⟨w.heap.size, 0, none⟩ = some (.int .i64 sx) ∧ w'.cell? ⟨w.heap.size, 1, none⟩ = some (.int .i64 sy) ∧ w'.cell? ⟨w.heap.size, 2, none⟩ = some (.int .i64 ux) ∧ w'.cell? ⟨w.heap.size, 3, none⟩ = some (.int .i64 uy) ∧ w'.cell? ⟨w.heap.size + 1, 0, none⟩ = some (.int .i64 tx) ∧ w'.cell? ⟨w.heap.size + 1, 1, none⟩ = some (.int .i64 ty) ∧ w'.cell? ⟨w.heap.size + 1, 2, none⟩ = some (.int .i64 vx) ∧ w'.cell? ⟨w.heap.size + 1, 3, none⟩ = some (.int .i64 vy))
        ((first
          | exact ⟨hk7, (blk4 hk7.a).1.1, (blk4 hk7.a).1.2.1, (blk4 hk7.a).1.2.2.1, (blk4 hk7.a).1.2.2.2, (blk4 hk7.b).1.1, (blk4 hk7.b).1.2.1, (blk4 hk7.b).1.2.2.1, (blk4 hk7.b).1.2.2.2⟩
          | exact ⟨hm6.drew, (blk4 hm6.a).1.1, (blk4 hm6.a).1.2.1, (blk4 hm6.a).1.2.2.1, (blk4 hm6.a).1.2.2.2, (blk4 hm6.b).1.1, (blk4 hm6.b).1.2.1, (blk4 hm6.b).1.2.2.1, (blk4 hm6.b).1.2.2.2⟩))
        (first | (go_at_call 76; (with_reducible refine (HO1.out _).mono ?_); rintro _ w7 ⟨rfl, b7⟩; have hk7 := MB.lift (And.left (by assumption)) b7) | (go_at_call 76; (with_reducible refine (HO2.out _).mono ?_); rintro _ w7 ⟨rfl, b7⟩; have hk7 := MB.lift (And.left (by assumption)) b7))
      all_goals (go_wp2_with fail; go_meet; exact ⟨rfl, rfl, And.left (by assumption)⟩)
    case rest =>
      obtain ⟨rfl, rfl, hm10⟩ := hcut
      clear d1 d2 d3 d4 d5 d6 d7 d8 e1 e2 e3 e4 e5 e6 e7 e8
      obtain ⟨⟨d1, d2, d3, d4⟩, d5, d6, d7, d8⟩ := blk4 hm10.a
      obtain ⟨⟨e1, e2, e3, e4⟩, e5, e6, e7, e8⟩ := blk4 hm10.b
      go_upto_region 9 with (fail)
      go_cut [7, 8] (fun s5 s6 wx => s5 = .int .i64 o3 ∧ s6 = .int .i64 o4 ∧ MB w wx sx sy ux uy tx ty vx vy)
      case first =>
      
        go_region_held3 (fun w' => MB w w' sx sy ux uy tx ty vx vy ∧ w'.cell? ⟨w.heap.size, 0, none⟩ = some (.int .i64 sx) ∧ w'.cell? ⟨w.heap.size, 1, none⟩ = some (.int .i64 sy) ∧ w'.cell? ⟨w.heap.size, 2, none⟩ = some (.int .i64 ux) ∧ w'.cell? ⟨w.heap.size, 3, none⟩ = some (.int .i64 uy) ∧ w'.cell? ⟨w.heap.size + 1, 0, none⟩ = some (.int .i64 tx) ∧ w'.cell? ⟨w.heap.size + 1, 1, none⟩ = some (.int .i64 ty) ∧ w'.cell? ⟨w.heap.size + 1, 2, none⟩ = some (.int .i64 vx) ∧ w'.cell? ⟨w.heap.size + 1, 3, none⟩ = some (.int .i64 vy))
          ((first
            | exact ⟨hk7, (blk4 hk7.a).1.1, (blk4 hk7.a).1.2.1, (blk4 hk7.a).1.2.2.1, (blk4 hk7.a).1.2.2.2, (blk4 hk7.b).1.1, (blk4 hk7.b).1.2.1, (blk4 hk7.b).1.2.2.1, (blk4 hk7.b).1.2.2.2⟩
            | exact ⟨hm10.drew, (blk4 hm10.a).1.1, (blk4 hm10.a).1.2.1, (blk4 hm10.a).1.2.2.1, (blk4 hm10.a).1.2.2.2, (blk4 hm10.b).1.1, (blk4 hm10.b).1.2.1, (blk4 hm10.b).1.2.2.1, (blk4 hm10.b).1.2.2.2⟩))
          (first | (go_at_call 76; (with_reducible refine (HO3.out _).mono ?_); rintro _ w7 ⟨rfl, b7⟩; have hk7 := MB.lift (And.left (by assumption)) b7) | (go_at_call 76; (with_reducible refine (HO4.out _).mono ?_); rintro _ w7 ⟨rfl, b7⟩; have hk7 := MB.lift (And.left (by assumption)) b7))
        all_goals (go_wp2_with fail; go_meet; exact ⟨rfl, rfl, And.left (by assumption)⟩)
      case rest =>
        obtain ⟨rfl, rfl, hm11⟩ := hcut
        clear d1 d2 d3 d4 d5 d6 d7 d8 e1 e2 e3 e4 e5 e6 e7 e8
        obtain ⟨⟨d1, d2, d3, d4⟩, d5, d6, d7, d8⟩ := blk4 hm11.a
        obtain ⟨⟨e1, e2, e3, e4⟩, e5, e6, e7, e8⟩ := blk4 hm11.b
        obtain ⟨p11, p12⟩ := p1
        obtain ⟨p21, p22⟩ := p2
        have hmf := hm11.below
        clear d1 d2 d3 d4 d5 d6 d7 d8 e1 e2 e3 e4 e5 e6 e7 e8 hm11
        have t1 : o1 * o2 < 0 ∨ o1 * o2 = 0 ∨ 0 < o1 * o2 := by omega
        have t2 : o3 * o4 < 0 ∨ o3 * o4 = 0 ∨ 0 < o3 * o4 := by omega
        rcases t1 with t1 | t1 | t1
        all_goals rcases t2 with t2 | t2 | t2
        all_goals
          go_wp2_with fail
          go_ret
          exact ⟨ret_int (by rw [HR.out]; unfold crossC; (repeat' split) <;> first | rfl | omega), hmf⟩


theorem meets_any (ax ay bx bY cx cy dx dy : Int) (w : World) :
    Calls Tryz.prog 25 #[.agg #[.int .i64 ax, .int .i64 ay, .int .i64 bx, .int .i64 bY], .agg #[.int .i64 cx, .int .i64 cy, .int .i64 dx, .int .i64 dy]] w fun e w' =>
      e = .returned (.int .i64 (meets ⟨⟨ax, ay⟩, ⟨bx, bY⟩⟩ ⟨⟨cx, cy⟩, ⟨dx, dy⟩⟩)) ∧ Below w.heap.size w w' := by
  cases hn : nearL [⟨ax, ay⟩, ⟨bx, bY⟩, ⟨cx, cy⟩, ⟨dx, dy⟩] with
  | false =>
    have hr : meets ⟨⟨ax, ay⟩, ⟨bx, bY⟩⟩ ⟨⟨cx, cy⟩, ⟨dx, dy⟩⟩ = 0 := by rw [meets, hn]; rfl
    rw [hr]
    have HN := hide (near4 ax ay bx bY cx cy dx dy false hn)
    clear hn hr
    go_enter Tryz.func25, Tryz.ntmps25
    go_wp2_with fail
    refine (HN.out _ _ _ _ (by simp)).mono ?_
    rintro _ w1 ⟨rfl, b1⟩
    go_wp2_with fail
    go_ret
    exact ⟨rfl, bto (((Below.refl _ _).alloc (Nat.le_refl _) _).alloc (by simp) _) b1⟩
  | true =>
    obtain ⟨s', hs'⟩ : ∃ s', sortS ⟨⟨ax, ay⟩, ⟨bx, bY⟩⟩ = s' := ⟨_, rfl⟩
    obtain ⟨t', ht'⟩ : ∃ t', sortS ⟨⟨cx, cy⟩, ⟨dx, dy⟩⟩ = t' := ⟨_, rfl⟩
    obtain ⟨⟨sx, sy⟩, ⟨ux, uy⟩⟩ := s'
    obtain ⟨⟨tx, ty⟩, ⟨vx, vy⟩⟩ := t'
    have hr : meets ⟨⟨ax, ay⟩, ⟨bx, bY⟩⟩ ⟨⟨cx, cy⟩, ⟨dx, dy⟩⟩ = meetIn ⟨⟨sx, sy⟩, ⟨ux, uy⟩⟩ ⟨⟨tx, ty⟩, ⟨vx, vy⟩⟩ := by
      rw [meets, hs', ht']
      show (if nearL [⟨ax, ay⟩, ⟨bx, bY⟩, ⟨cx, cy⟩, ⟨dx, dy⟩] = true then _ else _) = _
      rw [hn]; rfl
    rw [hr]
    unfold meetIn
    simp only
    have g0 := sgEq_iff ⟨⟨sx, sy⟩, ⟨ux, uy⟩⟩ ⟨⟨tx, ty⟩, ⟨vx, vy⟩⟩
    have g1 := ptEq_iff ⟨sx, sy⟩ ⟨ux, uy⟩
    have g2 := ptEq_iff ⟨tx, ty⟩ ⟨vx, vy⟩
    simp only at g0 g1 g2
    cases h0 : sgEq sx sy ux uy tx ty vx vy with
    | true =>
      rw [h0] at g0
      rw [if_pos (of_decide_eq_true g0.symm)]
      exact meets_same ax ay bx bY cx cy dx dy _ _ _ _ _ _ _ _ w hn hs' ht' h0
    | false =>
      rw [h0] at g0
      rw [if_neg (of_decide_eq_false g0.symm)]
      cases h1 : ptEq sx sy ux uy with
      | true =>
        rw [h1] at g1
        rw [if_pos (.inl (of_decide_eq_true g1.symm))]
        exact meets_on1 ax ay bx bY cx cy dx dy _ _ _ _ _ _ _ _ w hn hs' ht' h0 h1
      | false =>
        rw [h1] at g1
        have g1' := of_decide_eq_false g1.symm
        cases h2 : ptEq tx ty vx vy with
        | true =>
          rw [h2] at g2
          rw [if_pos (.inr (.inl (of_decide_eq_true g2.symm)))]
          exact meets_on2 ax ay bx bY cx cy dx dy _ _ _ _ _ _ _ _ w hn hs' ht' h0 h1 h2
        | false =>
          rw [h2] at g2
          have g2' := of_decide_eq_false g2.symm
          by_cases h3 : orient ⟨sx, sy⟩ ⟨ux, uy⟩ ⟨tx, ty⟩ = 0
          · by_cases h4 : orient ⟨sx, sy⟩ ⟨ux, uy⟩ ⟨vx, vy⟩ = 0
            · rw [if_pos (.inr (.inr ⟨h3, h4⟩))]
              exact meets_on3 ax ay bx bY cx cy dx dy _ _ _ _ _ _ _ _ w hn hs' ht' h0 h1 h2 h3 h4
            · rw [if_neg (by simp [g1', g2', h4])]
              exact meets_x2 ax ay bx bY cx cy dx dy _ _ _ _ _ _ _ _ w hn hs' ht' h0 h1 h2 (by simpa using h3) (by simpa using h4)
          · rw [if_neg (by simp [g1', g2', h3])]
            exact meets_x1 ax ay bx bY cx cy dx dy _ _ _ _ _ _ _ _ w hn hs' ht' h0 h1 h2 (by simpa using h3)
