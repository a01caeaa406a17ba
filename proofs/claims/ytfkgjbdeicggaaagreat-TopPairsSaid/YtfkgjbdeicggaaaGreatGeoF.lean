/-
  Meets of the geometry, walked.
-/
import Derived.Test.YtfkgjbdeicggaaaGreatGeoE
import Derived.Deep.RegionHeld3
namespace Go.Proofs.YtfkgjbdeicggaaaGreat
open Go.RowKit Go.Proofs.PlGeom

theorem online_any (ax ay bx bY cx cy dx dy : Int) (w : World) :
    Calls Tryz.prog 77 #[.agg #[.int .i64 ax, .int .i64 ay, .int .i64 bx, .int .i64 bY], .agg #[.int .i64 cx, .int .i64 cy, .int .i64 dx, .int .i64 dy]] w fun e w' =>
      e = .returned (.int .i64 (online ⟨⟨ax, ay⟩, ⟨bx, bY⟩⟩ ⟨⟨cx, cy⟩, ⟨dx, dy⟩⟩)) ∧ Below w.heap.size w w' := by
  have e1 := ptEq_iff ⟨cx, cy⟩ ⟨dx, dy⟩
  have e2 := ptEq_iff ⟨ax, ay⟩ ⟨bx, bY⟩
  simp only at e1 e2
  unfold online
  by_cases h1 : (⟨cx, cy⟩ : Pt) = ⟨dx, dy⟩
  · rw [if_pos h1]
    cases h1
    exact online_t ax ay bx bY cx cy w
  · rw [if_neg h1]
    by_cases h2 : (⟨ax, ay⟩ : Pt) = ⟨bx, bY⟩
    · rw [if_pos h2]
      cases h2
      exact online_s ax ay cx cy dx dy w (by rw [e1]; simpa using h1)
    · rw [if_neg h2]
      exact online_o ax ay bx bY cx cy dx dy w (by rw [e1]; simpa using h1) (by rw [e2]; simpa using h2)

theorem set4 {w : World} {g : Nat} {a b c d : Value} {t : TypeId} (h : w.heap[g]? = some (.cells #[a, b, c, d] t (0, 0))) (a' b' c' d' : Value) :
    ((((w.setCell ⟨g, 0, none⟩ a').setCell ⟨g, 1, none⟩ b').setCell ⟨g, 2, none⟩ c').setCell ⟨g, 3, none⟩ d').heap[g]? = some (.cells #[a', b', c', d'] t (0, 0)) := by
  have key : ∀ (w : World) (cs : Array Value) (i : Nat) (u : Value), w.heap[g]? = some (.cells cs t (0, 0)) → (w.setCell ⟨g, i, none⟩ u).heap[g]? = some (.cells (cs.set! i u) t (0, 0)) := by
    intro w cs i u h
    have hlt := lt_of_block h
    have h' : w.heap[g] = .cells cs t (0, 0) := by simpa [Array.getElem?_eq_getElem hlt] using h
    show (w.heap.modify g _)[g]? = _
    rw [Array.getElem?_eq_getElem (by simpa using hlt), Array.getElem_modify_self, h']
    rfl
  exact key _ _ 3 d' (key _ _ 2 c' (key _ _ 1 b' (key _ _ 0 a' h)))

/-- The memory of 'Meets' behind the two sortings. -/
structure MB (w wx : World) (ax ay bx bY cx cy dx dy : Int) : Prop where
  a : wx.heap[w.heap.size]? = some (.cells #[.int .i64 ax, .int .i64 ay, .int .i64 bx, .int .i64 bY] 68 (0, 0))
  b : wx.heap[w.heap.size + 1]? = some (.cells #[.int .i64 cx, .int .i64 cy, .int .i64 dx, .int .i64 dy] 68 (0, 0))
  below : Below w.heap.size w wx
theorem MB.lift {w wx wy : World} {ax ay bx bY cx cy dx dy : Int} (h : MB w wx ax ay bx bY cx cy dx dy) (hb : Below wx.heap.size wx wy) : MB w wy ax ay bx bY cx cy dx dy := ⟨blkB hb h.a, blkB hb h.b, bto h.below hb⟩
theorem MB.drew {w wx : World} {ax ay bx bY cx cy dx dy : Int} (h : MB w wx ax ay bx bY cx cy dx dy) : MB w wx.drew ax ay bx bY cx cy dx dy := ⟨h.a, h.b, h.below.drew⟩
theorem MB.set {w wx : World} {ax ay bx bY cx cy dx dy : Int} (h : MB w wx ax ay bx bY cx cy dx dy) (p q r s p' q' r' s' : Int) : MB w ((((((((wx.setCell ⟨w.heap.size, 0, none⟩ (.int .i64 p)).setCell ⟨w.heap.size, 1, none⟩ (.int .i64 q)).setCell ⟨w.heap.size, 2, none⟩ (.int .i64 r)).setCell ⟨w.heap.size, 3, none⟩ (.int .i64 s)).setCell ⟨w.heap.size + 1, 0, none⟩ (.int .i64 p')).setCell ⟨w.heap.size + 1, 1, none⟩ (.int .i64 q')).setCell ⟨w.heap.size + 1, 2, none⟩ (.int .i64 r')).setCell ⟨w.heap.size + 1, 3, none⟩ (.int .i64 s')) p q r s p' q' r' s' :=
  ⟨blkS _ _ (blkS _ _ (blkS _ _ (blkS _ _ (set4 h.a _ _ _ _) (by omega)) (by omega)) (by omega)) (by omega),
   set4 (blkS _ _ (blkS _ _ (blkS _ _ (blkS _ _ h.b (by omega)) (by omega)) (by omega)) (by omega)) _ _ _ _,
   (((((((h.below.setCell (by simp) _).setCell (by simp) _).setCell (by simp) _).setCell (by simp) _).setCell (by simp) _).setCell (by simp) _).setCell (by simp) _).setCell (by simp) _⟩

set_option maxRecDepth 100000 in
set_option maxHeartbeats 4000000 in
theorem meets_same (ax ay bx bY cx cy dx dy sx sy ux uy tx ty vx vy : Int) (w : World) (hn : nearL [⟨ax, ay⟩, ⟨bx, bY⟩, ⟨cx, cy⟩, ⟨dx, dy⟩] = true) (hs : sortS ⟨⟨ax, ay⟩, ⟨bx, bY⟩⟩ = ⟨⟨sx, sy⟩, ⟨ux, uy⟩⟩) (ht : sortS ⟨⟨cx, cy⟩, ⟨dx, dy⟩⟩ = ⟨⟨tx, ty⟩, ⟨vx, vy⟩⟩)
    (h0 : sgEq sx sy ux uy tx ty vx vy = true) :
    Calls Tryz.prog 25 #[.agg #[.int .i64 ax, .int .i64 ay, .int .i64 bx, .int .i64 bY], .agg #[.int .i64 cx, .int .i64 cy, .int .i64 dx, .int .i64 dy]] w fun e w' => e = .returned (.int .i64 (4)) ∧ Below w.heap.size w w' := by
  have HN := hide (near4 ax ay bx bY cx cy dx dy true hn)
  have HS1 := hide (sorted_any ax ay bx bY)
  have HS2 := hide (sorted_any cx cy dx dy)
  rw [hs] at HS1
  rw [ht] at HS2
  unfold vS at HS1 HS2
  clear hn hs ht
  go_enter Tryz.func25, Tryz.ntmps25
  go_wp2_with fail
  refine (HN.out _ _ _ _ (by simp)).mono ?_
  rintro _ w1 ⟨rfl, b1⟩
  have hm : MB w w1 ax ay bx bY cx cy dx dy := ⟨blkB b1 (blkO _ (blkN _ _ _ rfl)), blkB b1 (blkN _ _ _ (by simp)), bto (((Below.refl _ _).alloc (Nat.le_refl _) _).alloc (by simp) _) b1⟩
  obtain ⟨⟨a1, a2, a3, a4⟩, a5, a6, a7, a8⟩ := blk4 hm.a
  obtain ⟨⟨c1, c2, c3, c4⟩, c5, c6, c7, c8⟩ := blk4 hm.b
  have hz1 := lt_of_block hm.a
  have hz2 := lt_of_block hm.b
  clear b1
  go_upto_region 3 with (fail)
  go_cut [] (fun wx => MB w wx sx sy ux uy tx ty vx vy)
  case first =>
    go_region_with (first
      | (go_at_call 75; (with_reducible refine (HS1.out _).mono ?_); rintro _ w2 ⟨rfl, b2⟩; first | (have hm2 := hm.drew.lift b2; (obtain ⟨⟨d1, d2, d3, d4⟩, d5, d6, d7, d8⟩ := blk4 hm2.a); (obtain ⟨⟨e1, e2, e3, e4⟩, e5, e6, e7, e8⟩ := blk4 hm2.b)) | (have hm2 := hm3.lift b2; (obtain ⟨⟨d1, d2, d3, d4⟩, d5, d6, d7, d8⟩ := blk4 hm2.a); (obtain ⟨⟨e1, e2, e3, e4⟩, e5, e6, e7, e8⟩ := blk4 hm2.b)))
      | (go_at_call 75; (with_reducible refine (HS2.out _).mono ?_); rintro _ w3 ⟨rfl, b3⟩; first | (have hm3 := hm.drew.lift b3; (obtain ⟨⟨f1, f2, f3, f4⟩, f5, f6, f7, f8⟩ := blk4 hm3.a); (obtain ⟨⟨g1, g2, g3, g4⟩, g5, g6, g7, g8⟩ := blk4 hm3.b)) | (have hm3 := hm2.lift b3; (obtain ⟨⟨f1, f2, f3, f4⟩, f5, f6, f7, f8⟩ := blk4 hm3.a); (obtain ⟨⟨g1, g2, g3, g4⟩, g5, g6, g7, g8⟩ := blk4 hm3.b))))
    all_goals (go_wp2_with fail; go_meet; first | exact hm3.set _ _ _ _ _ _ _ _ | exact hm2.set _ _ _ _ _ _ _ _)
  case rest =>
    clear hm a1 a2 a3 a4 a5 a6 a7 a8 c1 c2 c3 c4 c5 c6 c7 c8 hz1 hz2 HS1 HS2 HN
    have hm := hcut
    clear hcut
    obtain ⟨⟨d1, d2, d3, d4⟩, d5, d6, d7, d8⟩ := blk4 hm.a
    obtain ⟨⟨e1, e2, e3, e4⟩, e5, e6, e7, e8⟩ := blk4 hm.b
    go_wp2_with fail
    go_ret
    exact ⟨rfl, hm.below⟩

set_option maxRecDepth 100000 in
set_option maxHeartbeats 4000000 in
theorem meets_on1 (ax ay bx bY cx cy dx dy sx sy ux uy tx ty vx vy : Int) (w : World) (hn : nearL [⟨ax, ay⟩, ⟨bx, bY⟩, ⟨cx, cy⟩, ⟨dx, dy⟩] = true) (hs : sortS ⟨⟨ax, ay⟩, ⟨bx, bY⟩⟩ = ⟨⟨sx, sy⟩, ⟨ux, uy⟩⟩) (ht : sortS ⟨⟨cx, cy⟩, ⟨dx, dy⟩⟩ = ⟨⟨tx, ty⟩, ⟨vx, vy⟩⟩)
    (h0 : sgEq sx sy ux uy tx ty vx vy = false) (h1 : ptEq sx sy ux uy = true) :
    Calls Tryz.prog 25 #[.agg #[.int .i64 ax, .int .i64 ay, .int .i64 bx, .int .i64 bY], .agg #[.int .i64 cx, .int .i64 cy, .int .i64 dx, .int .i64 dy]] w fun e w' => e = .returned (.int .i64 (online ⟨⟨sx, sy⟩, ⟨ux, uy⟩⟩ ⟨⟨tx, ty⟩, ⟨vx, vy⟩⟩)) ∧ Below w.heap.size w w' := by
  have HL := hide (online_any sx sy ux uy tx ty vx vy)
  obtain ⟨R, hR⟩ : ∃ R, R = online ⟨⟨sx, sy⟩, ⟨ux, uy⟩⟩ ⟨⟨tx, ty⟩, ⟨vx, vy⟩⟩ := ⟨_, rfl⟩
  rw [← hR] at HL ⊢
  clear hR
  have HN := hide (near4 ax ay bx bY cx cy dx dy true hn)
  have HS1 := hide (sorted_any ax ay bx bY)
  have HS2 := hide (sorted_any cx cy dx dy)
  rw [hs] at HS1
  rw [ht] at HS2
  unfold vS at HS1 HS2
  clear hn hs ht
  go_enter Tryz.func25, Tryz.ntmps25
  go_wp2_with fail
  refine (HN.out _ _ _ _ (by simp)).mono ?_
  rintro _ w1 ⟨rfl, b1⟩
  have hm : MB w w1 ax ay bx bY cx cy dx dy := ⟨blkB b1 (blkO _ (blkN _ _ _ rfl)), blkB b1 (blkN _ _ _ (by simp)), bto (((Below.refl _ _).alloc (Nat.le_refl _) _).alloc (by simp) _) b1⟩
  obtain ⟨⟨a1, a2, a3, a4⟩, a5, a6, a7, a8⟩ := blk4 hm.a
  obtain ⟨⟨c1, c2, c3, c4⟩, c5, c6, c7, c8⟩ := blk4 hm.b
  have hz1 := lt_of_block hm.a
  have hz2 := lt_of_block hm.b
  clear b1
  go_upto_region 3 with (fail)
  go_cut [] (fun wx => MB w wx sx sy ux uy tx ty vx vy)
  case first =>
    go_region_with (first
      | (go_at_call 75; (with_reducible refine (HS1.out _).mono ?_); rintro _ w2 ⟨rfl, b2⟩; first | (have hm2 := hm.drew.lift b2; (obtain ⟨⟨d1, d2, d3, d4⟩, d5, d6, d7, d8⟩ := blk4 hm2.a); (obtain ⟨⟨e1, e2, e3, e4⟩, e5, e6, e7, e8⟩ := blk4 hm2.b)) | (have hm2 := hm3.lift b2; (obtain ⟨⟨d1, d2, d3, d4⟩, d5, d6, d7, d8⟩ := blk4 hm2.a); (obtain ⟨⟨e1, e2, e3, e4⟩, e5, e6, e7, e8⟩ := blk4 hm2.b)))
      | (go_at_call 75; (with_reducible refine (HS2.out _).mono ?_); rintro _ w3 ⟨rfl, b3⟩; first | (have hm3 := hm.drew.lift b3; (obtain ⟨⟨f1, f2, f3, f4⟩, f5, f6, f7, f8⟩ := blk4 hm3.a); (obtain ⟨⟨g1, g2, g3, g4⟩, g5, g6, g7, g8⟩ := blk4 hm3.b)) | (have hm3 := hm2.lift b3; (obtain ⟨⟨f1, f2, f3, f4⟩, f5, f6, f7, f8⟩ := blk4 hm3.a); (obtain ⟨⟨g1, g2, g3, g4⟩, g5, g6, g7, g8⟩ := blk4 hm3.b))))
    all_goals (go_wp2_with fail; go_meet; first | exact hm3.set _ _ _ _ _ _ _ _ | exact hm2.set _ _ _ _ _ _ _ _)
  case rest =>
    clear hm a1 a2 a3 a4 a5 a6 a7 a8 c1 c2 c3 c4 c5 c6 c7 c8 hz1 hz2 HS1 HS2 HN
    have hm := hcut
    clear hcut
    obtain ⟨⟨d1, d2, d3, d4⟩, d5, d6, d7, d8⟩ := blk4 hm.a
    obtain ⟨⟨e1, e2, e3, e4⟩, e5, e6, e7, e8⟩ := blk4 hm.b
    go_wp2_with fail
    refine (HL.out _).mono ?_
    rintro _ w9 ⟨rfl, b9⟩
    go_wp2_with fail
    go_ret
    exact ⟨rfl, (hm.lift b9).below⟩

set_option maxRecDepth 100000 in
set_option maxHeartbeats 4000000 in
theorem meets_on2 (ax ay bx bY cx cy dx dy sx sy ux uy tx ty vx vy : Int) (w : World) (hn : nearL [⟨ax, ay⟩, ⟨bx, bY⟩, ⟨cx, cy⟩, ⟨dx, dy⟩] = true) (hs : sortS ⟨⟨ax, ay⟩, ⟨bx, bY⟩⟩ = ⟨⟨sx, sy⟩, ⟨ux, uy⟩⟩) (ht : sortS ⟨⟨cx, cy⟩, ⟨dx, dy⟩⟩ = ⟨⟨tx, ty⟩, ⟨vx, vy⟩⟩)
    (h0 : sgEq sx sy ux uy tx ty vx vy = false) (h1 : ptEq sx sy ux uy = false) (h2 : ptEq tx ty vx vy = true) :
    Calls Tryz.prog 25 #[.agg #[.int .i64 ax, .int .i64 ay, .int .i64 bx, .int .i64 bY], .agg #[.int .i64 cx, .int .i64 cy, .int .i64 dx, .int .i64 dy]] w fun e w' => e = .returned (.int .i64 (online ⟨⟨sx, sy⟩, ⟨ux, uy⟩⟩ ⟨⟨tx, ty⟩, ⟨vx, vy⟩⟩)) ∧ Below w.heap.size w w' := by
  have HL := hide (online_any sx sy ux uy tx ty vx vy)
  obtain ⟨R, hR⟩ : ∃ R, R = online ⟨⟨sx, sy⟩, ⟨ux, uy⟩⟩ ⟨⟨tx, ty⟩, ⟨vx, vy⟩⟩ := ⟨_, rfl⟩
  rw [← hR] at HL ⊢
  clear hR
  have HN := hide (near4 ax ay bx bY cx cy dx dy true hn)
  have HS1 := hide (sorted_any ax ay bx bY)
  have HS2 := hide (sorted_any cx cy dx dy)
  rw [hs] at HS1
  rw [ht] at HS2
  unfold vS at HS1 HS2
  clear hn hs ht
  go_enter Tryz.func25, Tryz.ntmps25
  go_wp2_with fail
  refine (HN.out _ _ _ _ (by simp)).mono ?_
  rintro _ w1 ⟨rfl, b1⟩
  have hm : MB w w1 ax ay bx bY cx cy dx dy := ⟨blkB b1 (blkO _ (blkN _ _ _ rfl)), blkB b1 (blkN _ _ _ (by simp)), bto (((Below.refl _ _).alloc (Nat.le_refl _) _).alloc (by simp) _) b1⟩
  obtain ⟨⟨a1, a2, a3, a4⟩, a5, a6, a7, a8⟩ := blk4 hm.a
  obtain ⟨⟨c1, c2, c3, c4⟩, c5, c6, c7, c8⟩ := blk4 hm.b
  have hz1 := lt_of_block hm.a
  have hz2 := lt_of_block hm.b
  clear b1
  go_upto_region 3 with (fail)
  go_cut [] (fun wx => MB w wx sx sy ux uy tx ty vx vy)
  case first =>
    go_region_with (first
      | (go_at_call 75; (with_reducible refine (HS1.out _).mono ?_); rintro _ w2 ⟨rfl, b2⟩; first | (have hm2 := hm.drew.lift b2; (obtain ⟨⟨d1, d2, d3, d4⟩, d5, d6, d7, d8⟩ := blk4 hm2.a); (obtain ⟨⟨e1, e2, e3, e4⟩, e5, e6, e7, e8⟩ := blk4 hm2.b)) | (have hm2 := hm3.lift b2; (obtain ⟨⟨d1, d2, d3, d4⟩, d5, d6, d7, d8⟩ := blk4 hm2.a); (obtain ⟨⟨e1, e2, e3, e4⟩, e5, e6, e7, e8⟩ := blk4 hm2.b)))
      | (go_at_call 75; (with_reducible refine (HS2.out _).mono ?_); rintro _ w3 ⟨rfl, b3⟩; first | (have hm3 := hm.drew.lift b3; (obtain ⟨⟨f1, f2, f3, f4⟩, f5, f6, f7, f8⟩ := blk4 hm3.a); (obtain ⟨⟨g1, g2, g3, g4⟩, g5, g6, g7, g8⟩ := blk4 hm3.b)) | (have hm3 := hm2.lift b3; (obtain ⟨⟨f1, f2, f3, f4⟩, f5, f6, f7, f8⟩ := blk4 hm3.a); (obtain ⟨⟨g1, g2, g3, g4⟩, g5, g6, g7, g8⟩ := blk4 hm3.b))))
    all_goals (go_wp2_with fail; go_meet; first | exact hm3.set _ _ _ _ _ _ _ _ | exact hm2.set _ _ _ _ _ _ _ _)
  case rest =>
    clear hm a1 a2 a3 a4 a5 a6 a7 a8 c1 c2 c3 c4 c5 c6 c7 c8 hz1 hz2 HS1 HS2 HN
    have hm := hcut
    clear hcut
    obtain ⟨⟨d1, d2, d3, d4⟩, d5, d6, d7, d8⟩ := blk4 hm.a
    obtain ⟨⟨e1, e2, e3, e4⟩, e5, e6, e7, e8⟩ := blk4 hm.b
    go_wp2_with fail
    refine (HL.out _).mono ?_
    rintro _ w9 ⟨rfl, b9⟩
    go_wp2_with fail
    go_ret
    exact ⟨rfl, (hm.lift b9).below⟩

set_option maxRecDepth 100000 in
set_option maxHeartbeats 4000000 in
theorem meets_on3 (ax ay bx bY cx cy dx dy sx sy ux uy tx ty vx vy : Int) (w : World) (hn : nearL [⟨ax, ay⟩, ⟨bx, bY⟩, ⟨cx, cy⟩, ⟨dx, dy⟩] = true) (hs : sortS ⟨⟨ax, ay⟩, ⟨bx, bY⟩⟩ = ⟨⟨sx, sy⟩, ⟨ux, uy⟩⟩) (ht : sortS ⟨⟨cx, cy⟩, ⟨dx, dy⟩⟩ = ⟨⟨tx, ty⟩, ⟨vx, vy⟩⟩)
    (h0 : sgEq sx sy ux uy tx ty vx vy = false) (h1 : ptEq sx sy ux uy = false) (h2 : ptEq tx ty vx vy = false) (h3 : orient ⟨sx, sy⟩ ⟨ux, uy⟩ ⟨tx, ty⟩ = 0) (h4 : orient ⟨sx, sy⟩ ⟨ux, uy⟩ ⟨vx, vy⟩ = 0) :
    Calls Tryz.prog 25 #[.agg #[.int .i64 ax, .int .i64 ay, .int .i64 bx, .int .i64 bY], .agg #[.int .i64 cx, .int .i64 cy, .int .i64 dx, .int .i64 dy]] w fun e w' => e = .returned (.int .i64 (online ⟨⟨sx, sy⟩, ⟨ux, uy⟩⟩ ⟨⟨tx, ty⟩, ⟨vx, vy⟩⟩)) ∧ Below w.heap.size w w' := by
  have HL := hide (online_any sx sy ux uy tx ty vx vy)
  obtain ⟨R, hR⟩ : ∃ R, R = online ⟨⟨sx, sy⟩, ⟨ux, uy⟩⟩ ⟨⟨tx, ty⟩, ⟨vx, vy⟩⟩ := ⟨_, rfl⟩
  rw [← hR] at HL ⊢
  clear hR
  have HO1 := hide (orient_any sx sy ux uy tx ty)
  have HO2 := hide (orient_any sx sy ux uy vx vy)
  rw [h3] at HO1
  rw [h4] at HO2
  clear h3 h4
  have HN := hide (near4 ax ay bx bY cx cy dx dy true hn)
  have HS1 := hide (sorted_any ax ay bx bY)
  have HS2 := hide (sorted_any cx cy dx dy)
  rw [hs] at HS1
  rw [ht] at HS2
  unfold vS at HS1 HS2
  clear hn hs ht
  go_enter Tryz.func25, Tryz.ntmps25
  go_wp2_with fail
  refine (HN.out _ _ _ _ (by simp)).mono ?_
  rintro _ w1 ⟨rfl, b1⟩
  have hm : MB w w1 ax ay bx bY cx cy dx dy := ⟨blkB b1 (blkO _ (blkN _ _ _ rfl)), blkB b1 (blkN _ _ _ (by simp)), bto (((Below.refl _ _).alloc (Nat.le_refl _) _).alloc (by simp) _) b1⟩
  obtain ⟨⟨a1, a2, a3, a4⟩, a5, a6, a7, a8⟩ := blk4 hm.a
  obtain ⟨⟨c1, c2, c3, c4⟩, c5, c6, c7, c8⟩ := blk4 hm.b
  have hz1 := lt_of_block hm.a
  have hz2 := lt_of_block hm.b
  clear b1
  go_upto_region 3 with (fail)
  go_cut [] (fun wx => MB w wx sx sy ux uy tx ty vx vy)
  case first =>
    go_region_with (first
      | (go_at_call 75; (with_reducible refine (HS1.out _).mono ?_); rintro _ w2 ⟨rfl, b2⟩; first | (have hm2 := hm.drew.lift b2; (obtain ⟨⟨d1, d2, d3, d4⟩, d5, d6, d7, d8⟩ := blk4 hm2.a); (obtain ⟨⟨e1, e2, e3, e4⟩, e5, e6, e7, e8⟩ := blk4 hm2.b)) | (have hm2 := hm3.lift b2; (obtain ⟨⟨d1, d2, d3, d4⟩, d5, d6, d7, d8⟩ := blk4 hm2.a); (obtain ⟨⟨e1, e2, e3, e4⟩, e5, e6, e7, e8⟩ := blk4 hm2.b)))
      | (go_at_call 75; (with_reducible refine (HS2.out _).mono ?_); rintro _ w3 ⟨rfl, b3⟩; first | (have hm3 := hm.drew.lift b3; (obtain ⟨⟨f1, f2, f3, f4⟩, f5, f6, f7, f8⟩ := blk4 hm3.a); (obtain ⟨⟨g1, g2, g3, g4⟩, g5, g6, g7, g8⟩ := blk4 hm3.b)) | (have hm3 := hm2.lift b3; (obtain ⟨⟨f1, f2, f3, f4⟩, f5, f6, f7, f8⟩ := blk4 hm3.a); (obtain ⟨⟨g1, g2, g3, g4⟩, g5, g6, g7, g8⟩ := blk4 hm3.b))))
    all_goals (go_wp2_with fail; go_meet; first | exact hm3.set _ _ _ _ _ _ _ _ | exact hm2.set _ _ _ _ _ _ _ _)
  case rest =>
    clear hm a1 a2 a3 a4 a5 a6 a7 a8 c1 c2 c3 c4 c5 c6 c7 c8 hz1 hz2 HS1 HS2 HN
    have hm := hcut
    clear hcut
    obtain ⟨⟨d1, d2, d3, d4⟩, d5, d6, d7, d8⟩ := blk4 hm.a
    obtain ⟨⟨e1, e2, e3, e4⟩, e5, e6, e7, e8⟩ := blk4 hm.b
    go_wp2_with fail
    refine (HO1.out _).mono ?_
    rintro _ w5 ⟨rfl, b5⟩
    have hm5 := hm.lift b5
    clear d1 d2 d3 d4 d5 d6 d7 d8 e1 e2 e3 e4 e5 e6 e7 e8
    clear b5
    obtain ⟨⟨d1, d2, d3, d4⟩, d5, d6, d7, d8⟩ := blk4 hm5.a
    obtain ⟨⟨e1, e2, e3, e4⟩, e5, e6, e7, e8⟩ := blk4 hm5.b
    go_wp2_with fail
    refine (HO2.out _).mono ?_
    rintro _ w6 ⟨rfl, b6⟩
    have hm6 := hm5.lift b6
    clear d1 d2 d3 d4 d5 d6 d7 d8 e1 e2 e3 e4 e5 e6 e7 e8
    clear b6
    obtain ⟨⟨d1, d2, d3, d4⟩, d5, d6, d7, d8⟩ := blk4 hm6.a
    obtain ⟨⟨e1, e2, e3, e4⟩, e5, e6, e7, e8⟩ := blk4 hm6.b
    go_wp2_with fail
    refine (HL.out _).mono ?_
    rintro _ w9 ⟨rfl, b9⟩
    go_wp2_with fail
    go_ret
    exact ⟨rfl, (hm6.lift b9).below⟩

