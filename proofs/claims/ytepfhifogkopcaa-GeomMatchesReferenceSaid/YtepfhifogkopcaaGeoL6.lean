/-
  GeomMatchesReference, walked: it returns true.
-/
import Derived.Test.YtepfhifogkopcaaGeoI
import Derived.Test.YtepfhifogkopcaaGeoW
import Derived.Test.YtepfhifogkopcaaGeoX
namespace Go.Proofs.Ytepfhifogkopcaa
open Go.RowKit Go.Proofs.PlGeom

/-- Three points and two segments in boxes. -/
structure FB (w wx : World) (px py qx qy rx ry ax ay bx bY cx cy dx dy : Int) : Prop where
  a : wx.heap[w.heap.size]? = some (.cells #[.int .i64 px, .int .i64 py] 23 (0, 0))
  b : wx.heap[w.heap.size + 1]? = some (.cells #[.int .i64 qx, .int .i64 qy] 23 (0, 0))
  c : wx.heap[w.heap.size + 2]? = some (.cells #[.int .i64 rx, .int .i64 ry] 23 (0, 0))
  d : wx.heap[w.heap.size + 3]? = some (.cells #[.int .i64 ax, .int .i64 ay, .int .i64 bx, .int .i64 bY] 25 (0, 0))
  e : wx.heap[w.heap.size + 4]? = some (.cells #[.int .i64 cx, .int .i64 cy, .int .i64 dx, .int .i64 dy] 25 (0, 0))
  below : Below w.heap.size w wx
theorem FB.lift {w wx wy : World} {px py qx qy rx ry ax ay bx bY cx cy dx dy : Int} (h : FB w wx px py qx qy rx ry ax ay bx bY cx cy dx dy) (hb : Below wx.heap.size wx wy) : FB w wy px py qx qy rx ry ax ay bx bY cx cy dx dy := ⟨blkB hb h.a, blkB hb h.b, blkB hb h.c, blkB hb h.d, blkB hb h.e, bto h.below hb⟩
theorem FB.drew {w wx : World} {px py qx qy rx ry ax ay bx bY cx cy dx dy : Int} (h : FB w wx px py qx qy rx ry ax ay bx bY cx cy dx dy) : FB w wx.drew px py qx qy rx ry ax ay bx bY cx cy dx dy := h.lift (below_drew _)
theorem FB.s {w wx : World} {px py qx qy rx ry ax ay bx bY cx cy dx dy : Int} (h : FB w wx px py qx qy rx ry ax ay bx bY cx cy dx dy) : wx.cell? ⟨w.heap.size, 0, none⟩ = some (.int .i64 px) ∧ wx.cell? ⟨w.heap.size, 1, none⟩ = some (.int .i64 py) ∧ wx.cell? ⟨w.heap.size + 1, 0, none⟩ = some (.int .i64 qx) ∧ wx.cell? ⟨w.heap.size + 1, 1, none⟩ = some (.int .i64 qy) ∧ wx.cell? ⟨w.heap.size + 2, 0, none⟩ = some (.int .i64 rx) ∧ wx.cell? ⟨w.heap.size + 2, 1, none⟩ = some (.int .i64 ry) ∧ wx.cell? ⟨w.heap.size + 3, 0, none⟩ = some (.int .i64 ax) ∧ wx.cell? ⟨w.heap.size + 3, 1, none⟩ = some (.int .i64 ay) ∧ wx.cell? ⟨w.heap.size + 3, 2, none⟩ = some (.int .i64 bx) ∧ wx.cell? ⟨w.heap.size + 3, 3, none⟩ = some (.int .i64 bY) ∧ wx.cell? ⟨w.heap.size + 4, 0, none⟩ = some (.int .i64 cx) ∧ wx.cell? ⟨w.heap.size + 4, 1, none⟩ = some (.int .i64 cy) ∧ wx.cell? ⟨w.heap.size + 4, 2, none⟩ = some (.int .i64 dx) ∧ wx.cell? ⟨w.heap.size + 4, 3, none⟩ = some (.int .i64 dy) :=
  ⟨(blk2 h.a).1.1, (blk2 h.a).1.2, (blk2 h.b).1.1, (blk2 h.b).1.2, (blk2 h.c).1.1, (blk2 h.c).1.2, (blk4 h.d).1.1, (blk4 h.d).1.2.1, (blk4 h.d).1.2.2.1, (blk4 h.d).1.2.2.2, (blk4 h.e).1.1, (blk4 h.e).1.2.1, (blk4 h.e).1.2.2.1, (blk4 h.e).1.2.2.2⟩
def FBs (w : World) (px py qx qy rx ry ax ay bx bY cx cy dx dy : Int) : Type := {wx : World // FB w wx px py qx qy rx ry ax ay bx bY cx cy dx dy}
def FBs.w {w : World} {px py qx qy rx ry ax ay bx bY cx cy dx dy : Int} (u : FBs w px py qx qy rx ry ax ay bx bY cx cy dx dy) : World := u.1
theorem FBs.go {w : World} {px py qx qy rx ry ax ay bx bY cx cy dx dy : Int} (u : FBs w px py qx qy rx ry ax ay bx bY cx cy dx dy) {w8 : World} (hb : Below u.w.heap.size u.w w8) : ∃ u' : FBs w px py qx qy rx ry ax ay bx bY cx cy dx dy, w8 = u'.w := ⟨⟨w8, u.2.lift hb⟩, rfl⟩
theorem FBs.stay {w : World} {px py qx qy rx ry ax ay bx bY cx cy dx dy : Int} (u : FBs w px py qx qy rx ry ax ay bx bY cx cy dx dy) : ∃ u' : FBs w px py qx qy rx ry ax ay bx bY cx cy dx dy, u.w = u'.w := ⟨u, rfl⟩
theorem FBs.s (w : World) (px py qx qy rx ry ax ay bx bY cx cy dx dy : Int) : (∀ u : FBs w px py qx qy rx ry ax ay bx bY cx cy dx dy, u.w.cell? ⟨w.heap.size, 0, none⟩ = some (.int .i64 px)) ∧ (∀ u : FBs w px py qx qy rx ry ax ay bx bY cx cy dx dy, u.w.cell? ⟨w.heap.size, 1, none⟩ = some (.int .i64 py)) ∧ (∀ u : FBs w px py qx qy rx ry ax ay bx bY cx cy dx dy, u.w.cell? ⟨w.heap.size + 1, 0, none⟩ = some (.int .i64 qx)) ∧ (∀ u : FBs w px py qx qy rx ry ax ay bx bY cx cy dx dy, u.w.cell? ⟨w.heap.size + 1, 1, none⟩ = some (.int .i64 qy)) ∧ (∀ u : FBs w px py qx qy rx ry ax ay bx bY cx cy dx dy, u.w.cell? ⟨w.heap.size + 2, 0, none⟩ = some (.int .i64 rx)) ∧ (∀ u : FBs w px py qx qy rx ry ax ay bx bY cx cy dx dy, u.w.cell? ⟨w.heap.size + 2, 1, none⟩ = some (.int .i64 ry)) ∧ (∀ u : FBs w px py qx qy rx ry ax ay bx bY cx cy dx dy, u.w.cell? ⟨w.heap.size + 3, 0, none⟩ = some (.int .i64 ax)) ∧ (∀ u : FBs w px py qx qy rx ry ax ay bx bY cx cy dx dy, u.w.cell? ⟨w.heap.size + 3, 1, none⟩ = some (.int .i64 ay)) ∧ (∀ u : FBs w px py qx qy rx ry ax ay bx bY cx cy dx dy, u.w.cell? ⟨w.heap.size + 3, 2, none⟩ = some (.int .i64 bx)) ∧ (∀ u : FBs w px py qx qy rx ry ax ay bx bY cx cy dx dy, u.w.cell? ⟨w.heap.size + 3, 3, none⟩ = some (.int .i64 bY)) ∧ (∀ u : FBs w px py qx qy rx ry ax ay bx bY cx cy dx dy, u.w.cell? ⟨w.heap.size + 4, 0, none⟩ = some (.int .i64 cx)) ∧ (∀ u : FBs w px py qx qy rx ry ax ay bx bY cx cy dx dy, u.w.cell? ⟨w.heap.size + 4, 1, none⟩ = some (.int .i64 cy)) ∧ (∀ u : FBs w px py qx qy rx ry ax ay bx bY cx cy dx dy, u.w.cell? ⟨w.heap.size + 4, 2, none⟩ = some (.int .i64 dx)) ∧ (∀ u : FBs w px py qx qy rx ry ax ay bx bY cx cy dx dy, u.w.cell? ⟨w.heap.size + 4, 3, none⟩ = some (.int .i64 dy)) :=
  ⟨fun u => u.2.s.1, fun u => u.2.s.2.1, fun u => u.2.s.2.2.1, fun u => u.2.s.2.2.2.1, fun u => u.2.s.2.2.2.2.1, fun u => u.2.s.2.2.2.2.2.1, fun u => u.2.s.2.2.2.2.2.2.1, fun u => u.2.s.2.2.2.2.2.2.2.1, fun u => u.2.s.2.2.2.2.2.2.2.2.1, fun u => u.2.s.2.2.2.2.2.2.2.2.2.1, fun u => u.2.s.2.2.2.2.2.2.2.2.2.2.1, fun u => u.2.s.2.2.2.2.2.2.2.2.2.2.2.1, fun u => u.2.s.2.2.2.2.2.2.2.2.2.2.2.2.1, fun u => u.2.s.2.2.2.2.2.2.2.2.2.2.2.2.2⟩

set_option maxRecDepth 100000 in
set_option maxHeartbeats 8000000 in
theorem matches_walk (px py qx qy rx ry ax ay bx bY cx cy dx dy n : Int) (hn : (Lit.int .i64 n).wf = true) (w : World) : Calls Try.prog 3 #[.agg #[.int .i64 px, .int .i64 py], .agg #[.int .i64 qx, .int .i64 qy], .agg #[.int .i64 rx, .int .i64 ry], .agg #[.int .i64 ax, .int .i64 ay, .int .i64 bx, .int .i64 bY], .agg #[.int .i64 cx, .int .i64 cy, .int .i64 dx, .int .i64 dy], .int .i64 n] w fun e w' => e = .returned (.bool true) ∧ Below w.heap.size w w' := by
  have HO := hide (orient_any px py qx qy rx ry)
  have HO' := hide (rorient_any px py qx qy rx ry)
  have HC := hide (compare_any px py qx qy)
  have HC' := hide (rcompare_any px py qx qy)
  have HN := hide (on_any ax ay bx bY rx ry)
  have HN' := hide (ron_any ax ay bx bY rx ry)
  have HM := hide (meets_any ax ay bx bY cx cy dx dy)
  have HM' := hide (rmeets_any ax ay bx bY cx cy dx dy)
  have HD := hide (distance_any px py qx qy)
  have HD' := hide (rdist_any px py qx qy)
  have HE := hide (near_gen ax ay bx bY rx ry)
  have HE' := hide (rnear_any ax ay bx bY rx ry)
  have hroot : ∃ k : Int, (∀ w, Calls Try.prog 23 #[.int .i64 n] w fun e w' => e = .returned (.int .i64 k) ∧ w = w') ∧ (∀ w, Calls Try.prog 24 #[.int .i64 n] w fun e w' => e = .returned (.int .i64 k) ∧ w = w') := by
    rcases (by omega : n < 0 ∨ 0 ≤ n) with h | h
    · exact ⟨0, root_neg n h, rroot_neg n h⟩
    · obtain ⟨m, rfl⟩ : ∃ m : Nat, n = m := ⟨n.toNat, by omega⟩
      have hm : m < 9223372036854775808 := by
        have h1 : IntKind.min .i64 ≤ (m : Int) ∧ (m : Int) ≤ IntKind.max .i64 := by simpa [Lit.wf] using hn
        have h2 : (m : Int) ≤ 9223372036854775807 := h1.2
        omega
      exact ⟨_, root_any m hm, rroot_any m hm⟩
  obtain ⟨k, hr, hr'⟩ := hroot
  have HR := hide hr
  have HR' := hide hr'
  clear hr hr' hn
  generalize orient ⟨px, py⟩ ⟨qx, qy⟩ ⟨rx, ry⟩ = v1 at *
  generalize cmpP ⟨px, py⟩ ⟨qx, qy⟩ = v2 at *
  generalize onS ⟨⟨ax, ay⟩, ⟨bx, bY⟩⟩ ⟨rx, ry⟩ = v3 at *
  generalize meets ⟨⟨ax, ay⟩, ⟨bx, bY⟩⟩ ⟨⟨cx, cy⟩, ⟨dx, dy⟩⟩ = v4 at *
  generalize dist ⟨px, py⟩ ⟨qx, qy⟩ = v5 at *
  generalize nearV ⟨⟨ax, ay⟩, ⟨bx, bY⟩⟩ ⟨rx, ry⟩ = v6 at *
  go_enter Try.func3, Try.ntmps3
  go_wp2_with fail
  refine (head_any _).mono ?_
  rintro _ w1 ⟨rfl, b1⟩
  have hm : FB w w1 px py qx qy rx ry ax ay bx bY cx cy dx dy := ⟨blkB b1 (blkO _ (blkO _ (blkO _ (blkO _ (blkN _ _ _ rfl))))), blkB b1 (blkO _ (blkO _ (blkO _ (blkN _ _ _ (by simp))))), blkB b1 (blkO _ (blkO _ (blkN _ _ _ (by simp)))), blkB b1 (blkO _ (blkN _ _ _ (by simp))), blkB b1 (blkN _ _ _ (by simp)), bto ((((((Below.refl _ _).alloc (Nat.le_refl _) _).alloc (by simp) _).alloc (by simp; omega) _).alloc (by simp; omega) _).alloc (by simp; omega) _) b1⟩
  clear b1
  go_upto_region 2 with (fail)
  obtain ⟨Y1, Y2, Y3, Y4, Y5, Y6, Y7, Y8, Y9, Y10, Y11, Y12, Y13, Y14⟩ := FBs.s w px py qx qy rx ry ax ay bx bY cx cy dx dy
  have YN : Nonempty (FBs w px py qx qy rx ry ax ay bx bY cx cy dx dy) := ⟨⟨_, hm.drew⟩⟩
  refine wp_region_quietW (J := FBs w px py qx qy rx ry ax ay bx bY cx cy dx dy) FBs.w ⟨_, hm.drew⟩ rfl (by kernel_rfl) (by kernel_rfl) ?_
  repeat (go_big_quiet_step ((first | ((with_reducible refine (HO.out _).mono ?_); rintro _ w8 ⟨rfl, b8⟩; exact ⟨rfl, FBs.go _ b8⟩) | ((with_reducible refine (HO'.out _).mono ?_); rintro _ w8 ⟨rfl, b8⟩; exact ⟨rfl, FBs.go _ b8⟩) | ((with_reducible refine (HC.out _).mono ?_); rintro _ w8 ⟨rfl, b8⟩; exact ⟨rfl, FBs.go _ b8⟩) | ((with_reducible refine (HC'.out _).mono ?_); rintro _ w8 ⟨rfl, b8⟩; exact ⟨rfl, FBs.go _ b8⟩) | ((with_reducible refine (HN.out _).mono ?_); rintro _ w8 ⟨rfl, b8⟩; exact ⟨rfl, FBs.go _ b8⟩) | ((with_reducible refine (HN'.out _).mono ?_); rintro _ w8 ⟨rfl, b8⟩; exact ⟨rfl, FBs.go _ b8⟩) | ((with_reducible refine (HM.out _).mono ?_); rintro _ w8 ⟨rfl, b8⟩; exact ⟨rfl, FBs.go _ b8⟩) | ((with_reducible refine (HM'.out _).mono ?_); rintro _ w8 ⟨rfl, b8⟩; exact ⟨rfl, FBs.go _ b8⟩))))
  refine wpQuiet_nil ?_
  rintro w9 ⟨u, rfl⟩
  have hm9 : FB w u.w px py qx qy rx ry ax ay bx bY cx cy dx dy := u.2
  clear YN Y1 Y2 Y3 Y4 Y5 Y6 Y7 Y8 Y9 Y10 Y11 Y12 Y13 Y14
  clear hm HO HO' HC HC' HN HN' HM HM'
  go_upto_region 3 with (fail)
  obtain ⟨Y1, Y2, Y3, Y4, Y5, Y6, Y7, Y8, Y9, Y10, Y11, Y12, Y13, Y14⟩ := FBs.s w px py qx qy rx ry ax ay bx bY cx cy dx dy
  have YN : Nonempty (FBs w px py qx qy rx ry ax ay bx bY cx cy dx dy) := ⟨⟨_, hm9.drew⟩⟩
  refine wp_region_quietW (J := FBs w px py qx qy rx ry ax ay bx bY cx cy dx dy) FBs.w ⟨_, hm9.drew⟩ rfl (by kernel_rfl) (by kernel_rfl) ?_
  repeat (go_big_quiet_step ((first | ((with_reducible refine (HD.out _).mono ?_); rintro _ w8 ⟨rfl, b8⟩; exact ⟨rfl, FBs.go _ b8⟩) | ((with_reducible refine (HD'.out _).mono ?_); rintro _ w8 ⟨rfl, b8⟩; exact ⟨rfl, FBs.go _ b8⟩) | ((with_reducible refine (HE.out _).mono ?_); rintro _ w8 ⟨rfl, b8⟩; exact ⟨rfl, FBs.go _ b8⟩) | ((with_reducible refine (HE'.out _).mono ?_); rintro _ w8 ⟨rfl, b8⟩; exact ⟨rfl, FBs.go _ b8⟩) | ((with_reducible refine (HR.out _).mono ?_); rintro _ _ ⟨rfl, rfl⟩; exact ⟨rfl, FBs.stay _⟩) | ((with_reducible refine (HR'.out _).mono ?_); rintro _ _ ⟨rfl, rfl⟩; exact ⟨rfl, FBs.stay _⟩))))
  refine wpQuiet_nil ?_
  rintro w9 ⟨u, rfl⟩
  have hm9 : FB w u.w px py qx qy rx ry ax ay bx bY cx cy dx dy := u.2
  clear YN Y1 Y2 Y3 Y4 Y5 Y6 Y7 Y8 Y9 Y10 Y11 Y12 Y13 Y14
  go_wp2_with fail
  go_ret
  exact ⟨rfl, FB.below (by assumption)⟩
end Go.Proofs.Ytepfhifogkopcaa
