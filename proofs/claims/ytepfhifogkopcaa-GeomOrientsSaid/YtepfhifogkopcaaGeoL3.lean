/-
  GeomMeets, walked: it returns true.
-/
import Derived.Test.YtepfhifogkopcaaGeoI
import Derived.Test.YtepfhifogkopcaaPlainM
namespace Go.Proofs.Ytepfhifogkopcaa
open Go.RowKit Go.Proofs.PlGeom

theorem lnear_new (ps : List Pt) (l : List Value) (t : TypeId) (w : World) (g c : Nat) (hg : w.heap.size = g) (hl : l = (ps.map fun p => [Value.int .i64 p.x, Value.int .i64 p.y]).flatten) (hn : ps.length ≤ 1000) (b : Bool) (hb : nearL ps = b) :
    Calls Try.prog 25 #[.slice (some ⟨g, 0, none⟩) ps.length c] (w.alloc (.cells l.toArray t)) fun e w' => e = .returned (.bool b) ∧ Below w.heap.size w w' := by
  subst hb hg
  refine (lnear_any w.heap.size c ps _ hn (by simp) (nearL_pts w t ps l hl)).mono ?_
  rintro e w' ⟨rfl, hb⟩
  exact ⟨rfl, bto ((Below.refl _ _).alloc (Nat.le_refl _) _) hb⟩
theorem lnear4 (ax ay bx bY cx cy dx dy : Int) (b : Bool) (hb : nearL [⟨ax, ay⟩, ⟨bx, bY⟩, ⟨cx, cy⟩, ⟨dx, dy⟩] = b) (w : World) (t : TypeId) (g c : Nat) (hg : w.heap.size = g) :
    Calls Try.prog 25 #[.slice (some ⟨g, 0, none⟩) 4 c] (w.alloc (.cells #[.int .i64 ax, .int .i64 ay, .int .i64 bx, .int .i64 bY, .int .i64 cx, .int .i64 cy, .int .i64 dx, .int .i64 dy] t)) fun e w' => e = .returned (.bool b) ∧ Below w.heap.size w w' :=
  lnear_new [⟨ax, ay⟩, ⟨bx, bY⟩, ⟨cx, cy⟩, ⟨dx, dy⟩] [.int .i64 ax, .int .i64 ay, .int .i64 bx, .int .i64 bY, .int .i64 cx, .int .i64 cy, .int .i64 dx, .int .i64 dy] t w g c hg rfl (by simp) b hb

set_option maxHeartbeats 400000 in
theorem back_any (a b c d : Int) (w : World) : Calls Try.prog 27 #[.agg #[.int .i64 a, .int .i64 b, .int .i64 c, .int .i64 d]] w fun e w' => e = .returned (.agg #[.int .i64 c, .int .i64 d, .int .i64 a, .int .i64 b]) ∧ Below w.heap.size w w' := by
  go_enter Try.func27, Try.ntmps27
  go_wp2
  exact bodyPost_ret (v := .agg #[.int .i64 c, .int .i64 d, .int .i64 a, .int .i64 b]) (by simp [results, Try.results27, go_sem]) rfl ⟨rfl, ((Below.refl _ _).alloc (Nat.le_refl _) _).alloc (by simp) _⟩

theorem MB.s {w wx : World} {ax ay bx bY cx cy dx dy : Int} (h : MB w wx ax ay bx bY cx cy dx dy) : MB w wx ax ay bx bY cx cy dx dy ∧ wx.cell? ⟨w.heap.size, 0, none⟩ = some (.int .i64 ax) ∧ wx.cell? ⟨w.heap.size, 1, none⟩ = some (.int .i64 ay) ∧ wx.cell? ⟨w.heap.size, 2, none⟩ = some (.int .i64 bx) ∧ wx.cell? ⟨w.heap.size, 3, none⟩ = some (.int .i64 bY) ∧ wx.cell? ⟨w.heap.size + 1, 0, none⟩ = some (.int .i64 cx) ∧ wx.cell? ⟨w.heap.size + 1, 1, none⟩ = some (.int .i64 cy) ∧ wx.cell? ⟨w.heap.size + 1, 2, none⟩ = some (.int .i64 dx) ∧ wx.cell? ⟨w.heap.size + 1, 3, none⟩ = some (.int .i64 dy) :=
  ⟨h, (blk4 h.a).1.1, (blk4 h.a).1.2.1, (blk4 h.a).1.2.2.1, (blk4 h.a).1.2.2.2, (blk4 h.b).1.1, (blk4 h.b).1.2.1, (blk4 h.b).1.2.2.1, (blk4 h.b).1.2.2.2⟩

set_option maxRecDepth 100000 in
set_option maxHeartbeats 4000000 in
theorem meets_walk (ax ay bx bY cx cy dx dy : Int) (w : World) : Calls Try.prog 6 #[.agg #[.int .i64 ax, .int .i64 ay, .int .i64 bx, .int .i64 bY], .agg #[.int .i64 cx, .int .i64 cy, .int .i64 dx, .int .i64 dy]] w fun e w' => e = .returned (.bool true) ∧ Below w.heap.size w w' := by
  have HB1 := hide (back_any ax ay bx bY)
  have HB2 := hide (back_any cx cy dx dy)
  have H1 := hide (meets_any ax ay bx bY cx cy dx dy)
  cases hn : nearL [⟨ax, ay⟩, ⟨bx, bY⟩, ⟨cx, cy⟩, ⟨dx, dy⟩] with
  | false =>
    have HN := hide (lnear4 ax ay bx bY cx cy dx dy false hn)
    rw [meets_far ⟨⟨ax, ay⟩, ⟨bx, bY⟩⟩ ⟨⟨cx, cy⟩, ⟨dx, dy⟩⟩ hn] at H1
    clear hn
    go_enter Try.func6, Try.ntmps6
    go_wp2_with fail
    refine (head_any _).mono ?_
    rintro _ w1 ⟨rfl, b1⟩
    have hm : MB w w1 ax ay bx bY cx cy dx dy := ⟨blkB b1 (blkO _ (blkN _ _ _ rfl)), blkB b1 (blkN _ _ _ (by simp)), bto (((Below.refl _ _).alloc (Nat.le_refl _) _).alloc (by simp) _) b1⟩
    clear b1
    obtain ⟨_, d1, d2, d3, d4, d5, d6, d7, d8⟩ := hm.s
    go_wp2_with fail
    refine (HN.out _ _ _ _ (by simp)).mono ?_
    rintro _ w2 ⟨rfl, b2⟩
    have hm2 := hm.lift b2
    clear d1 d2 d3 d4 d5 d6 d7 d8
    clear b2
    obtain ⟨_, d1, d2, d3, d4, d5, d6, d7, d8⟩ := hm2.s
    go_wp2_with fail
    refine (H1.out _).mono ?_
    rintro _ w3 ⟨rfl, b3⟩
    have hm3 := hm2.lift b3
    clear d1 d2 d3 d4 d5 d6 d7 d8
    clear b3
    obtain ⟨_, d1, d2, d3, d4, d5, d6, d7, d8⟩ := hm3.s
    go_wp2_with fail
    go_ret
    exact ⟨rfl, hm3.below⟩
  | true =>
    have HN := hide (lnear4 ax ay bx bY cx cy dx dy true hn)
    have H2 := hide (meets_any cx cy dx dy ax ay bx bY)
    have H3 := hide (meets_any bx bY ax ay cx cy dx dy)
    have H4 := hide (meets_any ax ay bx bY dx dy cx cy)
    have H5 := hide (meets_any ax ay bx bY ax ay bx bY)
    have H6 := hide (meets_any ax ay bx bY ax ay ax ay)
    have hn2 : nearL [⟨ax, ay⟩, ⟨bx, bY⟩, ⟨ax, ay⟩, ⟨bx, bY⟩] = true := by
      simp only [nearL, Bool.and_true, Bool.and_eq_true] at hn ⊢
      exact ⟨hn.1, hn.2.1, hn.1, hn.2.1⟩
    rw [meets_symm ⟨⟨cx, cy⟩, ⟨dx, dy⟩⟩ ⟨⟨ax, ay⟩, ⟨bx, bY⟩⟩] at H2
    rw [show meets ⟨⟨bx, bY⟩, ⟨ax, ay⟩⟩ ⟨⟨cx, cy⟩, ⟨dx, dy⟩⟩ = meets ⟨⟨ax, ay⟩, ⟨bx, bY⟩⟩ ⟨⟨cx, cy⟩, ⟨dx, dy⟩⟩ from meets_back ⟨⟨ax, ay⟩, ⟨bx, bY⟩⟩ _] at H3
    rw [show meets ⟨⟨ax, ay⟩, ⟨bx, bY⟩⟩ ⟨⟨dx, dy⟩, ⟨cx, cy⟩⟩ = meets ⟨⟨ax, ay⟩, ⟨bx, bY⟩⟩ ⟨⟨cx, cy⟩, ⟨dx, dy⟩⟩ from meets_back2 _ ⟨⟨cx, cy⟩, ⟨dx, dy⟩⟩] at H4
    rw [meets_self ⟨⟨ax, ay⟩, ⟨bx, bY⟩⟩ hn2] at H5
    obtain ⟨k0, k5⟩ := meets_range ⟨⟨ax, ay⟩, ⟨bx, bY⟩⟩ ⟨⟨cx, cy⟩, ⟨dx, dy⟩⟩
    have he := ptEq_iff ⟨ax, ay⟩ ⟨bx, bY⟩
    simp only at he
    obtain ⟨q, hq⟩ : ∃ q, ptEq ax ay bx bY = q := ⟨_, rfl⟩
    have h6 : q = false → meets ⟨⟨ax, ay⟩, ⟨bx, bY⟩⟩ ⟨⟨ax, ay⟩, ⟨ax, ay⟩⟩ = 1 := fun e => by
      rw [← hq, he] at e
      exact meets_end ⟨⟨ax, ay⟩, ⟨bx, bY⟩⟩ hn2 (by simpa using e)
    generalize meets ⟨⟨ax, ay⟩, ⟨bx, bY⟩⟩ ⟨⟨cx, cy⟩, ⟨dx, dy⟩⟩ = k at *
    have z1 : decide (k < 0) = false := by simpa using k0
    have z2 : decide (5 < k) = false := by simpa using k5
    have H66 := hide h6
    clear hn hn2 he k0 k5 h6
    go_enter Try.func6, Try.ntmps6
    go_wp2_with fail
    refine (head_any _).mono ?_
    rintro _ w1 ⟨rfl, b1⟩
    have hm : MB w w1 ax ay bx bY cx cy dx dy := ⟨blkB b1 (blkO _ (blkN _ _ _ rfl)), blkB b1 (blkN _ _ _ (by simp)), bto (((Below.refl _ _).alloc (Nat.le_refl _) _).alloc (by simp) _) b1⟩
    clear b1
    obtain ⟨_, d1, d2, d3, d4, d5, d6, d7, d8⟩ := hm.s
    go_wp2_with fail
    refine (HN.out _ _ _ _ (by simp)).mono ?_
    rintro _ w2 ⟨rfl, b2⟩
    have hm2 := hm.lift b2
    clear d1 d2 d3 d4 d5 d6 d7 d8
    clear b2
    obtain ⟨_, d1, d2, d3, d4, d5, d6, d7, d8⟩ := hm2.s
    go_wp2_with fail
    refine (H1.out _).mono ?_
    rintro _ w3 ⟨rfl, b3⟩
    have hm3 := hm2.lift b3
    clear d1 d2 d3 d4 d5 d6 d7 d8
    clear b3
    obtain ⟨_, d1, d2, d3, d4, d5, d6, d7, d8⟩ := hm3.s
    go_upto_region 5 with (fail)
    go_cut [58] (fun s58 wx => s58 = .bool false ∧ MB w wx ax ay bx bY cx cy dx dy)
    case first =>
      go_region_held3 (fun w' => MB w w' ax ay bx bY cx cy dx dy ∧ w'.cell? ⟨w.heap.size, 0, none⟩ = some (.int .i64 ax) ∧ w'.cell? ⟨w.heap.size, 1, none⟩ = some (.int .i64 ay) ∧ w'.cell? ⟨w.heap.size, 2, none⟩ = some (.int .i64 bx) ∧ w'.cell? ⟨w.heap.size, 3, none⟩ = some (.int .i64 bY) ∧ w'.cell? ⟨w.heap.size + 1, 0, none⟩ = some (.int .i64 cx) ∧ w'.cell? ⟨w.heap.size + 1, 1, none⟩ = some (.int .i64 cy) ∧ w'.cell? ⟨w.heap.size + 1, 2, none⟩ = some (.int .i64 dx) ∧ w'.cell? ⟨w.heap.size + 1, 3, none⟩ = some (.int .i64 dy))
        ((first | exact hk7.s | exact hm3.drew.s))
        (first
          | (go_at_call 27; (with_reducible refine (HB1.out _).mono ?_); rintro _ w7 ⟨rfl, b7⟩; have hk7 := MB.lift (And.left (by assumption)) b7)
          | (go_at_call 27; (with_reducible refine (HB2.out _).mono ?_); rintro _ w7 ⟨rfl, b7⟩; have hk7 := MB.lift (And.left (by assumption)) b7)
          | (go_at_call 17; (with_reducible refine (H2.out _).mono ?_); rintro _ w7 ⟨rfl, b7⟩; have hk7 := MB.lift (And.left (by assumption)) b7)
          | (go_at_call 17; (with_reducible refine (H3.out _).mono ?_); rintro _ w7 ⟨rfl, b7⟩; have hk7 := MB.lift (And.left (by assumption)) b7)
          | (go_at_call 17; (with_reducible refine (H4.out _).mono ?_); rintro _ w7 ⟨rfl, b7⟩; have hk7 := MB.lift (And.left (by assumption)) b7))
      all_goals (go_wp2_with fail; go_meet; exact ⟨rfl, And.left (by assumption)⟩)
    case rest =>
      clear hm hm2 hm3 d1 d2 d3 d4 d5 d6 d7 d8 H1 H2 H3 H4 HB1 HB2
      obtain ⟨rfl, hm⟩ := hcut
      obtain ⟨_, d1, d2, d3, d4, d5, d6, d7, d8⟩ := hm.s
      cases q with
      | true =>
        clear H66 H6
        have hz1 := lt_of_block hm.a
        have hz2 := lt_of_block hm.b
        go_wp2_with fail
        refine (H5.out _).mono ?_
        rintro _ w9 ⟨rfl, b9⟩
        have hm9 : MB w w9 ax ay bx bY cx cy dx dy := MB.lift ⟨blkO _ hm.a, blkO _ hm.b, hm.below.alloc hm.below.size _⟩ b9
        obtain ⟨⟨p1, p2, p3, p4⟩, p5, p6, p7, p8⟩ := blk4 (show w9.heap[wc.heap.size]? = some (Obj.cells #[.int .i64 ax, .int .i64 ay, .int .i64 ax, .int .i64 ay] 25 (0, 0)) from blkB b9 (blkN _ _ _ rfl))
        clear b9 d1 d2 d3 d4 d5 d6 d7 d8
        obtain ⟨_, d1, d2, d3, d4, d5, d6, d7, d8⟩ := hm9.s
        go_wp2_with fail
        go_ret
        exact ⟨rfl, hm9.below⟩
      | false =>
        rw [H66.out rfl] at H6
        clear H66
        have hz1 := lt_of_block hm.a
        have hz2 := lt_of_block hm.b
        go_wp2_with fail
        refine (H5.out _).mono ?_
        rintro _ w9 ⟨rfl, b9⟩
        have hm9 : MB w w9 ax ay bx bY cx cy dx dy := MB.lift ⟨blkO _ hm.a, blkO _ hm.b, hm.below.alloc hm.below.size _⟩ b9
        obtain ⟨⟨p1, p2, p3, p4⟩, p5, p6, p7, p8⟩ := blk4 (show w9.heap[wc.heap.size]? = some (Obj.cells #[.int .i64 ax, .int .i64 ay, .int .i64 ax, .int .i64 ay] 25 (0, 0)) from blkB b9 (blkN _ _ _ rfl))
        clear b9 d1 d2 d3 d4 d5 d6 d7 d8
        obtain ⟨_, d1, d2, d3, d4, d5, d6, d7, d8⟩ := hm9.s
        go_wp2_with fail
        refine (H6.out _).mono ?_
        rintro _ w10 ⟨rfl, b10⟩
        go_wp2_with fail
        go_ret
        exact ⟨rfl, (hm9.lift b10).below⟩
