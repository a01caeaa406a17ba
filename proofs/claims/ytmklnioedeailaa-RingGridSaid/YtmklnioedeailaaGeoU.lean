/-
  The reference's small functions of the geometry, walked.
-/
import Derived.Test.YtmklnioedeailaaGeoH
namespace Go.Proofs.Ytmklnioedeailaa
open Go.RowKit Go.Proofs.PlGeom

set_option maxHeartbeats 400000 in
theorem rsign_any (n : Int) (w : World) : Calls Try.prog 62 #[.int .i64 n] w fun e w' => e = .returned (.int .i64 (cmpI n 0)) ∧ w = w' := by
  have hc := cmpI_cases n 0
  generalize cmpI n 0 = c at hc
  rcases hc with ⟨h, rfl⟩ | ⟨h, rfl⟩ | ⟨h, rfl⟩
  · go_enter Try.func62, Try.ntmps62
    go_wp2
    go_ret
    exact ⟨rfl, rfl⟩
  · go_enter Try.func62, Try.ntmps62
    go_wp2
    go_ret
    exact ⟨rfl, rfl⟩
  · subst h
    go_enter Try.func62, Try.ntmps62
    go_wp2
    go_ret
    exact ⟨rfl, rfl⟩

set_option maxHeartbeats 1000000 in
theorem rcross_any (ax ay bx bY cx cy : Int) (w : World) (hn : nearL [⟨ax, ay⟩, ⟨bx, bY⟩, ⟨cx, cy⟩] = true) :
    Calls Try.prog 61 #[.agg #[.int .i64 ax, .int .i64 ay], .agg #[.int .i64 bx, .int .i64 bY], .agg #[.int .i64 cx, .int .i64 cy]] w fun e w' => e = .returned (.int .i64 (cross ⟨ax, ay⟩ ⟨bx, bY⟩ ⟨cx, cy⟩)) ∧ Below w.heap.size w w' := by
  obtain ⟨R, hR⟩ : ∃ R, R = cross ⟨ax, ay⟩ ⟨bx, bY⟩ ⟨cx, cy⟩ := ⟨_, rfl⟩
  rw [← hR]
  simp only [cross] at hR
  have HR := hide hR
  clear hR
  simp only [nearL, Bool.and_true, Bool.and_eq_true, nearB_iff] at hn
  obtain ⟨⟨a1, a2, a3, a4⟩, ⟨c1, c2, c3, c4⟩, d1, d2, d3, d4⟩ := hn
  obtain ⟨m1, m2⟩ := prod_near (bx - ax) (cy - ay) (by omega) (by omega) (by omega) (by omega)
  obtain ⟨m3, m4⟩ := prod_near (bY - ay) (cx - ax) (by omega) (by omega) (by omega) (by omega)
  go_enter Try.func61, Try.ntmps61
  go_wp2
  go_ret
  exact ⟨ret_int HR.out.symm, (((Below.refl _ _).alloc (Nat.le_refl _) _).alloc (by simp) _).alloc (by simp; omega) _⟩

theorem new2 (w : World) (o1 o2 : Obj) : (w.alloc o1 |>.alloc o2).heap[w.heap.size]? = some o1 ∧ (w.alloc o1 |>.alloc o2).heap[w.heap.size + 1]? = some o2 ∧ Below w.heap.size w (w.alloc o1 |>.alloc o2) :=
  ⟨blkO _ (blkN _ _ _ rfl), blkN _ _ _ (by simp), ((Below.refl _ _).alloc (Nat.le_refl _) _).alloc (by simp) _⟩
theorem new3 (w : World) (o1 o2 o3 : Obj) : (w.alloc o1 |>.alloc o2 |>.alloc o3).heap[w.heap.size]? = some o1 ∧ (w.alloc o1 |>.alloc o2 |>.alloc o3).heap[w.heap.size + 1]? = some o2 ∧ (w.alloc o1 |>.alloc o2 |>.alloc o3).heap[w.heap.size + 2]? = some o3 ∧ Below w.heap.size w (w.alloc o1 |>.alloc o2 |>.alloc o3) :=
  ⟨blkO _ (blkO _ (blkN _ _ _ rfl)), blkO _ (blkN _ _ _ (by simp)), blkN _ _ _ (by simp), (((Below.refl _ _).alloc (Nat.le_refl _) _).alloc (by simp) _).alloc (by simp; omega) _⟩

set_option maxHeartbeats 1000000 in
theorem rseg_any (ax ay bx bY : Int) (w : World) : Calls Try.prog 47 #[.agg #[.int .i64 ax, .int .i64 ay, .int .i64 bx, .int .i64 bY]] w fun e w' => e = .returned (.bool (nearB ⟨ax, ay⟩ && nearB ⟨bx, bY⟩)) ∧ Below w.heap.size w w' := by
  have HA := hide (is_any ax ay)
  have HB := hide (is_any bx bY)
  generalize nearB ⟨ax, ay⟩ = p at *
  generalize nearB ⟨bx, bY⟩ = q at *
  cases p with
  | true =>
    go_enter Try.func47, Try.ntmps47
    go_wp2_with fail
    refine (HA.out _).mono ?_
    rintro _ w1 ⟨rfl, b1⟩
    obtain ⟨⟨d1, d2, d3, d4⟩, _⟩ := blk4 (blkB b1 (blkN w _ _ rfl))
    go_wp2_with fail
    refine (HB.out _).mono ?_
    rintro _ w2 ⟨rfl, b2⟩
    go_wp2_with fail
    go_ret
    exact ⟨rfl, bto (bto ((Below.refl _ _).alloc (Nat.le_refl _) _) b1) b2⟩
  | false =>
    go_enter Try.func47, Try.ntmps47
    go_wp2_with fail
    refine (HA.out _).mono ?_
    rintro _ w1 ⟨rfl, b1⟩
    go_wp2_with fail
    go_ret
    exact ⟨rfl, bto ((Below.refl _ _).alloc (Nat.le_refl _) _) b1⟩

set_option maxHeartbeats 1000000 in
theorem rend_any (ax ay bx bY px py : Int) (w : World) : Calls Try.prog 49 #[.agg #[.int .i64 ax, .int .i64 ay, .int .i64 bx, .int .i64 bY], .agg #[.int .i64 px, .int .i64 py]] w fun e w' => e = .returned (.bool (ptEq px py ax ay || ptEq px py bx bY)) ∧ Below w.heap.size w w' := by
  obtain ⟨p, hp⟩ : ∃ p, ptEq px py ax ay = p := ⟨_, rfl⟩
  obtain ⟨q, hq⟩ : ∃ q, ptEq px py bx bY = q := ⟨_, rfl⟩
  rw [hp, hq]
  cases p with
  | true =>
    clear hq
    go_enter Try.func49, Try.ntmps49
    go_wp2_with fail
    go_ret
    exact ⟨rfl, ((Below.refl _ _).alloc (Nat.le_refl _) _).alloc (by simp) _⟩
  | false =>
    go_enter Try.func49, Try.ntmps49
    go_wp2_with fail
    go_ret
    exact ⟨rfl, ((Below.refl _ _).alloc (Nat.le_refl _) _).alloc (by simp) _⟩

set_option maxHeartbeats 1000000 in
theorem rorient_any (ax ay bx bY cx cy : Int) (w : World) :
    Calls Try.prog 50 #[.agg #[.int .i64 ax, .int .i64 ay], .agg #[.int .i64 bx, .int .i64 bY], .agg #[.int .i64 cx, .int .i64 cy]] w fun e w' => e = .returned (.int .i64 (orient ⟨ax, ay⟩ ⟨bx, bY⟩ ⟨cx, cy⟩)) ∧ Below w.heap.size w w' := by
  have HX := fun h => hide (fun w => rcross_any ax ay bx bY cx cy w h)
  have hR : orient ⟨ax, ay⟩ ⟨bx, bY⟩ ⟨cx, cy⟩ = if (nearB ⟨ax, ay⟩ && (nearB ⟨bx, bY⟩ && (nearB ⟨cx, cy⟩ && true))) = true then cmpI (cross ⟨ax, ay⟩ ⟨bx, bY⟩ ⟨cx, cy⟩) 0 else 0 := rfl
  rw [hR]
  clear hR
  simp only [nearL] at HX
  have HA := hide (is_any ax ay)
  have HB := hide (is_any bx bY)
  have HC := hide (is_any cx cy)
  generalize nearB ⟨ax, ay⟩ = p at *
  generalize nearB ⟨bx, bY⟩ = q at *
  generalize nearB ⟨cx, cy⟩ = r at *
  generalize cross ⟨ax, ay⟩ ⟨bx, bY⟩ ⟨cx, cy⟩ = X at *
  cases p with
  | false =>
    clear HX
    go_enter Try.func50, Try.ntmps50
    go_wp2_with fail
    refine (HA.out _).mono ?_
    rintro _ w1 ⟨rfl, b1⟩
    go_wp2_with fail
    go_ret
    exact ⟨rfl, bto (new3 w _ _ _).2.2.2 b1⟩
  | true =>
    cases q with
    | false =>
      clear HX
      go_enter Try.func50, Try.ntmps50
      go_wp2_with fail
      refine (HA.out _).mono ?_
      rintro _ w1 ⟨rfl, b1⟩
      obtain ⟨⟨d1, d2⟩, _⟩ := blk2 (blkB b1 (new3 w _ _ _).2.1)
      go_wp2_with fail
      refine (HB.out _).mono ?_
      rintro _ w2 ⟨rfl, b2⟩
      go_wp2_with fail
      go_ret
      exact ⟨rfl, bto (bto (new3 w _ _ _).2.2.2 b1) b2⟩
    | true =>
      cases r with
      | false =>
        clear HX
        go_enter Try.func50, Try.ntmps50
        go_wp2_with fail
        refine (HA.out _).mono ?_
        rintro _ w1 ⟨rfl, b1⟩
        have B1 := blkB b1 (new3 w _ _ _).2.1
        have C1 := blkB b1 (new3 w _ _ _).2.2.1
        obtain ⟨⟨d1, d2⟩, _⟩ := blk2 B1
        go_wp2_with fail
        refine (HB.out _).mono ?_
        rintro _ w2 ⟨rfl, b2⟩
        obtain ⟨⟨d5, d6⟩, _⟩ := blk2 (blkB b2 C1)
        go_wp2_with fail
        refine (HC.out _).mono ?_
        rintro _ w3 ⟨rfl, b3⟩
        go_wp2_with fail
        go_ret
        exact ⟨rfl, bto (bto (bto (new3 w _ _ _).2.2.2 b1) b2) b3⟩
      | true =>
        have HX := HX rfl
        go_enter Try.func50, Try.ntmps50
        go_wp2_with fail
        refine (HA.out _).mono ?_
        rintro _ w1 ⟨rfl, b1⟩
        have A1 := blkB b1 (new3 w _ _ _).1
        have B1 := blkB b1 (new3 w _ _ _).2.1
        have C1 := blkB b1 (new3 w _ _ _).2.2.1
        obtain ⟨⟨d1, d2⟩, _⟩ := blk2 B1
        go_wp2_with fail
        refine (HB.out _).mono ?_
        rintro _ w2 ⟨rfl, b2⟩
        obtain ⟨⟨d5, d6⟩, _⟩ := blk2 (blkB b2 C1)
        go_wp2_with fail
        refine (HC.out _).mono ?_
        rintro _ w3 ⟨rfl, b3⟩
        clear d1 d2 d5 d6
        obtain ⟨⟨d1, d2⟩, _⟩ := blk2 (blkB b3 (blkB b2 A1))
        obtain ⟨⟨d3, d4⟩, _⟩ := blk2 (blkB b3 (blkB b2 B1))
        obtain ⟨⟨d5, d6⟩, _⟩ := blk2 (blkB b3 (blkB b2 C1))
        clear A1 B1 C1
        go_wp2_with fail
        refine (HX.out _).mono ?_
        rintro _ w4 ⟨rfl, b4⟩
        go_wp2_with fail
        refine (rsign_any _ _).mono ?_
        rintro _ _ ⟨rfl, rfl⟩
        go_wp2_with fail
        go_ret
        exact ⟨rfl, bto (bto (bto (bto (new3 w _ _ _).2.2.2 b1) b2) b3) b4⟩

end Go.Proofs.Ytmklnioedeailaa
