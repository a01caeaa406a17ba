/-
  GeomCompares, walked: it returns true.
-/
import Derived.Test.YtepfhifogkopcaaGeoI
namespace Go.Proofs.Ytepfhifogkopcaa
open Go.RowKit Go.Proofs.PlGeom

theorem cmp_plain (a b c : Pt) : (cmpP a b = -1 ∨ cmpP a b = 0 ∨ cmpP a b = 1) ∧ cmpP a b = -cmpP b a ∧ ((cmpP a b = 0) ↔ a = b) ∧
    (cmpP a b ≤ 0 → cmpP b c ≤ 0 → cmpP a c ≤ 0 ∧ (cmpP a c = 0 → cmpP a b = 0 ∧ cmpP b c = 0)) := by
  obtain ⟨ax, ay⟩ := a
  obtain ⟨bx, bY⟩ := b
  obtain ⟨cx, cy⟩ := c
  refine ⟨cmpP_cases _ _, ?_, ?_, ?_⟩
  · unfold cmpP cmpI; simp only; (repeat' split) <;> omega
  · unfold cmpP cmpI; simp only [Pt.mk.injEq]; (repeat' split) <;> omega
  · unfold cmpP
    simp only
    have h1 := cmpI_cases ax bx
    have h2 := cmpI_cases ay bY
    have h3 := cmpI_cases bx cx
    have h4 := cmpI_cases bY cy
    have h5 := cmpI_cases ax cx
    have h6 := cmpI_cases ay cy
    generalize cmpI ax bx = e1 at *
    generalize cmpI ay bY = e2 at *
    generalize cmpI bx cx = e3 at *
    generalize cmpI bY cy = e4 at *
    generalize cmpI ax cx = e5 at *
    generalize cmpI ay cy = e6 at *
    by_cases g1 : e1 = 0
    · by_cases g3 : e3 = 0
      · rw [if_neg (by simpa using g1), if_neg (by simpa using g3), if_neg (by omega)]
        intro q1 q2
        refine ⟨by omega, fun q3 => ⟨by omega, by omega⟩⟩
      · rw [if_neg (by simpa using g1), if_pos g3, if_pos (by omega)]
        intro q1 q2
        refine ⟨by omega, fun q3 => ⟨by omega, by omega⟩⟩
    · by_cases g3 : e3 = 0
      · rw [if_pos g1, if_neg (by simpa using g3), if_pos (by omega)]
        intro q1 q2
        refine ⟨by omega, fun q3 => ⟨by omega, by omega⟩⟩
      · rw [if_pos g1, if_pos g3]
        intro q1 q2
        rw [if_pos (by omega)]
        refine ⟨by omega, fun q3 => ⟨by omega, by omega⟩⟩

/-- The memory of the law: its three boxes. -/
structure LB (w wx : World) (ax ay bx bY cx cy : Int) : Prop where
  a : wx.heap[w.heap.size]? = some (.cells #[.int .i64 ax, .int .i64 ay] 23 (0, 0))
  b : wx.heap[w.heap.size + 1]? = some (.cells #[.int .i64 bx, .int .i64 bY] 23 (0, 0))
  c : wx.heap[w.heap.size + 1 + 1]? = some (.cells #[.int .i64 cx, .int .i64 cy] 23 (0, 0))
  below : Below w.heap.size w wx
theorem LB.lift {w wx wy : World} {ax ay bx bY cx cy : Int} (h : LB w wx ax ay bx bY cx cy) (hb : Below wx.heap.size wx wy) : LB w wy ax ay bx bY cx cy := ⟨blkB hb h.a, blkB hb h.b, blkB hb h.c, bto h.below hb⟩
theorem LB.drew {w wx : World} {ax ay bx bY cx cy : Int} (h : LB w wx ax ay bx bY cx cy) : LB w wx.drew ax ay bx bY cx cy := ⟨h.a, h.b, h.c, h.below.drew⟩
theorem LB.s {w wx : World} {ax ay bx bY cx cy : Int} (h : LB w wx ax ay bx bY cx cy) : LB w wx ax ay bx bY cx cy ∧ wx.cell? ⟨w.heap.size, 0, none⟩ = some (.int .i64 ax) ∧ wx.cell? ⟨w.heap.size, 1, none⟩ = some (.int .i64 ay) ∧ wx.cell? ⟨w.heap.size + 1, 0, none⟩ = some (.int .i64 bx) ∧ wx.cell? ⟨w.heap.size + 1, 1, none⟩ = some (.int .i64 bY) ∧ wx.cell? ⟨w.heap.size + 1 + 1, 0, none⟩ = some (.int .i64 cx) ∧ wx.cell? ⟨w.heap.size + 1 + 1, 1, none⟩ = some (.int .i64 cy) :=
  ⟨h, (blk2 h.a).1.1, (blk2 h.a).1.2, (blk2 h.b).1.1, (blk2 h.b).1.2, (blk2 h.c).1.1, (blk2 h.c).1.2⟩

set_option maxRecDepth 100000 in
set_option maxHeartbeats 4000000 in
theorem compares_walk (ax ay bx bY cx cy : Int) (w : World) : Calls Try.prog 5 #[.agg #[.int .i64 ax, .int .i64 ay], .agg #[.int .i64 bx, .int .i64 bY], .agg #[.int .i64 cx, .int .i64 cy]] w fun e w' => e = .returned (.bool true) ∧ Below w.heap.size w w' := by
  have hp := cmp_plain ⟨ax, ay⟩ ⟨bx, bY⟩ ⟨cx, cy⟩
  have H1 := hide (compare_any ax ay bx bY)
  have H2 := hide (compare_any bx bY cx cy)
  have H3 := hide (compare_any ax ay cx cy)
  have H4 := hide (compare_any bx bY ax ay)
  have h3 := cmpP_cases ⟨ax, ay⟩ ⟨cx, cy⟩
  have h2 := cmpP_cases ⟨bx, bY⟩ ⟨cx, cy⟩
  have he := ptEq_iff ⟨ax, ay⟩ ⟨bx, bY⟩
  simp only at he
  generalize cmpP ⟨ax, ay⟩ ⟨bx, bY⟩ = x at *
  generalize cmpP ⟨bx, bY⟩ ⟨cx, cy⟩ = y at *
  generalize cmpP ⟨ax, ay⟩ ⟨cx, cy⟩ = z at *
  obtain ⟨p1, p2, p3, p4⟩ := hp
  have p5 : cmpP ⟨bx, bY⟩ ⟨ax, ay⟩ = -x := by omega
  rw [p5] at H4
  have p6 : ptEq ax ay bx bY = (x == 0) := by rw [he, Bool.eq_iff_iff]; simp [p3]
  clear p2 p3 p5 he
  have key : (0 < x ∨ 0 < y) ∨ (x ≤ 0 ∧ y ≤ 0 ∧ z < 0) ∨ (x = 0 ∧ y = 0 ∧ z = 0) := by
    rcases (by omega : 0 < x ∨ x ≤ 0) with h | h
    · exact .inl (.inl h)
    · rcases (by omega : 0 < y ∨ y ≤ 0) with h' | h'
      · exact .inl (.inr h')
      · obtain ⟨k1, k2⟩ := p4 h h'
        rcases (by omega : z < 0 ∨ 0 ≤ z) with h'' | h''
        · exact .inr (.inl ⟨h, h', h''⟩)
        · obtain ⟨k3, k4⟩ := k2 (by omega)
          exact .inr (.inr ⟨k3, k4, by omega⟩)
  have hall : ∃ t : Bool, (x == 0) = t := ⟨_, rfl⟩
  obtain ⟨t, ht⟩ := hall
  rw [ht] at p6
  clear p4
  go_enter Try.func5, Try.ntmps5
  go_wp2_with fail
  refine (head_any _).mono ?_
  rintro _ w1 ⟨rfl, b1⟩
  have hm : LB w w1 ax ay bx bY cx cy := ⟨blkB b1 (blkO _ (blkO _ (blkN _ _ _ rfl))), blkB b1 (blkO _ (blkN _ _ _ (by simp))), blkB b1 (blkN _ _ _ (by simp)), bto ((((Below.refl _ _).alloc (Nat.le_refl _) _).alloc (by simp) _).alloc (by simp; omega) _) b1⟩
  clear b1
  obtain ⟨_, d1, d2, d3, d4, d5, d6⟩ := hm.s
  go_upto_region 2 with (fail)
  go_cut [8, 9, 10] (fun s8 s9 s10 wx => s8 = .int .i64 x ∧ s9 = .int .i64 y ∧ s10 = .int .i64 z ∧ LB w wx ax ay bx bY cx cy)
  case first =>
    go_region_held3 (fun w' => LB w w' ax ay bx bY cx cy ∧ w'.cell? ⟨w.heap.size, 0, none⟩ = some (.int .i64 ax) ∧ w'.cell? ⟨w.heap.size, 1, none⟩ = some (.int .i64 ay) ∧ w'.cell? ⟨w.heap.size + 1, 0, none⟩ = some (.int .i64 bx) ∧ w'.cell? ⟨w.heap.size + 1, 1, none⟩ = some (.int .i64 bY) ∧ w'.cell? ⟨w.heap.size + 1 + 1, 0, none⟩ = some (.int .i64 cx) ∧ w'.cell? ⟨w.heap.size + 1 + 1, 1, none⟩ = some (.int .i64 cy))
      ((first | exact hk7.s | exact hm.drew.s))
      (first | (go_at_call 13; (with_reducible refine (H1.out _).mono ?_); rintro _ w7 ⟨rfl, b7⟩; have hk7 := LB.lift (And.left (by assumption)) b7) | (go_at_call 13; (with_reducible refine (H2.out _).mono ?_); rintro _ w7 ⟨rfl, b7⟩; have hk7 := LB.lift (And.left (by assumption)) b7) | (go_at_call 13; (with_reducible refine (H3.out _).mono ?_); rintro _ w7 ⟨rfl, b7⟩; have hk7 := LB.lift (And.left (by assumption)) b7))
    all_goals (go_wp2_with fail; go_meet; exact ⟨rfl, rfl, rfl, And.left (by assumption)⟩)
  case rest =>
    clear hm d1 d2 d3 d4 d5 d6 H1 H2 H3
    obtain ⟨rfl, rfl, rfl, hm⟩ := hcut
    obtain ⟨_, d1, d2, d3, d4, d5, d6⟩ := hm.s
    have hx1 : -1 ≤ x := by omega
    have hx2 : x ≤ 1 := by omega
    have hneg : (x == - -x) = true := by simp
    clear p1 h2 h3
    cases t
    all_goals
      go_wp2_with fail
      refine (H4.out _).mono ?_
      rintro _ w2 ⟨rfl, b2⟩
      have hm2 := hm.lift b2
      clear d1 d2 d3 d4 d5 d6 b2
      obtain ⟨_, d1, d2, d3, d4, d5, d6⟩ := hm2.s
      go_wp2_with fail
      all_goals first
        | (go_ret; exact ⟨rfl, hm2.below⟩)
        | (go_ret; exact ⟨ret_bool (by simp only [Bool.or_eq_true, decide_eq_true_eq, beq_iff_eq]; have hx0 := ht; simp only [beq_eq_false_iff_ne, beq_iff_eq, ne_eq] at hx0; omega), hm2.below⟩)
        | (exfalso; omega)
