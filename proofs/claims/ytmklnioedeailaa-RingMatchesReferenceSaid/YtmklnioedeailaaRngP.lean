/-
  RingTriangles, walked: it returns true.
-/
import Derived.Test.YtmklnioedeailaaRngM
import Derived.Test.YtmklnioedeailaaRPlain8
import Derived.BigQuiet
import Derived.Deep.RegionHeld3
import Derived.Deep.DrawnRows
namespace Go.Proofs.Ytmklnioedeailaa
open Go.RowKit Go.Proofs.PlGeom Go.Proofs.PlRing

set_option maxHeartbeats 2000000 in
theorem rnearL_any (r : List Pt) (v : Value) (w : World) (hv : SlP w v r) (hr : r.length ≤ 2000) :
    Calls Try.prog 23 #[v] w fun e w' => e = .returned (.bool (nearL r)) ∧ Below w.heap.size w w' := by
  obtain ⟨A, c, rfl, hA⟩ := hv
  obtain ⟨R, hR⟩ : ∃ R, R = nearL r := ⟨_, rfl⟩
  rw [← hR]
  have HR := hide hR
  have HA := hide hA
  clear hR hA
  go_enter Try.func23, Try.ntmps23
  go_wp2_with fail
  go_loopw [3] (fun i wr => ∃ k : Nat, k ≤ r.length ∧ i = .int .i64 k ∧ Below w.heap.size w wr ∧ Hid (nearL (r.drop k) = R)) (fun i _ => r.length - (intOf i).toNat)
  case atStart => exact ⟨0, Nat.zero_le _, rfl, Below.refl _ _, HR.out.symm⟩
  case round =>
    obtain ⟨k, hk, rfl, hb, hrel⟩ := hrel
    by_cases hlt : k < r.length
    · obtain ⟨g, o, rfl, hg, hp⟩ := HA.out.resolve_left (by rintro rfl; simp at hlt)
      obtain ⟨c1, c2⟩ := (hp.below hg hb) k _ (at0_some r k hlt)
      have hd := hrel.out
      rw [dropP r k hlt, nearL] at hd
      have HF := hide (is_any (at0 r k).x (at0 r k).y)
      have hnp : nearB ⟨(at0 r k).x, (at0 r k).y⟩ = nearB (at0 r k) := rfl
      rw [hnp] at HF
      generalize nearB (at0 r k) = b at *
      generalize at0 r k = p at *
      obtain ⟨px, py⟩ := p
      simp only at c1 c2 HF
      have b1 : (0 : Int) ≤ k := by omega
      have b2 : (k : Int) < r.length := by omega
      have HD := hide hd
      clear hd hp hnp hrel
      cases b with
      | true =>
        go_wp2_with fail
        refine (HF.out _).mono ?_
        rintro _ w2 ⟨rfl, b3⟩
        go_wp2_with fail
        refine ⟨⟨k + 1, by omega, by go_num, bto hb b3, hide (by have := HD.out; simpa using this)⟩, ?_⟩
        simp [intOf]; omega
      | false =>
        go_wp2_with fail
        refine (HF.out _).mono ?_
        rintro _ w2 ⟨rfl, b3⟩
        go_wp2_with fail
        go_ret
        exact ⟨ret_bool (by rw [← HD.out]; rfl), bto hb b3⟩
    · have hr : R = true := by rw [← hrel.out, List.drop_eq_nil_of_le (by omega)]; rfl
      have HR2 := hide hr
      clear hr hrel
      go_wp2_with fail
      go_ret
      exact ⟨ret_bool HR2.out.symm, hb⟩

/-- Points that lie in new memory read as a list. -/
theorem sl_new (r : List Pt) (n c : Nat) (cs : Array Value) (t : TypeId) (w : World) (hn : r.length = n) (hcs : cs.toList = cellsP r) : SlP (w.alloc (.cells cs t)) (.slice (some ⟨w.heap.size, 0, none⟩) n c) r := by
  refine ⟨_, c, by rw [hn], .inr ⟨w.heap.size, 0, rfl, by simp, fun i p hp => ?_⟩⟩
  obtain ⟨h1, h2⟩ := cellsP_get r i p hp
  rw [Nat.zero_add, cell_of_row (w.alloc (.cells cs t)) w.heap.size _ cs t (0, 0) (heap_alloc_new w _), cell_of_row (w.alloc (.cells cs t)) w.heap.size _ cs t (0, 0) (heap_alloc_new w _)]
  rw [← hcs] at h1 h2
  exact ⟨by simpa using h1, by simpa using h2⟩

/-- Four points in boxes. -/
structure Q4 (w : World) (ax ay bx bY cx cy px py : Int) (wx : World) : Prop where
  a : wx.heap[w.heap.size]? = some (.cells #[.int .i64 ax, .int .i64 ay] 24 (0, 0))
  b : wx.heap[w.heap.size + 1]? = some (.cells #[.int .i64 bx, .int .i64 bY] 24 (0, 0))
  c : wx.heap[w.heap.size + 2]? = some (.cells #[.int .i64 cx, .int .i64 cy] 24 (0, 0))
  d : wx.heap[w.heap.size + 3]? = some (.cells #[.int .i64 px, .int .i64 py] 24 (0, 0))
  below : Below w.heap.size w wx
theorem Q4.lift {w : World} {ax ay bx bY cx cy px py : Int} {wx wy : World} (h : Q4 w ax ay bx bY cx cy px py wx) (hb : Below wx.heap.size wx wy) : Q4 w ax ay bx bY cx cy px py wy := ⟨blkB hb h.a, blkB hb h.b, blkB hb h.c, blkB hb h.d, bto h.below hb⟩
theorem Q4.s {w : World} {ax ay bx bY cx cy px py : Int} {wx : World} (h : Q4 w ax ay bx bY cx cy px py wx) : Q4 w ax ay bx bY cx cy px py wx ∧ wx.cell? ⟨w.heap.size, 0, none⟩ = some (.int .i64 ax) ∧ wx.cell? ⟨w.heap.size, 1, none⟩ = some (.int .i64 ay) ∧ wx.cell? ⟨w.heap.size + 1, 0, none⟩ = some (.int .i64 bx) ∧ wx.cell? ⟨w.heap.size + 1, 1, none⟩ = some (.int .i64 bY) ∧ wx.cell? ⟨w.heap.size + 1 + 1, 0, none⟩ = some (.int .i64 cx) ∧ wx.cell? ⟨w.heap.size + 1 + 1, 1, none⟩ = some (.int .i64 cy) ∧ wx.cell? ⟨w.heap.size + 1 + 1 + 1, 0, none⟩ = some (.int .i64 px) ∧ wx.cell? ⟨w.heap.size + 1 + 1 + 1, 1, none⟩ = some (.int .i64 py) :=
  ⟨h, (blk2 h.a).1.1, (blk2 h.a).1.2, (blk2 h.b).1.1, (blk2 h.b).1.2, (blk2 h.c).1.1, (blk2 h.c).1.2, (blk2 h.d).1.1, (blk2 h.d).1.2⟩
theorem Q4.lift2 {w W : World} {ax ay bx bY cx cy px py : Int} {wx wy : World} (h : Q4 w ax ay bx bY cx cy px py wx ∧ Below W.heap.size W wx) (hb : Below wx.heap.size wx wy) : Q4 w ax ay bx bY cx cy px py wy ∧ Below W.heap.size W wy := ⟨h.1.lift hb, bto h.2 hb⟩
theorem Q4.drew {w : World} {ax ay bx bY cx cy px py : Int} {wx : World} (h : Q4 w ax ay bx bY cx cy px py wx) : Q4 w ax ay bx bY cx cy px py wx.drew := h.lift ((Below.refl _ _).drew)

set_option maxRecDepth 100000 in
set_option maxHeartbeats 8000000 in
theorem triangles_walk (ax ay bx bY cx cy px py : Int) (w : World) :
    Calls Try.prog 10 #[.agg #[.int .i64 ax, .int .i64 ay], .agg #[.int .i64 bx, .int .i64 bY], .agg #[.int .i64 cx, .int .i64 cy], .agg #[.int .i64 px, .int .i64 py]] w fun e w' => e = .returned (.bool true) ∧ Below w.heap.size w w' := by
  have N4 := hide (fun W t => rnearL_any [⟨ax, ay⟩, ⟨bx, bY⟩, ⟨cx, cy⟩, ⟨px, py⟩] _ _ (sl_new [⟨ax, ay⟩, ⟨bx, bY⟩, ⟨cx, cy⟩, ⟨px, py⟩] 4 4 #[.int .i64 ax, .int .i64 ay, .int .i64 bx, .int .i64 bY, .int .i64 cx, .int .i64 cy, .int .i64 px, .int .i64 py] t W rfl rfl) (by simp))
  cases hn : nearL [⟨ax, ay⟩, ⟨bx, bY⟩, ⟨cx, cy⟩, ⟨px, py⟩] with
  | false =>
    rw [hn] at N4
    clear hn
    go_enter Try.func10, Try.ntmps10
    go_wp2_with fail
    refine (rhead_any _).mono ?_
    rintro _ w1 ⟨rfl, b1⟩
    have hm : Q4 w ax ay bx bY cx cy px py w1 := ⟨blkB b1 (blkO _ (blkO _ (blkO _ (blkN _ _ _ rfl)))), blkB b1 (blkO _ (blkO _ (blkN _ _ _ (by simp)))), blkB b1 (blkO _ (blkN _ _ _ (by simp))), blkB b1 (blkN _ _ _ (by simp)), bto (((((Below.refl _ _).alloc (Nat.le_refl _) _).alloc (by simp) _).alloc (by simp; omega) _).alloc (by simp; omega) _) b1⟩
    obtain ⟨_, d1, d2, d3, d4, d5, d6, d7, d8⟩ := hm.s
    have HM := hide hm
    clear hm b1
    go_wp2_with fail
    refine (N4.out _ _).mono ?_
    rintro _ w2 ⟨rfl, b2⟩
    have hb2 : Below w.heap.size w w2 := bto (HM.out.below.alloc HM.out.below.size _) b2
    clear b2
    go_wp2_with fail
    go_ret
    exact ⟨rfl, hb2⟩
  | true =>
    rw [hn] at N4
    obtain ⟨na, nb, nc, np⟩ := (near4' _ _ _ _).1 hn
    have hs := tri_simple ⟨ax, ay⟩ ⟨bx, bY⟩ ⟨cx, cy⟩ na nb nc
    have hsd := tri_side ⟨ax, ay⟩ ⟨bx, bY⟩ ⟨cx, cy⟩ ⟨px, py⟩ na nb nc np
    have hsd0 : simple [⟨ax, ay⟩, ⟨bx, bY⟩, ⟨cx, cy⟩] = false → sideR [⟨ax, ay⟩, ⟨bx, bY⟩, ⟨cx, cy⟩] ⟨px, py⟩ = -1 := fun h => by unfold sideR; rw [h]; rfl
    have CO := hide (fun W => orient_any ax ay bx bY cx cy W)
    have CX := hide (fun W => orient_any ax ay bx bY px py W)
    have CY := hide (fun W => orient_any bx bY cx cy px py W)
    have CZ := hide (fun W => orient_any cx cy ax ay px py W)
    have C1 := hide (fun W => on_any ax ay bx bY px py W)
    have C2 := hide (fun W => on_any bx bY cx cy px py W)
    have C3 := hide (fun W => on_any cx cy ax ay px py W)
    have CS := hide (fun v W h => simple_any [⟨ax, ay⟩, ⟨bx, bY⟩, ⟨cx, cy⟩] v W h (by simp))
    have CD := hide (fun v W h => side_any [⟨ax, ay⟩, ⟨bx, bY⟩, ⟨cx, cy⟩] v px py W h (by simp))
    have SN := hide (fun W t => sl_new [⟨ax, ay⟩, ⟨bx, bY⟩, ⟨cx, cy⟩] 3 3 #[.int .i64 ax, .int .i64 ay, .int .i64 bx, .int .i64 bY, .int .i64 cx, .int .i64 cy] t W rfl rfl)
    generalize orient ⟨ax, ay⟩ ⟨bx, bY⟩ ⟨cx, cy⟩ = t at *
    generalize orient ⟨ax, ay⟩ ⟨bx, bY⟩ ⟨px, py⟩ = x at *
    generalize orient ⟨bx, bY⟩ ⟨cx, cy⟩ ⟨px, py⟩ = y at *
    generalize orient ⟨cx, cy⟩ ⟨ax, ay⟩ ⟨px, py⟩ = z at *
    generalize onS ⟨⟨ax, ay⟩, ⟨bx, bY⟩⟩ ⟨px, py⟩ = o1 at *
    generalize onS ⟨⟨bx, bY⟩, ⟨cx, cy⟩⟩ ⟨px, py⟩ = o2 at *
    generalize onS ⟨⟨cx, cy⟩, ⟨ax, ay⟩⟩ ⟨px, py⟩ = o3 at *
    generalize simple [⟨ax, ay⟩, ⟨bx, bY⟩, ⟨cx, cy⟩] = S at *
    generalize sideR [⟨ax, ay⟩, ⟨bx, bY⟩, ⟨cx, cy⟩] ⟨px, py⟩ = D at *
    have HSD := hide hsd
    have HSD0 := hide hsd0
    have HS := hide hs
    clear hn hs hsd hsd0 na nb nc np
    go_enter Try.func10, Try.ntmps10
    go_wp2_with fail
    refine (rhead_any _).mono ?_
    rintro _ w1 ⟨rfl, b1⟩
    have hm : Q4 w ax ay bx bY cx cy px py w1 := ⟨blkB b1 (blkO _ (blkO _ (blkO _ (blkN _ _ _ rfl)))), blkB b1 (blkO _ (blkO _ (blkN _ _ _ (by simp)))), blkB b1 (blkO _ (blkN _ _ _ (by simp))), blkB b1 (blkN _ _ _ (by simp)), bto (((((Below.refl _ _).alloc (Nat.le_refl _) _).alloc (by simp) _).alloc (by simp; omega) _).alloc (by simp; omega) _) b1⟩
    obtain ⟨_, d1, d2, d3, d4, d5, d6, d7, d8⟩ := hm.s
    have HM := hide hm
    clear hm b1
    go_wp2_with fail
    refine (N4.out _ _).mono ?_
    rintro _ w2 ⟨rfl, b2⟩
    have hm2 := HM.out.lift (bto ((Below.refl _ _).alloc (Nat.le_refl _) _) b2)
    clear b2 d1 d2 d3 d4 d5 d6 d7 d8 HM N4
    obtain ⟨_, d1, d2, d3, d4, d5, d6, d7, d8⟩ := hm2.s
    have hm3 := hide (hm2.lift ((Below.refl _ _).alloc (Nat.le_refl _) (.cells #[.int .i64 ax, .int .i64 ay, .int .i64 bx, .int .i64 bY, .int .i64 cx, .int .i64 cy] 24)))
    have hsl := hide (SN.out w2 24)
    obtain ⟨_, f1, f2, f3, f4, f5, f6, f7, f8⟩ := hm3.out.s
    clear hm2
    go_wp2_with fail
    refine (CO.out _).mono ?_
    rintro _ w3 ⟨rfl, b3⟩
    have hm4 := hide (hm3.out.lift b3)
    have hsl4 := hide (hsl.out.below b3)
    clear b3 hm3 hsl d1 d2 d3 d4 d5 d6 d7 d8 f1 f2 f3 f4 f5 f6 f7 f8
    go_wp2_with fail
    refine (CS.out _ _ hsl4.out).mono ?_
    rintro _ w4 ⟨rfl, b4⟩
    have hm5 := hide (hm4.out.lift b4)
    have hsl5 := hide (hsl4.out.below b4)
    obtain ⟨_, d1, d2, d3, d4, d5, d6, d7, d8⟩ := hm5.out.s
    clear b4 hm4 hsl4
    by_cases ht : t = 0
    · subst ht
      have hS : S = false := by rw [HS.out]; rfl
      subst hS
      have hD := HSD0.out rfl
      subst hD
      go_wp2_with fail
      refine (CD.out _ _ hsl5.out).mono ?_
      rintro _ w5 ⟨rfl, b5⟩
      go_wp2_with fail
      go_ret
      exact ⟨rfl, bto hm5.out.below b5⟩
    · have t1 : (t == 0) = false := by simpa using ht
      have t2 : (t != 0) = true := by simpa using ht
      have hS : S = true := by rw [HS.out, t1]; rfl
      subst hS
      have hD := hide (HSD.out ht)
      clear ht HS HSD HSD0
      go_wp2_with fail
      go_cut [12, 13, 14] (fun s12 s13 s14 wx => s12 = .int .i64 x ∧ s13 = .int .i64 y ∧ s14 = .int .i64 z ∧ (Q4 w ax ay bx bY cx cy px py wx ∧ Below w4.heap.size w4 wx))
      case first =>
        go_region_held3 (fun wx => (Q4 w ax ay bx bY cx cy px py wx ∧ Below w4.heap.size w4 wx) ∧ wx.cell? ⟨w.heap.size, 0, none⟩ = some (.int .i64 ax) ∧ wx.cell? ⟨w.heap.size, 1, none⟩ = some (.int .i64 ay) ∧ wx.cell? ⟨w.heap.size + 1, 0, none⟩ = some (.int .i64 bx) ∧ wx.cell? ⟨w.heap.size + 1, 1, none⟩ = some (.int .i64 bY) ∧ wx.cell? ⟨w.heap.size + 1 + 1, 0, none⟩ = some (.int .i64 cx) ∧ wx.cell? ⟨w.heap.size + 1 + 1, 1, none⟩ = some (.int .i64 cy) ∧ wx.cell? ⟨w.heap.size + 1 + 1 + 1, 0, none⟩ = some (.int .i64 px) ∧ wx.cell? ⟨w.heap.size + 1 + 1 + 1, 1, none⟩ = some (.int .i64 py))
          (first | exact ⟨hk7, hk7.1.s.2⟩ | exact ⟨⟨hm5.out.drew, below_drew w4⟩, hm5.out.drew.s.2⟩)
          (first
            | (go_at_call 24; (with_reducible refine (CX.out _).mono ?_); rintro _ w7 ⟨rfl, b7⟩; have hk7 := Q4.lift2 (And.left (by assumption)) b7)
            | (go_at_call 24; (with_reducible refine (CY.out _).mono ?_); rintro _ w7 ⟨rfl, b7⟩; have hk7 := Q4.lift2 (And.left (by assumption)) b7)
            | (go_at_call 24; (with_reducible refine (CZ.out _).mono ?_); rintro _ w7 ⟨rfl, b7⟩; have hk7 := Q4.lift2 (And.left (by assumption)) b7))
        all_goals (go_wp2_with fail; go_meet; exact ⟨rfl, rfl, rfl, And.left (by assumption)⟩)
      case rest =>
        obtain ⟨rfl, rfl, rfl, hq, hbq⟩ := hcut
        have hsl6 := hide (hsl5.out.below hbq)
        clear d1 d2 d3 d4 d5 d6 d7 d8 CX CY CZ CO CS hm5 hsl5 hbq
        obtain ⟨_, d1, d2, d3, d4, d5, d6, d7, d8⟩ := hq.s
        have hm6 := hide hq
        clear hq
        go_upto_region 11 with (fail)
        go_cut [15] (fun s15 wx => s15 = .bool (o1 || o2 || o3) ∧ (Q4 w ax ay bx bY cx cy px py wx ∧ Below wc.heap.size wc wx))
        case first =>
          cases o1 <;> cases o2 <;> cases o3
          all_goals
            go_wp2_with (first
              | (go_at_call 22; (with_reducible refine (C1.out _).mono ?_); rintro _ w7 ⟨rfl, b7⟩; have q1 := hide (And.intro (hm6.out.lift b7) b7); clear d1 d2 d3 d4 d5 d6 d7 d8; obtain ⟨_, d1, d2, d3, d4, d5, d6, d7, d8⟩ := q1.out.1.s; clear b7 C1)
              | (go_at_call 22; (with_reducible refine (C2.out _).mono ?_); rintro _ w8 ⟨rfl, b8⟩; have q2 := hide (Q4.lift2 q1.out b8); clear d1 d2 d3 d4 d5 d6 d7 d8; obtain ⟨_, d1, d2, d3, d4, d5, d6, d7, d8⟩ := q2.out.1.s; clear b8 C2)
              | (go_at_call 22; (with_reducible refine (C3.out _).mono ?_); rintro _ w9 ⟨rfl, b9⟩; have q3 := hide (Q4.lift2 q2.out b9); clear d1 d2 d3 d4 d5 d6 d7 d8; obtain ⟨_, d1, d2, d3, d4, d5, d6, d7, d8⟩ := q3.out.1.s; clear b9 C3))
            go_meet
            first | exact ⟨rfl, q3.out⟩ | exact ⟨rfl, q2.out⟩ | exact ⟨rfl, q1.out⟩
        case rest =>
          obtain ⟨rfl, hq⟩ := hcut
          have hq0 := hide hq.1
          have hsl7 := hide (hsl6.out.below hq.2)
          obtain ⟨_, d1, d2, d3, d4, d5, d6, d7, d8⟩ := hq.1.s
          have hDD := hD.out
          obtain ⟨on, hon⟩ : ∃ on, (o1 || o2 || o3) = on := ⟨_, rfl⟩
          rw [hon] at hDD ⊢
          clear hon hm6 hsl6 hq C1 C2 C3 hD
          cases on with
          | true =>
            have hz : D = 0 := hDD
            subst hz
            clear hDD
            rcases Bool.eq_false_or_eq_true (x == t) with k1 | k1 <;> rcases Bool.eq_false_or_eq_true (y == t) with k2 | k2 <;> rcases Bool.eq_false_or_eq_true (z == t) with k3 | k3
            all_goals
              go_wp2_with ((go_at_call 16; (with_reducible refine (CD.out _ _ hsl7.out).mono ?_); rintro _ w9 ⟨rfl, b9⟩))
              go_ret
              exact ⟨rfl, bto hq0.out.below b9⟩
          | false =>
            rcases Bool.eq_false_or_eq_true (x == t) with k1 | k1 <;> rcases Bool.eq_false_or_eq_true (y == t) with k2 | k2 <;> rcases Bool.eq_false_or_eq_true (z == t) with k3 | k3
            all_goals
              rw [k1, k2, k3] at hDD
              simp only [Bool.and_true, Bool.and_false, if_true, if_false, Bool.false_eq_true] at hDD
              subst hDD
              go_wp2_with ((go_at_call 16; (with_reducible refine (CD.out _ _ hsl7.out).mono ?_); rintro _ w9 ⟨rfl, b9⟩))
              go_ret
              exact ⟨rfl, bto hq0.out.below b9⟩
end Go.Proofs.Ytmklnioedeailaa
