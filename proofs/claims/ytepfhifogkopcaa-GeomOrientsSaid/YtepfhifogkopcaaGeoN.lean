/-
  Near of the geometry, walked, but for the division.
-/
import Derived.Test.YtepfhifogkopcaaGeoE
import Derived.Test.YtepfhifogkopcaaPlainN
import Derived.Deep.RegionHeld3
namespace Go.Proofs.Ytepfhifogkopcaa
open Go.RowKit Go.Proofs.PlGeom

/-- The memory of 'Near' behind its two vectors. -/
structure NA (w wx : World) (ax ay bx bY px py : Int) : Prop where
  a : wx.heap[w.heap.size]? = some (.cells #[.int .i64 ax, .int .i64 ay, .int .i64 bx, .int .i64 bY] 25 (0, 0))
  b : wx.heap[w.heap.size + 1]? = some (.cells #[.int .i64 px, .int .i64 py] 23 (0, 0))
  below : Below w.heap.size w wx
theorem NA.lift {w wx wy : World} {ax ay bx bY px py : Int} (h : NA w wx ax ay bx bY px py) (hb : Below wx.heap.size wx wy) : NA w wy ax ay bx bY px py := ⟨blkB hb h.a, blkB hb h.b, bto h.below hb⟩
theorem NA.drew {w wx : World} {ax ay bx bY px py : Int} (h : NA w wx ax ay bx bY px py) : NA w wx.drew ax ay bx bY px py := ⟨h.a, h.b, h.below.drew⟩
theorem NA.alloc {w wx : World} {ax ay bx bY px py : Int} (h : NA w wx ax ay bx bY px py) (o : Obj) : NA w (wx.alloc o) ax ay bx bY px py := ⟨blkO o h.a, blkO o h.b, h.below.alloc h.below.size o⟩
theorem NA.set {w wx : World} {ax ay bx bY px py : Int} (h : NA w wx ax ay bx bY px py) (g i : Nat) (u : Value) (hg : w.heap.size + 2 ≤ g) : NA w (wx.setCell ⟨g, i, none⟩ u) ax ay bx bY px py :=
  ⟨blkS i u h.a (by omega), blkS i u h.b (by omega), h.below.setCell (by simp; omega) u⟩
theorem NA.c {w wx : World} {ax ay bx bY px py : Int} (h : NA w wx ax ay bx bY px py) :
    NA w wx ax ay bx bY px py ∧ wx.cell? ⟨w.heap.size, 0, none⟩ = some (.int .i64 ax) ∧ wx.cell? ⟨w.heap.size, 1, none⟩ = some (.int .i64 ay) ∧ wx.cell? ⟨w.heap.size, 2, none⟩ = some (.int .i64 bx) ∧ wx.cell? ⟨w.heap.size, 3, none⟩ = some (.int .i64 bY) ∧
      wx.cell? ⟨w.heap.size + 1, 0, none⟩ = some (.int .i64 px) ∧ wx.cell? ⟨w.heap.size + 1, 1, none⟩ = some (.int .i64 py) :=
  ⟨h, (blk4 h.a).1.1, (blk4 h.a).1.2.1, (blk4 h.a).1.2.2.1, (blk4 h.a).1.2.2.2, (blk2 h.b).1.1, (blk2 h.b).1.2⟩

structure NB (w wx : World) (gv gw : Nat) (vx vy ux uy ax ay bx bY px py : Int) : Prop where
  na : NA w wx ax ay bx bY px py
  v : wx.heap[gv]? = some (.cells #[.int .i64 vx, .int .i64 vy] 46 (0, 0))
  u : wx.heap[gw]? = some (.cells #[.int .i64 ux, .int .i64 uy] 46 (0, 0))
theorem NB.lift {w wx wy : World} {gv gw : Nat} {vx vy ux uy ax ay bx bY px py : Int} (h : NB w wx gv gw vx vy ux uy ax ay bx bY px py) (hb : Below wx.heap.size wx wy) : NB w wy gv gw vx vy ux uy ax ay bx bY px py := ⟨h.na.lift hb, blkB hb h.v, blkB hb h.u⟩

/-- The product and the division, at these numbers. -/
def DivOk (C S : Int) : Prop := ∃ hi lo q : Int, q = C * C / S ∧ 0 ≤ q ∧ q ≤ 1000000000000000000 ∧
  (∀ w, Calls Try.prog 42 #[.int .u64 (C.natAbs : Nat), .int .u64 (C.natAbs : Nat)] w fun e w' => e = .returned (.tuple #[.int .u64 hi, .int .u64 lo]) ∧ w = w') ∧
  (∀ w, Calls Try.prog 43 #[.int .u64 hi, .int .u64 lo, .int .u64 S] w fun e w' => (∃ r : Int, e = .returned (.tuple #[.int .u64 q, .int .u64 r])) ∧ Below w.heap.size w w')

set_option maxRecDepth 100000 in
set_option maxHeartbeats 4000000 in
theorem near_in (ax ay bx bY px py : Int) (w : World) (hn : nearL [⟨ax, ay⟩, ⟨bx, bY⟩, ⟨px, py⟩] = true)
    (hd : 0 < along ⟨⟨ax, ay⟩, ⟨bx, bY⟩⟩ ⟨px, py⟩ → along ⟨⟨ax, ay⟩, ⟨bx, bY⟩⟩ ⟨px, py⟩ < sqv ⟨⟨ax, ay⟩, ⟨bx, bY⟩⟩ → DivOk (crs ⟨⟨ax, ay⟩, ⟨bx, bY⟩⟩ ⟨px, py⟩) (sqv ⟨⟨ax, ay⟩, ⟨bx, bY⟩⟩)) :
    Calls Try.prog 21 #[.agg #[.int .i64 ax, .int .i64 ay, .int .i64 bx, .int .i64 bY], .agg #[.int .i64 px, .int .i64 py]] w fun e w' => e = .returned (.int .i64 (nearV ⟨⟨ax, ay⟩, ⟨bx, bY⟩⟩ ⟨px, py⟩)) ∧ Below w.heap.size w w' := by
  obtain ⟨R, hR⟩ : ∃ R, R = nearV ⟨⟨ax, ay⟩, ⟨bx, bY⟩⟩ ⟨px, py⟩ := ⟨_, rfl⟩
  rw [← hR]
  unfold nearV at hR
  simp only at hR
  rw [hn, if_pos rfl] at hR
  have HN := hide (near3 ax ay bx bY px py true hn)
  simp only [nearL, Bool.and_true, Bool.and_eq_true, nearB_iff] at hn
  obtain ⟨⟨i1, i2, i3, i4⟩, ⟨j1, j2, j3, j4⟩, k1, k2, k3, k4⟩ := hn
  obtain ⟨m1, m2⟩ := prod_near (bx - ax) (px - ax) (by omega) (by omega) (by omega) (by omega)
  obtain ⟨m3, m4⟩ := prod_near (bY - ay) (py - ay) (by omega) (by omega) (by omega) (by omega)
  obtain ⟨m5, m6⟩ := prod_near (bx - ax) (bx - ax) (by omega) (by omega) (by omega) (by omega)
  obtain ⟨m7, m8⟩ := prod_near (bY - ay) (bY - ay) (by omega) (by omega) (by omega) (by omega)
  obtain ⟨n1, n2⟩ := prod_near (bx - ax) (py - ay) (by omega) (by omega) (by omega) (by omega)
  obtain ⟨n3, n4⟩ := prod_near (bY - ay) (px - ax) (by omega) (by omega) (by omega) (by omega)
  have HA := hide (fun w => dot_any (bx - ax) (bY - ay) (px - ax) (py - ay) w (by omega) (by omega) (by omega) (by omega))
  have HQ := hide (fun w => dot_any (bx - ax) (bY - ay) (bx - ax) (bY - ay) w (by omega) (by omega) (by omega) (by omega))
  have HX := hide (fun w => cross_any (bx - ax) (bY - ay) (px - ax) (py - ay) w (by omega) (by omega) (by omega) (by omega))
  have HD1 := hide (distance_any ax ay px py)
  have HD2 := hide (distance_any bx bY px py)
  obtain ⟨A, hA⟩ : ∃ A, A = along ⟨⟨ax, ay⟩, ⟨bx, bY⟩⟩ ⟨px, py⟩ := ⟨_, rfl⟩
  obtain ⟨S, hS⟩ : ∃ S, S = sqv ⟨⟨ax, ay⟩, ⟨bx, bY⟩⟩ := ⟨_, rfl⟩
  obtain ⟨C, hC⟩ : ∃ C, C = crs ⟨⟨ax, ay⟩, ⟨bx, bY⟩⟩ ⟨px, py⟩ := ⟨_, rfl⟩
  rw [← hA, ← hS, ← hC] at hR hd
  simp only [along, sqv, crs] at hA hS hC
  rw [← hA] at HA
  rw [← hS] at HQ
  rw [← hC] at HX
  have hS2 : S ≤ 35184372088832 := by omega
  have hC1 : -35184372088832 ≤ C := by omega
  have hC2 : C ≤ 35184372088832 := by omega
  have HDD := hide hd
  have HR := hide hR
  clear hR hA hS hC hd m1 m2 m3 m4 m5 m6 m7 m8 n1 n2 n3 n4
  have HT1 := hide (fun w => to_any ax ay bx bY w (by omega) (by omega) (by omega) (by omega))
  have HT2 := hide (fun w => to_any ax ay px py w (by omega) (by omega) (by omega) (by omega))
  go_enter Try.func21, Try.ntmps21
  go_wp2_with fail
  refine (HN.out _ _ _ _ (by simp)).mono ?_
  rintro _ w1 ⟨rfl, b1⟩
  have hm : NA w w1 ax ay bx bY px py := ⟨blkB b1 (blkO _ (blkN _ _ _ rfl)), blkB b1 (blkN _ _ _ (by simp)), bto (((Below.refl _ _).alloc (Nat.le_refl _) _).alloc (by simp) _) b1⟩
  obtain ⟨_, d1, d2, d3, d4, d5, d6⟩ := hm.c
  have hsz := lt_of_block hm.b
  clear b1
  go_upto_region 3 with (fail)
  go_cut [5, 6] (fun s5 s6 wx => ∃ gv gw : Nat, s5 = .pointer (some ⟨gv, 0, none⟩) ∧ s6 = .pointer (some ⟨gw, 0, none⟩) ∧ NB w wx gv gw (bx - ax) (bY - ay) (px - ax) (py - ay) ax ay bx bY px py)
  case first =>
    go_region_held3 (fun w' => NA w w' ax ay bx bY px py ∧ w'.cell? ⟨w.heap.size, 0, none⟩ = some (.int .i64 ax) ∧ w'.cell? ⟨w.heap.size, 1, none⟩ = some (.int .i64 ay) ∧ w'.cell? ⟨w.heap.size, 2, none⟩ = some (.int .i64 bx) ∧ w'.cell? ⟨w.heap.size, 3, none⟩ = some (.int .i64 bY) ∧
      w'.cell? ⟨w.heap.size + 1, 0, none⟩ = some (.int .i64 px) ∧ w'.cell? ⟨w.heap.size + 1, 1, none⟩ = some (.int .i64 py))
      ((refine NA.c ?_; (first | assumption | exact hm.drew | exact And.left (by assumption) | (repeat (first | assumption | exact hm.drew | apply NA.alloc | apply NA.drew | (refine NA.set ?_ _ _ _ (by omega)) | exact And.left (by assumption))))))
      (first | (go_at_call 30; (with_reducible refine (HT1.out _).mono ?_); rintro _ w7 ⟨rfl, b7⟩; have hk7 := NA.lift (And.left (by assumption)) b7; have hz7 := b7.size; (try simp only [World.size_alloc, World.size_drew] at hz7); (try (refine have Y1 : w7.heap[w1.heap.size]? = some (Obj.cells #[.int .i64 0, .int .i64 0] 46 (0, 0)) := ?_; ?_; (· (refine blkB b7 ?_; first | (refine blkN _ _ _ ?_; simp; done) | (refine blkO _ (blkN _ _ _ ?_); simp; done))); (obtain ⟨⟨_, _⟩, _, _⟩ := blk2 Y1); (have lY1 := lt_of_block Y1))); (try (refine have Y2 : w7.heap[w1.heap.size + 1]? = some (Obj.cells #[.int .i64 0, .int .i64 0] 46 (0, 0)) := ?_; ?_; (· (refine blkB b7 ?_; first | (refine blkN _ _ _ ?_; simp; done))); (obtain ⟨⟨_, _⟩, _, _⟩ := blk2 Y2); (have lY2 := lt_of_block Y2)))) | (go_at_call 30; (with_reducible refine (HT2.out _).mono ?_); rintro _ w8 ⟨rfl, b8⟩; have hk8 := NA.lift (And.left (by assumption)) b8; have hz8 := b8.size; (try simp only [World.size_alloc] at hz8); (try (refine have X1 : w8.heap[w1.heap.size]? = some (Obj.cells #[.int .i64 0, .int .i64 0] 46 (0, 0)) := ?_; ?_; (· (refine blkB b8 ?_; first | exact Y1 | exact blkO _ Y1)); (obtain ⟨⟨_, _⟩, _, _⟩ := blk2 X1); (have lX1 := lt_of_block X1))); (try (refine have X2 : w8.heap[w1.heap.size + 1]? = some (Obj.cells #[.int .i64 0, .int .i64 0] 46 (0, 0)) := ?_; ?_; (· (refine blkB b8 ?_; first | exact Y2)); (obtain ⟨⟨_, _⟩, _, _⟩ := blk2 X2); (have lX2 := lt_of_block X2))); (try (refine have X3 : w8.heap[w7.heap.size]? = some (Obj.cells #[.int .i64 0, .int .i64 0] 46 (0, 0)) := ?_; ?_; (· (refine blkB b8 ?_; first | (refine blkN _ _ _ ?_; simp; done) | (refine blkO _ (blkN _ _ _ ?_); simp; done))); (obtain ⟨⟨_, _⟩, _, _⟩ := blk2 X3); (have lX3 := lt_of_block X3))); (try (refine have X4 : w8.heap[w7.heap.size + 1]? = some (Obj.cells #[.int .i64 0, .int .i64 0] 46 (0, 0)) := ?_; ?_; (· (refine blkB b8 ?_; first | (refine blkN _ _ _ ?_; simp; done))); (obtain ⟨⟨_, _⟩, _, _⟩ := blk2 X4); (have lX4 := lt_of_block X4)))))
    all_goals
      go_wp2_with fail
      go_meet
      refine ⟨_, _, rfl, rfl, ⟨?_, ?_, ?_⟩⟩
      · repeat (first | with_reducible assumption | with_reducible exact hm.drew | with_reducible apply NA.alloc | with_reducible apply NA.drew | (with_reducible refine NA.set ?_ _ _ _ (by omega)))
      · repeat (first | with_reducible assumption | (with_reducible refine set2 (a := .int .i64 0) (b := .int .i64 0) ?_ _ _) | (with_reducible refine blkS _ _ ?_ (by omega)) | (with_reducible exact blkN _ _ _ (by simp)) | (with_reducible refine blkO _ ?_))
      · repeat (first | with_reducible assumption | (with_reducible refine set2 (a := .int .i64 0) (b := .int .i64 0) ?_ _ _) | (with_reducible refine blkS _ _ ?_ (by omega)) | (with_reducible exact blkN _ _ _ (by simp)) | (with_reducible refine blkO _ ?_))
  case rest =>
    clear hm d1 d2 d3 d4 d5 d6 hsz HT1 HT2 HN i1 i2 i3 i4 j1 j2 j3 j4 k1 k2 k3 k4
    obtain ⟨gv, gw, rfl, rfl, hm⟩ := hcut
    obtain ⟨⟨e1, e2⟩, e3, e4⟩ := blk2 hm.v
    obtain ⟨⟨f1, f2⟩, f3, f4⟩ := blk2 hm.u
    obtain ⟨_, d1, d2, d3, d4, d5, d6⟩ := hm.na.c
    by_cases g1 : A ≤ 0
    · have hr := HR.out
      rw [if_pos g1] at hr
      rw [← hr] at HD1
      clear hr HR HDD
      go_wp2_with fail
      refine (HA.out _).mono ?_
      rintro _ w10 ⟨rfl, b10⟩
      have hm10 := hm.lift b10
      clear e1 e2 e3 e4 f1 f2 f3 f4 d1 d2 d3 d4 d5 d6
      obtain ⟨⟨e1, e2⟩, e3, e4⟩ := blk2 hm10.v
      obtain ⟨⟨f1, f2⟩, f3, f4⟩ := blk2 hm10.u
      obtain ⟨_, d1, d2, d3, d4, d5, d6⟩ := hm10.na.c
      clear b10
      go_wp2_with fail
      refine (HD1.out _).mono ?_
      rintro _ w11 ⟨rfl, b11⟩
      go_wp2_with fail
      go_ret
      exact ⟨rfl, (hm10.lift b11).na.below⟩
    · by_cases g2 : S ≤ A
      · have hr := HR.out
        rw [if_neg g1, if_pos g2] at hr
        rw [← hr] at HD2
        clear hr HR HDD
        go_wp2_with fail
        refine (HA.out _).mono ?_
        rintro _ w10 ⟨rfl, b10⟩
        have hm10 := hm.lift b10
        clear e1 e2 e3 e4 f1 f2 f3 f4 d1 d2 d3 d4 d5 d6
        obtain ⟨⟨e1, e2⟩, e3, e4⟩ := blk2 hm10.v
        obtain ⟨⟨f1, f2⟩, f3, f4⟩ := blk2 hm10.u
        obtain ⟨_, d1, d2, d3, d4, d5, d6⟩ := hm10.na.c
        clear b10
        go_wp2_with fail
        refine (HQ.out _).mono ?_
        rintro _ w11 ⟨rfl, b11⟩
        have hm11 := hm10.lift b11
        clear e1 e2 e3 e4 f1 f2 f3 f4 d1 d2 d3 d4 d5 d6
        obtain ⟨⟨e1, e2⟩, e3, e4⟩ := blk2 hm11.v
        obtain ⟨⟨f1, f2⟩, f3, f4⟩ := blk2 hm11.u
        obtain ⟨_, d1, d2, d3, d4, d5, d6⟩ := hm11.na.c
        clear b11
        go_wp2_with fail
        refine (HD2.out _).mono ?_
        rintro _ w12 ⟨rfl, b12⟩
        go_wp2_with fail
        go_ret
        exact ⟨rfl, (hm11.lift b12).na.below⟩
      · have hr := HR.out
        rw [if_neg g1, if_neg g2] at hr
        obtain ⟨hi, lo, q, hq, q1, q2, HM0, HV0⟩ := HDD.out (by omega) (by omega)
        rw [← hq] at hr
        have HR2 := hide hr
        have HM := hide HM0
        have HV := hide HV0
        clear hr HR HDD hq HM0 HV0
        have hS0 : 0 < S := by omega
        by_cases g3 : C < 0
        · have e0 : ((C.natAbs : Nat) : Int) = -C := by omega
          rw [e0] at HM
          clear e0
          go_wp2_with fail
          refine (HA.out _).mono ?_
          rintro _ w10 ⟨rfl, b10⟩
          have hm10 := hm.lift b10
          clear e1 e2 e3 e4 f1 f2 f3 f4 d1 d2 d3 d4 d5 d6
          obtain ⟨⟨e1, e2⟩, e3, e4⟩ := blk2 hm10.v
          obtain ⟨⟨f1, f2⟩, f3, f4⟩ := blk2 hm10.u
          obtain ⟨_, d1, d2, d3, d4, d5, d6⟩ := hm10.na.c
          clear b10
          go_wp2_with fail
          refine (HQ.out _).mono ?_
          rintro _ w11 ⟨rfl, b11⟩
          have hm11 := hm10.lift b11
          clear e1 e2 e3 e4 f1 f2 f3 f4 d1 d2 d3 d4 d5 d6
          obtain ⟨⟨e1, e2⟩, e3, e4⟩ := blk2 hm11.v
          obtain ⟨⟨f1, f2⟩, f3, f4⟩ := blk2 hm11.u
          obtain ⟨_, d1, d2, d3, d4, d5, d6⟩ := hm11.na.c
          clear b11
          go_wp2_with fail
          refine (HX.out _).mono ?_
          rintro _ w12 ⟨rfl, b12⟩
          have hm12 := hm11.lift b12
          clear e1 e2 e3 e4 f1 f2 f3 f4 d1 d2 d3 d4 d5 d6
          obtain ⟨⟨e1, e2⟩, e3, e4⟩ := blk2 hm12.v
          obtain ⟨⟨f1, f2⟩, f3, f4⟩ := blk2 hm12.u
          obtain ⟨_, d1, d2, d3, d4, d5, d6⟩ := hm12.na.c
          clear b12
          go_wp2_with fail
          refine (HM.out _).mono ?_
          rintro _ _ ⟨rfl, rfl⟩
          go_wp2_with fail
          refine (HQ.out _).mono ?_
          rintro _ w13 ⟨rfl, b13⟩
          have hm13 := hm12.lift b13
          clear e1 e2 e3 e4 f1 f2 f3 f4 d1 d2 d3 d4 d5 d6
          obtain ⟨⟨e1, e2⟩, e3, e4⟩ := blk2 hm13.v
          obtain ⟨⟨f1, f2⟩, f3, f4⟩ := blk2 hm13.u
          obtain ⟨_, d1, d2, d3, d4, d5, d6⟩ := hm13.na.c
          clear b13
          go_wp2_with fail
          refine (HV.out _).mono ?_
          rintro _ w14 ⟨⟨r, rfl⟩, b14⟩
          go_wp2_with fail
          go_ret
          exact ⟨ret_int HR2.out.symm, (hm13.lift b14).na.below⟩
        · have e0 : ((C.natAbs : Nat) : Int) = C := by omega
          rw [e0] at HM
          clear e0
          go_wp2_with fail
          refine (HA.out _).mono ?_
          rintro _ w10 ⟨rfl, b10⟩
          have hm10 := hm.lift b10
          clear e1 e2 e3 e4 f1 f2 f3 f4 d1 d2 d3 d4 d5 d6
          obtain ⟨⟨e1, e2⟩, e3, e4⟩ := blk2 hm10.v
          obtain ⟨⟨f1, f2⟩, f3, f4⟩ := blk2 hm10.u
          obtain ⟨_, d1, d2, d3, d4, d5, d6⟩ := hm10.na.c
          clear b10
          go_wp2_with fail
          refine (HQ.out _).mono ?_
          rintro _ w11 ⟨rfl, b11⟩
          have hm11 := hm10.lift b11
          clear e1 e2 e3 e4 f1 f2 f3 f4 d1 d2 d3 d4 d5 d6
          obtain ⟨⟨e1, e2⟩, e3, e4⟩ := blk2 hm11.v
          obtain ⟨⟨f1, f2⟩, f3, f4⟩ := blk2 hm11.u
          obtain ⟨_, d1, d2, d3, d4, d5, d6⟩ := hm11.na.c
          clear b11
          go_wp2_with fail
          refine (HX.out _).mono ?_
          rintro _ w12 ⟨rfl, b12⟩
          have hm12 := hm11.lift b12
          clear e1 e2 e3 e4 f1 f2 f3 f4 d1 d2 d3 d4 d5 d6
          obtain ⟨⟨e1, e2⟩, e3, e4⟩ := blk2 hm12.v
          obtain ⟨⟨f1, f2⟩, f3, f4⟩ := blk2 hm12.u
          obtain ⟨_, d1, d2, d3, d4, d5, d6⟩ := hm12.na.c
          clear b12
          go_wp2_with fail
          refine (HM.out _).mono ?_
          rintro _ _ ⟨rfl, rfl⟩
          go_wp2_with fail
          refine (HQ.out _).mono ?_
          rintro _ w13 ⟨rfl, b13⟩
          have hm13 := hm12.lift b13
          clear e1 e2 e3 e4 f1 f2 f3 f4 d1 d2 d3 d4 d5 d6
          obtain ⟨⟨e1, e2⟩, e3, e4⟩ := blk2 hm13.v
          obtain ⟨⟨f1, f2⟩, f3, f4⟩ := blk2 hm13.u
          obtain ⟨_, d1, d2, d3, d4, d5, d6⟩ := hm13.na.c
          clear b13
          go_wp2_with fail
          refine (HV.out _).mono ?_
          rintro _ w14 ⟨⟨r, rfl⟩, b14⟩
          go_wp2_with fail
          go_ret
          exact ⟨ret_int HR2.out.symm, (hm13.lift b14).na.below⟩

theorem near_of (ax ay bx bY px py : Int) (w : World)
    (hd : nearL [⟨ax, ay⟩, ⟨bx, bY⟩, ⟨px, py⟩] = true → 0 < along ⟨⟨ax, ay⟩, ⟨bx, bY⟩⟩ ⟨px, py⟩ → along ⟨⟨ax, ay⟩, ⟨bx, bY⟩⟩ ⟨px, py⟩ < sqv ⟨⟨ax, ay⟩, ⟨bx, bY⟩⟩ → DivOk (crs ⟨⟨ax, ay⟩, ⟨bx, bY⟩⟩ ⟨px, py⟩) (sqv ⟨⟨ax, ay⟩, ⟨bx, bY⟩⟩)) :
    Calls Try.prog 21 #[.agg #[.int .i64 ax, .int .i64 ay, .int .i64 bx, .int .i64 bY], .agg #[.int .i64 px, .int .i64 py]] w fun e w' => e = .returned (.int .i64 (nearV ⟨⟨ax, ay⟩, ⟨bx, bY⟩⟩ ⟨px, py⟩)) ∧ Below w.heap.size w w' := by
  cases hn : nearL [⟨ax, ay⟩, ⟨bx, bY⟩, ⟨px, py⟩] with
  | true => exact near_in ax ay bx bY px py w hn (hd hn)
  | false =>
    have hr : nearV ⟨⟨ax, ay⟩, ⟨bx, bY⟩⟩ ⟨px, py⟩ = 0 := by unfold nearV; simp only; rw [hn]; rfl
    rw [hr]
    have HN := hide (near3 ax ay bx bY px py false hn)
    clear hn hr hd
    go_enter Try.func21, Try.ntmps21
    go_wp2_with fail
    refine (HN.out _ _ _ _ (by simp)).mono ?_
    rintro _ w1 ⟨rfl, b1⟩
    go_wp2_with fail
    go_ret
    exact ⟨rfl, bto (((Below.refl _ _).alloc (Nat.le_refl _) _).alloc (by simp) _) b1⟩
