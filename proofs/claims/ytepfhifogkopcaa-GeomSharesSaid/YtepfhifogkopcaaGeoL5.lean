/-
  GeomShares, walked: it returns true.
-/
import Derived.Test.YtepfhifogkopcaaGeoL3
import Derived.Test.YtepfhifogkopcaaPlainS
import Derived.BigQuiet
import Derived.Deep.DeepCutAuto
namespace Go.Proofs.Ytepfhifogkopcaa
open Go.RowKit Go.Proofs.PlGeom

/-- A region that draws its order, all of whose operations are quiet in a class of worlds, written out. -/
theorem wp_region_quietW {P : Program} {id : Nat} {Q : Exit → Act → World → Prop} {a : Act} {w : World} {l : List Oper} {J : Type} (W : J → World) (u : J) (hu : w.drew = W u) (hm : P.follows .mixedOrders = true) (hB : Region.lexB .any l.toArray = true)
    (h : wpQuiet P l.toArray (fun w' => ∃ u, w' = W u) (fun a' => ∀ w', (∃ u, w' = W u) → Q .normal a' w') l a) : (Code.region id l.toArray true).wp P Q a w :=
  wp_region_quiet (C := fun w' => ∃ u, w' = W u) hm hB ⟨u, hu⟩ (by simpa using h)

/-- Two segments and two points in boxes. -/
structure TB (w wx : World) (ax ay bx bY cx cy dx dy px py qx qy : Int) : Prop where
  a : wx.heap[w.heap.size]? = some (.cells #[.int .i64 ax, .int .i64 ay, .int .i64 bx, .int .i64 bY] 25 (0, 0))
  b : wx.heap[w.heap.size + 1]? = some (.cells #[.int .i64 cx, .int .i64 cy, .int .i64 dx, .int .i64 dy] 25 (0, 0))
  c : wx.heap[w.heap.size + 2]? = some (.cells #[.int .i64 px, .int .i64 py] 23 (0, 0))
  e : wx.heap[w.heap.size + 3]? = some (.cells #[.int .i64 qx, .int .i64 qy] 23 (0, 0))
  below : Below w.heap.size w wx
theorem TB.lift {w wx wy : World} {ax ay bx bY cx cy dx dy px py qx qy : Int} (h : TB w wx ax ay bx bY cx cy dx dy px py qx qy) (hb : Below wx.heap.size wx wy) : TB w wy ax ay bx bY cx cy dx dy px py qx qy := ⟨blkB hb h.a, blkB hb h.b, blkB hb h.c, blkB hb h.e, bto h.below hb⟩
theorem TB.drew {w wx : World} {ax ay bx bY cx cy dx dy px py qx qy : Int} (h : TB w wx ax ay bx bY cx cy dx dy px py qx qy) : TB w wx.drew ax ay bx bY cx cy dx dy px py qx qy := ⟨h.a, h.b, h.c, h.e, h.below.drew⟩
theorem TB.s {w wx : World} {ax ay bx bY cx cy dx dy px py qx qy : Int} (h : TB w wx ax ay bx bY cx cy dx dy px py qx qy) : wx.cell? ⟨w.heap.size, 0, none⟩ = some (.int .i64 ax) ∧ wx.cell? ⟨w.heap.size, 1, none⟩ = some (.int .i64 ay) ∧ wx.cell? ⟨w.heap.size, 2, none⟩ = some (.int .i64 bx) ∧ wx.cell? ⟨w.heap.size, 3, none⟩ = some (.int .i64 bY) ∧ wx.cell? ⟨w.heap.size + 1, 0, none⟩ = some (.int .i64 cx) ∧ wx.cell? ⟨w.heap.size + 1, 1, none⟩ = some (.int .i64 cy) ∧ wx.cell? ⟨w.heap.size + 1, 2, none⟩ = some (.int .i64 dx) ∧ wx.cell? ⟨w.heap.size + 1, 3, none⟩ = some (.int .i64 dy) ∧ wx.cell? ⟨w.heap.size + 2, 0, none⟩ = some (.int .i64 px) ∧ wx.cell? ⟨w.heap.size + 2, 1, none⟩ = some (.int .i64 py) ∧ wx.cell? ⟨w.heap.size + 3, 0, none⟩ = some (.int .i64 qx) ∧ wx.cell? ⟨w.heap.size + 3, 1, none⟩ = some (.int .i64 qy) :=
  ⟨(blk4 h.a).1.1, (blk4 h.a).1.2.1, (blk4 h.a).1.2.2.1, (blk4 h.a).1.2.2.2, (blk4 h.b).1.1, (blk4 h.b).1.2.1, (blk4 h.b).1.2.2.1, (blk4 h.b).1.2.2.2, (blk2 h.c).1.1, (blk2 h.c).1.2, (blk2 h.e).1.1, (blk2 h.e).1.2⟩
def TBs (w : World) (ax ay bx bY cx cy dx dy px py qx qy : Int) : Type := {wx : World // TB w wx ax ay bx bY cx cy dx dy px py qx qy}
def TBs.w {w : World} {ax ay bx bY cx cy dx dy px py qx qy : Int} (u : TBs w ax ay bx bY cx cy dx dy px py qx qy) : World := u.1
theorem TBs.s (w : World) (ax ay bx bY cx cy dx dy px py qx qy : Int) : (∀ u : TBs w ax ay bx bY cx cy dx dy px py qx qy, u.w.cell? ⟨w.heap.size, 0, none⟩ = some (.int .i64 ax)) ∧ (∀ u : TBs w ax ay bx bY cx cy dx dy px py qx qy, u.w.cell? ⟨w.heap.size, 1, none⟩ = some (.int .i64 ay)) ∧ (∀ u : TBs w ax ay bx bY cx cy dx dy px py qx qy, u.w.cell? ⟨w.heap.size, 2, none⟩ = some (.int .i64 bx)) ∧ (∀ u : TBs w ax ay bx bY cx cy dx dy px py qx qy, u.w.cell? ⟨w.heap.size, 3, none⟩ = some (.int .i64 bY)) ∧ (∀ u : TBs w ax ay bx bY cx cy dx dy px py qx qy, u.w.cell? ⟨w.heap.size + 1, 0, none⟩ = some (.int .i64 cx)) ∧ (∀ u : TBs w ax ay bx bY cx cy dx dy px py qx qy, u.w.cell? ⟨w.heap.size + 1, 1, none⟩ = some (.int .i64 cy)) ∧ (∀ u : TBs w ax ay bx bY cx cy dx dy px py qx qy, u.w.cell? ⟨w.heap.size + 1, 2, none⟩ = some (.int .i64 dx)) ∧ (∀ u : TBs w ax ay bx bY cx cy dx dy px py qx qy, u.w.cell? ⟨w.heap.size + 1, 3, none⟩ = some (.int .i64 dy)) ∧ (∀ u : TBs w ax ay bx bY cx cy dx dy px py qx qy, u.w.cell? ⟨w.heap.size + 2, 0, none⟩ = some (.int .i64 px)) ∧ (∀ u : TBs w ax ay bx bY cx cy dx dy px py qx qy, u.w.cell? ⟨w.heap.size + 2, 1, none⟩ = some (.int .i64 py)) ∧ (∀ u : TBs w ax ay bx bY cx cy dx dy px py qx qy, u.w.cell? ⟨w.heap.size + 3, 0, none⟩ = some (.int .i64 qx)) ∧ (∀ u : TBs w ax ay bx bY cx cy dx dy px py qx qy, u.w.cell? ⟨w.heap.size + 3, 1, none⟩ = some (.int .i64 qy)) :=
  ⟨fun u => u.2.s.1, fun u => u.2.s.2.1, fun u => u.2.s.2.2.1, fun u => u.2.s.2.2.2.1, fun u => u.2.s.2.2.2.2.1, fun u => u.2.s.2.2.2.2.2.1, fun u => u.2.s.2.2.2.2.2.2.1, fun u => u.2.s.2.2.2.2.2.2.2.1, fun u => u.2.s.2.2.2.2.2.2.2.2.1, fun u => u.2.s.2.2.2.2.2.2.2.2.2.1, fun u => u.2.s.2.2.2.2.2.2.2.2.2.2.1, fun u => u.2.s.2.2.2.2.2.2.2.2.2.2.2⟩
theorem TBs.go {w : World} {ax ay bx bY cx cy dx dy px py qx qy : Int} (u : TBs w ax ay bx bY cx cy dx dy px py qx qy) {w8 : World} (hb : Below u.w.heap.size u.w w8) : ∃ u' : TBs w ax ay bx bY cx cy dx dy px py qx qy, w8 = u'.w := ⟨⟨w8, u.2.lift hb⟩, rfl⟩
theorem vbool {a b : Bool} (h : a = b) : Value.bool a = Value.bool b := by rw [h]
theorem lnear6 (ax ay bx bY cx cy dx dy px py qx qy : Int) (b : Bool) (hb : nearL [⟨ax, ay⟩, ⟨bx, bY⟩, ⟨cx, cy⟩, ⟨dx, dy⟩, ⟨px, py⟩, ⟨qx, qy⟩] = b) (w : World) (t : TypeId) (g c : Nat) (hg : w.heap.size = g) :
    Calls Try.prog 25 #[.slice (some ⟨g, 0, none⟩) 6 c] (w.alloc (.cells #[.int .i64 ax, .int .i64 ay, .int .i64 bx, .int .i64 bY, .int .i64 cx, .int .i64 cy, .int .i64 dx, .int .i64 dy, .int .i64 px, .int .i64 py, .int .i64 qx, .int .i64 qy] t)) fun e w' => e = .returned (.bool b) ∧ Below w.heap.size w w' :=
  lnear_new [⟨ax, ay⟩, ⟨bx, bY⟩, ⟨cx, cy⟩, ⟨dx, dy⟩, ⟨px, py⟩, ⟨qx, qy⟩] [.int .i64 ax, .int .i64 ay, .int .i64 bx, .int .i64 bY, .int .i64 cx, .int .i64 cy, .int .i64 dx, .int .i64 dy, .int .i64 px, .int .i64 py, .int .i64 qx, .int .i64 qy] t w g c hg rfl (by simp) b hb

set_option maxRecDepth 100000 in
set_option maxHeartbeats 4000000 in
theorem shares_walk (ax ay bx bY cx cy dx dy px py qx qy : Int) (w : World) : Calls Try.prog 7 #[.agg #[.int .i64 ax, .int .i64 ay, .int .i64 bx, .int .i64 bY], .agg #[.int .i64 cx, .int .i64 cy, .int .i64 dx, .int .i64 dy], .agg #[.int .i64 px, .int .i64 py], .agg #[.int .i64 qx, .int .i64 qy]] w fun e w' => e = .returned (.bool true) ∧ Below w.heap.size w w' := by
  have H1 := hide (meets_any ax ay bx bY cx cy dx dy)
  cases hn : nearL [⟨ax, ay⟩, ⟨bx, bY⟩, ⟨cx, cy⟩, ⟨dx, dy⟩, ⟨px, py⟩, ⟨qx, qy⟩] with
  | false =>
    have HN := hide (lnear6 ax ay bx bY cx cy dx dy px py qx qy false hn)
    clear hn
    go_enter Try.func7, Try.ntmps7
    go_wp2_with fail
    refine (head_any _).mono ?_
    rintro _ w1 ⟨rfl, b1⟩
    have hm : TB w w1 ax ay bx bY cx cy dx dy px py qx qy := ⟨blkB b1 (blkO _ (blkO _ (blkO _ (blkN _ _ _ rfl)))), blkB b1 (blkO _ (blkO _ (blkN _ _ _ (by simp)))), blkB b1 (blkO _ (blkN _ _ _ (by simp))), blkB b1 (blkN _ _ _ (by simp)), bto (((((Below.refl _ _).alloc (Nat.le_refl _) _).alloc (by simp) _).alloc (by simp; omega) _).alloc (by simp; omega) _) b1⟩
    clear b1
    obtain ⟨d1, d2, d3, d4, d5, d6, d7, d8, d9, d10, d11, d12⟩ := hm.s
    go_wp2_with fail
    refine (HN.out _ _ _ _ (by simp)).mono ?_
    rintro _ w2 ⟨rfl, b2⟩
    have hm2 := hm.lift b2
    clear d1 d2 d3 d4 d5 d6 d7 d8 d9 d10 d11 d12
    clear b2
    obtain ⟨d1, d2, d3, d4, d5, d6, d7, d8, d9, d10, d11, d12⟩ := hm2.s
    go_wp2_with fail
    go_ret
    exact ⟨rfl, hm2.below⟩
  | true =>
    have HN := hide (lnear6 ax ay bx bY cx cy dx dy px py qx qy true hn)
    simp only [nearL, Bool.and_true, Bool.and_eq_true] at hn
    obtain ⟨n1, n2, n3, n4, n5, n6⟩ := hn
    obtain ⟨m1, m2, l3, l4⟩ := shares_law ⟨⟨ax, ay⟩, ⟨bx, bY⟩⟩ ⟨⟨cx, cy⟩, ⟨dx, dy⟩⟩ (by simp [nearL, n1, n2, n3, n4])
    have l1 := m1 ⟨px, py⟩ n5
    have l2 := m2 ⟨px, py⟩ ⟨qx, qy⟩ n5 n6
    unfold apartB at l3
    unfold endsB at l4
    simp only at l3 l4
    have he := ptEq_iff ⟨px, py⟩ ⟨qx, qy⟩
    simp only at he
    have HO1 := hide (on_any ax ay bx bY px py)
    have HO2 := hide (on_any cx cy dx dy px py)
    have HO3 := hide (on_any ax ay bx bY qx qy)
    have HO4 := hide (on_any cx cy dx dy qx qy)
    have HE1 := hide (on_any cx cy dx dy ax ay)
    have HE2 := hide (on_any cx cy dx dy bx bY)
    have HE3 := hide (on_any ax ay bx bY cx cy)
    have HE4 := hide (on_any ax ay bx bY dx dy)
    have HR1 := hide (orient_any ax ay bx bY cx cy)
    have HR2 := hide (orient_any ax ay bx bY dx dy)
    have HR3 := hide (orient_any cx cy dx dy ax ay)
    have HR4 := hide (orient_any cx cy dx dy bx bY)
    have p1 := orient_prod ⟨ax, ay⟩ ⟨bx, bY⟩ ⟨cx, cy⟩ ⟨ax, ay⟩ ⟨bx, bY⟩ ⟨dx, dy⟩
    have p2 := orient_prod ⟨cx, cy⟩ ⟨dx, dy⟩ ⟨ax, ay⟩ ⟨cx, cy⟩ ⟨dx, dy⟩ ⟨bx, bY⟩
    generalize meets ⟨⟨ax, ay⟩, ⟨bx, bY⟩⟩ ⟨⟨cx, cy⟩, ⟨dx, dy⟩⟩ = k at *
    generalize orient ⟨ax, ay⟩ ⟨bx, bY⟩ ⟨cx, cy⟩ = r1 at *
    generalize orient ⟨ax, ay⟩ ⟨bx, bY⟩ ⟨dx, dy⟩ = r2 at *
    generalize orient ⟨cx, cy⟩ ⟨dx, dy⟩ ⟨ax, ay⟩ = r3 at *
    generalize orient ⟨cx, cy⟩ ⟨dx, dy⟩ ⟨bx, bY⟩ = r4 at *
    generalize onS ⟨⟨ax, ay⟩, ⟨bx, bY⟩⟩ ⟨px, py⟩ = o1 at *
    generalize onS ⟨⟨cx, cy⟩, ⟨dx, dy⟩⟩ ⟨px, py⟩ = o2 at *
    generalize onS ⟨⟨ax, ay⟩, ⟨bx, bY⟩⟩ ⟨qx, qy⟩ = o3 at *
    generalize onS ⟨⟨cx, cy⟩, ⟨dx, dy⟩⟩ ⟨qx, qy⟩ = o4 at *
    generalize onS ⟨⟨cx, cy⟩, ⟨dx, dy⟩⟩ ⟨ax, ay⟩ = e1 at *
    generalize onS ⟨⟨cx, cy⟩, ⟨dx, dy⟩⟩ ⟨bx, bY⟩ = e2 at *
    generalize onS ⟨⟨ax, ay⟩, ⟨bx, bY⟩⟩ ⟨cx, cy⟩ = e3 at *
    generalize onS ⟨⟨ax, ay⟩, ⟨bx, bY⟩⟩ ⟨dx, dy⟩ = e4 at *
    obtain ⟨eq, hq⟩ : ∃ b, ptEq px py qx qy = b := ⟨_, rfl⟩
    obtain ⟨t1, ht1⟩ : ∃ b, (o1 && o2) = b := ⟨_, rfl⟩
    obtain ⟨t2, ht2⟩ : ∃ b, (o3 && o4) = b := ⟨_, rfl⟩
    obtain ⟨E, hE⟩ : ∃ b, (e1 || e2 || e3 || e4) = b := ⟨_, rfl⟩
    obtain ⟨A1, hA1⟩ : ∃ b, decide (r1 * r2 < 0) = b := ⟨_, rfl⟩
    obtain ⟨A2, hA2⟩ : ∃ b, decide (r3 * r4 < 0) = b := ⟨_, rfl⟩
    have g1 : t1 = true → (k == 0) = false := fun e => by
      rw [← ht1, Bool.and_eq_true] at e
      simpa using l1 e.1 e.2
    have g2 : t1 = true → t2 = true → eq = false → k = 4 ∨ k = 5 := fun e f g => by
      rw [← ht1, Bool.and_eq_true] at e
      rw [← ht2, Bool.and_eq_true] at f
      rw [← hq, he] at g
      exact l2 e.1 e.2 f.1 f.2 (by simpa using g)
    rw [hA1, hA2] at l3
    rw [hE] at l4
    have G1 := hide g1
    have G2 := hide g2
    have HT1 := hide ht1
    have HT2 := hide ht2
    have HE := hide hE
    have HA1 := hide hA1
    have HA2 := hide hA2
    have HQ := hide hq
    have L3 := hide l3
    have L4 := hide l4
    clear m1 m2 l1 l2 l3 l4 g1 g2 ht1 ht2 hE hA1 hA2 hq he n1 n2 n3 n4 n5 n6
    go_enter Try.func7, Try.ntmps7
    go_wp2_with fail
    refine (head_any _).mono ?_
    rintro _ w1 ⟨rfl, b1⟩
    have hm : TB w w1 ax ay bx bY cx cy dx dy px py qx qy := ⟨blkB b1 (blkO _ (blkO _ (blkO _ (blkN _ _ _ rfl)))), blkB b1 (blkO _ (blkO _ (blkN _ _ _ (by simp)))), blkB b1 (blkO _ (blkN _ _ _ (by simp))), blkB b1 (blkN _ _ _ (by simp)), bto (((((Below.refl _ _).alloc (Nat.le_refl _) _).alloc (by simp) _).alloc (by simp; omega) _).alloc (by simp; omega) _) b1⟩
    clear b1
    obtain ⟨d1, d2, d3, d4, d5, d6, d7, d8, d9, d10, d11, d12⟩ := hm.s
    go_wp2_with fail
    refine (HN.out _ _ _ _ (by simp)).mono ?_
    rintro _ w2 ⟨rfl, b2⟩
    have hm2 := hm.lift b2
    clear d1 d2 d3 d4 d5 d6 d7 d8 d9 d10 d11 d12
    clear b2
    obtain ⟨d1, d2, d3, d4, d5, d6, d7, d8, d9, d10, d11, d12⟩ := hm2.s
    go_wp2_with fail
    refine (H1.out _).mono ?_
    rintro _ w3 ⟨rfl, b3⟩
    have hm3 := hm2.lift b3
    clear d1 d2 d3 d4 d5 d6 d7 d8 d9 d10 d11 d12
    clear b3
    obtain ⟨d1, d2, d3, d4, d5, d6, d7, d8, d9, d10, d11, d12⟩ := hm3.s
    clear hm hm2 H1 HN
    have hm := hm3
    clear hm3
    go_upto_region 5 with (fail)
    go_cut [11] (fun s wx => s = .bool t1 ∧ TB w wx ax ay bx bY cx cy dx dy px py qx qy)
    case first =>
      cases o1 with
      | true =>
        go_wp2_with fail
        refine (HO1.out _).mono ?_
        rintro _ w20 ⟨rfl, b20⟩
        have hm20 := hm.lift b20
        clear d1 d2 d3 d4 d5 d6 d7 d8 d9 d10 d11 d12
        clear b20
        obtain ⟨d1, d2, d3, d4, d5, d6, d7, d8, d9, d10, d11, d12⟩ := hm20.s
        go_wp2_with fail
        refine (HO2.out _).mono ?_
        rintro _ w21 ⟨rfl, b21⟩
        have hm21 := hm20.lift b21
        clear d1 d2 d3 d4 d5 d6 d7 d8 d9 d10 d11 d12
        clear b21
        obtain ⟨d1, d2, d3, d4, d5, d6, d7, d8, d9, d10, d11, d12⟩ := hm21.s
        go_wp2_with fail
        go_meet
        exact ⟨vbool HT1.out, hm21⟩
      | false =>
        go_wp2_with fail
        refine (HO1.out _).mono ?_
        rintro _ w20 ⟨rfl, b20⟩
        have hm20 := hm.lift b20
        clear d1 d2 d3 d4 d5 d6 d7 d8 d9 d10 d11 d12
        clear b20
        obtain ⟨d1, d2, d3, d4, d5, d6, d7, d8, d9, d10, d11, d12⟩ := hm20.s
        go_wp2_with fail
        go_meet
        exact ⟨vbool HT1.out, hm20⟩
    case rest =>
      clear hm d1 d2 d3 d4 d5 d6 d7 d8 d9 d10 d11 d12
      obtain ⟨rfl, hm⟩ := hcut
      obtain ⟨d1, d2, d3, d4, d5, d6, d7, d8, d9, d10, d11, d12⟩ := hm.s
      clear HO1 HO2 HT1
      go_upto_region 6 with (fail)
      go_cut [12] (fun s wx => s = .bool t2 ∧ TB w wx ax ay bx bY cx cy dx dy px py qx qy)
      case first =>
        cases o3 with
        | true =>
          go_wp2_with fail
          refine (HO3.out _).mono ?_
          rintro _ w20 ⟨rfl, b20⟩
          have hm20 := hm.lift b20
          clear d1 d2 d3 d4 d5 d6 d7 d8 d9 d10 d11 d12
          clear b20
          obtain ⟨d1, d2, d3, d4, d5, d6, d7, d8, d9, d10, d11, d12⟩ := hm20.s
          go_wp2_with fail
          refine (HO4.out _).mono ?_
          rintro _ w21 ⟨rfl, b21⟩
          have hm21 := hm20.lift b21
          clear d1 d2 d3 d4 d5 d6 d7 d8 d9 d10 d11 d12
          clear b21
          obtain ⟨d1, d2, d3, d4, d5, d6, d7, d8, d9, d10, d11, d12⟩ := hm21.s
          go_wp2_with fail
          go_meet
          exact ⟨vbool HT2.out, hm21⟩
        | false =>
          go_wp2_with fail
          refine (HO3.out _).mono ?_
          rintro _ w20 ⟨rfl, b20⟩
          have hm20 := hm.lift b20
          clear d1 d2 d3 d4 d5 d6 d7 d8 d9 d10 d11 d12
          clear b20
          obtain ⟨d1, d2, d3, d4, d5, d6, d7, d8, d9, d10, d11, d12⟩ := hm20.s
          go_wp2_with fail
          go_meet
          exact ⟨vbool HT2.out, hm20⟩
      case rest =>
        clear hm d1 d2 d3 d4 d5 d6 d7 d8 d9 d10 d11 d12
        obtain ⟨rfl, hm⟩ := hcut
        obtain ⟨d1, d2, d3, d4, d5, d6, d7, d8, d9, d10, d11, d12⟩ := hm.s
        clear HO3 HO4 HT2
        go_upto_region 7 with (fail)
        go_cut [72] (fun s wx => s = .bool false ∧ TB w wx ax ay bx bY cx cy dx dy px py qx qy)
        case first =>
          cases t1 with
          | false => go_wp2_with fail; go_meet; exact ⟨rfl, hm⟩
          | true =>
            have z1 := G1.out rfl
            cases t2 with
            | false => clear G1 G2; go_wp2_with fail; go_meet; exact ⟨rfl, hm⟩
            | true =>
              cases eq with
              | true => have z2 := HQ.out; clear G1 G2; go_wp2_with fail; go_meet; exact ⟨rfl, hm⟩
              | false =>
                rcases G2.out rfl rfl rfl with rfl | rfl
                · have z2 := HQ.out; clear G1 G2; go_wp2_with fail; go_meet; exact ⟨rfl, hm⟩
                · have z2 := HQ.out; clear G1 G2; go_wp2_with fail; go_meet; exact ⟨rfl, hm⟩
        case rest =>
          clear hm d1 d2 d3 d4 d5 d6 d7 d8 d9 d10 d11 d12
          obtain ⟨rfl, hm⟩ := hcut
          obtain ⟨d1, d2, d3, d4, d5, d6, d7, d8, d9, d10, d11, d12⟩ := hm.s
          clear G1 G2 HQ
          go_upto_region 10 with (fail)
          go_cut [94] (fun s wx => s = .bool E ∧ TB w wx ax ay bx bY cx cy dx dy px py qx qy)
          case first =>
            cases e1 with
            | true =>
              go_wp2_with fail
              refine (HE1.out _).mono ?_
              rintro _ w20 ⟨rfl, b20⟩
              have hm20 := hm.lift b20
              clear d1 d2 d3 d4 d5 d6 d7 d8 d9 d10 d11 d12
              clear b20
              obtain ⟨d1, d2, d3, d4, d5, d6, d7, d8, d9, d10, d11, d12⟩ := hm20.s
              go_wp2_with fail
              go_meet
              exact ⟨vbool HE.out, hm20⟩
            | false =>
              cases e2 with
              | true =>
                go_wp2_with fail
                refine (HE1.out _).mono ?_
                rintro _ w20 ⟨rfl, b20⟩
                have hm20 := hm.lift b20
                clear d1 d2 d3 d4 d5 d6 d7 d8 d9 d10 d11 d12
                clear b20
                obtain ⟨d1, d2, d3, d4, d5, d6, d7, d8, d9, d10, d11, d12⟩ := hm20.s
                go_wp2_with fail
                refine (HE2.out _).mono ?_
                rintro _ w21 ⟨rfl, b21⟩
                have hm21 := hm20.lift b21
                clear d1 d2 d3 d4 d5 d6 d7 d8 d9 d10 d11 d12
                clear b21
                obtain ⟨d1, d2, d3, d4, d5, d6, d7, d8, d9, d10, d11, d12⟩ := hm21.s
                go_wp2_with fail
                go_meet
                exact ⟨vbool HE.out, hm21⟩
              | false =>
                cases e3 with
                | true =>
                  go_wp2_with fail
                  refine (HE1.out _).mono ?_
                  rintro _ w20 ⟨rfl, b20⟩
                  have hm20 := hm.lift b20
                  clear d1 d2 d3 d4 d5 d6 d7 d8 d9 d10 d11 d12
                  clear b20
                  obtain ⟨d1, d2, d3, d4, d5, d6, d7, d8, d9, d10, d11, d12⟩ := hm20.s
                  go_wp2_with fail
                  refine (HE2.out _).mono ?_
                  rintro _ w21 ⟨rfl, b21⟩
                  have hm21 := hm20.lift b21
                  clear d1 d2 d3 d4 d5 d6 d7 d8 d9 d10 d11 d12
                  clear b21
                  obtain ⟨d1, d2, d3, d4, d5, d6, d7, d8, d9, d10, d11, d12⟩ := hm21.s
                  go_wp2_with fail
                  refine (HE3.out _).mono ?_
                  rintro _ w22 ⟨rfl, b22⟩
                  have hm22 := hm21.lift b22
                  clear d1 d2 d3 d4 d5 d6 d7 d8 d9 d10 d11 d12
                  clear b22
                  obtain ⟨d1, d2, d3, d4, d5, d6, d7, d8, d9, d10, d11, d12⟩ := hm22.s
                  go_wp2_with fail
                  go_meet
                  exact ⟨vbool HE.out, hm22⟩
                | false =>
                  go_wp2_with fail
                  refine (HE1.out _).mono ?_
                  rintro _ w20 ⟨rfl, b20⟩
                  have hm20 := hm.lift b20
                  clear d1 d2 d3 d4 d5 d6 d7 d8 d9 d10 d11 d12
                  clear b20
                  obtain ⟨d1, d2, d3, d4, d5, d6, d7, d8, d9, d10, d11, d12⟩ := hm20.s
                  go_wp2_with fail
                  refine (HE2.out _).mono ?_
                  rintro _ w21 ⟨rfl, b21⟩
                  have hm21 := hm20.lift b21
                  clear d1 d2 d3 d4 d5 d6 d7 d8 d9 d10 d11 d12
                  clear b21
                  obtain ⟨d1, d2, d3, d4, d5, d6, d7, d8, d9, d10, d11, d12⟩ := hm21.s
                  go_wp2_with fail
                  refine (HE3.out _).mono ?_
                  rintro _ w22 ⟨rfl, b22⟩
                  have hm22 := hm21.lift b22
                  clear d1 d2 d3 d4 d5 d6 d7 d8 d9 d10 d11 d12
                  clear b22
                  obtain ⟨d1, d2, d3, d4, d5, d6, d7, d8, d9, d10, d11, d12⟩ := hm22.s
                  go_wp2_with fail
                  refine (HE4.out _).mono ?_
                  rintro _ w23 ⟨rfl, b23⟩
                  have hm23 := hm22.lift b23
                  clear d1 d2 d3 d4 d5 d6 d7 d8 d9 d10 d11 d12
                  clear b23
                  obtain ⟨d1, d2, d3, d4, d5, d6, d7, d8, d9, d10, d11, d12⟩ := hm23.s
                  go_wp2_with fail
                  go_meet
                  exact ⟨vbool HE.out, hm23⟩
          case rest =>
            clear hm d1 d2 d3 d4 d5 d6 d7 d8 d9 d10 d11 d12
            obtain ⟨rfl, hm⟩ := hcut
            obtain ⟨d1, d2, d3, d4, d5, d6, d7, d8, d9, d10, d11, d12⟩ := hm.s
            clear HE HE1 HE2 HE3 HE4
            go_upto_if 94 with (fail)
            go_cut [13] (fun s wx => (∃ e : Int, s = .int .i64 e ∧ (e == 1) = E) ∧ TB w wx ax ay bx bY cx cy dx dy px py qx qy)
            case first =>
              cases E with
              | true => go_wp2_with fail; go_meet; exact ⟨⟨1, rfl, rfl⟩, hm⟩
              | false => go_wp2_with fail; go_meet; exact ⟨⟨0, rfl, rfl⟩, hm⟩
            case rest =>
              clear hm d1 d2 d3 d4 d5 d6 d7 d8 d9 d10 d11 d12
              obtain ⟨⟨e, rfl, hee⟩, hm⟩ := hcut
              have HEE := hide hee
              clear hee
              obtain ⟨d1, d2, d3, d4, d5, d6, d7, d8, d9, d10, d11, d12⟩ := hm.s
              go_upto_region 12 with (fail)
              go_cut [14] (fun s wx => s = .bool (A1 && A2) ∧ TB w wx ax ay bx bY cx cy dx dy px py qx qy)
              case first =>
                have HH := hide hm
                clear hm d1 d2 d3 d4 d5 d6 d7 d8 d9 d10 d11 d12
                have a1 := HA1.out
                have a2 := HA2.out
                clear HA1 HA2 HEE L3 L4
                cases A1 with
                | true =>
                  obtain ⟨Y1, Y2, Y3, Y4, Y5, Y6, Y7, Y8, Y9, Y10, Y11, Y12⟩ := TBs.s w ax ay bx bY cx cy dx dy px py qx qy
                  have YN : Nonempty (TBs w ax ay bx bY cx cy dx dy px py qx qy) := ⟨⟨_, HH.out.drew⟩⟩
                  refine wp_region_quietW (J := TBs w ax ay bx bY cx cy dx dy px py qx qy) TBs.w ⟨_, HH.out.drew⟩ rfl (by kernel_rfl) (by kernel_rfl) ?_
                  repeat (go_big_quiet_step ((first | ((with_reducible refine (HR1.out _).mono ?_); rintro _ w8 ⟨rfl, b8⟩; exact ⟨rfl, TBs.go _ b8⟩) | ((with_reducible refine (HR2.out _).mono ?_); rintro _ w8 ⟨rfl, b8⟩; exact ⟨rfl, TBs.go _ b8⟩) | ((with_reducible refine (HR3.out _).mono ?_); rintro _ w8 ⟨rfl, b8⟩; exact ⟨rfl, TBs.go _ b8⟩) | ((with_reducible refine (HR4.out _).mono ?_); rintro _ w8 ⟨rfl, b8⟩; exact ⟨rfl, TBs.go _ b8⟩))))
                  refine wpQuiet_nil ?_
                  rintro w9 ⟨u, rfl⟩
                  have hm9 : TB w u.w ax ay bx bY cx cy dx dy px py qx qy := u.2
                  clear YN Y1 Y2 Y3 Y4 Y5 Y6 Y7 Y8 Y9 Y10 Y11 Y12
                  go_wp2_with fail
                  go_meet
                  exact ⟨rfl, hm9⟩
                | false =>
                  obtain ⟨Y1, Y2, Y3, Y4, Y5, Y6, Y7, Y8, Y9, Y10, Y11, Y12⟩ := TBs.s w ax ay bx bY cx cy dx dy px py qx qy
                  have YN : Nonempty (TBs w ax ay bx bY cx cy dx dy px py qx qy) := ⟨⟨_, HH.out.drew⟩⟩
                  refine wp_region_quietW (J := TBs w ax ay bx bY cx cy dx dy px py qx qy) TBs.w ⟨_, HH.out.drew⟩ rfl (by kernel_rfl) (by kernel_rfl) ?_
                  repeat (go_big_quiet_step ((first | ((with_reducible refine (HR1.out _).mono ?_); rintro _ w8 ⟨rfl, b8⟩; exact ⟨rfl, TBs.go _ b8⟩) | ((with_reducible refine (HR2.out _).mono ?_); rintro _ w8 ⟨rfl, b8⟩; exact ⟨rfl, TBs.go _ b8⟩))))
                  refine wpQuiet_nil ?_
                  rintro w9 ⟨u, rfl⟩
                  have hm9 : TB w u.w ax ay bx bY cx cy dx dy px py qx qy := u.2
                  clear YN Y1 Y2 Y3 Y4 Y5 Y6 Y7 Y8 Y9 Y10 Y11 Y12
                  go_wp2_with fail
                  go_meet
                  exact ⟨rfl, hm9⟩
              case rest =>
                clear hm d1 d2 d3 d4 d5 d6 d7 d8 d9 d10 d11 d12
                obtain ⟨rfl, hm⟩ := hcut
                obtain ⟨d1, d2, d3, d4, d5, d6, d7, d8, d9, d10, d11, d12⟩ := hm.s
                clear HR1 HR2 HR3 HR4 HA1 HA2 p1 p2
                have l3 := L3.out
                have l4 := L4.out
                have hee := HEE.out
                clear L3 L4 HEE
                generalize (A1 && A2) = A at *
                by_cases k3 : k = 3
                · subst k3
                  have hA : A = true := l3.2 rfl
                  have hE : E = false := by
                    cases E
                    · rfl
                    · exact absurd rfl (l4.1 rfl).2
                  subst hA hE
                  clear l3 l4
                  go_wp2_with fail
                  go_ret
                  exact ⟨rfl, hm.below⟩
                · have hA : A = false := by
                    cases A
                    · rfl
                    · exact absurd (l3.1 rfl) k3
                  have z3 : (k == 3) = false := by simpa using k3
                  have z4 : (k != 3) = true := by simpa using k3
                  by_cases k0 : k = 0
                  · have hE : E = false := by
                      cases E
                      · rfl
                      · exact absurd k0 (l4.1 rfl).1
                    have z5 : (k != 0) = false := by simpa using k0
                    subst hA hE
                    clear l3 l4 k3 k0
                    go_wp2_with fail
                    go_ret
                    exact ⟨rfl, hm.below⟩
                  · have hE : E = true := l4.2 ⟨k0, k3⟩
                    have z5 : (k != 0) = true := by simpa using k0
                    subst hA hE
                    clear l3 l4 k3 k0
                    go_wp2_with fail
                    go_ret
                    exact ⟨rfl, hm.below⟩
end Go.Proofs.Ytepfhifogkopcaa
