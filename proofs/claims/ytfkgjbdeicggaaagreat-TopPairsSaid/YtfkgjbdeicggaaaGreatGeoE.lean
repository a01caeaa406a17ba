/-
  online of the geometry, walked.
-/
import Derived.Test.YtfkgjbdeicggaaaGreatGeoD
import Derived.Deep.DeepCutAuto
import Derived.RegionTactic
import Derived.BigRegion
namespace Go.Proofs.YtfkgjbdeicggaaaGreat
open Go.RowKit Go.Proofs.PlGeom

theorem blkS {w : World} {g h : Nat} {o : Obj} (i : Nat) (u : Value) (hk : w.heap[g]? = some o) (hne : g ≠ h) : (w.setCell ⟨h, i, none⟩ u).heap[g]? = some o := (Below.heap_setCell w ⟨h, i, none⟩ u g hne).trans hk
theorem set2 {w : World} {g : Nat} {a b : Value} {t : TypeId} (h : w.heap[g]? = some (.cells #[a, b] t (0, 0))) (u v : Value) : ((w.setCell ⟨g, 0, none⟩ u).setCell ⟨g, 1, none⟩ v).heap[g]? = some (.cells #[u, v] t (0, 0)) := by
  have hlt := lt_of_block h
  have h' : w.heap[g] = .cells #[a, b] t (0, 0) := by simpa [Array.getElem?_eq_getElem hlt] using h
  have e1 : (w.setCell ⟨g, 0, none⟩ u).heap[g]? = some (.cells #[u, b] t (0, 0)) := by
    show (w.heap.modify g _)[g]? = _
    rw [Array.getElem?_eq_getElem (by simpa using hlt), Array.getElem_modify_self, h']
    rfl
  generalize w.setCell ⟨g, 0, none⟩ u = w2 at e1
  have hlt2 := lt_of_block e1
  have h2' : w2.heap[g] = .cells #[u, b] t (0, 0) := by simpa [Array.getElem?_eq_getElem hlt2] using e1
  show (w2.heap.modify g _)[g]? = _
  rw [Array.getElem?_eq_getElem (by simpa using hlt2), Array.getElem_modify_self, h2']
  rfl

set_option maxRecDepth 100000 in
set_option maxHeartbeats 2000000 in
theorem online_t (ax ay bx bY cx cy : Int) (w : World)  :
    Calls Tryz.prog 77 #[.agg #[.int .i64 ax, .int .i64 ay, .int .i64 bx, .int .i64 bY], .agg #[.int .i64 cx, .int .i64 cy, .int .i64 cx, .int .i64 cy]] w fun e w' => e = .returned (.int .i64 (onP ⟨cx, cy⟩ ⟨⟨ax, ay⟩, ⟨bx, bY⟩⟩)) ∧ Below w.heap.size w w' := by
  obtain ⟨R, hR⟩ : ∃ R, R = onP ⟨cx, cy⟩ ⟨⟨ax, ay⟩, ⟨bx, bY⟩⟩ := ⟨_, rfl⟩
  rw [← hR]
  have HO := hide (gon_any ax ay bx bY cx cy)
  have e1 := ptEq_iff ⟨cx, cy⟩ ⟨ax, ay⟩
  have e2 := ptEq_iff ⟨cx, cy⟩ ⟨bx, bY⟩
  simp only at e1 e2
  have hr : R = if onS ⟨⟨ax, ay⟩, ⟨bx, bY⟩⟩ ⟨cx, cy⟩ then (if (ptEq cx cy ax ay || ptEq cx cy bx bY) = true then 1 else 2) else 0 := by
    rw [hR, onP, e1, e2]; simp
  generalize onS ⟨⟨ax, ay⟩, ⟨bx, bY⟩⟩ ⟨cx, cy⟩ = o at hr HO
  have HR := hide hr
  clear hr hR e1 e2
  have h0 : ptEq cx cy cx cy = true := by simp [ptEq]
  cases o with
  | false =>
    go_enter Tryz.func77, Tryz.ntmps77
    go_wp2_with fail
    refine (HO.out _).mono ?_
    rintro _ w1 ⟨rfl, b1⟩
    obtain ⟨q1, q2⟩ := bcell b1
    have hz := b1.size
    simp only [World.size_alloc] at hz
    have hz3 : w.heap.size < w1.heap.size := by omega
    have hz4 : w.heap.size + 1 < w1.heap.size := by omega
    clear hz
    go_wp2_with fail
    go_ret
    exact ⟨ret_int (by rw [HR.out]; rfl), bto (((Below.refl _ _).alloc (Nat.le_refl _) _).alloc (by simp) _) b1⟩
  | true =>
    cases h1 : ptEq cx cy ax ay with
    | true =>
      go_enter Tryz.func77, Tryz.ntmps77
      go_wp2_with fail
      refine (HO.out _).mono ?_
      rintro _ w1 ⟨rfl, b1⟩
      obtain ⟨q1, q2⟩ := bcell b1
      have hz := b1.size
      simp only [World.size_alloc] at hz
      have hz3 : w.heap.size < w1.heap.size := by omega
      have hz4 : w.heap.size + 1 < w1.heap.size := by omega
      clear hz
      go_wp2_with fail
      go_ret
      exact ⟨ret_int (by rw [HR.out, h1]; rfl), bto (((Below.refl _ _).alloc (Nat.le_refl _) _).alloc (by simp) _) b1⟩
    | false =>
      cases h2 : ptEq cx cy bx bY with
      | true =>
        go_enter Tryz.func77, Tryz.ntmps77
        go_wp2_with fail
        refine (HO.out _).mono ?_
        rintro _ w1 ⟨rfl, b1⟩
        obtain ⟨q1, q2⟩ := bcell b1
        have hz := b1.size
        simp only [World.size_alloc] at hz
        have hz3 : w.heap.size < w1.heap.size := by omega
        have hz4 : w.heap.size + 1 < w1.heap.size := by omega
        clear hz
        go_wp2_with fail
        go_ret
        exact ⟨ret_int (by rw [HR.out, h1, h2]; rfl), bto (((Below.refl _ _).alloc (Nat.le_refl _) _).alloc (by simp) _) b1⟩
      | false =>
        go_enter Tryz.func77, Tryz.ntmps77
        go_wp2_with fail
        refine (HO.out _).mono ?_
        rintro _ w1 ⟨rfl, b1⟩
        obtain ⟨q1, q2⟩ := bcell b1
        have hz := b1.size
        simp only [World.size_alloc] at hz
        have hz3 : w.heap.size < w1.heap.size := by omega
        have hz4 : w.heap.size + 1 < w1.heap.size := by omega
        clear hz
        go_wp2_with fail
        go_ret
        exact ⟨ret_int (by rw [HR.out, h1, h2]; rfl), bto (((Below.refl _ _).alloc (Nat.le_refl _) _).alloc (by simp) _) b1⟩

set_option maxRecDepth 100000 in
set_option maxHeartbeats 2000000 in
theorem online_s (ax ay cx cy dx dy : Int) (w : World) (ht : ptEq cx cy dx dy = false) :
    Calls Tryz.prog 77 #[.agg #[.int .i64 ax, .int .i64 ay, .int .i64 ax, .int .i64 ay], .agg #[.int .i64 cx, .int .i64 cy, .int .i64 dx, .int .i64 dy]] w fun e w' => e = .returned (.int .i64 (onP ⟨ax, ay⟩ ⟨⟨cx, cy⟩, ⟨dx, dy⟩⟩)) ∧ Below w.heap.size w w' := by
  obtain ⟨R, hR⟩ : ∃ R, R = onP ⟨ax, ay⟩ ⟨⟨cx, cy⟩, ⟨dx, dy⟩⟩ := ⟨_, rfl⟩
  rw [← hR]
  have HO := hide (gon_any cx cy dx dy ax ay)
  have e1 := ptEq_iff ⟨ax, ay⟩ ⟨cx, cy⟩
  have e2 := ptEq_iff ⟨ax, ay⟩ ⟨dx, dy⟩
  simp only at e1 e2
  have hr : R = if onS ⟨⟨cx, cy⟩, ⟨dx, dy⟩⟩ ⟨ax, ay⟩ then (if (ptEq ax ay cx cy || ptEq ax ay dx dy) = true then 1 else 2) else 0 := by
    rw [hR, onP, e1, e2]; simp
  generalize onS ⟨⟨cx, cy⟩, ⟨dx, dy⟩⟩ ⟨ax, ay⟩ = o at hr HO
  have HR := hide hr
  clear hr hR e1 e2
  have h0 : ptEq ax ay ax ay = true := by simp [ptEq]
  cases o with
  | false =>
    go_enter Tryz.func77, Tryz.ntmps77
    go_wp2_with fail
    refine (HO.out _).mono ?_
    rintro _ w1 ⟨rfl, b1⟩
    obtain ⟨q1, q2⟩ := bcell b1
    have hz := b1.size
    simp only [World.size_alloc] at hz
    have hz3 : w.heap.size < w1.heap.size := by omega
    have hz4 : w.heap.size + 1 < w1.heap.size := by omega
    clear hz
    go_wp2_with fail
    go_ret
    exact ⟨ret_int (by rw [HR.out]; rfl), bto (((Below.refl _ _).alloc (Nat.le_refl _) _).alloc (by simp) _) b1⟩
  | true =>
    cases h1 : ptEq ax ay cx cy with
    | true =>
      go_enter Tryz.func77, Tryz.ntmps77
      go_wp2_with fail
      refine (HO.out _).mono ?_
      rintro _ w1 ⟨rfl, b1⟩
      obtain ⟨q1, q2⟩ := bcell b1
      have hz := b1.size
      simp only [World.size_alloc] at hz
      have hz3 : w.heap.size < w1.heap.size := by omega
      have hz4 : w.heap.size + 1 < w1.heap.size := by omega
      clear hz
      go_wp2_with fail
      go_ret
      exact ⟨ret_int (by rw [HR.out, h1]; rfl), bto (((Below.refl _ _).alloc (Nat.le_refl _) _).alloc (by simp) _) b1⟩
    | false =>
      cases h2 : ptEq ax ay dx dy with
      | true =>
        go_enter Tryz.func77, Tryz.ntmps77
        go_wp2_with fail
        refine (HO.out _).mono ?_
        rintro _ w1 ⟨rfl, b1⟩
        obtain ⟨q1, q2⟩ := bcell b1
        have hz := b1.size
        simp only [World.size_alloc] at hz
        have hz3 : w.heap.size < w1.heap.size := by omega
        have hz4 : w.heap.size + 1 < w1.heap.size := by omega
        clear hz
        go_wp2_with fail
        go_ret
        exact ⟨ret_int (by rw [HR.out, h1, h2]; rfl), bto (((Below.refl _ _).alloc (Nat.le_refl _) _).alloc (by simp) _) b1⟩
      | false =>
        go_enter Tryz.func77, Tryz.ntmps77
        go_wp2_with fail
        refine (HO.out _).mono ?_
        rintro _ w1 ⟨rfl, b1⟩
        obtain ⟨q1, q2⟩ := bcell b1
        have hz := b1.size
        simp only [World.size_alloc] at hz
        have hz3 : w.heap.size < w1.heap.size := by omega
        have hz4 : w.heap.size + 1 < w1.heap.size := by omega
        clear hz
        go_wp2_with fail
        go_ret
        exact ⟨ret_int (by rw [HR.out, h1, h2]; rfl), bto (((Below.refl _ _).alloc (Nat.le_refl _) _).alloc (by simp) _) b1⟩


/-- The memory of 'online' behind its two copies. -/
structure OnO (w wx : World) (gl gh : Nat) (lx ly hx hy ax ay bx bY cx cy dx dy : Int) : Prop where
  l : wx.heap[gl]? = some (.cells #[.int .i64 lx, .int .i64 ly] 44 (0, 0))
  h : wx.heap[gh]? = some (.cells #[.int .i64 hx, .int .i64 hy] 44 (0, 0))
  a : wx.heap[w.heap.size]? = some (.cells #[.int .i64 ax, .int .i64 ay, .int .i64 bx, .int .i64 bY] 68 (0, 0))
  b : wx.heap[w.heap.size + 1]? = some (.cells #[.int .i64 cx, .int .i64 cy, .int .i64 dx, .int .i64 dy] 68 (0, 0))
  below : Below w.heap.size w wx
  ne : gl ≠ gh
  gl2 : w.heap.size + 2 ≤ gl
  gh2 : w.heap.size + 2 ≤ gh
theorem OnO.lift {w wx wy : World} {gl gh : Nat} {lx ly hx hy ax ay bx bY cx cy dx dy : Int} (h : OnO w wx gl gh lx ly hx hy ax ay bx bY cx cy dx dy) (hb : Below wx.heap.size wx wy) : OnO w wy gl gh lx ly hx hy ax ay bx bY cx cy dx dy :=
  ⟨blkB hb h.l, blkB hb h.h, blkB hb h.a, blkB hb h.b, bto h.below hb, h.ne, h.gl2, h.gh2⟩
theorem OnO.setL {w wx : World} {gl gh : Nat} {lx ly hx hy ax ay bx bY cx cy dx dy : Int} (h : OnO w wx gl gh lx ly hx hy ax ay bx bY cx cy dx dy) (u v : Int) : OnO w ((wx.setCell ⟨gl, 0, none⟩ (.int .i64 u)).setCell ⟨gl, 1, none⟩ (.int .i64 v)) gl gh u v hx hy ax ay bx bY cx cy dx dy := by
  have h1 := h.gl2
  have h2 := h.ne
  exact ⟨set2 h.l _ _, blkS _ _ (blkS _ _ h.h (by omega)) (by omega), blkS _ _ (blkS _ _ h.a (by omega)) (by omega), blkS _ _ (blkS _ _ h.b (by omega)) (by omega), (h.below.setCell (by simp; omega) _).setCell (by simp; omega) _, h.ne, h.gl2, h.gh2⟩
theorem OnO.setH {w wx : World} {gl gh : Nat} {lx ly hx hy ax ay bx bY cx cy dx dy : Int} (h : OnO w wx gl gh lx ly hx hy ax ay bx bY cx cy dx dy) (u v : Int) : OnO w ((wx.setCell ⟨gh, 0, none⟩ (.int .i64 u)).setCell ⟨gh, 1, none⟩ (.int .i64 v)) gl gh lx ly u v ax ay bx bY cx cy dx dy := by
  have h1 := h.gh2
  have h2 := h.ne
  exact ⟨blkS _ _ (blkS _ _ h.l (by omega)) (by omega), set2 h.h _ _, blkS _ _ (blkS _ _ h.a (by omega)) (by omega), blkS _ _ (blkS _ _ h.b (by omega)) (by omega), (h.below.setCell (by simp; omega) _).setCell (by simp; omega) _, h.ne, h.gl2, h.gh2⟩

set_option maxRecDepth 100000 in
set_option maxHeartbeats 4000000 in
theorem online_o (ax ay bx bY cx cy dx dy : Int) (w : World) (h1 : ptEq cx cy dx dy = false) (h2 : ptEq ax ay bx bY = false) :
    Calls Tryz.prog 77 #[.agg #[.int .i64 ax, .int .i64 ay, .int .i64 bx, .int .i64 bY], .agg #[.int .i64 cx, .int .i64 cy, .int .i64 dx, .int .i64 dy]] w fun e w' => e = .returned (.int .i64 (overC (cmpP (lowP ⟨⟨ax, ay⟩, ⟨bx, bY⟩⟩ ⟨⟨cx, cy⟩, ⟨dx, dy⟩⟩) (highP ⟨⟨ax, ay⟩, ⟨bx, bY⟩⟩ ⟨⟨cx, cy⟩, ⟨dx, dy⟩⟩)))) ∧ Below w.heap.size w w' := by
  obtain ⟨R, hR⟩ : ∃ R, R = overC (cmpP (lowP ⟨⟨ax, ay⟩, ⟨bx, bY⟩⟩ ⟨⟨cx, cy⟩, ⟨dx, dy⟩⟩) (highP ⟨⟨ax, ay⟩, ⟨bx, bY⟩⟩ ⟨⟨cx, cy⟩, ⟨dx, dy⟩⟩)) := ⟨_, rfl⟩
  rw [← hR]
  simp only [lowP, highP] at hR
  have HC1 := hide (compare_any cx cy ax ay)
  have HC2 := hide (compare_any dx dy bx bY)
  generalize cmpP ⟨cx, cy⟩ ⟨ax, ay⟩ = c1 at hR HC1
  generalize cmpP ⟨dx, dy⟩ ⟨bx, bY⟩ = c2 at hR HC2
  have HR := hide hR
  clear hR
  go_enter Tryz.func77, Tryz.ntmps77
  go_upto_region 9 with (fail)
  go_cut [5, 6] (fun s5 s6 wx => ∃ gl gh : Nat, s5 = .pointer (some ⟨gl, 0, none⟩) ∧ s6 = .pointer (some ⟨gh, 0, none⟩) ∧ Hid (OnO w wx gl gh ax ay bx bY ax ay bx bY cx cy dx dy))
  case first =>
    go_region
    all_goals (go_wp2_with fail; go_meet)
    · exact ⟨w.heap.size + 1 + 1, w.heap.size + 1 + 1 + 1, rfl, rfl, ⟨blkO _ (blkN _ _ _ (by simp)), blkN _ _ _ (by simp), blkO _ (blkO _ (blkO _ (blkN _ _ _ rfl))), blkO _ (blkO _ (blkN _ _ _ (by simp))), ((((Below.refl _ _).alloc (Nat.le_refl _) _).alloc (by simp) _).alloc (by simp; omega) _).alloc (by simp; omega) _ |>.drew, by omega, by omega, by omega⟩⟩
    · exact ⟨w.heap.size + 1 + 1 + 1, w.heap.size + 1 + 1, rfl, rfl, ⟨blkN _ _ _ (by simp), blkO _ (blkN _ _ _ (by simp)), blkO _ (blkO _ (blkO _ (blkN _ _ _ rfl))), blkO _ (blkO _ (blkN _ _ _ (by simp))), ((((Below.refl _ _).alloc (Nat.le_refl _) _).alloc (by simp) _).alloc (by simp; omega) _).alloc (by simp; omega) _ |>.drew, by omega, by omega, by omega⟩⟩
  case rest =>
    obtain ⟨gl, gh, rfl, rfl, H0⟩ := hcut
    have n1 := H0.out.ne
    have n2 := H0.out.gl2
    have n3 := H0.out.gh2
    have n4 : gl ≠ w.heap.size := by omega
    have n5 : gl ≠ w.heap.size + 1 := by omega
    have n6 : gh ≠ w.heap.size := by omega
    have n7 : gh ≠ w.heap.size + 1 := by omega
    have n8 : gh ≠ gl := by omega
    clear h1 h2
    by_cases g1 : 0 < c1
    · by_cases g2 : c2 < 0
      · have HC3 := hide (compare_any cx cy dx dy)
        have hc3 := cmpP_cases ⟨cx, cy⟩ ⟨dx, dy⟩
        have hr : R = overC (cmpP ⟨cx, cy⟩ ⟨dx, dy⟩) := by rw [HR.out]; simp [g1, g2]
        generalize cmpP ⟨cx, cy⟩ ⟨dx, dy⟩ = c3 at HC3 hc3 hr
        have HR3 := hide hr
        clear hr
        obtain ⟨⟨a1, a2⟩, a3, a4⟩ := blk2 (H0.out).l
        obtain ⟨⟨b1, b2⟩, b3, b4⟩ := blk2 (H0.out).h
        obtain ⟨⟨d1, d2, d3, d4⟩, d5, d6, d7, d8⟩ := blk4 (H0.out).b
        go_wp2_with fail
        refine (HC1.out _).mono ?_
        rintro _ w1 ⟨rfl, q1⟩
        have H1 := hide (H0.out.lift q1)
        clear a1 a2 a3 a4 b1 b2 b3 b4 d1 d2 d3 d4 d5 d6 d7 d8
        obtain ⟨⟨a1, a2⟩, a3, a4⟩ := blk2 (H1.out).l
        obtain ⟨⟨b1, b2⟩, b3, b4⟩ := blk2 (H1.out).h
        obtain ⟨⟨d1, d2, d3, d4⟩, d5, d6, d7, d8⟩ := blk4 (H1.out).b
        clear q1
        go_wp2_with fail
        refine (HC2.out _).mono ?_
        rintro _ w2 ⟨rfl, q2⟩
        have H2 := hide ((H1.out.setL cx cy).lift q2)
        clear a1 a2 a3 a4 b1 b2 b3 b4 d1 d2 d3 d4 d5 d6 d7 d8
        obtain ⟨⟨a1, a2⟩, a3, a4⟩ := blk2 (H2.out).l
        obtain ⟨⟨b1, b2⟩, b3, b4⟩ := blk2 (H2.out).h
        obtain ⟨⟨d1, d2, d3, d4⟩, d5, d6, d7, d8⟩ := blk4 (H2.out).b
        clear q2
        go_wp2_with fail
        refine (HC3.out _).mono ?_
        rintro _ w3 ⟨rfl, q3⟩
        have H3 := hide ((H2.out.setH dx dy).lift q3)
        clear a1 a2 a3 a4 b1 b2 b3 b4 d1 d2 d3 d4 d5 d6 d7 d8
        clear q3
        rcases hc3 with rfl | rfl | rfl
        all_goals
          go_wp2_with fail
          go_ret
          exact ⟨ret_int (by rw [HR3.out]; rfl), H3.out.below⟩
      · have HC3 := hide (compare_any cx cy bx bY)
        have hc3 := cmpP_cases ⟨cx, cy⟩ ⟨bx, bY⟩
        have hr : R = overC (cmpP ⟨cx, cy⟩ ⟨bx, bY⟩) := by rw [HR.out]; simp [g1, g2]
        generalize cmpP ⟨cx, cy⟩ ⟨bx, bY⟩ = c3 at HC3 hc3 hr
        have HR3 := hide hr
        clear hr
        obtain ⟨⟨a1, a2⟩, a3, a4⟩ := blk2 (H0.out).l
        obtain ⟨⟨b1, b2⟩, b3, b4⟩ := blk2 (H0.out).h
        obtain ⟨⟨d1, d2, d3, d4⟩, d5, d6, d7, d8⟩ := blk4 (H0.out).b
        go_wp2_with fail
        refine (HC1.out _).mono ?_
        rintro _ w1 ⟨rfl, q1⟩
        have H1 := hide (H0.out.lift q1)
        clear a1 a2 a3 a4 b1 b2 b3 b4 d1 d2 d3 d4 d5 d6 d7 d8
        obtain ⟨⟨a1, a2⟩, a3, a4⟩ := blk2 (H1.out).l
        obtain ⟨⟨b1, b2⟩, b3, b4⟩ := blk2 (H1.out).h
        obtain ⟨⟨d1, d2, d3, d4⟩, d5, d6, d7, d8⟩ := blk4 (H1.out).b
        clear q1
        go_wp2_with fail
        refine (HC2.out _).mono ?_
        rintro _ w2 ⟨rfl, q2⟩
        have H2 := hide ((H1.out.setL cx cy).lift q2)
        clear a1 a2 a3 a4 b1 b2 b3 b4 d1 d2 d3 d4 d5 d6 d7 d8
        obtain ⟨⟨a1, a2⟩, a3, a4⟩ := blk2 (H2.out).l
        obtain ⟨⟨b1, b2⟩, b3, b4⟩ := blk2 (H2.out).h
        obtain ⟨⟨d1, d2, d3, d4⟩, d5, d6, d7, d8⟩ := blk4 (H2.out).b
        clear q2
        go_wp2_with fail
        refine (HC3.out _).mono ?_
        rintro _ w3 ⟨rfl, q3⟩
        have H3 := hide (H2.out.lift q3)
        clear a1 a2 a3 a4 b1 b2 b3 b4 d1 d2 d3 d4 d5 d6 d7 d8
        clear q3
        rcases hc3 with rfl | rfl | rfl
        all_goals
          go_wp2_with fail
          go_ret
          exact ⟨ret_int (by rw [HR3.out]; rfl), H3.out.below⟩
    · by_cases g2 : c2 < 0
      · have HC3 := hide (compare_any ax ay dx dy)
        have hc3 := cmpP_cases ⟨ax, ay⟩ ⟨dx, dy⟩
        have hr : R = overC (cmpP ⟨ax, ay⟩ ⟨dx, dy⟩) := by rw [HR.out]; simp [g1, g2]
        generalize cmpP ⟨ax, ay⟩ ⟨dx, dy⟩ = c3 at HC3 hc3 hr
        have HR3 := hide hr
        clear hr
        obtain ⟨⟨a1, a2⟩, a3, a4⟩ := blk2 (H0.out).l
        obtain ⟨⟨b1, b2⟩, b3, b4⟩ := blk2 (H0.out).h
        obtain ⟨⟨d1, d2, d3, d4⟩, d5, d6, d7, d8⟩ := blk4 (H0.out).b
        go_wp2_with fail
        refine (HC1.out _).mono ?_
        rintro _ w1 ⟨rfl, q1⟩
        have H1 := hide (H0.out.lift q1)
        clear a1 a2 a3 a4 b1 b2 b3 b4 d1 d2 d3 d4 d5 d6 d7 d8
        obtain ⟨⟨a1, a2⟩, a3, a4⟩ := blk2 (H1.out).l
        obtain ⟨⟨b1, b2⟩, b3, b4⟩ := blk2 (H1.out).h
        obtain ⟨⟨d1, d2, d3, d4⟩, d5, d6, d7, d8⟩ := blk4 (H1.out).b
        clear q1
        go_wp2_with fail
        refine (HC2.out _).mono ?_
        rintro _ w2 ⟨rfl, q2⟩
        have H2 := hide (H1.out.lift q2)
        clear a1 a2 a3 a4 b1 b2 b3 b4 d1 d2 d3 d4 d5 d6 d7 d8
        obtain ⟨⟨a1, a2⟩, a3, a4⟩ := blk2 (H2.out).l
        obtain ⟨⟨b1, b2⟩, b3, b4⟩ := blk2 (H2.out).h
        obtain ⟨⟨d1, d2, d3, d4⟩, d5, d6, d7, d8⟩ := blk4 (H2.out).b
        clear q2
        go_wp2_with fail
        refine (HC3.out _).mono ?_
        rintro _ w3 ⟨rfl, q3⟩
        have H3 := hide ((H2.out.setH dx dy).lift q3)
        clear a1 a2 a3 a4 b1 b2 b3 b4 d1 d2 d3 d4 d5 d6 d7 d8
        clear q3
        rcases hc3 with rfl | rfl | rfl
        all_goals
          go_wp2_with fail
          go_ret
          exact ⟨ret_int (by rw [HR3.out]; rfl), H3.out.below⟩
      · have HC3 := hide (compare_any ax ay bx bY)
        have hc3 := cmpP_cases ⟨ax, ay⟩ ⟨bx, bY⟩
        have hr : R = overC (cmpP ⟨ax, ay⟩ ⟨bx, bY⟩) := by rw [HR.out]; simp [g1, g2]
        generalize cmpP ⟨ax, ay⟩ ⟨bx, bY⟩ = c3 at HC3 hc3 hr
        have HR3 := hide hr
        clear hr
        obtain ⟨⟨a1, a2⟩, a3, a4⟩ := blk2 (H0.out).l
        obtain ⟨⟨b1, b2⟩, b3, b4⟩ := blk2 (H0.out).h
        obtain ⟨⟨d1, d2, d3, d4⟩, d5, d6, d7, d8⟩ := blk4 (H0.out).b
        go_wp2_with fail
        refine (HC1.out _).mono ?_
        rintro _ w1 ⟨rfl, q1⟩
        have H1 := hide (H0.out.lift q1)
        clear a1 a2 a3 a4 b1 b2 b3 b4 d1 d2 d3 d4 d5 d6 d7 d8
        obtain ⟨⟨a1, a2⟩, a3, a4⟩ := blk2 (H1.out).l
        obtain ⟨⟨b1, b2⟩, b3, b4⟩ := blk2 (H1.out).h
        obtain ⟨⟨d1, d2, d3, d4⟩, d5, d6, d7, d8⟩ := blk4 (H1.out).b
        clear q1
        go_wp2_with fail
        refine (HC2.out _).mono ?_
        rintro _ w2 ⟨rfl, q2⟩
        have H2 := hide (H1.out.lift q2)
        clear a1 a2 a3 a4 b1 b2 b3 b4 d1 d2 d3 d4 d5 d6 d7 d8
        obtain ⟨⟨a1, a2⟩, a3, a4⟩ := blk2 (H2.out).l
        obtain ⟨⟨b1, b2⟩, b3, b4⟩ := blk2 (H2.out).h
        obtain ⟨⟨d1, d2, d3, d4⟩, d5, d6, d7, d8⟩ := blk4 (H2.out).b
        clear q2
        go_wp2_with fail
        refine (HC3.out _).mono ?_
        rintro _ w3 ⟨rfl, q3⟩
        have H3 := hide (H2.out.lift q3)
        clear a1 a2 a3 a4 b1 b2 b3 b4 d1 d2 d3 d4 d5 d6 d7 d8
        clear q3
        rcases hc3 with rfl | rfl | rfl
        all_goals
          go_wp2_with fail
          go_ret
          exact ⟨ret_int (by rw [HR3.out]; rfl), H3.out.below⟩
