/-
  The reference's ring functions: a side.
-/
import Derived.Test.YtmklnioedeailaaRngP
import Derived.StillTailTactics
import Derived.Test.YtmklnioedeailaaRPlainC2
import Derived.Test.YtmklnioedeailaaRPlainC2
namespace Go.Proofs.Ytmklnioedeailaa
open Go.RowKit Go.Proofs.PlGeom Go.Proofs.PlRing
attribute [local go_sem ↓] Go.wp_at_zero Go.wp_at_succ

set_option maxRecDepth 100000 in
set_option maxHeartbeats 4000000 in
theorem rside_any (r : List Pt) (v : Value) (k : Nat) (w : World) (hv : SlP w v r) (hr : r.length ≤ 100000) (hk : k < r.length) :
    Calls Try.prog 28 #[v, .int .i64 (k : Int)] w fun e w' => e = .returned (vS (sideAt r k)) ∧ Below w.heap.size w w' := by
  obtain ⟨A, c, rfl, hA⟩ := hv
  obtain ⟨g, o, rfl, hg, hp⟩ := hA.resolve_left (by rintro rfl; simp at hk)
  obtain ⟨m, hm⟩ : ∃ m, m = (k + 1) % r.length := ⟨_, rfl⟩
  have hml : m < r.length := by rw [hm]; exact Nat.mod_lt _ (by omega)
  have hside : sideAt r k = ⟨at0 r k, at0 r m⟩ := by unfold sideAt; rw [hm]
  have e1 : ((k : Int) + 1) % (r.length : Int) = (m : Int) := by rw [hm]; push_cast; rfl
  have e2 : ((k : Int) + 1).tmod (r.length : Int) = (m : Int) := by rw [Int.tmod_eq_emod_of_nonneg (by omega)]; exact e1
  have hb0 : Below w.heap.size w (w.alloc (.cells #[.int .i64 0, .int .i64 0, .int .i64 0, .int .i64 0] 36)) := (Below.refl _ w).alloc (Nat.le_refl _) _
  obtain ⟨c1, c2⟩ := (hp.below hg hb0) k _ (at0_some r k hk)
  obtain ⟨c3, c4⟩ := (hp.below hg hb0) m _ (at0_some r m hml)
  rw [hside]
  have HP := hide hp
  clear hp hA hside hm
  generalize at0 r k = p at *
  generalize at0 r m = q at *
  obtain ⟨px, py⟩ := p
  obtain ⟨qx, qy⟩ := q
  simp only at c1 c2 c3 c4
  have kz3 : ¬ (r = []) := by rintro rfl; simp at hk
  have kz2 : ¬ ((r.length : Int) = 0) := by omega
  have kz4 : ¬ (r.length = 0) := by omega
  have ky : ((r.length : Int) == 0) = false := by rw [beq_eq_false_iff_ne]; omega
  have kw : IntKind.i64.wrap ((k : Int) + 1) = (k : Int) + 1 := IntWalk.i64_in _ (by omega)
  have k0 : (0 : Int) ≤ k := by omega
  have k1 : (k : Int) < r.length := by omega
  have m0 : (0 : Int) ≤ m := by omega
  have m1 : (m : Int) < r.length := by omega
  go_enter Try.func28, Try.ntmps28
  go_wp2_with fail
  have hbx : (w.alloc (.cells #[.int .i64 0, .int .i64 0, .int .i64 0, .int .i64 0] 36)).heap[w.heap.size]? = some (.cells #[.int .i64 0, .int .i64 0, .int .i64 0, .int .i64 0] 36 (0, 0)) := blkN _ _ _ rfl
  generalize w.alloc (.cells #[.int .i64 0, .int .i64 0, .int .i64 0, .int .i64 0] 36) = W1 at *
  go_still_tail 13, (by kernel_rfl)
  change wpList _ _ _ _ _ W1.drew
  have b2 : Below w.heap.size w W1.drew := hb0.drew
  have hbx2 : W1.drew.heap[w.heap.size]? = some (.cells #[.int .i64 0, .int .i64 0, .int .i64 0, .int .i64 0] 36 (0, 0)) := hbx
  clear c1 c2 c3 c4 hb0 hbx
  generalize W1.drew = W2 at *
  obtain ⟨⟨d1, d2, d3, d4⟩, f⟩ := blk4 hbx2
  go_wp2_with fail
  have hz1 : w.heap.size < W2.heap.size := lt_of_block hbx2
  exact bodyPost_ret (v := .agg #[.int .i64 px, .int .i64 py, .int .i64 qx, .int .i64 qy]) (by simp [results, Try.results28, go_sem, d1, d2, d3, d4]) rfl
    ⟨rfl, (((b2.setCell (by simp) _).setCell (by simp) _).setCell (by simp) _).setCell (by simp) _⟩
/-! The reference's ring functions: cross, on, where. -/

set_option maxHeartbeats 1000000 in
theorem xcross_any (ax ay bx bY cx cy : Int) (ha : fineP ⟨ax, ay⟩) (hb : fineP ⟨bx, bY⟩) (hc : wideP ⟨cx, cy⟩) (w : World) :
    Calls Try.prog 54 #[.agg #[.int .i64 ax, .int .i64 ay], .agg #[.int .i64 bx, .int .i64 bY], .agg #[.int .i64 cx, .int .i64 cy]] w fun e w' => e = .returned (.int .i64 (cross ⟨ax, ay⟩ ⟨bx, bY⟩ ⟨cx, cy⟩)) ∧ Below w.heap.size w w' := by
  obtain ⟨R, hR⟩ : ∃ R, R = cross ⟨ax, ay⟩ ⟨bx, bY⟩ ⟨cx, cy⟩ := ⟨_, rfl⟩
  rw [← hR]
  simp only [cross] at hR
  have HR := hide hR
  clear hR
  obtain ⟨a1, a2, a3, a4⟩ := ha
  obtain ⟨b1, b2, b3, b4⟩ := hb
  obtain ⟨c1, c2, c3, c4⟩ := hc
  simp only at a1 a2 a3 a4 b1 b2 b3 b4 c1 c2 c3 c4
  obtain ⟨m1, m2⟩ := prod_bd 12582912 (bx - ax) (cy - ay) (by omega) (by omega) (by omega) (by omega)
  obtain ⟨m3, m4⟩ := prod_bd 12582912 (bY - ay) (cx - ax) (by omega) (by omega) (by omega) (by omega)
  go_enter Try.func54, Try.ntmps54
  go_wp2
  go_ret
  exact ⟨ret_int HR.out.symm, (((Below.refl _ _).alloc (Nat.le_refl _) _).alloc (by simp) _).alloc (by simp; omega) _⟩

theorem hit_onR (s : Sg) (p : Pt) : hitB s p = onR s p := by
  unfold hitB onR btwB
  rw [turnP_cross, Bool.eq_iff_iff]
  simp only [Bool.and_eq_true, decide_eq_true_eq, beq_iff_eq]
  constructor
  · rintro ⟨⟨a, b, c⟩, d, e⟩; exact ⟨⟨⟨⟨b, c⟩, d⟩, e⟩, a⟩
  · rintro ⟨⟨⟨⟨b, c⟩, d⟩, e⟩, a⟩; exact ⟨⟨a, b, c⟩, d, e⟩
theorem onR_zero {A B C D : Prop} [Decidable A] [Decidable B] [Decidable C] [Decidable D] {X : Int} (h : X ≠ 0) : (decide A && decide B && decide C && decide D && (X == 0)) = false := by
  rw [beq_eq_false_iff_ne.2 h, Bool.and_false]

set_option maxRecDepth 100000 in
set_option maxHeartbeats 4000000 in
theorem xon_any (ax ay bx bY px py : Int) (ha : fineP ⟨ax, ay⟩) (hb : fineP ⟨bx, bY⟩) (hc : wideP ⟨px, py⟩) (w : World) :
    Calls Try.prog 53 #[.agg #[.int .i64 ax, .int .i64 ay, .int .i64 bx, .int .i64 bY], .agg #[.int .i64 px, .int .i64 py]] w fun e w' => e = .returned (.bool (hitB ⟨⟨ax, ay⟩, ⟨bx, bY⟩⟩ ⟨px, py⟩)) ∧ Below w.heap.size w w' := by
  obtain ⟨R, hR⟩ : ∃ R, R = hitB ⟨⟨ax, ay⟩, ⟨bx, bY⟩⟩ ⟨px, py⟩ := ⟨_, rfl⟩
  rw [← hR]
  rw [hit_onR] at hR
  simp only [onR] at hR
  have HX := hide (fun w => xcross_any ax ay bx bY px py ha hb hc w)
  generalize cross ⟨ax, ay⟩ ⟨bx, bY⟩ ⟨px, py⟩ = X at *
  have HR := hide hR
  clear hR ha hb hc
  go_enter Try.func53, Try.ntmps53
  have A1 := (new2 w (.cells #[.int .i64 ax, .int .i64 ay, .int .i64 bx, .int .i64 bY] 36) (.cells #[.int .i64 px, .int .i64 py] 24)).1
  have B1 := (new2 w (.cells #[.int .i64 ax, .int .i64 ay, .int .i64 bx, .int .i64 bY] 36) (.cells #[.int .i64 px, .int .i64 py] 24)).2.1
  have E1 := (new2 w (.cells #[.int .i64 ax, .int .i64 ay, .int .i64 bx, .int .i64 bY] 36) (.cells #[.int .i64 px, .int .i64 py] 24)).2.2
  go_wp2_with fail
  refine (HX.out _).mono ?_
  rintro _ w1 ⟨rfl, b1⟩
  have A2 := blkB b1 A1
  have B2 := blkB b1 B1
  have E2 := bto E1 b1
  clear A1 B1 E1 b1
  obtain ⟨⟨d1, d2, d3, d4⟩, _⟩ := blk4 A2
  obtain ⟨⟨d5, d6⟩, _⟩ := blk2 B2
  by_cases hX : X = 0
  · subst hX
    go_wp2_with fail
    all_goals
      go_ret
      first
        | exact ⟨ret_bool (by rw [HR.out]; exact (onR_out _ (by omega)).symm), E2⟩
        | exact ⟨ret_bool (by rw [HR.out, Bool.eq_iff_iff]; simp only [Bool.and_eq_true, decide_eq_true_eq, beq_self_eq_true, and_true]; omega), E2⟩
  · go_wp2_with fail
    go_ret
    exact ⟨ret_bool (by rw [HR.out]; exact (onR_zero hX).symm), E2⟩

set_option maxRecDepth 100000 in
set_option maxHeartbeats 8000000 in
theorem xwhere_any (r : List Pt) (v : Value) (px py : Int) (w : World) (hv : SlP w v r) (hfine : Fine r) (hp : wideP ⟨px, py⟩) :
    Calls Try.prog 34 #[v, .agg #[.int .i64 px, .int .i64 py]] w fun e w' => e = .returned (.int .i64 (parS ⟨px, py⟩ (sd r) (-1))) ∧ Below w.heap.size w w' := by
  obtain ⟨R, hR⟩ : ∃ R, R = parS ⟨px, py⟩ (sd r) (-1) := ⟨_, rfl⟩
  rw [← hR]
  have HR := hide hR
  have HV := hide hv
  have HF := hide hfine
  have hl := hfine.1
  obtain ⟨A, c, rfl, _⟩ := hv
  clear hR hfine
  go_enter Try.func34, Try.ntmps34
  go_wp2_with fail
  have hbx : (w.alloc (.cells #[.int .i64 px, .int .i64 py] 24)).heap[w.heap.size]? = some (.cells #[.int .i64 px, .int .i64 py] 24 (0, 0)) := blkN _ _ _ rfl
  have hb0 : Below w.heap.size w (w.alloc (.cells #[.int .i64 px, .int .i64 py] 24)) := (Below.refl _ w).alloc (Nat.le_refl _) _
  generalize w.alloc (.cells #[.int .i64 px, .int .i64 py] 24) = W1 at *
  have HB0 := hide hb0
  have HX0 := hide hbx
  clear hb0 hbx
  go_loopw [5, 6] (fun z i wr => ∃ (k : Nat) (y : Int), k ≤ r.length ∧ (y = 1 ∨ y = -1) ∧ i = .int .i64 k ∧ z = .int .i64 y ∧ Hid (Below w.heap.size w wr) ∧ Hid (wr.heap[w.heap.size]? = some (.cells #[.int .i64 px, .int .i64 py] 24 (0, 0))) ∧ Hid (parS ⟨px, py⟩ ((sd r).drop k) y = R)) (fun _ i _ => r.length - (intOf i).toNat)
  case atStart => exact ⟨0, -1, Nat.zero_le _, .inr rfl, rfl, rfl, HB0, HX0, hide HR.out.symm⟩
  case round =>
    obtain ⟨k, y, hk, hy, rfl, rfl, hb, hbx, hrel⟩ := hrel
    by_cases hlt : k < r.length
    · have hd := hrel.out
      rw [sd_drop r k hlt, parS] at hd
      have hz : 0 < r.length := by omega
      have fa := HF.out.at0 k hlt
      have fb := HF.out.at0 ((k + 1) % r.length) (Nat.mod_lt _ hz)
      have hs : sideAt r k = ⟨at0 r k, at0 r ((k + 1) % r.length)⟩ := rfl
      have HS := hide (fun w h => rside_any r (.slice A r.length c) k w h (by omega) hlt)
      rw [hs] at hd HS
      generalize at0 r k = p at *
      generalize at0 r ((k + 1) % r.length) = q at *
      obtain ⟨ax, ay⟩ := p
      obtain ⟨bx, bY⟩ := q
      have HO := hide (fun w => xon_any ax ay bx bY px py fa fb hp w)
      have HC := hide (fun w => xcross_any ax ay bx bY px py fa fb hp w)
      have hw := wind_zero ⟨ax, ay⟩ ⟨bx, bY⟩ ⟨px, py⟩
      simp only at hw
      generalize cross ⟨ax, ay⟩ ⟨bx, bY⟩ ⟨px, py⟩ = X at *
      generalize hitB ⟨⟨ax, ay⟩, ⟨bx, bY⟩⟩ ⟨px, py⟩ = hit at *
      generalize (windS ⟨⟨ax, ay⟩, ⟨bx, bY⟩⟩ ⟨px, py⟩ == 0) = wz at *
      have HD := hide hd
      have b1 : (0 : Int) ≤ k := by omega
      have b2 : (k : Int) < r.length := by omega
      have HL := hide hlt
      have HZ := hide hy
      clear hd hrel hs fa fb hlt hy
      go_wp2_with fail
      refine (HS.out _ (HV.out.below hb.out)).mono ?_
      rintro _ w2 ⟨rfl, b3⟩
      simp only [vS]
      have hb3 := bto hb.out b3
      have hx3 := blkB b3 hbx.out
      have hz3 : w.heap.size < w2.heap.size := lt_of_block hx3
      have HB3 := hide hb3
      have HX3 := hide hx3
      obtain ⟨⟨d5, d6⟩, _⟩ := blk2 hx3
      clear hb3 hx3 b3
      go_wp2_with fail
      refine (HO.out _).mono ?_
      rintro _ w3 ⟨rfl, b4⟩
      have hx4 := blkB b4 (blkO (.cells #[.int .i64 ax, .int .i64 ay, .int .i64 bx, .int .i64 bY] 36) HX3.out)
      have hs4 := blkB b4 (blkN w2 (.cells #[.int .i64 ax, .int .i64 ay, .int .i64 bx, .int .i64 bY] 36) _ rfl)
      have HB4 := hide (bto (HB3.out.alloc (Nat.le_of_lt hz3) (.cells #[.int .i64 ax, .int .i64 ay, .int .i64 bx, .int .i64 bY] 36)) b4)
      have HX4 := hide hx4
      have HS4 := hide hs4
      clear d5 d6 b4
      obtain ⟨⟨d5, d6⟩, _⟩ := blk2 hx4
      obtain ⟨⟨d1, d2, d3, d4⟩, _⟩ := blk4 hs4
      clear hx4 hs4
      cases hit with
      | true =>
        go_wp2_with fail
        go_ret
        exact ⟨ret_int (by rw [← HD.out]; rfl), HB4.out⟩
      | false =>
        have hd2 : parS ⟨px, py⟩ ((sd r).drop (k + 1)) (if wz = true then y else -y) = R := by have := HD.out; simpa using this
        have HD2 := hide hd2
        have hy := HZ.out
        clear hd2 HD HO HS HZ
        obtain ⟨y2, hy2, hc⟩ : ∃ y2, y2 = (if wz = true then y else -y) ∧ (y2 = 1 ∨ y2 = -1) := ⟨_, rfl, by split <;> omega⟩
        rw [← hy2] at HD2
        have hkeep : wz = true → y2 = y := fun e => by rw [hy2, if_pos e]
        have hflip : wz = false → y2 = -y := fun e => by rw [hy2, e]; rfl
        clear hy2
        have hno : ¬ ((ay ≤ py ∧ py < bY ∧ 0 < X) ∨ (py < ay ∧ bY ≤ py ∧ X < 0)) → y2 = y := fun h => hkeep (hw.2 h)
        have hyes : ((ay ≤ py ∧ py < bY ∧ 0 < X) ∨ (py < ay ∧ bY ≤ py ∧ X < 0)) → y2 = -y := fun h => hflip (by
          cases e : wz with
          | false => rfl
          | true => exact absurd h (hw.1 e))
        have HN := hide hno
        have HY := hide hyes
        clear hkeep hflip hw hno hyes
        have hneg : IntKind.i64.wrap (-y) = -y := IntWalk.i64_in _ (by omega)
        have HM := hide (show r.length - (k + 1) < r.length - k from by have := HL.out; omega)
        by_cases g1 : ay ≤ py <;> by_cases g2 : bY ≤ py
        · have D1 := decide_eq_true g1
          have D2 := decide_eq_true g2
          go_wp2_with fail
          refine ⟨⟨k + 1, y2, HL.out, hc, by go_num, by rw [HN.out (by omega)], HB4, HX4, HD2⟩, ?_⟩
          have := HM.out
          simp [intOf]; omega
        · have D1 := decide_eq_true g1
          have D2 := decide_eq_false g2
          have D3 : ¬ (bY < ay) := by omega
          have D4 : ay < bY := by omega
          go_wp2_with fail
          (with_reducible refine (HC.out _).mono ?_)
          rintro _ w5 ⟨rfl, b5⟩
          have hx5 := blkB b5 HX4.out
          have hs5 := blkB b5 HS4.out
          have HB5 := hide (bto HB4.out b5)
          have HX5 := hide hx5
          clear d1 d2 d3 d4 d5 d6 b5
          obtain ⟨⟨d1, d2, d3, d4⟩, _⟩ := blk4 hs5
          clear hx5 hs5
          go_wp2_with fail
          all_goals first
            | (refine ⟨⟨k + 1, y2, HL.out, hc, by go_num, by rw [HN.out (by omega)], HB5, HX5, HD2⟩, ?_⟩
               have := HM.out
               simp [intOf]; omega)
            | (refine ⟨⟨k + 1, y2, HL.out, hc, by go_num, by rw [HY.out (by omega)], HB5, HX5, HD2⟩, ?_⟩
               have := HM.out
               simp [intOf]; omega)
        · have D1 := decide_eq_false g1
          have D2 := decide_eq_true g2
          have D3 : bY < ay := by omega
          have D4 : ¬ (ay < bY) := by omega
          go_wp2_with fail
          (with_reducible refine (HC.out _).mono ?_)
          rintro _ w5 ⟨rfl, b5⟩
          have hx5 := blkB b5 HX4.out
          have hs5 := blkB b5 HS4.out
          have HB5 := hide (bto HB4.out b5)
          have HX5 := hide hx5
          clear d1 d2 d3 d4 d5 d6 b5
          obtain ⟨⟨d1, d2, d3, d4⟩, _⟩ := blk4 hs5
          clear hx5 hs5
          go_wp2_with fail
          all_goals first
            | (refine ⟨⟨k + 1, y2, HL.out, hc, by go_num, by rw [HN.out (by omega)], HB5, HX5, HD2⟩, ?_⟩
               have := HM.out
               simp [intOf]; omega)
            | (refine ⟨⟨k + 1, y2, HL.out, hc, by go_num, by rw [HY.out (by omega)], HB5, HX5, HD2⟩, ?_⟩
               have := HM.out
               simp [intOf]; omega)
        · have D1 := decide_eq_false g1
          have D2 := decide_eq_false g2
          go_wp2_with fail
          refine ⟨⟨k + 1, y2, HL.out, hc, by go_num, by rw [HN.out (by omega)], HB4, HX4, HD2⟩, ?_⟩
          have := HM.out
          simp [intOf]; omega
    · have hr : R = y := by rw [← hrel.out, List.drop_eq_nil_of_le (by rw [sd_len]; omega)]; rfl
      have HR2 := hide hr
      clear hr hrel
      go_wp2_with fail
      go_ret
      exact ⟨ret_int HR2.out.symm, hb.out⟩
/-! The reference's ring functions: Twice. -/

set_option maxRecDepth 100000 in
set_option maxHeartbeats 8000000 in
theorem xtwice_any (r : List Pt) (v : Value) (w : World) (hv : SlP w v r) (hr : r.length ≤ 100000) :
    Calls Try.prog 13 #[v] w fun e w' => e = .returned (.int .i64 (twice r)) ∧ Below w.heap.size w w' := by
  have HV := hide hv
  obtain ⟨A, c, rfl, _⟩ := hv
  have ht := twice_X r
  by_cases h3 : (r.length : Int) < 3
  · have hreg : regB r = false := by
      cases e : regB r with
      | false => rfl
      | true => have := ((regB_iff r).1 e).1; omega
    rw [ht, hreg]
    clear ht
    go_enter Try.func13, Try.ntmps13
    go_wp2_with fail
    go_ret
    exact ⟨rfl, Below.refl _ _⟩
  by_cases h4 : (2000 : Int) < r.length
  · have hreg : regB r = false := by
      cases e : regB r with
      | false => rfl
      | true => have := ((regB_iff r).1 e).2.1; omega
    rw [ht, hreg]
    clear ht
    go_enter Try.func13, Try.ntmps13
    go_wp2_with fail
    go_ret
    exact ⟨rfl, Below.refl _ _⟩
  have HN := hide (rnearL_any r (.slice A r.length c) w HV.out (by omega))
  cases hn : nearL r with
  | false =>
    have hreg : regB r = false := by
      cases e : regB r with
      | false => rfl
      | true => have := ((regB_iff r).1 e).2.2; rw [hn] at this; cases this
    rw [ht, hreg]
    rw [hn] at HN
    clear ht hn
    go_enter Try.func13, Try.ntmps13
    go_wp2_with fail
    refine HN.out.mono ?_
    rintro _ w1 ⟨rfl, b1⟩
    go_wp2_with fail
    go_ret
    exact ⟨rfl, b1⟩
  | true =>
    have hreg : regB r = true := (regB_iff r).2 ⟨by omega, by omega, hn⟩
    have HF := hide (regB_fine r hreg).1
    rw [ht, hreg]
    rw [hn] at HN
    obtain ⟨R, hR⟩ : ∃ R, R = sumX (sd r) := ⟨_, rfl⟩
    rw [if_pos rfl, ← hR]
    have HR := hide hR
    clear ht hn hR hreg
    go_enter Try.func13, Try.ntmps13
    go_wp2_with fail
    refine HN.out.mono ?_
    rintro _ w1 ⟨rfl, b1⟩
    have HB1 := hide b1
    clear b1
    go_wp2_with fail
    go_loopw [3, 4] (fun z i wr => ∃ (k : Nat) (y : Int), k ≤ r.length ∧ (-((k : Int) * 35184372088832) ≤ y ∧ y ≤ (k : Int) * 35184372088832) ∧ i = .int .i64 k ∧ z = .int .i64 y ∧ Hid (Below w.heap.size w wr) ∧ Hid (y + sumX ((sd r).drop k) = R)) (fun _ i _ => r.length - (intOf i).toNat)
    case atStart => exact ⟨0, 0, Nat.zero_le _, by omega, rfl, rfl, HB1, hide (by rw [HR.out]; simp)⟩
    case round =>
      obtain ⟨k, y, hk, hy, rfl, rfl, hb, hrel⟩ := hrel
      by_cases hlt : k < r.length
      · have hd := hrel.out
        rw [sd_drop r k hlt, sumX] at hd
        have hz : 0 < r.length := by omega
        have fa := HF.out.at0 k hlt
        have fb := HF.out.at0 ((k + 1) % r.length) (Nat.mod_lt _ hz)
        have hs : sideAt r k = ⟨at0 r k, at0 r ((k + 1) % r.length)⟩ := rfl
        have HS := hide (fun w h => rside_any r (.slice A r.length c) k w h (by omega) hlt)
        rw [hs] at hd HS
        obtain ⟨⟨m1, m2⟩, m3, m4⟩ := termX_bd _ _ fa fb
        unfold termX at hd
        generalize at0 r k = p at *
        generalize at0 r ((k + 1) % r.length) = q at *
        obtain ⟨ax, ay⟩ := p
        obtain ⟨bx, bY⟩ := q
        simp only at hd m1 m2 m3 m4
        have HD := hide hd
        have b1 : (0 : Int) ≤ k := by omega
        have b2 : (k : Int) < r.length := by omega
        have HL := hide hlt
        have HM := hide (show r.length - (k + 1) < r.length - k from by omega)
        clear hd hrel hs fa fb hlt
        go_wp2_with fail
        refine (HS.out _ (HV.out.below hb.out)).mono ?_
        rintro _ w2 ⟨rfl, b3⟩
        simp only [vS]
        have HB3 := hide (bto hb.out b3)
        have hz3 : w.heap.size ≤ w2.heap.size := HB3.out.size
        clear b3
        obtain ⟨y1, y2⟩ := hy
        go_wp2_with fail
        refine ⟨⟨k + 1, y + (ax * bY - bx * ay), HL.out, by push_cast; omega, by go_num, rfl, hide (HB3.out.alloc hz3 _), hide (by rw [← HD.out]; omega)⟩, ?_⟩
        have := HM.out
        simp [intOf]; omega
      · have hr : R = y := by rw [← hrel.out, List.drop_eq_nil_of_le (by rw [sd_len]; omega)]; simp [sumX]
        have HR2 := hide hr
        clear hr hrel
        go_wp2_with fail
        go_ret
        exact ⟨ret_int HR2.out.symm, hb.out⟩
/-! The reference's ring functions: Simple, Side. -/

/-- The pairs of sides that the reference looks at. -/
def okP (r : List Pt) (i k : Nat) : Prop := pairB r.length (i, sideAt r i) (k, sideAt r k) = true
theorem okP_near {r : List Pt} {i k : Nat} {m : Int} (hm : meets (sideAt r i) (sideAt r k) = m) (h : (i : Int) - k = 1 ∨ (i : Int) - k = (r.length : Int) - 1) : okP r i k ↔ m = 1 := by
  unfold okP pairB nbr
  simp only [hm]
  rw [if_pos (by simp only [Bool.or_eq_true, decide_eq_true_eq]; exact h), decide_eq_true_eq]
theorem okP_far {r : List Pt} {i k : Nat} {m : Int} (hm : meets (sideAt r i) (sideAt r k) = m) (h1 : ¬ (i : Int) - k = 1) (h2 : ¬ (i : Int) - k = (r.length : Int) - 1) : okP r i k ↔ m = 0 := by
  unfold okP pairB nbr
  simp only [hm]
  rw [if_neg (by simp only [Bool.or_eq_true, decide_eq_true_eq]; omega), decide_eq_true_eq]

set_option maxRecDepth 100000 in
set_option maxHeartbeats 8000000 in
theorem xsimple_in (r : List Pt) (v : Value) (w : World) (hv : SlP w v r) (hreg : regB r = true) :
    Calls Try.prog 15 #[v] w fun e w' => e = .returned (.bool (simple r)) ∧ Below w.heap.size w w' := by
  have HV := hide hv
  obtain ⟨A, c, rfl, _⟩ := hv
  have h3 : ¬ ((r.length : Int) < 3) := by have := ((regB_iff r).1 hreg).1; omega
  have h4 : ¬ ((2000 : Int) < r.length) := by have := ((regB_iff r).1 hreg).2.1; omega
  have HN := hide (rnearL_any r (.slice A r.length c) w HV.out (by omega))
  rw [((regB_iff r).1 hreg).2.2] at HN
  have hall := simple_pairs r hreg
  generalize simple r = R at *
  have HALL : Hid (R = true ↔ ∀ i, i < r.length → ∀ k, k < i → okP r i k) := hide hall
  clear hall hreg
  go_enter Try.func15, Try.ntmps15
  go_wp2_with fail
  refine HN.out.mono ?_
  rintro _ w1 ⟨rfl, b1⟩
  have HB1 := hide b1
  clear b1
  go_wp2_with fail
  go_loopw [4] (fun i wr => ∃ k : Nat, k ≤ r.length ∧ i = .int .i64 k ∧ Hid (Below w.heap.size w wr) ∧ Hid (∀ i, i < k → ∀ j, j < i → okP r i j)) (fun i _ => r.length - (intOf i).toNat)
  case atStart => exact ⟨0, Nat.zero_le _, rfl, HB1, hide (fun i hi => by omega)⟩
  case round =>
    obtain ⟨i, hi, rfl, hb, hrel⟩ := hrel
    by_cases hlt : i < r.length
    · have b1 : (0 : Int) ≤ i := by omega
      have b2 : (i : Int) < r.length := by omega
      have HL := hide hlt
      have HM := hide (show r.length - (i + 1) < r.length - i from by omega)
      clear hlt
      go_wp2_with fail
      go_loopw [5] (fun j wr => ∃ k : Nat, k ≤ i ∧ j = .int .i64 k ∧ Hid (Below w.heap.size w wr) ∧ Hid (∀ j, j < k → okP r i j)) (fun j _ => i - (intOf j).toNat)
      case atStart => exact ⟨0, Nat.zero_le _, rfl, hb, hide (fun j hj => by omega)⟩
      case round =>
        obtain ⟨k, hk, rfl, hb2, hrel2⟩ := hrel
        by_cases hlt2 : k < i
        · have HS1 := hide (fun w h => rside_any r (.slice A r.length c) i w h (by omega) HL.out)
          have HS2 := hide (fun w h => rside_any r (.slice A r.length c) k w h (by omega) (Nat.lt_trans hlt2 HL.out))
          obtain ⟨m, hm⟩ : ∃ m, meets (sideAt r i) (sideAt r k) = m := ⟨_, rfl⟩
          have HP1 := hide (fun h => okP_near hm h)
          have HP2 := hide (fun h1 h2 => okP_far hm h1 h2)
          generalize sideAt r i = s at *
          generalize sideAt r k = t at *
          obtain ⟨⟨ax, ay⟩, ⟨bx, bY⟩⟩ := s
          obtain ⟨⟨cx, cy⟩, ⟨dx, dy⟩⟩ := t
          have HC := hide (fun w => rmeets_any ax ay bx bY cx cy dx dy w)
          simp only [hm] at HC
          have d1 : (0 : Int) ≤ k := by omega
          have d2 : (k : Int) < i := by omega
          have HL2 := hide hlt2
          have HM2 := hide (show i - (k + 1) < i - k from by omega)
          clear hlt2 hm
          by_cases c1 : (i : Int) - k = 1
          · have HO := hide (HP1.out (.inl c1))
            go_wp2_with fail
            refine (HS1.out _ (HV.out.below hb2.out)).mono ?_
            rintro _ w2 ⟨rfl, e2⟩
            have HB2 := hide (bto hb2.out e2)
            clear e2
            simp only [vS]
            go_wp2_with fail
            refine (HS2.out _ (HV.out.below HB2.out)).mono ?_
            rintro _ w3 ⟨rfl, e3⟩
            have HB3 := hide (bto HB2.out e3)
            clear e3
            simp only [vS]
            go_wp2_with fail
            refine (HC.out _).mono ?_
            rintro _ w4 ⟨rfl, e4⟩
            have HB4 := hide (bto HB3.out e4)
            clear e4
            by_cases g : m = 1
            · go_wp2_with fail
              refine ⟨⟨k + 1, HL2.out, by go_num, HB4, hide (fun j hj => ?_)⟩, ?_⟩
              · by_cases e : j = k
                · subst e; exact HO.out.2 g
                · exact hrel2.out j (by omega)
              · have := HM2.out
                simp [intOf]; omega
            · have hR : R = false := by
                cases e : R with
                | false => rfl
                | true => exact absurd (HO.out.1 (HALL.out.1 e i HL.out k HL2.out)) g
              subst hR
              go_wp2_with fail
              go_ret
              exact ⟨rfl, HB4.out⟩
          · by_cases c2 : (i : Int) - k = (r.length : Int) - 1
            · have HO := hide (HP1.out (.inr c2))
              have k1 : ((i : Int) - k == 1) = false := beq_eq_false_iff_ne.2 c1
              have k2 : ((i : Int) - k == (r.length : Int) - 1) = true := beq_iff_eq.2 c2
              clear c1 c2
              go_wp2_with fail
              refine (HS1.out _ (HV.out.below hb2.out)).mono ?_
              rintro _ w2 ⟨rfl, e2⟩
              have HB2 := hide (bto hb2.out e2)
              clear e2
              simp only [vS]
              go_wp2_with fail
              refine (HS2.out _ (HV.out.below HB2.out)).mono ?_
              rintro _ w3 ⟨rfl, e3⟩
              have HB3 := hide (bto HB2.out e3)
              clear e3
              simp only [vS]
              go_wp2_with fail
              refine (HC.out _).mono ?_
              rintro _ w4 ⟨rfl, e4⟩
              have HB4 := hide (bto HB3.out e4)
              clear e4
              by_cases g : m = 1
              · go_wp2_with fail
                refine ⟨⟨k + 1, HL2.out, by go_num, HB4, hide (fun j hj => ?_)⟩, ?_⟩
                · by_cases e : j = k
                  · subst e; exact HO.out.2 g
                  · exact hrel2.out j (by omega)
                · have := HM2.out
                  simp [intOf]; omega
              · have hR : R = false := by
                  cases e : R with
                  | false => rfl
                  | true => exact absurd (HO.out.1 (HALL.out.1 e i HL.out k HL2.out)) g
                subst hR
                go_wp2_with fail
                go_ret
                exact ⟨rfl, HB4.out⟩
            · have HO := hide (HP2.out c1 c2)
              have k1 : ((i : Int) - k == 1) = false := beq_eq_false_iff_ne.2 c1
              have k2 : ((i : Int) - k == (r.length : Int) - 1) = false := beq_eq_false_iff_ne.2 c2
              clear c1 c2
              go_wp2_with fail
              refine (HS1.out _ (HV.out.below hb2.out)).mono ?_
              rintro _ w2 ⟨rfl, e2⟩
              have HB2 := hide (bto hb2.out e2)
              clear e2
              simp only [vS]
              go_wp2_with fail
              refine (HS2.out _ (HV.out.below HB2.out)).mono ?_
              rintro _ w3 ⟨rfl, e3⟩
              have HB3 := hide (bto HB2.out e3)
              clear e3
              simp only [vS]
              go_wp2_with fail
              refine (HC.out _).mono ?_
              rintro _ w4 ⟨rfl, e4⟩
              have HB4 := hide (bto HB3.out e4)
              clear e4
              by_cases g : m = 0
              · go_wp2_with fail
                refine ⟨⟨k + 1, HL2.out, by go_num, HB4, hide (fun j hj => ?_)⟩, ?_⟩
                · by_cases e : j = k
                  · subst e; exact HO.out.2 g
                  · exact hrel2.out j (by omega)
                · have := HM2.out
                  simp [intOf]; omega
              · have hR : R = false := by
                  cases e : R with
                  | false => rfl
                  | true => exact absurd (HO.out.1 (HALL.out.1 e i HL.out k HL2.out)) g
                subst hR
                go_wp2_with fail
                go_ret
                exact ⟨rfl, HB4.out⟩
        · go_wp2_with fail
          refine ⟨⟨i + 1, HL.out, by go_num, hb2, hide (fun a ha j hj => ?_)⟩, ?_⟩
          · by_cases e : a = i
            · subst e; exact hrel2.out j (by omega)
            · exact hrel.out a (by omega) j hj
          · have := HM.out
            simp [intOf]; omega
    · have hR : R = true := HALL.out.2 (fun i hi => hrel.out i (by omega))
      subst hR
      go_wp2_with fail
      go_ret
      exact ⟨rfl, hb.out⟩

theorem simple_reg_f {r : List Pt} (h : regB r = false) : simple r = false := by
  cases e : simple r with
  | false => rfl
  | true => rw [simple_reg r e] at h; cases h
set_option maxRecDepth 100000 in
set_option maxHeartbeats 8000000 in
theorem xsimple_any (r : List Pt) (v : Value) (w : World) (hv : SlP w v r) (hr : r.length ≤ 100000) :
    Calls Try.prog 15 #[v] w fun e w' => e = .returned (.bool (simple r)) ∧ Below w.heap.size w w' := by
  cases hreg : regB r with
  | true => exact xsimple_in r v w hv hreg
  | false =>
    rw [simple_reg_f hreg]
    have HV := hide hv
    obtain ⟨A, c, rfl, _⟩ := hv
    by_cases h3 : (r.length : Int) < 3
    · clear hreg
      go_enter Try.func15, Try.ntmps15
      go_wp2_with fail
      go_ret
      exact ⟨rfl, Below.refl _ _⟩
    by_cases h4 : (2000 : Int) < r.length
    · clear hreg
      go_enter Try.func15, Try.ntmps15
      go_wp2_with fail
      go_ret
      exact ⟨rfl, Below.refl _ _⟩
    have HN := hide (rnearL_any r (.slice A r.length c) w HV.out (by omega))
    have hn : nearL r = false := by
      cases e : nearL r with
      | false => rfl
      | true => rw [(regB_iff r).2 ⟨by omega, by omega, e⟩] at hreg; cases hreg
    rw [hn] at HN
    clear hn hreg
    go_enter Try.func15, Try.ntmps15
    go_wp2_with fail
    refine HN.out.mono ?_
    rintro _ w1 ⟨rfl, b1⟩
    go_wp2_with fail
    go_ret
    exact ⟨rfl, b1⟩

theorem near_wide (p : Pt) (h : nearB p = true) : wideP p := (fine_near p h).wide
set_option maxRecDepth 100000 in
set_option maxHeartbeats 8000000 in
theorem xside_any (r : List Pt) (v : Value) (px py : Int) (w : World) (hv : SlP w v r) (hr : r.length ≤ 100000) :
    Calls Try.prog 17 #[v, .agg #[.int .i64 px, .int .i64 py]] w fun e w' => e = .returned (.int .i64 (sideR r ⟨px, py⟩)) ∧ Below w.heap.size w w' := by
  have HV := hide hv
  have HS := hide (fun w h => xsimple_any r v w h hr)
  have HI := hide (is_any px py)
  obtain ⟨R, hR⟩ : ∃ R, R = sideR r ⟨px, py⟩ := ⟨_, rfl⟩
  rw [← hR]
  unfold sideR at hR
  have HW := hide (fun h1 h2 w h => xwhere_any r v px py w h (regB_fine r (simple_reg r h1)).1 (near_wide ⟨px, py⟩ h2))
  have HE := hide (fun h1 => simple_locate r h1 ⟨px, py⟩)
  obtain ⟨A, c, rfl, _⟩ := hv
  generalize simple r = s at *
  generalize nearB ⟨px, py⟩ = n at *
  have HR := hide hR
  clear hR
  go_enter Try.func17, Try.ntmps17
  go_wp2_with fail
  have hbx : (w.alloc (.cells #[.int .i64 px, .int .i64 py] 24)).heap[w.heap.size]? = some (.cells #[.int .i64 px, .int .i64 py] 24 (0, 0)) := blkN _ _ _ rfl
  have hb0 : Below w.heap.size w (w.alloc (.cells #[.int .i64 px, .int .i64 py] 24)) := (Below.refl _ w).alloc (Nat.le_refl _) _
  refine (HS.out _ (HV.out.below hb0)).mono ?_
  rintro _ w1 ⟨rfl, b1⟩
  have hb1 := bto hb0 b1
  have hx1 := blkB b1 hbx
  have HB1 := hide hb1
  have HX1 := hide hx1
  clear hbx hb0 b1
  obtain ⟨⟨d1, d2⟩, _⟩ := blk2 hx1
  clear hb1 hx1
  cases s with
  | false =>
    go_wp2_with fail
    go_ret
    exact ⟨ret_int (by rw [HR.out]; rfl), HB1.out⟩
  | true =>
    go_wp2_with fail
    refine (HI.out _).mono ?_
    rintro _ w2 ⟨rfl, b2⟩
    have HB2 := hide (bto HB1.out b2)
    have hx2 := blkB b2 HX1.out
    clear d1 d2 b2
    obtain ⟨⟨d1, d2⟩, _⟩ := blk2 hx2
    clear hx2
    cases n with
    | false =>
      go_wp2_with fail
      go_ret
      exact ⟨ret_int (by rw [HR.out]; rfl), HB2.out⟩
    | true =>
      go_wp2_with fail
      refine (HW.out (by first | rfl | trivial) (by first | rfl | trivial) _ (HV.out.below HB2.out)).mono ?_
      rintro _ w3 ⟨rfl, b3⟩
      go_wp2_with fail
      go_ret
      exact ⟨ret_int (by rw [HR.out, HE.out (by first | rfl | trivial)]; rfl), bto HB2.out b3⟩
/-! The reference's ring functions: doubled. -/

theorem dbl_take (r : List Pt) (k : Nat) (h : k < r.length) : (dblR r).take (k + 1) = (dblR r).take k ++ [dblP (at0 r k)] := by
  unfold dblR
  rw [← List.map_take, ← List.map_take, List.take_add_one, at0_some r k h]
  simp

set_option maxHeartbeats 4000000 in
theorem xdbl_any (r : List Pt) (v : Value) (w : World) (hv : SlP w v r) (hfine : regB r = true) :
    Calls Try.prog 57 #[v] w fun e w' => ∃ A c', e = .returned (.slice A (dblR r).length c') ∧ PN w (dblR r) A c' w' := by
  have hlen : (dblR r).length = r.length := by simp [dblR]
  obtain ⟨A0, c0, rfl, hA⟩ := hv
  have h3 := ((regB_iff r).1 hfine).1
  have h4 := ((regB_iff r).1 hfine).2.1
  have HF := hide (regB_fine r hfine).1
  obtain ⟨g, o, rfl, hg, hp⟩ := hA.resolve_left (by rintro rfl; simp at h3)
  have HP := hide hp
  obtain ⟨i0, hi, hz0, hz1, hz2⟩ := info_parts info_pt
  have HI := hide hi
  have HZ0 := hide hz0
  have HZ1 := hide hz1
  have HZ2 := hide hz2
  have HLEN := hide hlen
  clear hi hz0 hz1 hz2 hlen hp hfine hA
  go_enter Try.func57, Try.ntmps57
  go_wp2_with fail
  go_loopw [3, 4] (fun u i wr => ∃ (k : Nat) (A : Option Addr) (c : Nat) (q : List Pt), k ≤ r.length ∧ (q.length ≤ k ∧ k ≤ q.length) ∧ i = .int .i64 k ∧ u = .slice A q.length c ∧ Hid (q = (dblR r).take k) ∧ Hid (PN w q A c wr)) (fun _ i _ => r.length - (intOf i).toNat)
  case atStart => exact ⟨0, none, 0, [], Nat.zero_le _, ⟨Nat.le_refl _, Nat.le_refl _⟩, rfl, rfl, rfl, ⟨World.ownsRow_nil _ _ _ _, Below.refl _ _⟩⟩
  case round =>
    obtain ⟨k, A, c, q, hk, ⟨hj1, hj2⟩, rfl, rfl, hr, hm⟩ := hrel
    by_cases hlt : k < r.length
    · have hsn := dbl_take r k hlt
      rw [← hr.out] at hsn
      obtain ⟨cx, cy⟩ := HP.out k _ (at0_some r k hlt)
      have hcx := (hm.out.below.cell (p := ⟨g, _, none⟩) hg).trans cx
      have hcy := (hm.out.below.cell (p := ⟨g, _, none⟩) hg).trans cy
      obtain ⟨f1, f2, f3, f4⟩ := HF.out.at0 k hlt
      clear cx cy
      generalize at0 r k = p at *
      obtain ⟨x, y⟩ := p
      simp only at hcx hcy f1 f2 f3 f4
      have HSN := hide hsn
      have hgr : g < wr.heap.size := Nat.lt_of_lt_of_le hg hm.out.below.size
      have b1 : (0 : Int) ≤ k := by omega
      have b2 : (k : Int) < r.length := by omega
      have e1 : IntKind.i64.wrap (2 * x) = 2 * x := IntWalk.i64_in _ (by omega)
      have e2 : IntKind.i64.wrap (2 * y) = 2 * y := IntWalk.i64_in _ (by omega)
      have hfar : ∀ b, (Value.slice A q.length c).ownBlock = some b → b ≠ g := fun b hb => by have := (hm.out.own.lt b hb).1; omega
      clear hsn hr
      go_wp2_with fail
      go_region_held3 (fun w' => w'.cell? ⟨g, o + k * 2, none⟩ = some (.int .i64 x) ∧ w'.cell? ⟨g, o + k * 2 + 1, none⟩ = some (.int .i64 y))
        (first | exact ⟨hcx, hcy⟩ | exact ⟨(World.cell?_alloc_lt wr _ ⟨g, o + k * 2, none⟩ hgr).trans hcx, (World.cell?_alloc_lt wr _ ⟨g, o + k * 2 + 1, none⟩ hgr).trans hcy⟩ | exact ⟨(hgrow.cell_far ⟨g, o + k * 2, none⟩ (by simp; omega) (fun e => hfar _ e.symm rfl)).trans ((World.cell?_alloc_lt wr _ ⟨g, o + k * 2, none⟩ hgr).trans hcx), (hgrow.cell_far ⟨g, o + k * 2 + 1, none⟩ (by simp; omega) (fun e => hfar _ e.symm rfl)).trans ((World.cell?_alloc_lt wr _ ⟨g, o + k * 2 + 1, none⟩ hgr).trans hcy)⟩)
        ((refine step_append_lies _ (by rfl) _ _ _ (by rfl) w.heap.size 24 i0 (.agg #[.int .i64 0, .int .i64 0]) 2 16 Try.underlying22 HI.out HZ0.out HZ1.out HZ2.out rfl (by omega) (.slice A q.length c) q.length (cellsP q) (by rfl) ((hm.out.own.alloc _).drew) ⟨wr.heap.size, 0, none⟩ 1 1 [.int .i64 (2 * x), .int .i64 (2 * y)] (by rfl) (by rfl) (World.news_of_block (cs := #[.int .i64 (2 * x), .int .i64 (2 * y)]) (t := 24) (fr := (0, 0)) (heap_alloc_new wr _)) (by simp [Value.oneCell']) (by omega) (by unfold maxLen; omega) (by omega) (by have := hm.out.below.size; simp; omega) (wr.heap.size + 1) (by simp) ?_; intro gg cap w1 hown1 hgrow hat hlt))
      have hm8 : PN w (q ++ [⟨2 * x, 2 * y⟩]) (some ⟨gg, 0, none⟩) cap w1 := PN.more (hm.out.lift (((Below.refl _ wr).alloc (Nat.le_refl _) (.cells #[.int .i64 (2 * x), .int .i64 (2 * y)] 24)).drew)) hown1 hgrow
      have HM8 := hide hm8
      have hlen8 : Value.slice (some ⟨gg, 0, none⟩) (q.length + 1) cap = Value.slice (some ⟨gg, 0, none⟩) (q ++ [(⟨2 * x, 2 * y⟩ : Pt)]).length cap := by simp
      have HL8 := hide hlen8
      clear hm8 hlen8 hown1 hgrow hat hlt hcx hcy
      go_wp2_with fail
      refine ⟨⟨k + 1, _, cap, q ++ [(⟨2 * x, 2 * y⟩ : Pt)], by omega, by simp; omega, by go_num, HL8.out, hide HSN.out.symm, HM8⟩, ?_⟩
      simp [intOf]; omega
    · have hrr : q = dblR r := by rw [hr.out, List.take_of_length_le (by rw [HLEN.out]; omega)]
      subst hrr
      go_wp2_with fail
      go_ret
      exact ⟨A, c, rfl, hm.out⟩
end Go.Proofs.Ytmklnioedeailaa
