/-
  The reference's borders: put, on a list that is nil.
-/
import Derived.Test.YtfkgjbdeicggaaaGreatTopZD
namespace Go.Proofs.YtfkgjbdeicggaaaGreat
open Go.RowKit Go.Proofs.PlLex Go.Proofs.PlNet Go.Proofs.PlMap Go.Proofs.PlGeom Go.Proofs.PlTop
attribute [local go_sem] Oper.semAt_some run_min_str run_max_str

theorem grow_new {w W : World} {g' o : Nat} {v : Value} (hb : Below w.heap.size w W) (h : w.heap.size ≤ g') : w.grownBy (W.setCell ⟨g', o, none⟩ v) none :=
  ⟨hb.os, hb.tape, hb.output, by simpa [World.setCell] using hb.size, fun i hi _ => (Below.heap_setCell W ⟨g', o, none⟩ v i (fun e => by
    have e2 : g' = i := e.symm
    omega)).trans (hb.block i hi)⟩
theorem nil_end {B : Nat} {f : BA → Pt} {D : Nat} {g c b0 : Nat} {p : Pr} {W : World} (hr : W.ownsRow b0 75 7 (.slice (some ⟨g, 0, none⟩) 1 c) 1 [.string p.1, .string p.2, .int .i64 (f p.1).x, .int .i64 (f p.1).y, .int .i64 (f p.2).x, .int .i64 (f p.2).y, .slice none 0 0]) (hB : B ≤ b0) : BdS B f D (.slice (some ⟨g, 0, none⟩) 1 c) [(p, .slice none 0 0)] W :=
  ⟨own_lower hr hB, fun x hx => by
    rw [List.mem_singleton.1 hx]
    exact ⟨[], Nat.zero_le _, World.ownsRow_nil _ _ _ _⟩⟩
set_option maxRecDepth 100000 in
set_option maxHeartbeats 16000000 in
theorem put_none (l : List Ob) (mv : Value) (D : Nat) (pa pb id : BA) (w0 w : World) (hm : MapI w0 mv l) (hv : mapB l = true) (hb0 : Below w0.heap.size w0 w) (na : isNode l pa = true) (nb : isNode l pb = true) :
    Calls Tryz.prog 48 #[.slice none 0 0, .agg #[mv], .agg #[.string pa, .string pb], .string id] w fun e w' => ∃ v' L', e = .returned v' ∧ BdS w0.heap.size (ptO l) (D + 1) v' L' w' ∧ L'.map Prod.fst = [(pa, pb)] ∧ Below w0.heap.size w0 w' ∧ w.grownBy w' none := by
  have hmx : Tryz.prog.follows .mixedOrders = true := by kernel_rfl
  obtain ⟨w1, hw1⟩ : ∃ w1, w.alloc (.cells #[mv] 24) = w1 := ⟨_, rfl⟩
  obtain ⟨w2, hw2⟩ : ∃ w2, w1.alloc (.cells #[.string pa, .string pb] 87) = w2 := ⟨_, rfl⟩
  have hb1 : Below w.heap.size w w1 := by rw [← hw1]; exact (Below.refl _ _).alloc (Nat.le_refl _) _
  have hb2 : Below w1.heap.size w1 w2 := by rw [← hw2]; exact (Below.refl _ _).alloc (Nat.le_refl _) _
  have hx1 : w1.heap[w.heap.size]? = some (.cells #[mv] 24 (0, 0)) := by rw [← hw1]; exact heap_alloc_new _ _
  have hx2 : w2.heap[w1.heap.size]? = some (.cells #[.string pa, .string pb] 87 (0, 0)) := by rw [← hw2]; exact heap_alloc_new _ _
  have HX1 := hide (blkB hb2 hx1)
  have HX2 := hide hx2
  have HB2 := hide (bto hb1 hb2)
  have HB0 := hide (bto hb0 (bto hb1 hb2))
  have HM := hide hm
  have HV := hide hv
  have HNA := hide na
  have HNB := hide nb
  clear hb1 hb2 hx1 hx2 hb0 hm hv na nb
  go_enter Tryz.func48, Tryz.ntmps48
  go_upto_block 0 with (fail)
  clear hw1 hw2
  go_cut [9] (fun s9 wx => s9 = .int .i64 0 ∧ Hid (Below w2.heap.size w2 wx))
  case first =>
    go_wp2_with fail
    go_loopw [9] (fun i wr => i = .int .i64 0 ∧ Hid (Below w2.heap.size w2 wr)) (fun _ _ => 0)
    case atStart => exact ⟨rfl, hide (Below.refl _ _)⟩
    case round =>
      obtain ⟨rfl, hbr⟩ := hrel
      have hx := blkB hbr.out HX2.out
      have s0 := cell_of_row _ _ 0 _ _ _ hx
      have s1 := cell_of_row _ _ 1 _ _ _ hx
      clear hx
      go_wp2_with fail
      go_quiet (fail)
      have HB9 := hide (bto hbr.out (below_drewN wr nq))
      clear s0 s1
      generalize wr.drewN nq = wn at *
      go_wp2_with fail
      go_meet
      exact ⟨rfl, HB9⟩
  case rest =>
    obtain ⟨rfl, hbr⟩ := hcut
    have hx := blkB hbr.out HX2.out
    have s0 := cell_of_row _ _ 0 _ _ _ hx
    have s1 := cell_of_row _ _ 1 _ _ _ hx
    clear hx
    go_upto_region 4 with (fail)
    go_cut [71] from 48 to 71 (fun s71 wx => s71 = .bool true ∧ Hid (Below w2.heap.size w2 wx))
    case first =>
      go_wp2_with fail
      go_quiet (fail)
      have HB9 := hide (bto hbr.out (below_drewN wc nq))
      clear s0 s1
      generalize wc.drewN nq = wn at *
      go_wp2_with fail
      go_meet
      exact ⟨rfl, HB9⟩
    case rest =>
      obtain ⟨rfl, hbr2⟩ := hcut
      have HW := hide (bto HB0.out hbr2.out)
      have HWW := hide (bto HB2.out hbr2.out)
      have HX1C := hide (blkB hbr2.out HX1.out)
      have HX2C := hide (blkB hbr2.out HX2.out)
      clear hbr hbr2 HX1 HX2 HB0
      go_upto_if 71 with (fail)
      go_cut [0] from 72 to 106 (fun s0 wx => ∃ (g' cap' : Nat), s0 = .slice (some ⟨g', 0, none⟩) 1 cap' ∧ Hid (BdS w0.heap.size (ptO l) D (.slice (some ⟨g', 0, none⟩) 1 cap') [((pa, pb), .slice none 0 0)] wx) ∧ Hid (Below w0.heap.size w0 wx) ∧ Hid (Below w.heap.size w wx ∧ w.heap.size ≤ g'))
      case first =>
        go_upto_region 5 with (fail)
        go_cut [10] from 72 to 94 (fun s10 wx => ∃ gb : Nat, s10 = .pointer (some ⟨gb, 0, none⟩) ∧ Hid (wx.heap[gb]? = some (.cells (encD (ptO l) ((pa, pb), .slice none 0 0)).toArray 75 (0, 0))) ∧ Hid (Below wc.heap.size wc wx ∧ wc.heap.size ≤ gb))
        case first =>
          obtain ⟨j1, o1, hf1, hj1, hp1, hlt1⟩ := node_at HV.out HNA.out
          obtain ⟨j2, o2, hf2, hj2, hp2, hlt2⟩ := node_at HV.out HNB.out
          obtain ⟨A, ca, hmv, _, hA⟩ := HM.out.obs
          obtain ⟨ga, oa, hAe, hga, hob⟩ := hA.resolve_left (by rintro rfl; simp at hlt1)
          rw [hAe] at hmv
          have HF1 : Hid (∀ W, Below wc.heap.size wc W → Calls Tryz.prog 51 #[.agg #[mv], .string pa] W fun e w' => e = .returned (.int .i64 (j1 : Nat)) ∧ Below W.heap.size W w') := hide (fun W hW => by rw [← hf1]; exact find13_any l pa mv W (HM.out.below (bto HW.out hW)) HV.out)
          have HF2 : Hid (∀ W, Below wc.heap.size wc W → Calls Tryz.prog 51 #[.agg #[mv], .string pb] W fun e w' => e = .returned (.int .i64 (j2 : Nat)) ∧ Below W.heap.size W w') := hide (fun W hW => by rw [← hf2]; exact find13_any l pb mv W (HM.out.below (bto HW.out hW)) HV.out)
          obtain ⟨rv1, tv1, ob1⟩ := hob j1 o1 hj1
          obtain ⟨rv2, tv2, ob2⟩ := hob j2 o2 hj2
          have HMM : Hid (∀ W, Below wc.heap.size wc W → W.cell? ⟨w.heap.size, 0, none⟩ = some mv ∧ W.cell? ⟨w1.heap.size, 0, none⟩ = some (.string pa) ∧ W.cell? ⟨w1.heap.size, 1, none⟩ = some (.string pb) ∧ W.cell? ⟨ga, oa + j1 * 6 + 2, none⟩ = some (.int .i64 o1.x) ∧ W.cell? ⟨ga, oa + j1 * 6 + 3, none⟩ = some (.int .i64 o1.y) ∧ W.cell? ⟨ga, oa + j2 * 6 + 2, none⟩ = some (.int .i64 o2.x) ∧ W.cell? ⟨ga, oa + j2 * 6 + 3, none⟩ = some (.int .i64 o2.y)) := hide (fun W hW => by
            have q1 := ob1.below hga (bto HW.out hW)
            have q2 := ob2.below hga (bto HW.out hW)
            exact ⟨cell_of_row _ _ 0 _ _ _ (blkB hW HX1C.out), cell_of_row _ _ 0 _ _ _ (blkB hW HX2C.out), cell_of_row _ _ 1 _ _ _ (blkB hW HX2C.out), q1.c2, q1.c3, q2.c2, q2.c3⟩)
          have HP1 := hide hp1
          have HP2 := hide hp2
          have i1 : (0 : Int) ≤ (j1 : Nat) := by omega
          have i2 : ((j1 : Nat) : Int) < (l.length : Nat) := by omega
          have i3 : (0 : Int) ≤ (j2 : Nat) := by omega
          have i4 : ((j2 : Nat) : Int) < (l.length : Nat) := by omega
          subst hmv
          clear hA hob ob1 ob2 hj1 hj2 hf1 hf2 hp1 hp2 hlt1 hlt2 s0 s1
          refine wp_region_anyM (fun W => Below wc.heap.size wc W) 24 hmx ?_
          have hM := below_drew wc
          generalize wc.drew = wd at *
          simp only [List.size_toArray, List.length_cons, List.length_nil, Nat.reduceAdd]
          refine wpAnyM_take (i := 0) (v := .pointer (some ⟨w1.heap.size, 0, none⟩)) rfl (by kernel_rfl) (by kernel_rfl) (by kernel_rfl) (by kernel_rfl) (fun _ _ _ h => h) (.inl ⟨by kernel_rfl, fun w hm => by go_simp⟩) ?_
          refine wpAnyM_take (i := 1) (v := .string pa) rfl (by kernel_rfl) (by kernel_rfl) (by kernel_rfl) (by kernel_rfl) (fun _ _ _ h => h) (.inl ⟨by kernel_rfl, fun w hm => by obtain ⟨m0, m1, m2, m3, m4, m5, m6⟩ := HMM.out w hm; clear m0 m2 m3 m4 m5 m6; go_simp⟩) ?_
          refine wpAnyM_take (i := 2) (v := .pointer (some ⟨w1.heap.size, 1, none⟩)) rfl (by kernel_rfl) (by kernel_rfl) (by kernel_rfl) (by kernel_rfl) (fun _ _ _ h => h) (.inl ⟨by kernel_rfl, fun w hm => by go_simp⟩) ?_
          refine wpAnyM_take (i := 3) (v := .string pb) rfl (by kernel_rfl) (by kernel_rfl) (by kernel_rfl) (by kernel_rfl) (fun _ _ _ h => h) (.inl ⟨by kernel_rfl, fun w hm => by obtain ⟨m0, m1, m2, m3, m4, m5, m6⟩ := HMM.out w hm; clear m0 m1 m3 m4 m5 m6; go_simp⟩) ?_
          refine wpAnyM_take (i := 4) (v := .pointer (some ⟨w.heap.size, 0, none⟩)) rfl (by kernel_rfl) (by kernel_rfl) (by kernel_rfl) (by kernel_rfl) (fun _ _ _ h => h) (.inl ⟨by kernel_rfl, fun w hm => by go_simp⟩) ?_
          refine wpAnyM_take (i := 5) (v := .slice (some ⟨ga, oa, none⟩) l.length ca) rfl (by kernel_rfl) (by kernel_rfl) (by kernel_rfl) (by kernel_rfl) (fun _ _ _ h => h) (.inl ⟨by kernel_rfl, fun w hm => by obtain ⟨m0, m1, m2, m3, m4, m5, m6⟩ := HMM.out w hm; clear m1 m2 m3 m4 m5 m6; go_simp⟩) ?_
          refine wpAnyM_take (i := 6) (v := .agg #[.slice (some ⟨ga, oa, none⟩) l.length ca]) rfl (by kernel_rfl) (by kernel_rfl) (by kernel_rfl) (by kernel_rfl) (fun _ _ _ h => h) (.inl ⟨by kernel_rfl, fun w hm => by obtain ⟨m0, m1, m2, m3, m4, m5, m6⟩ := HMM.out w hm; clear m1 m2 m3 m4 m5 m6; go_simp⟩) ?_
          refine wpAnyM_take (i := 7) (v := .pointer (some ⟨w1.heap.size, 0, none⟩)) rfl (by kernel_rfl) (by kernel_rfl) (by kernel_rfl) (by kernel_rfl) (fun _ _ _ h => h) (.inl ⟨by kernel_rfl, fun w hm => by go_simp⟩) ?_
          refine wpAnyM_take (i := 8) (v := .string pa) rfl (by kernel_rfl) (by kernel_rfl) (by kernel_rfl) (by kernel_rfl) (fun _ _ _ h => h) (.inl ⟨by kernel_rfl, fun w hm => by obtain ⟨m0, m1, m2, m3, m4, m5, m6⟩ := HMM.out w hm; clear m0 m2 m3 m4 m5 m6; go_simp⟩) ?_
          refine wpAnyM_take (i := 13) (v := .pointer (some ⟨w.heap.size, 0, none⟩)) rfl (by kernel_rfl) (by kernel_rfl) (by kernel_rfl) (by kernel_rfl) (fun _ _ _ h => h) (.inl ⟨by kernel_rfl, fun w hm => by go_simp⟩) ?_
          refine wpAnyM_take (i := 14) (v := .slice (some ⟨ga, oa, none⟩) l.length ca) rfl (by kernel_rfl) (by kernel_rfl) (by kernel_rfl) (by kernel_rfl) (fun _ _ _ h => h) (.inl ⟨by kernel_rfl, fun w hm => by obtain ⟨m0, m1, m2, m3, m4, m5, m6⟩ := HMM.out w hm; clear m1 m2 m3 m4 m5 m6; go_simp⟩) ?_
          refine wpAnyM_take (i := 15) (v := .agg #[.slice (some ⟨ga, oa, none⟩) l.length ca]) rfl (by kernel_rfl) (by kernel_rfl) (by kernel_rfl) (by kernel_rfl) (fun _ _ _ h => h) (.inl ⟨by kernel_rfl, fun w hm => by obtain ⟨m0, m1, m2, m3, m4, m5, m6⟩ := HMM.out w hm; clear m1 m2 m3 m4 m5 m6; go_simp⟩) ?_
          refine wpAnyM_take (i := 16) (v := .pointer (some ⟨w1.heap.size, 1, none⟩)) rfl (by kernel_rfl) (by kernel_rfl) (by kernel_rfl) (by kernel_rfl) (fun _ _ _ h => h) (.inl ⟨by kernel_rfl, fun w hm => by go_simp⟩) ?_
          refine wpAnyM_take (i := 17) (v := .string pb) rfl (by kernel_rfl) (by kernel_rfl) (by kernel_rfl) (by kernel_rfl) (fun _ _ _ h => h) (.inl ⟨by kernel_rfl, fun w hm => by obtain ⟨m0, m1, m2, m3, m4, m5, m6⟩ := HMM.out w hm; clear m0 m1 m3 m4 m5 m6; go_simp⟩) ?_
          refine wpAnyM_ready (rs := [9, 23]) (by kernel_rfl) (by simp) (hM) ?_
          refine AllReadyM.cons rfl (fun K' hK => ?_) (AllReadyM.cons rfl (fun K' hK => ?_) (AllReadyM.nil))
          · rw [if_pos (by kernel_rfl)]
            go_simp
            go_at_call 51
            refine (HF1.out _ hM).mono ?_
            rintro _ wA ⟨rfl, hb5⟩
            have hM := bto hM hb5
            clear hb5
            refine hK _ _ ?_
            refine wpAnyM_take (i := 10) (v := .pointer (some ⟨ga, oa + j1 * 6, none⟩)) rfl (by kernel_rfl) (by kernel_rfl) (by kernel_rfl) (by kernel_rfl) (fun _ _ _ h => h) (.inl ⟨by kernel_rfl, fun w hm => by go_simp⟩) ?_
            refine wpAnyM_take (i := 11) (v := .pointer (some ⟨ga, oa + j1 * 6 + 2, none⟩)) rfl (by kernel_rfl) (by kernel_rfl) (by kernel_rfl) (by kernel_rfl) (fun _ _ _ h => h) (.inl ⟨by kernel_rfl, fun w hm => by go_simp⟩) ?_
            refine wpAnyM_take (i := 12) (v := .agg #[.int .i64 o1.x, .int .i64 o1.y]) rfl (by kernel_rfl) (by kernel_rfl) (by kernel_rfl) (by kernel_rfl) (fun _ _ _ h => h) (.inl ⟨by kernel_rfl, fun w hm => by obtain ⟨m0, m1, m2, m3, m4, m5, m6⟩ := HMM.out w hm; clear m0 m1 m2 m5 m6; go_simp⟩) ?_
            refine wpAnyM_ready (rs := [18, 23]) (by kernel_rfl) (by simp) (hM) ?_
            refine AllReadyM.cons rfl (fun K' hK => ?_) (AllReadyM.cons rfl (fun K' hK => ?_) (AllReadyM.nil))
            · rw [if_pos (by kernel_rfl)]
              go_simp
              go_at_call 51
              refine (HF2.out _ hM).mono ?_
              rintro _ wB ⟨rfl, hb5⟩
              have hM := bto hM hb5
              clear hb5
              refine hK _ _ ?_
              refine wpAnyM_take (i := 19) (v := .pointer (some ⟨ga, oa + j2 * 6, none⟩)) rfl (by kernel_rfl) (by kernel_rfl) (by kernel_rfl) (by kernel_rfl) (fun _ _ _ h => h) (.inl ⟨by kernel_rfl, fun w hm => by go_simp⟩) ?_
              refine wpAnyM_take (i := 20) (v := .pointer (some ⟨ga, oa + j2 * 6 + 2, none⟩)) rfl (by kernel_rfl) (by kernel_rfl) (by kernel_rfl) (by kernel_rfl) (fun _ _ _ h => h) (.inl ⟨by kernel_rfl, fun w hm => by go_simp⟩) ?_
              refine wpAnyM_take (i := 21) (v := .agg #[.int .i64 o2.x, .int .i64 o2.y]) rfl (by kernel_rfl) (by kernel_rfl) (by kernel_rfl) (by kernel_rfl) (fun _ _ _ h => h) (.inl ⟨by kernel_rfl, fun w hm => by obtain ⟨m0, m1, m2, m3, m4, m5, m6⟩ := HMM.out w hm; clear m0 m1 m2 m3 m4; go_simp⟩) ?_
              refine wpAnyM_ready (rs := [22, 23]) (by kernel_rfl) (by simp) (hM) ?_
              refine AllReadyM.cons rfl (fun K' hK => ?_) (AllReadyM.cons rfl (fun K' hK => ?_) (AllReadyM.nil))
              · rw [if_pos (by kernel_rfl)]
                go_simp
                refine hK _ _ ?_
                refine wpAnyM_ready (rs := [23]) (by kernel_rfl) (by simp) (hM) ?_
                refine AllReadyM.cons rfl (fun K' hK => ?_) (AllReadyM.nil)
                rw [if_pos (by kernel_rfl)]
                go_simp
                have hq := heap_alloc_new wB (.cells zeroD 75)
                have hMq := bto hM ((Below.refl wB.heap.size wB).alloc (Nat.le_refl _) (.cells zeroD 75))
                have hgb : wc.heap.size ≤ wB.heap.size := hM.size
                obtain ⟨gb, hgbe⟩ : ∃ gb, wB.heap.size = gb := ⟨_, rfl⟩
                unfold zeroD at hq hMq
                rw [hgbe] at hq hgb ⊢
                clear hgbe hM
                generalize wB.alloc _ = wQ at *
                have hM := hMq
                clear hMq
                refine hK _ _ ?_
                refine wpAnyM_ready (rs := [24]) (by kernel_rfl) (by simp) (hM) ?_
                refine AllReadyM.cons rfl (fun K' hK => ?_) (AllReadyM.nil)
                obtain ⟨⟨x0, x1, x2, x3, x4, x5, x6⟩, y0, y1, y2, y3, y4, y5, y6⟩ := row7 hq
                rw [if_pos (by kernel_rfl)]
                go_simp
                refine hK _ _ ?_
                refine wpAnyM_done (by kernel_rfl) (by kernel_rfl) ?_ _
                go_wp2_with fail
                go_meet
                refine ⟨gb, rfl, hide ?_, hide ⟨((((((hM.setCell (p := ⟨gb, 0, none⟩) hgb _).setCell (p := ⟨gb, 1, none⟩) hgb _).setCell (p := ⟨gb, 2, none⟩) hgb _).setCell (p := ⟨gb, 3, none⟩) hgb _).setCell (p := ⟨gb, 4, none⟩) hgb _).setCell (p := ⟨gb, 5, none⟩) hgb _).setCell (p := ⟨gb, 6, none⟩) hgb _, hgb⟩⟩
                unfold encD
                rw [HP1.out, HP2.out]
                exact put7 hq _ _ _ _ _ _ _
              · rw [if_pos (by kernel_rfl)]
                go_simp
                have hq := heap_alloc_new wB (.cells zeroD 75)
                have hMq := bto hM ((Below.refl wB.heap.size wB).alloc (Nat.le_refl _) (.cells zeroD 75))
                have hgb : wc.heap.size ≤ wB.heap.size := hM.size
                obtain ⟨gb, hgbe⟩ : ∃ gb, wB.heap.size = gb := ⟨_, rfl⟩
                unfold zeroD at hq hMq
                rw [hgbe] at hq hgb ⊢
                clear hgbe hM
                generalize wB.alloc _ = wQ at *
                have hM := hMq
                clear hMq
                refine hK _ _ ?_
                refine wpAnyM_ready (rs := [22]) (by kernel_rfl) (by simp) (hM) ?_
                refine AllReadyM.cons rfl (fun K' hK => ?_) (AllReadyM.nil)
                rw [if_pos (by kernel_rfl)]
                go_simp
                refine hK _ _ ?_
                refine wpAnyM_ready (rs := [24]) (by kernel_rfl) (by simp) (hM) ?_
                refine AllReadyM.cons rfl (fun K' hK => ?_) (AllReadyM.nil)
                obtain ⟨⟨x0, x1, x2, x3, x4, x5, x6⟩, y0, y1, y2, y3, y4, y5, y6⟩ := row7 hq
                rw [if_pos (by kernel_rfl)]
                go_simp
                refine hK _ _ ?_
                refine wpAnyM_done (by kernel_rfl) (by kernel_rfl) ?_ _
                go_wp2_with fail
                go_meet
                refine ⟨gb, rfl, hide ?_, hide ⟨((((((hM.setCell (p := ⟨gb, 0, none⟩) hgb _).setCell (p := ⟨gb, 1, none⟩) hgb _).setCell (p := ⟨gb, 2, none⟩) hgb _).setCell (p := ⟨gb, 3, none⟩) hgb _).setCell (p := ⟨gb, 4, none⟩) hgb _).setCell (p := ⟨gb, 5, none⟩) hgb _).setCell (p := ⟨gb, 6, none⟩) hgb _, hgb⟩⟩
                unfold encD
                rw [HP1.out, HP2.out]
                exact put7 hq _ _ _ _ _ _ _
            · rw [if_pos (by kernel_rfl)]
              go_simp
              have hq := heap_alloc_new wA (.cells zeroD 75)
              have hMq := bto hM ((Below.refl wA.heap.size wA).alloc (Nat.le_refl _) (.cells zeroD 75))
              have hgb : wc.heap.size ≤ wA.heap.size := hM.size
              obtain ⟨gb, hgbe⟩ : ∃ gb, wA.heap.size = gb := ⟨_, rfl⟩
              unfold zeroD at hq hMq
              rw [hgbe] at hq hgb ⊢
              clear hgbe hM
              generalize wA.alloc _ = wQ at *
              have hM := hMq
              clear hMq
              refine hK _ _ ?_
              refine wpAnyM_ready (rs := [18]) (by kernel_rfl) (by simp) (hM) ?_
              refine AllReadyM.cons rfl (fun K' hK => ?_) (AllReadyM.nil)
              rw [if_pos (by kernel_rfl)]
              go_simp
              go_at_call 51
              refine (HF2.out _ hM).mono ?_
              rintro _ wB ⟨rfl, hb5⟩
              have hM := bto hM hb5
              have hq := blkB hb5 hq
              clear hb5
              refine hK _ _ ?_
              refine wpAnyM_take (i := 19) (v := .pointer (some ⟨ga, oa + j2 * 6, none⟩)) rfl (by kernel_rfl) (by kernel_rfl) (by kernel_rfl) (by kernel_rfl) (fun _ _ _ h => h) (.inl ⟨by kernel_rfl, fun w hm => by go_simp⟩) ?_
              refine wpAnyM_take (i := 20) (v := .pointer (some ⟨ga, oa + j2 * 6 + 2, none⟩)) rfl (by kernel_rfl) (by kernel_rfl) (by kernel_rfl) (by kernel_rfl) (fun _ _ _ h => h) (.inl ⟨by kernel_rfl, fun w hm => by go_simp⟩) ?_
              refine wpAnyM_take (i := 21) (v := .agg #[.int .i64 o2.x, .int .i64 o2.y]) rfl (by kernel_rfl) (by kernel_rfl) (by kernel_rfl) (by kernel_rfl) (fun _ _ _ h => h) (.inl ⟨by kernel_rfl, fun w hm => by obtain ⟨m0, m1, m2, m3, m4, m5, m6⟩ := HMM.out w hm; clear m0 m1 m2 m3 m4; go_simp⟩) ?_
              refine wpAnyM_ready (rs := [22]) (by kernel_rfl) (by simp) (hM) ?_
              refine AllReadyM.cons rfl (fun K' hK => ?_) (AllReadyM.nil)
              rw [if_pos (by kernel_rfl)]
              go_simp
              refine hK _ _ ?_
              refine wpAnyM_ready (rs := [24]) (by kernel_rfl) (by simp) (hM) ?_
              refine AllReadyM.cons rfl (fun K' hK => ?_) (AllReadyM.nil)
              obtain ⟨⟨x0, x1, x2, x3, x4, x5, x6⟩, y0, y1, y2, y3, y4, y5, y6⟩ := row7 hq
              rw [if_pos (by kernel_rfl)]
              go_simp
              refine hK _ _ ?_
              refine wpAnyM_done (by kernel_rfl) (by kernel_rfl) ?_ _
              go_wp2_with fail
              go_meet
              refine ⟨gb, rfl, hide ?_, hide ⟨((((((hM.setCell (p := ⟨gb, 0, none⟩) hgb _).setCell (p := ⟨gb, 1, none⟩) hgb _).setCell (p := ⟨gb, 2, none⟩) hgb _).setCell (p := ⟨gb, 3, none⟩) hgb _).setCell (p := ⟨gb, 4, none⟩) hgb _).setCell (p := ⟨gb, 5, none⟩) hgb _).setCell (p := ⟨gb, 6, none⟩) hgb _, hgb⟩⟩
              unfold encD
              rw [HP1.out, HP2.out]
              exact put7 hq _ _ _ _ _ _ _
          · rw [if_pos (by kernel_rfl)]
            go_simp
            have hq := heap_alloc_new wd (.cells zeroD 75)
            have hMq := bto hM ((Below.refl wd.heap.size wd).alloc (Nat.le_refl _) (.cells zeroD 75))
            have hgb : wc.heap.size ≤ wd.heap.size := hM.size
            obtain ⟨gb, hgbe⟩ : ∃ gb, wd.heap.size = gb := ⟨_, rfl⟩
            unfold zeroD at hq hMq
            rw [hgbe] at hq hgb ⊢
            clear hgbe hM
            generalize wd.alloc _ = wQ at *
            have hM := hMq
            clear hMq
            refine hK _ _ ?_
            refine wpAnyM_ready (rs := [9]) (by kernel_rfl) (by simp) (hM) ?_
            refine AllReadyM.cons rfl (fun K' hK => ?_) (AllReadyM.nil)
            rw [if_pos (by kernel_rfl)]
            go_simp
            go_at_call 51
            refine (HF1.out _ hM).mono ?_
            rintro _ wA ⟨rfl, hb5⟩
            have hM := bto hM hb5
            have hq := blkB hb5 hq
            clear hb5
            refine hK _ _ ?_
            refine wpAnyM_take (i := 10) (v := .pointer (some ⟨ga, oa + j1 * 6, none⟩)) rfl (by kernel_rfl) (by kernel_rfl) (by kernel_rfl) (by kernel_rfl) (fun _ _ _ h => h) (.inl ⟨by kernel_rfl, fun w hm => by go_simp⟩) ?_
            refine wpAnyM_take (i := 11) (v := .pointer (some ⟨ga, oa + j1 * 6 + 2, none⟩)) rfl (by kernel_rfl) (by kernel_rfl) (by kernel_rfl) (by kernel_rfl) (fun _ _ _ h => h) (.inl ⟨by kernel_rfl, fun w hm => by go_simp⟩) ?_
            refine wpAnyM_take (i := 12) (v := .agg #[.int .i64 o1.x, .int .i64 o1.y]) rfl (by kernel_rfl) (by kernel_rfl) (by kernel_rfl) (by kernel_rfl) (fun _ _ _ h => h) (.inl ⟨by kernel_rfl, fun w hm => by obtain ⟨m0, m1, m2, m3, m4, m5, m6⟩ := HMM.out w hm; clear m0 m1 m2 m5 m6; go_simp⟩) ?_
            refine wpAnyM_ready (rs := [18]) (by kernel_rfl) (by simp) (hM) ?_
            refine AllReadyM.cons rfl (fun K' hK => ?_) (AllReadyM.nil)
            rw [if_pos (by kernel_rfl)]
            go_simp
            go_at_call 51
            refine (HF2.out _ hM).mono ?_
            rintro _ wB ⟨rfl, hb5⟩
            have hM := bto hM hb5
            have hq := blkB hb5 hq
            clear hb5
            refine hK _ _ ?_
            refine wpAnyM_take (i := 19) (v := .pointer (some ⟨ga, oa + j2 * 6, none⟩)) rfl (by kernel_rfl) (by kernel_rfl) (by kernel_rfl) (by kernel_rfl) (fun _ _ _ h => h) (.inl ⟨by kernel_rfl, fun w hm => by go_simp⟩) ?_
            refine wpAnyM_take (i := 20) (v := .pointer (some ⟨ga, oa + j2 * 6 + 2, none⟩)) rfl (by kernel_rfl) (by kernel_rfl) (by kernel_rfl) (by kernel_rfl) (fun _ _ _ h => h) (.inl ⟨by kernel_rfl, fun w hm => by go_simp⟩) ?_
            refine wpAnyM_take (i := 21) (v := .agg #[.int .i64 o2.x, .int .i64 o2.y]) rfl (by kernel_rfl) (by kernel_rfl) (by kernel_rfl) (by kernel_rfl) (fun _ _ _ h => h) (.inl ⟨by kernel_rfl, fun w hm => by obtain ⟨m0, m1, m2, m3, m4, m5, m6⟩ := HMM.out w hm; clear m0 m1 m2 m3 m4; go_simp⟩) ?_
            refine wpAnyM_ready (rs := [22]) (by kernel_rfl) (by simp) (hM) ?_
            refine AllReadyM.cons rfl (fun K' hK => ?_) (AllReadyM.nil)
            rw [if_pos (by kernel_rfl)]
            go_simp
            refine hK _ _ ?_
            refine wpAnyM_ready (rs := [24]) (by kernel_rfl) (by simp) (hM) ?_
            refine AllReadyM.cons rfl (fun K' hK => ?_) (AllReadyM.nil)
            obtain ⟨⟨x0, x1, x2, x3, x4, x5, x6⟩, y0, y1, y2, y3, y4, y5, y6⟩ := row7 hq
            rw [if_pos (by kernel_rfl)]
            go_simp
            refine hK _ _ ?_
            refine wpAnyM_done (by kernel_rfl) (by kernel_rfl) ?_ _
            go_wp2_with fail
            go_meet
            refine ⟨gb, rfl, hide ?_, hide ⟨((((((hM.setCell (p := ⟨gb, 0, none⟩) hgb _).setCell (p := ⟨gb, 1, none⟩) hgb _).setCell (p := ⟨gb, 2, none⟩) hgb _).setCell (p := ⟨gb, 3, none⟩) hgb _).setCell (p := ⟨gb, 4, none⟩) hgb _).setCell (p := ⟨gb, 5, none⟩) hgb _).setCell (p := ⟨gb, 6, none⟩) hgb _, hgb⟩⟩
            unfold encD
            rw [HP1.out, HP2.out]
            exact put7 hq _ _ _ _ _ _ _
        case rest =>
          obtain ⟨gb, rfl, hgb, hbw⟩ := hcut
          have HGB := hide hgb.out
          have HW6 := hide (bto HW.out hbw.out.1)
          have HWW6 := hide (bto HWW.out hbw.out.1)
          clear hgb hbw s0 s1
          go_upto_region 6 with (fail)
          obtain ⟨i0, hi0, hi1, hi2, hi3⟩ := info_parts3 info_bord
          have HI0 := hide hi0
          have HI1 := hide hi1
          have HI2 := hide hi2
          have HI3 := hide hi3
          clear hi0 hi1 hi2 hi3
          have HGM : Hid (∀ W, Below wc.heap.size wc W → W.heap[gb]? = some (.cells #[.string pa, .string pb, .int .i64 (ptO l pa).x, .int .i64 (ptO l pa).y, .int .i64 (ptO l pb).x, .int .i64 (ptO l pb).y, .slice none 0 0] 75 (0, 0))) := hide (fun W hW => blkB hW HGB.out)
          refine wp_region_anyM (fun W => Below wc.heap.size wc W) 12 hmx ?_
          have hM := below_drew wc
          generalize wc.drew = wd at *
          simp only [List.size_toArray, List.length_cons, List.length_nil, Nat.reduceAdd]
          refine wpAnyM_take (i := 1) (v := .slice none 0 0) rfl (by kernel_rfl) (by kernel_rfl) (by kernel_rfl) (by kernel_rfl) (fun _ _ _ h => h) (.inl ⟨by kernel_rfl, fun w hm => by go_simp⟩) ?_
          refine wpAnyM_take (i := 2) (v := .int .i64 0) rfl (by kernel_rfl) (by kernel_rfl) (by kernel_rfl) (by kernel_rfl) (fun _ _ _ h => h) (.inl ⟨by kernel_rfl, fun w hm => by go_simp⟩) ?_
          refine wpAnyM_take (i := 3) (v := .slice none 0 0) rfl (by kernel_rfl) (by kernel_rfl) (by kernel_rfl) (by kernel_rfl) (fun _ _ _ h => h) (.inl ⟨by kernel_rfl, fun w hm => by go_simp⟩) ?_
          refine wpAnyM_take (i := 5) (v := .agg #[.string pa, .string pb, .int .i64 (ptO l pa).x, .int .i64 (ptO l pa).y, .int .i64 (ptO l pb).x, .int .i64 (ptO l pb).y, .slice none 0 0]) rfl (by kernel_rfl) (by kernel_rfl) (by kernel_rfl) (by kernel_rfl) (fun _ _ _ h => h) (.inl ⟨by kernel_rfl, fun w hm => by obtain ⟨⟨x0, x1, x2, x3, x4, x5, x6⟩, _⟩ := row7 (HGM.out w hm); go_simp⟩) ?_
          refine wpAnyM_take (i := 8) (v := .slice none 0 0) rfl (by kernel_rfl) (by kernel_rfl) (by kernel_rfl) (by kernel_rfl) (fun _ _ _ h => h) (.inl ⟨by kernel_rfl, fun w hm => by go_simp⟩) ?_
          refine wpAnyM_take (i := 9) (v := .int .i64 0) rfl (by kernel_rfl) (by kernel_rfl) (by kernel_rfl) (by kernel_rfl) (fun _ _ _ h => h) (.inl ⟨by kernel_rfl, fun w hm => by go_simp⟩) ?_
          refine wpAnyM_take (i := 10) (v := .slice none 0 0) rfl (by kernel_rfl) (by kernel_rfl) (by kernel_rfl) (by kernel_rfl) (fun _ _ _ h => h) (.inl ⟨by kernel_rfl, fun w hm => by go_simp⟩) ?_
          refine wpAnyM_ready (rs := [0, 6]) (by kernel_rfl) (by simp) (hM) ?_
          refine AllReadyM.cons rfl (fun K' hK => ?_) (AllReadyM.cons rfl (fun K' hK => ?_) (AllReadyM.nil))
          · rw [if_pos (by kernel_rfl)]
            go_simp
            have hR := own_made wd 75 7
            have hMn := bto hM ((Below.refl wd.heap.size wd).alloc (Nat.le_refl _) (.cells #[] 75))
            have hR0 : wc.heap.size ≤ wd.heap.size := hM.size
            obtain ⟨e0, he0⟩ : ∃ e0, wd.heap.size = e0 := ⟨_, rfl⟩
            rw [he0] at hR hR0 ⊢
            clear he0 hM
            generalize wd.alloc (.cells #[] 75) = wE at *
            have hM := hMn
            clear hMn
            replace hR := own_lower hR hR0
            refine hK _ _ ?_
            refine wpAnyM_ready (rs := [4, 6]) (by kernel_rfl) (by simp) (hM) ?_
            refine AllReadyM.cons rfl (fun K' hK => ?_) (AllReadyM.cons rfl (fun K' hK => ?_) (AllReadyM.nil))
            · rw [if_pos (by kernel_rfl)]
              refine wp_append_nil (.tmp 95) (.tmp 98) 33 rfl 75 i0 Tryz.underlying33 HI0.out (some ⟨e0, 0, none⟩) 0 0 (Nat.le_refl _) rfl rfl ?_
              refine hK _ _ ?_
              refine wpAnyM_ready (rs := [6]) (by kernel_rfl) (by simp) (hM) ?_
              refine AllReadyM.cons rfl (fun K' hK => ?_) (AllReadyM.nil)
              rw [if_pos (by kernel_rfl)]
              go_simp
              have hN := heap_alloc_new wE (.cells #[.string pa, .string pb, .int .i64 (ptO l pa).x, .int .i64 (ptO l pa).y, .int .i64 (ptO l pb).x, .int .i64 (ptO l pb).y, .slice none 0 0] 75)
              have hMn := bto hM ((Below.refl wE.heap.size wE).alloc (Nat.le_refl _) (.cells #[.string pa, .string pb, .int .i64 (ptO l pa).x, .int .i64 (ptO l pa).y, .int .i64 (ptO l pb).x, .int .i64 (ptO l pb).y, .slice none 0 0] 75))
              have hq := own_below hR ((Below.refl wE.heap.size wE).alloc (Nat.le_refl _) (.cells #[.string pa, .string pb, .int .i64 (ptO l pa).x, .int .i64 (ptO l pa).y, .int .i64 (ptO l pb).x, .int .i64 (ptO l pb).y, .slice none 0 0] 75))
              have hne : wE.heap.size ≠ e0 := Nat.ne_of_gt (own_base hR (b := e0) rfl).2
              clear hR
              have hR := hq
              clear hq
              obtain ⟨q0, hq0⟩ : ∃ q0, wE.heap.size = q0 := ⟨_, rfl⟩
              rw [hq0] at hN hne ⊢
              clear hq0 hM
              generalize wE.alloc _ = wN at *
              have hM := hMn
              clear hMn
              refine hK _ _ ?_
              refine wpAnyM_ready (rs := [7]) (by kernel_rfl) (by simp) (hM) ?_
              refine AllReadyM.cons rfl (fun K' hK => ?_) (AllReadyM.nil)
              rw [if_pos (by kernel_rfl)]
              refine wp_append_some (.tmp 99) (.tmp 101) 33 rfl wc.heap.size 75 i0 (.agg #[.string ⟨#[]⟩, .string ⟨#[]⟩, .int .i64 0, .int .i64 0, .int .i64 0, .int .i64 0, .slice none 0 0]) 7 88 Tryz.underlying33 HI0.out HI1.out HI2.out HI3.out rfl (by decide) e0 0 0 [] rfl hR ⟨q0, 0, none⟩ 1 1 [(.string pa : Value), .string pb, .int .i64 (ptO l pa).x, .int .i64 (ptO l pa).y, .int .i64 (ptO l pb).x, .int .i64 (ptO l pb).y, .slice none 0 0] rfl rfl (fun j u hj => World.news_of_block hN j u hj) (fun u hu => by simp at hu; rcases hu with rfl | rfl | rfl | rfl | rfl | rfl | rfl <;> rfl) (by unfold maxLen; omega) (by omega) hM.size ?_
              intro g2 c2 wP hr2 hg2
              have hM2 := below_row hM hg2 (fun r e => by rw [← Option.some.inj e]; exact (own_base hR (b := e0) rfl).1)
              clear hM hg2 hR
              have hM := hM2
              have hR := hr2
              clear hM2 hr2
              rw [Nat.zero_add, List.nil_append] at hR
              rw [Nat.zero_add]
              have hc2 : 1 ≤ c2 := by
                rcases hR.2 with ⟨e, _⟩ | ⟨g4, c4, cur, e, _, _, hc, _⟩
                · cases e
                · cases e; exact hc
              clear hN
              refine hK _ _ ?_
              refine wpAnyM_ready (rs := [11]) (by kernel_rfl) (by simp) (hM) ?_
              refine AllReadyM.cons rfl (fun K' hK => ?_) (AllReadyM.nil)
              rw [if_pos (by kernel_rfl)]
              refine wp_append_nil (.tmp 102) (.tmp 105) 33 rfl 75 i0 Tryz.underlying33 HI0.out (some ⟨g2, 0, none⟩) 1 c2 hc2 rfl rfl ?_
              refine hK _ _ ?_
              refine wpAnyM_ready (rs := [12]) (by kernel_rfl) (by simp) (hM) ?_
              refine AllReadyM.cons rfl (fun K' hK => ?_) (AllReadyM.nil)
              rw [if_pos (by kernel_rfl)]
              go_simp
              refine hK _ _ ?_
              refine wpAnyM_done (by kernel_rfl) (by kernel_rfl) ?_ _
              have HEND := hide (nil_end (f := ptO l) (D := D) (p := (pa, pb)) hR HW6.out.size)
              have HLT := hide (bto HW6.out hM)
              have HGT := hide (show Below w.heap.size w wP ∧ w.heap.size ≤ g2 from ⟨bto HWW6.out hM, Nat.le_trans HWW6.out.size (own_base hR (b := g2) rfl).1⟩)
              clear hR hM
              go_wp2_with fail
              go_meet
              exact ⟨g2, c2, rfl, HEND, HLT, HGT⟩
            · rw [if_pos (by kernel_rfl)]
              go_simp
              have hN := heap_alloc_new wE (.cells #[.string pa, .string pb, .int .i64 (ptO l pa).x, .int .i64 (ptO l pa).y, .int .i64 (ptO l pb).x, .int .i64 (ptO l pb).y, .slice none 0 0] 75)
              have hMn := bto hM ((Below.refl wE.heap.size wE).alloc (Nat.le_refl _) (.cells #[.string pa, .string pb, .int .i64 (ptO l pa).x, .int .i64 (ptO l pa).y, .int .i64 (ptO l pb).x, .int .i64 (ptO l pb).y, .slice none 0 0] 75))
              have hq := own_below hR ((Below.refl wE.heap.size wE).alloc (Nat.le_refl _) (.cells #[.string pa, .string pb, .int .i64 (ptO l pa).x, .int .i64 (ptO l pa).y, .int .i64 (ptO l pb).x, .int .i64 (ptO l pb).y, .slice none 0 0] 75))
              have hne : wE.heap.size ≠ e0 := Nat.ne_of_gt (own_base hR (b := e0) rfl).2
              clear hR
              have hR := hq
              clear hq
              obtain ⟨q0, hq0⟩ : ∃ q0, wE.heap.size = q0 := ⟨_, rfl⟩
              rw [hq0] at hN hne ⊢
              clear hq0 hM
              generalize wE.alloc _ = wN at *
              have hM := hMn
              clear hMn
              refine hK _ _ ?_
              refine wpAnyM_ready (rs := [4]) (by kernel_rfl) (by simp) (hM) ?_
              refine AllReadyM.cons rfl (fun K' hK => ?_) (AllReadyM.nil)
              rw [if_pos (by kernel_rfl)]
              refine wp_append_nil (.tmp 95) (.tmp 98) 33 rfl 75 i0 Tryz.underlying33 HI0.out (some ⟨e0, 0, none⟩) 0 0 (Nat.le_refl _) rfl rfl ?_
              refine hK _ _ ?_
              refine wpAnyM_ready (rs := [7]) (by kernel_rfl) (by simp) (hM) ?_
              refine AllReadyM.cons rfl (fun K' hK => ?_) (AllReadyM.nil)
              rw [if_pos (by kernel_rfl)]
              refine wp_append_some (.tmp 99) (.tmp 101) 33 rfl wc.heap.size 75 i0 (.agg #[.string ⟨#[]⟩, .string ⟨#[]⟩, .int .i64 0, .int .i64 0, .int .i64 0, .int .i64 0, .slice none 0 0]) 7 88 Tryz.underlying33 HI0.out HI1.out HI2.out HI3.out rfl (by decide) e0 0 0 [] rfl hR ⟨q0, 0, none⟩ 1 1 [(.string pa : Value), .string pb, .int .i64 (ptO l pa).x, .int .i64 (ptO l pa).y, .int .i64 (ptO l pb).x, .int .i64 (ptO l pb).y, .slice none 0 0] rfl rfl (fun j u hj => World.news_of_block hN j u hj) (fun u hu => by simp at hu; rcases hu with rfl | rfl | rfl | rfl | rfl | rfl | rfl <;> rfl) (by unfold maxLen; omega) (by omega) hM.size ?_
              intro g2 c2 wP hr2 hg2
              have hM2 := below_row hM hg2 (fun r e => by rw [← Option.some.inj e]; exact (own_base hR (b := e0) rfl).1)
              clear hM hg2 hR
              have hM := hM2
              have hR := hr2
              clear hM2 hr2
              rw [Nat.zero_add, List.nil_append] at hR
              rw [Nat.zero_add]
              have hc2 : 1 ≤ c2 := by
                rcases hR.2 with ⟨e, _⟩ | ⟨g4, c4, cur, e, _, _, hc, _⟩
                · cases e
                · cases e; exact hc
              clear hN
              refine hK _ _ ?_
              refine wpAnyM_ready (rs := [11]) (by kernel_rfl) (by simp) (hM) ?_
              refine AllReadyM.cons rfl (fun K' hK => ?_) (AllReadyM.nil)
              rw [if_pos (by kernel_rfl)]
              refine wp_append_nil (.tmp 102) (.tmp 105) 33 rfl 75 i0 Tryz.underlying33 HI0.out (some ⟨g2, 0, none⟩) 1 c2 hc2 rfl rfl ?_
              refine hK _ _ ?_
              refine wpAnyM_ready (rs := [12]) (by kernel_rfl) (by simp) (hM) ?_
              refine AllReadyM.cons rfl (fun K' hK => ?_) (AllReadyM.nil)
              rw [if_pos (by kernel_rfl)]
              go_simp
              refine hK _ _ ?_
              refine wpAnyM_done (by kernel_rfl) (by kernel_rfl) ?_ _
              have HEND := hide (nil_end (f := ptO l) (D := D) (p := (pa, pb)) hR HW6.out.size)
              have HLT := hide (bto HW6.out hM)
              have HGT := hide (show Below w.heap.size w wP ∧ w.heap.size ≤ g2 from ⟨bto HWW6.out hM, Nat.le_trans HWW6.out.size (own_base hR (b := g2) rfl).1⟩)
              clear hR hM
              go_wp2_with fail
              go_meet
              exact ⟨g2, c2, rfl, HEND, HLT, HGT⟩
          · rw [if_pos (by kernel_rfl)]
            go_simp
            have hN := heap_alloc_new wd (.cells #[.string pa, .string pb, .int .i64 (ptO l pa).x, .int .i64 (ptO l pa).y, .int .i64 (ptO l pb).x, .int .i64 (ptO l pb).y, .slice none 0 0] 75)
            have hMn := bto hM ((Below.refl wd.heap.size wd).alloc (Nat.le_refl _) (.cells #[.string pa, .string pb, .int .i64 (ptO l pa).x, .int .i64 (ptO l pa).y, .int .i64 (ptO l pb).x, .int .i64 (ptO l pb).y, .slice none 0 0] 75))
            obtain ⟨q0, hq0⟩ : ∃ q0, wd.heap.size = q0 := ⟨_, rfl⟩
            rw [hq0] at hN ⊢
            clear hq0 hM
            generalize wd.alloc _ = wN at *
            have hM := hMn
            clear hMn
            refine hK _ _ ?_
            refine wpAnyM_ready (rs := [0]) (by kernel_rfl) (by simp) (hM) ?_
            refine AllReadyM.cons rfl (fun K' hK => ?_) (AllReadyM.nil)
            rw [if_pos (by kernel_rfl)]
            go_simp
            have hR := own_made wN 75 7
            have hMn := bto hM ((Below.refl wN.heap.size wN).alloc (Nat.le_refl _) (.cells #[] 75))
            have hR0 : wc.heap.size ≤ wN.heap.size := hM.size
            have hq := blkB ((Below.refl wN.heap.size wN).alloc (Nat.le_refl _) (.cells #[] 75)) hN
            have hne : q0 ≠ wN.heap.size := Nat.ne_of_lt (lt_of_block hN)
            clear hN
            have hN := hq
            clear hq
            obtain ⟨e0, he0⟩ : ∃ e0, wN.heap.size = e0 := ⟨_, rfl⟩
            rw [he0] at hR hR0 hne ⊢
            clear he0 hM
            generalize wN.alloc (.cells #[] 75) = wE at *
            have hM := hMn
            clear hMn
            replace hR := own_lower hR hR0
            refine hK _ _ ?_
            refine wpAnyM_ready (rs := [4]) (by kernel_rfl) (by simp) (hM) ?_
            refine AllReadyM.cons rfl (fun K' hK => ?_) (AllReadyM.nil)
            rw [if_pos (by kernel_rfl)]
            refine wp_append_nil (.tmp 95) (.tmp 98) 33 rfl 75 i0 Tryz.underlying33 HI0.out (some ⟨e0, 0, none⟩) 0 0 (Nat.le_refl _) rfl rfl ?_
            refine hK _ _ ?_
            refine wpAnyM_ready (rs := [7]) (by kernel_rfl) (by simp) (hM) ?_
            refine AllReadyM.cons rfl (fun K' hK => ?_) (AllReadyM.nil)
            rw [if_pos (by kernel_rfl)]
            refine wp_append_some (.tmp 99) (.tmp 101) 33 rfl wc.heap.size 75 i0 (.agg #[.string ⟨#[]⟩, .string ⟨#[]⟩, .int .i64 0, .int .i64 0, .int .i64 0, .int .i64 0, .slice none 0 0]) 7 88 Tryz.underlying33 HI0.out HI1.out HI2.out HI3.out rfl (by decide) e0 0 0 [] rfl hR ⟨q0, 0, none⟩ 1 1 [(.string pa : Value), .string pb, .int .i64 (ptO l pa).x, .int .i64 (ptO l pa).y, .int .i64 (ptO l pb).x, .int .i64 (ptO l pb).y, .slice none 0 0] rfl rfl (fun j u hj => World.news_of_block hN j u hj) (fun u hu => by simp at hu; rcases hu with rfl | rfl | rfl | rfl | rfl | rfl | rfl <;> rfl) (by unfold maxLen; omega) (by omega) hM.size ?_
            intro g2 c2 wP hr2 hg2
            have hM2 := below_row hM hg2 (fun r e => by rw [← Option.some.inj e]; exact (own_base hR (b := e0) rfl).1)
            clear hM hg2 hR
            have hM := hM2
            have hR := hr2
            clear hM2 hr2
            rw [Nat.zero_add, List.nil_append] at hR
            rw [Nat.zero_add]
            have hc2 : 1 ≤ c2 := by
              rcases hR.2 with ⟨e, _⟩ | ⟨g4, c4, cur, e, _, _, hc, _⟩
              · cases e
              · cases e; exact hc
            clear hN
            refine hK _ _ ?_
            refine wpAnyM_ready (rs := [11]) (by kernel_rfl) (by simp) (hM) ?_
            refine AllReadyM.cons rfl (fun K' hK => ?_) (AllReadyM.nil)
            rw [if_pos (by kernel_rfl)]
            refine wp_append_nil (.tmp 102) (.tmp 105) 33 rfl 75 i0 Tryz.underlying33 HI0.out (some ⟨g2, 0, none⟩) 1 c2 hc2 rfl rfl ?_
            refine hK _ _ ?_
            refine wpAnyM_ready (rs := [12]) (by kernel_rfl) (by simp) (hM) ?_
            refine AllReadyM.cons rfl (fun K' hK => ?_) (AllReadyM.nil)
            rw [if_pos (by kernel_rfl)]
            go_simp
            refine hK _ _ ?_
            refine wpAnyM_done (by kernel_rfl) (by kernel_rfl) ?_ _
            have HEND := hide (nil_end (f := ptO l) (D := D) (p := (pa, pb)) hR HW6.out.size)
            have HLT := hide (bto HW6.out hM)
            have HGT := hide (show Below w.heap.size w wP ∧ w.heap.size ≤ g2 from ⟨bto HWW6.out hM, Nat.le_trans HWW6.out.size (own_base hR (b := g2) rfl).1⟩)
            clear hR hM
            go_wp2_with fail
            go_meet
            exact ⟨g2, c2, rfl, HEND, HLT, HGT⟩
      case rest =>
        obtain ⟨g', cap', rfl, hbd, hw', hgw⟩ := hcut
        have HGW := hide hgw.out
        clear hgw
        have HBD := hide hbd.out
        have HW' := hide hw'.out
        obtain ⟨_, _, _, _, _, _, e6⟩ := hbd.out.cells (i := 0) rfl
        clear hbd hw' HX1C HX2C HW s0 s1
        obtain ⟨j0, hj, hy0, hy1, hy2⟩ := info_parts3 info_string
        have HJ0 := hide hj
        have HY0 := hide hy0
        have HY1 := hide hy1
        have HY2 := hide hy2
        clear hj hy0 hy1 hy2
        simp only [Nat.zero_mul, Nat.zero_add] at e6
        go_upto_region 9 with (fail)
        have e7 := (((Below.refl wc.heap.size wc).alloc (Nat.le_refl _) (.cells #[] 9)).cell (p := ⟨g', 6, none⟩) (own_base HBD.out.row rfl).2).trans e6
        go_wp2_with (first | (at_builtin; refine wpList_append_nil rfl (.tmp 130) (.tmp 135) 39 rfl 9 j0 Tryz.underlying39 HJ0.out (some ⟨wc.heap.size, 0, none⟩) 0 0 (Nat.le_refl _) rfl rfl ?_) | (at_builtin; go_must (refine wpList_append_some rfl (.tmp 136) (.tmp 138) 39 rfl wc.heap.size 9 j0 (.string ⟨#[]⟩) 1 16 Tryz.underlying39 HJ0.out HY0.out HY1.out HY2.out rfl (by decide) wc.heap.size 0 0 [] rfl (own_below (own_made wc 9 1) ((Below.refl _ _).alloc (Nat.le_refl _) _)) ⟨wc.heap.size + 1, 0, none⟩ 1 1 [.string id] rfl rfl (fun j u hj => World.news_of_block (two_alloc wc _ _) j u hj) (fun u hu => by simp at hu; rw [hu]; rfl) (by unfold maxLen; omega) (by omega) (bto ((Below.refl wc.heap.size wc).alloc (Nat.le_refl _) (.cells #[] 9)) ((Below.refl _ _).alloc (Nat.le_refl _) (.cells #[.string id] 9))).size ?_)))
        intro g2 c2 wP hr2 hg2
        have hBP := below_row (bto ((Below.refl wc.heap.size wc).alloc (Nat.le_refl _) (.cells #[] 9)) ((Below.refl _ _).alloc (Nat.le_refl _) (.cells #[.string id] 9))) hg2 (fun r e => by rw [← Option.some.inj e]; exact Nat.le_refl _)
        clear hg2
        have hbd := HBD.out.below hBP
        obtain ⟨_, _, _, _, _, _, e6⟩ := hbd.cells (i := 0) rfl
        have f6 := own_frz hbd.row 6
        simp only [Nat.zero_mul, Nat.zero_add] at e6
        have HF := hide (hbd.set (k := 0) (x := (pa, pb)) (ov := .slice (some ⟨g2, 0, none⟩) 1 c2) (G := [] ++ [id]) rfl (by simp) (own_lower hr2 HW'.out.size))
        have HBF := hide ((bto HW'.out hBP).setCell (p := ⟨g', 6, none⟩) (own_base hbd.row rfl).1 (.slice (some ⟨g2, 0, none⟩) 1 c2))
        simp only [Nat.zero_mul, Nat.zero_add, List.set_cons_zero] at HF
        have HBP := hide hBP
        clear hbd hr2 hBP
        go_wp2_with fail
        go_ret
        exact ⟨_, rfl, _, HF.out, ⟨_, rfl⟩, HBF.out, grow_new (bto HGW.out.1 HBP.out) HGW.out.2⟩
end Go.Proofs.YtfkgjbdeicggaaaGreat
