/-
  The head of the law of the pairs, walked.
-/
import Derived.Test.YtfkgjbdeicggaaaGreatTopZK
import Derived.Test.YtfkgjbdeicggaaaGreatPlainAll
namespace Go.Proofs.YtfkgjbdeicggaaaGreat
open Go.RowKit Go.Proofs.PlLex Go.Proofs.PlNet Go.Proofs.PlMap Go.Proofs.PlGeom Go.Proofs.PlTop
attribute [local go_sem] Oper.semAt_some

theorem cross_ok : ∀ o ∈ crossO, okO o := by
  intro o ho
  simp only [crossO, List.mem_cons, List.not_mem_nil, or_false] at ho
  unfold okO
  rcases ho with rfl | rfl | rfl | rfl | rfl | rfl <;> simp <;> decide
theorem cross_small : smallL crossO := by
  refine ⟨by decide, fun o ho => ?_⟩
  simp only [crossO, List.mem_cons, List.not_mem_nil, or_false] at ho
  rcases ho with rfl | rfl | rfl | rfl | rfl | rfl <;> simp <;> decide
theorem tx_eq (b : UInt8) : tx b = ⟨#[b]⟩ := rfl
set_option maxRecDepth 100000 in
set_option maxHeartbeats 16000000 in
theorem crossed_any (w : World) : Calls Tryz.prog 17 #[] w fun e w' => e = .returned (.bool true) ∧ Below w.heap.size w w' := by
  have hmx : Tryz.prog.follows .mixedOrders = true := by kernel_rfl
  go_enter Tryz.func17, Tryz.ntmps17
  go_wp2_with fail
  have hb0 : Below w.heap.size w w := Below.refl _ _
  refine (node_any ⟨#[97]⟩ 0 0 w).mono ?_
  rintro _ w1 ⟨rfl, b1⟩
  have hb1 := bto hb0 b1
  clear hb0 b1
  go_wp2_with fail
  refine (node_any ⟨#[98]⟩ 4 4 w1).mono ?_
  rintro _ w2 ⟨rfl, b2⟩
  have hb2 := bto hb1 b2
  clear hb1 b2
  go_wp2_with fail
  refine (node_any ⟨#[99]⟩ 0 4 w2).mono ?_
  rintro _ w3 ⟨rfl, b3⟩
  have hb3 := bto hb2 b3
  clear hb2 b3
  go_wp2_with fail
  refine (node_any ⟨#[100]⟩ 4 0 w3).mono ?_
  rintro _ w4 ⟨rfl, b4⟩
  have hb4 := bto hb3 b4
  clear hb3 b4
  go_wp2_with fail
  obtain ⟨u0, hu0⟩ : ∃ u, w4.alloc (.cells #[.string ⟨#[97]⟩, .string ⟨#[98]⟩] 9) = u := ⟨_, rfl⟩
  have s0 : StS u0 (.slice (some ⟨w4.heap.size, 0, none⟩) 2 2) [⟨#[97]⟩, ⟨#[98]⟩] := by rw [← hu0]; exact st_new w4 [⟨#[97]⟩, ⟨#[98]⟩] 9
  have c0 : Below w4.heap.size w4 u0 := by rw [← hu0]; exact (Below.refl _ _).alloc (Nat.le_refl _) _
  rw [hu0]
  obtain ⟨q0, hq0⟩ : ∃ q, w4.heap.size = q := ⟨_, rfl⟩
  rw [hq0] at s0 ⊢
  clear hu0 hq0
  refine (object_any 2 ⟨#[118]⟩ (some ⟨q0, 0, none⟩) 2 2 u0).mono ?_
  rintro _ w5 ⟨rfl, b5⟩
  have hb5 := bto (bto hb4 c0) b5
  have s0 := s0.below b5
  clear hb4 b5 c0
  go_wp2_with fail
  obtain ⟨u1, hu1⟩ : ∃ u, w5.alloc (.cells #[.string ⟨#[99]⟩, .string ⟨#[100]⟩] 9) = u := ⟨_, rfl⟩
  have s1 : StS u1 (.slice (some ⟨w5.heap.size, 0, none⟩) 2 2) [⟨#[99]⟩, ⟨#[100]⟩] := by rw [← hu1]; exact st_new w5 [⟨#[99]⟩, ⟨#[100]⟩] 9
  have c1 : Below w5.heap.size w5 u1 := by rw [← hu1]; exact (Below.refl _ _).alloc (Nat.le_refl _) _
  rw [hu1]
  obtain ⟨q1, hq1⟩ : ∃ q, w5.heap.size = q := ⟨_, rfl⟩
  rw [hq1] at s1 ⊢
  clear hu1 hq1
  refine (object_any 2 ⟨#[119]⟩ (some ⟨q1, 0, none⟩) 2 2 u1).mono ?_
  rintro _ w6 ⟨rfl, b6⟩
  have hb6 := bto (bto hb5 c1) b6
  have s0 := (s0.below c1).below b6
  have s1 := s1.below b6
  clear hb5 b6 c1
  go_wp2_with fail
  obtain ⟨wz, hwz⟩ : ∃ wz, w6.alloc (.cells #[.string ⟨#[97]⟩, .int .i64 1, .int .i64 0, .int .i64 0, .slice none 0 0, .slice none 0 0, .string ⟨#[98]⟩, .int .i64 1, .int .i64 4, .int .i64 4, .slice none 0 0, .slice none 0 0, .string ⟨#[99]⟩, .int .i64 1, .int .i64 0, .int .i64 4, .slice none 0 0, .slice none 0 0, .string ⟨#[100]⟩, .int .i64 1, .int .i64 4, .int .i64 0, .slice none 0 0, .slice none 0 0, .string ⟨#[118]⟩, .int .i64 2, .int .i64 0, .int .i64 0, .slice (some ⟨q0, 0, none⟩) 2 2, .slice none 0 0, .string ⟨#[119]⟩, .int .i64 2, .int .i64 0, .int .i64 0, .slice (some ⟨q1, 0, none⟩) 2 2, .slice none 0 0] 47) = wz := ⟨_, rfl⟩
  have hz : wz.heap[w6.heap.size]? = some (.cells #[.string ⟨#[97]⟩, .int .i64 1, .int .i64 0, .int .i64 0, .slice none 0 0, .slice none 0 0, .string ⟨#[98]⟩, .int .i64 1, .int .i64 4, .int .i64 4, .slice none 0 0, .slice none 0 0, .string ⟨#[99]⟩, .int .i64 1, .int .i64 0, .int .i64 4, .slice none 0 0, .slice none 0 0, .string ⟨#[100]⟩, .int .i64 1, .int .i64 4, .int .i64 0, .slice none 0 0, .slice none 0 0, .string ⟨#[118]⟩, .int .i64 2, .int .i64 0, .int .i64 0, .slice (some ⟨q0, 0, none⟩) 2 2, .slice none 0 0, .string ⟨#[119]⟩, .int .i64 2, .int .i64 0, .int .i64 0, .slice (some ⟨q1, 0, none⟩) 2 2, .slice none 0 0] 47 (0, 0)) := by rw [← hwz]; exact heap_alloc_new _ _
  have cz : Below w6.heap.size w6 wz := by rw [← hwz]; exact (Below.refl _ _).alloc (Nat.le_refl _) _
  have hbz := bto hb6 cz
  have s0 := s0.below cz
  have s1 := s1.below cz
  obtain ⟨qz, hqz⟩ : ∃ q, w6.heap.size = q := ⟨_, rfl⟩
  rw [hqz] at hz
  have HMZ : Hid (MapI wz (.slice (some ⟨qz, 0, none⟩) 6 6) crossO) := hide (by
    refine ⟨⟨_, _, rfl, Nat.le_refl _, .inr ⟨qz, 0, rfl, lt_of_block hz, fun i ob hi => ?_⟩⟩, by decide, cross_ok⟩
    match i, hi with
    | 0, hi => cases hi; exact ⟨.slice none 0 0, .slice none 0 0, ⟨cell_of_row _ _ 0 _ _ _ hz, cell_of_row _ _ 1 _ _ _ hz, cell_of_row _ _ 2 _ _ _ hz, cell_of_row _ _ 3 _ _ _ hz, cell_of_row _ _ 4 _ _ _ hz, cell_of_row _ _ 5 _ _ _ hz, ⟨_, _, rfl, Nat.le_refl _, .inl rfl⟩, ⟨_, _, rfl, .inl rfl⟩⟩⟩
    | 1, hi => cases hi; exact ⟨.slice none 0 0, .slice none 0 0, ⟨cell_of_row _ _ 6 _ _ _ hz, cell_of_row _ _ 7 _ _ _ hz, cell_of_row _ _ 8 _ _ _ hz, cell_of_row _ _ 9 _ _ _ hz, cell_of_row _ _ 10 _ _ _ hz, cell_of_row _ _ 11 _ _ _ hz, ⟨_, _, rfl, Nat.le_refl _, .inl rfl⟩, ⟨_, _, rfl, .inl rfl⟩⟩⟩
    | 2, hi => cases hi; exact ⟨.slice none 0 0, .slice none 0 0, ⟨cell_of_row _ _ 12 _ _ _ hz, cell_of_row _ _ 13 _ _ _ hz, cell_of_row _ _ 14 _ _ _ hz, cell_of_row _ _ 15 _ _ _ hz, cell_of_row _ _ 16 _ _ _ hz, cell_of_row _ _ 17 _ _ _ hz, ⟨_, _, rfl, Nat.le_refl _, .inl rfl⟩, ⟨_, _, rfl, .inl rfl⟩⟩⟩
    | 3, hi => cases hi; exact ⟨.slice none 0 0, .slice none 0 0, ⟨cell_of_row _ _ 18 _ _ _ hz, cell_of_row _ _ 19 _ _ _ hz, cell_of_row _ _ 20 _ _ _ hz, cell_of_row _ _ 21 _ _ _ hz, cell_of_row _ _ 22 _ _ _ hz, cell_of_row _ _ 23 _ _ _ hz, ⟨_, _, rfl, Nat.le_refl _, .inl rfl⟩, ⟨_, _, rfl, .inl rfl⟩⟩⟩
    | 4, hi => cases hi; exact ⟨.slice (some ⟨q0, 0, none⟩) 2 2, .slice none 0 0, ⟨cell_of_row _ _ 24 _ _ _ hz, cell_of_row _ _ 25 _ _ _ hz, cell_of_row _ _ 26 _ _ _ hz, cell_of_row _ _ 27 _ _ _ hz, cell_of_row _ _ 28 _ _ _ hz, cell_of_row _ _ 29 _ _ _ hz, s0, ⟨_, _, rfl, .inl rfl⟩⟩⟩
    | 5, hi => cases hi; exact ⟨.slice (some ⟨q1, 0, none⟩) 2 2, .slice none 0 0, ⟨cell_of_row _ _ 30 _ _ _ hz, cell_of_row _ _ 31 _ _ _ hz, cell_of_row _ _ 32 _ _ _ hz, cell_of_row _ _ 33 _ _ _ hz, cell_of_row _ _ 34 _ _ _ hz, cell_of_row _ _ 35 _ _ _ hz, s1, ⟨_, _, rfl, .inl rfl⟩⟩⟩
    | (i + 6), hi => simp [crossO] at hi)
  have HSZ : Hid (wz.heap.size = qz + 1) := hide (by rw [← hwz, ← hqz]; simp)
  rw [hwz, hqz]
  have HBZ := hide hbz
  clear hwz hqz cz hb6 hz hbz s0 s1
  obtain ⟨wm, hwm⟩ : ∃ wm, wz.alloc (.cells #[.slice (some ⟨qz, 0, none⟩) 6 6] 24) = wm := ⟨_, rfl⟩
  have hbm : Below wz.heap.size wz wm := by rw [← hwm]; exact (Below.refl _ _).alloc (Nat.le_refl _) _
  have hmb : wm.heap[qz + 1]? = some (.cells #[.slice (some ⟨qz, 0, none⟩) 6 6] 24 (0, 0)) := by rw [← hwm, ← HSZ.out]; exact heap_alloc_new _ _
  rw [hwm]
  have HMB := hide hmb
  have HBM := hide (bto HBZ.out hbm)
  have HMM := hide (HMZ.out.below hbm)
  clear hwm hbm hmb HMZ HBZ HSZ
  refine (psegments_any crossO _ wm HMM.out cross_map cross_small).mono ?_
  rintro _ wa ⟨sv, ov, rfl, hsg, hgr, hba⟩
  rw [cross_segs] at hsg
  have HSG := hide hsg
  obtain ⟨As, cs, rfl, hcs⟩ := hsg
  have HMBa := hide (blkB hba HMB.out)
  have HBA := hide (bto HBM.out hba)
  have HMA := hide (HMM.out.below hba)
  obtain ⟨Ag, cg, rfl, _⟩ := hgr
  clear hba HMB HBM HMM
  go_wp2_with fail
  refine (sweep_any _ _ wa HSG.out (by simp)).mono ?_
  rintro _ wb ⟨mv, rfl, hmt, hbb⟩
  have hal := cross_all
  rw [cross_segs] at hal
  rw [hal] at hmt
  obtain ⟨gm, cm, rfl⟩ := row_at2 hmt (by simp)
  have HMT := hide hmt
  have HSGb := hide (HSG.out.below hbb)
  have HMBb := hide (blkB hbb HMBa.out)
  have HBB := hide (bto HBA.out hbb)
  have HMAb := hide (HMA.out.below hbb)
  clear hmt hbb hal HMBa HBA HMA HSG hcs
  go_wp2_with fail
  refine (new_any wb).mono ?_
  rintro _ wc ⟨xa, bm, rfl, hix, hbc, hx1, hx2⟩
  have HPT : Hid (PtI wb wc xa bm [⟨⟨0, 0⟩, ⟨4, 4⟩⟩, ⟨⟨0, 4⟩, ⟨4, 0⟩⟩] 0) := hide ⟨hix, hbc⟩
  have HX1 := hide hx1
  have HX2 := hide hx2
  clear hix hbc hx1 hx2
  obtain ⟨gs, os, rfl, hgs, hso⟩ : ∃ g o, As = some ⟨g, o, none⟩ ∧ g < wb.heap.size ∧ SgO wb g o [⟨⟨0, 0⟩, ⟨4, 4⟩⟩, ⟨⟨0, 4⟩, ⟨4, 0⟩⟩] := by
    obtain ⟨A2, c2, e, h⟩ := HSGb.out
    rw [Value.slice.injEq] at e
    obtain ⟨rfl, _, _⟩ := e
    exact h.resolve_left (by simp)
  obtain ⟨S0, hS0⟩ : ∃ S0 : List Sg, [⟨⟨0, 0⟩, ⟨4, 4⟩⟩, ⟨⟨0, 4⟩, ⟨4, 0⟩⟩] = S0 := ⟨_, rfl⟩
  have hlS : S0.length = 2 := by rw [← hS0]; rfl
  have HOKB : Hid (∀ s ∈ S0, okX (boxS s)) := hide (by rw [← hS0]; intro s hs; simp at hs; rcases hs with rfl | rfl <;> (unfold okX boxS; simp only; omega))
  have HL3 : Hid (S0.length ≤ 300) := hide (by omega)
  rw [hS0] at hso HPT
  have HS0 := hide hS0
  have HLS := hide hlS
  have HSO := hide (fun W (hW : Below wb.heap.size wb W) => hso.below hgs hW)
  clear hS0 hlS hso hgs HSGb
  go_wp2_with fail
  go_loopw [7] (fun i wr => ∃ k : Nat, k ≤ 2 ∧ i = .int .i64 k ∧ Hid (PtI wb wr xa bm S0 k)) (fun i _ => 2 - (intOf i).toNat)
  case atStart => exact ⟨0, by omega, rfl, HPT⟩
  case round =>
    clear HPT
    obtain ⟨k, hk, rfl, hpt⟩ := hrel
    have HPD0 := hide hpt.out
    by_cases hlt : k < 2
    · have k0 : (0 : Int) ≤ (k : Nat) := by omega
      have k1 : ((k : Nat) : Int) < 2 := by omega
      obtain ⟨s, hs⟩ : ∃ s, S0[k]? = some s := ⟨_, List.getElem?_eq_getElem (by rw [HLS.out]; exact hlt)⟩
      have HS := hide hs
      have HLT := hide hlt
      clear hpt hs hk
      go_wp2_with fail
      refine wp_region_any hmx ?_
      have HPD := hide (HPD0.out.lift (below_drew wr))
      obtain ⟨e0, e1, e2, e3⟩ := HSO.out _ HPD.out.below k s HS.out
      clear HPD0
      simp only [List.size_toArray, List.length_cons, List.length_nil, Nat.reduceAdd]
      change wpAny _ _ _ _ _ _ _ (World.drew _)
      generalize wr.drew = wd at *
      refine wpAny_take (i := 0) (v := .pointer (some ⟨xa, 0, none⟩)) rfl (by kernel_rfl) (by kernel_rfl) (by kernel_rfl) (fun _ _ _ h => h) (.inl ⟨by kernel_rfl, fun w => rfl⟩) ?_
      refine wpAny_take (i := 1) (v := .int .i64 k) rfl (by kernel_rfl) (by kernel_rfl) (by kernel_rfl) (fun _ _ _ h => h) (.inl ⟨by kernel_rfl, fun w => by go_simp⟩) ?_
      refine wpAny_take (i := 3) (v := .slice (some ⟨gs, os, none⟩) 2 cs) rfl (by kernel_rfl) (by kernel_rfl) (by kernel_rfl) (fun _ _ _ h => h) (.inl ⟨by kernel_rfl, fun w => rfl⟩) ?_
      refine wpAny_take (i := 4) (v := .int .i64 k) rfl (by kernel_rfl) (by kernel_rfl) (by kernel_rfl) (fun _ _ _ h => h) (.inl ⟨by kernel_rfl, fun w => by go_simp⟩) ?_
      refine wpAny_take (i := 5) (v := .pointer (some ⟨gs, os + k * 4, none⟩)) rfl (by kernel_rfl) (by kernel_rfl) (by kernel_rfl) (fun _ _ _ h => h) (.inl ⟨by kernel_rfl, fun w => by go_simp⟩) ?_
      refine wpAny_ready (rs := [2, 6]) (by kernel_rfl) (by simp) ?_
      refine AllReady.cons rfl (fun K' hK => ?_) (AllReady.cons rfl (fun K' hK => ?_) (AllReady.nil))
      · rw [if_pos (by kernel_rfl)]
        go_simp
        go_at_call 22
        refine (dec_any k (by omega) wd).mono ?_
        rintro _ _ ⟨rfl, rfl⟩
        refine hK _ _ ?_
        refine wpAny_ready (rs := [6]) (by kernel_rfl) (by simp) ?_
        refine AllReady.cons rfl (fun K' hK => ?_) (AllReady.nil)
        rw [if_pos (by kernel_rfl)]
        go_simp
        refine hK _ _ ?_
        refine wpAny_ready (rs := [7]) (by kernel_rfl) (by simp) ?_
        refine AllReady.cons rfl (fun K' hK => ?_) (AllReady.nil)
        rw [if_pos (by kernel_rfl)]
        go_simp
        go_at_call 23
        refine (box_any s wd).mono ?_
        rintro _ wx ⟨rfl, hbx⟩
        have HPX := hide (HPD.out.lift hbx)
        clear hbx
        refine hK _ _ ?_
        refine wpAny_ready (rs := [8]) (by kernel_rfl) (by simp) ?_
        refine AllReady.cons rfl (fun K' hK => ?_) (AllReady.nil)
        rw [if_pos (by kernel_rfl)]
        go_simp
        go_at_call 21
        refine (putk_any wb wx xa bm S0 k s HPX.out HS.out HX1.out HX2.out HL3.out HOKB.out).mono ?_
        rintro _ wy ⟨rfl, hpy⟩
        refine hK _ _ ?_
        refine wpAny_ready (rs := [9]) (by kernel_rfl) (by simp) ?_
        refine AllReady.cons rfl (fun K' hK => ?_) (AllReady.nil)
        rw [if_pos (by kernel_rfl)]
        go_simp
        refine hK _ _ ?_
        refine wpAny_done (by kernel_rfl) ?_ _
        go_wp2_with fail
        refine ⟨⟨k + 1, HLT.out, by go_num, hide hpy⟩, ?_⟩
        have := HLT.out
        simp [intOf]; omega
      · rw [if_pos (by kernel_rfl)]
        go_simp
        refine hK _ _ ?_
        refine wpAny_ready (rs := [2]) (by kernel_rfl) (by simp) ?_
        refine AllReady.cons rfl (fun K' hK => ?_) (AllReady.nil)
        rw [if_pos (by kernel_rfl)]
        go_simp
        go_at_call 22
        refine (dec_any k (by omega) wd).mono ?_
        rintro _ _ ⟨rfl, rfl⟩
        refine hK _ _ ?_
        refine wpAny_ready (rs := [7]) (by kernel_rfl) (by simp) ?_
        refine AllReady.cons rfl (fun K' hK => ?_) (AllReady.nil)
        rw [if_pos (by kernel_rfl)]
        go_simp
        go_at_call 23
        refine (box_any s wd).mono ?_
        rintro _ wx ⟨rfl, hbx⟩
        have HPX := hide (HPD.out.lift hbx)
        clear hbx
        refine hK _ _ ?_
        refine wpAny_ready (rs := [8]) (by kernel_rfl) (by simp) ?_
        refine AllReady.cons rfl (fun K' hK => ?_) (AllReady.nil)
        rw [if_pos (by kernel_rfl)]
        go_simp
        go_at_call 21
        refine (putk_any wb wx xa bm S0 k s HPX.out HS.out HX1.out HX2.out HL3.out HOKB.out).mono ?_
        rintro _ wy ⟨rfl, hpy⟩
        refine hK _ _ ?_
        refine wpAny_ready (rs := [9]) (by kernel_rfl) (by simp) ?_
        refine AllReady.cons rfl (fun K' hK => ?_) (AllReady.nil)
        rw [if_pos (by kernel_rfl)]
        go_simp
        refine hK _ _ ?_
        refine wpAny_done (by kernel_rfl) ?_ _
        go_wp2_with fail
        refine ⟨⟨k + 1, HLT.out, by go_num, hide hpy⟩, ?_⟩
        have := HLT.out
        simp [intOf]; omega
    · obtain rfl : k = 2 := by omega
      have HIX : Hid (IxR wr xa bm (ixL decI 0 S0)) := hide (.inl (by
        have := HPD0.out.ix
        rw [List.take_of_length_le (by rw [HLS.out]; exact Nat.le_refl _)] at this
        exact this))
      have HBW := hide HPD0.out.below
      have hs : S0[0]? = some ⟨⟨0, 0⟩, ⟨4, 4⟩⟩ := by rw [← HS0.out]; rfl
      obtain ⟨e0, e1, e2, e3⟩ := HSO.out _ HPD0.out.below 0 _ hs
      simp only [Nat.zero_mul, Nat.add_zero] at e0 e1 e2 e3
      have d0 := (blk1 (blkB HBW.out HMBb.out)).1
      have HMTR := hide (own_below HMT.out HBW.out)
      have m2 := own_cell HMTR.out 2 (.int .i64 3) rfl
      have k1 : ¬ ((2 : Nat) : Int) < 2 := by omega
      clear hpt hs HPD0
      go_wp2_with fail
      refine (box_any ⟨⟨0, 0⟩, ⟨4, 4⟩⟩ wr).mono ?_
      rintro _ wx ⟨rfl, hbx⟩
      have HIX2 := hide (HIX.out.below hbx)
      have HBX := hide (bto HBW.out hbx)
      clear hbx HIX HBW e0 e1 e2 e3 d0 m2
      go_wp2_with fail
      refine (in_any (boxS ⟨⟨0, 0⟩, ⟨4, 4⟩⟩) (HOKB.out _ (by rw [← HS0.out]; simp)) xa bm _ wx HIX2.out (by rw [ixL_len, HLS.out]; omega) (by rw [ixL_len, HLS.out]; omega) (ixL_nd decI (n := 10000) (fun i j hi hj e => decI_inj hi hj e) _ _ (by rw [HLS.out]; omega)) (fun x hx => by obtain ⟨j, t, h1, rfl⟩ := ixL_mem decI hx; exact HOKB.out t (List.mem_of_getElem? h1)) (fun x hx => by obtain ⟨j, t, h1, rfl⟩ := ixL_mem decI hx; exact decI_size _)).mono ?_
      rintro _ wy ⟨iv, S, rfl, hrow, hperm, hixy, hgrow⟩
      have hSl : S.length = 2 := by
        have h1 := hperm.length_eq
        rw [← HS0.out] at h1
        have h2 := cross_hit decI
        simp only [ixL, List.map_cons, List.map_nil] at h1
        rw [h1, h2]
        rfl
      rw [hSl] at hrow
      obtain ⟨Ai, ci, rfl⟩ := row_form hrow
      have HBY := hide (below_row HBX.out hgrow (fun r e => by have := HX1.out; have := HX2.out; rw [← Option.some.inj e]; omega))
      have HSL := hide hSl
      have d0 := (blk1 (blkB HBY.out HMBb.out)).1
      clear hperm hixy hgrow hrow hSl HIX2 HBX
      go_wp2_with fail
      refine (check_any crossO _ wy (HMAb.out.below HBY.out) cross_map cross_small).mono ?_
      rintro _ wq ⟨Q, Aq, cq, rfl, hq1, hq2, hbq⟩
      rw [cross_one hq1 hq2]
      have HBQ := hide (bto (bto HBB.out HBY.out) hbq)
      clear hq1 hq2 hbq d0
      go_wp2_with fail
      go_ret
      exact ⟨rfl, HBQ.out⟩
end Go.Proofs.YtfkgjbdeicggaaaGreat
