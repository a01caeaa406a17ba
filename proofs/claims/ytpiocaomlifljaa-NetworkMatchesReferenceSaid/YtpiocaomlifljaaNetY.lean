/-
  ref13.Few and the law's few, walked.
-/
import Derived.Test.YtpiocaomlifljaaNetZ
import Derived.Test.YtpiocaomlifljaaPlainN
namespace Go.Proofs.Ytpiocaomlifljaa
open Go.RowKit Go.Proofs.PlLex Go.Proofs.PlNet

set_option maxRecDepth 100000 in
set_option maxHeartbeats 8000000 in
theorem few_any (l : List Ob) (n : Nat) (v : Value) (w : World) (hv : MapW w v l) (_ : n ≤ 1000) :
    Calls Try.prog 32 #[.agg #[v], .int .i64 n] w fun e w' => e = .returned (.bool (fewM n l)) ∧ Below w.heap.size w w' := by
  obtain ⟨R, hR⟩ : ∃ R, fewM n l = R := ⟨_, rfl⟩
  rw [hR]
  unfold fewM at hR
  have hlen := hv.len
  have HS := hide hv.ok
  obtain ⟨A, c, rfl, _, hA⟩ := hv.obs
  have HA := hide hA
  obtain ⟨wa, hwa⟩ : ∃ wa, w.alloc (.cells #[.slice A l.length c] 24) = wa := ⟨_, rfl⟩
  have ha : Below w.heap.size w wa := by rw [← hwa]; exact (Below.refl _ _).alloc (Nat.le_refl _) _
  have hm : wa.heap[w.heap.size]? = some (.cells #[.slice A l.length c] 24 (0, 0)) := by rw [← hwa]; exact heap_alloc_new w _
  have dm := (blk1 hm).1
  have HM := hide hm
  have HWA := hide ha
  have HR := hide hR
  unfold maxLen at hlen
  clear hA hv hm ha hR
  by_cases hln : l.length ≤ n
  · have h1 : (l.length : Int) ≤ n := by omega
    have h1b : ¬ (n : Int) < l.length := by omega
    have HR1 := hide (show l.all fewO = R from by rw [← HR.out, decide_eq_true hln]; rfl)
    clear HR hln
    go_enter Try.func32, Try.ntmps32
    go_wp2_with fail
    clear hwa dm
    go_loopw [5] (fun i wr => ∃ k : Nat, k ≤ l.length ∧ i = .int .i64 k ∧ Hid (Below wa.heap.size wa wr) ∧ Hid ((l.drop k).all fewO = R)) (fun i _ => l.length - (intOf i).toNat)
    case atStart => exact ⟨0, Nat.zero_le _, rfl, Below.refl _ _, HR1⟩
    case round =>
      obtain ⟨k, hk, rfl, hb, hr⟩ := hrel
      have dm := (blk1 (blkB hb.out HM.out)).1
      by_cases hlt : k < l.length
      · obtain ⟨g, o, rfl, hg, hp⟩ := HA.out.resolve_left (by rintro rfl; simp at hlt)
        obtain ⟨rv, tv, hoa⟩ := hp k _ (List.getElem?_eq_getElem hlt)
        obtain ⟨Ar, cr, hrv, _, hAr⟩ := id hoa.refs
        obtain ⟨At, ct, htv, hAt⟩ := id hoa.tags
        subst hrv
        subst htv
        obtain ⟨c0, c1, c2, c3, c4, c5, hrf, htg⟩ := hoa.below hg (bto HWA.out hb.out)
        have hr2 := hr.out
        rw [drop_ob l k hlt, List.all_cons] at hr2
        have hok := HS.out _ (List.getElem_mem hlt)
        generalize l[k] = t at *
        obtain ⟨hs1, hs2, hs3, hs4, hs5, _⟩ := hok
        unfold maxLen at hs1 hs2 hs4
        have k0 : (0 : Int) ≤ k := by omega
        have k1 : (k : Int) < l.length := by omega
        have HL := hide hlt
        have HMS := hide (show l.length - (k + 1) < l.length - k from by omega)
        have HR2 := hide hr2
        obtain ⟨wo, hwo⟩ : ∃ wo, wr.alloc (.cells #[.string t.id, .int .i64 t.kind, .int .i64 t.x, .int .i64 t.y, .slice Ar t.refs.length cr, .slice At t.tags.length ct] 42) = wo := ⟨_, rfl⟩
        have hblk : wo.heap[wr.heap.size]? = some (.cells #[.string t.id, .int .i64 t.kind, .int .i64 t.x, .int .i64 t.y, .slice Ar t.refs.length cr, .slice At t.tags.length ct] 42 (0, 0)) := by rw [← hwo]; exact heap_alloc_new _ _
        have d0 : wo.cell? ⟨wr.heap.size, 0, none⟩ = some (.string t.id) := cell_of_row wo _ 0 _ _ _ hblk
        have d4 : wo.cell? ⟨wr.heap.size, 4, none⟩ = some (.slice Ar t.refs.length cr) := cell_of_row wo _ 4 _ _ _ hblk
        have d5 : wo.cell? ⟨wr.heap.size, 5, none⟩ = some (.slice At t.tags.length ct) := cell_of_row wo _ 5 _ _ _ hblk
        have hbo : Below wa.heap.size wa wo := by rw [← hwo]; exact bto hb.out ((Below.refl _ _).alloc (Nat.le_refl _) _)
        have HBO := hide hbo
        have HBW := hide (bto HWA.out hbo)
        have HBL := hide hblk
        have HAR := hide (fun (x : t.refs ≠ []) => hAr.resolve_left x)
        have HAT := hide (fun (x : t.tags ≠ []) => hAt.resolve_left x)
        clear hr hr2 hp hlt hoa hrf htg hb hbo hblk hAr hAt
        by_cases u1 : t.refs.length ≤ 12
        case neg =>
          have u1' : (12 : Int) < t.refs.length := by omega
          have HZ := hide (show R = false from by rw [← HR2.out, fewO, decide_eq_false u1]; rfl)
          clear u1
          go_wp2_with fail
          go_ret
          exact ⟨ret_bool HZ.out.symm, HBW.out⟩
        have u1' : ¬ (12 : Int) < t.refs.length := by omega
        by_cases u2 : t.tags.length ≤ 20
        case neg =>
          have u2' : (20 : Int) < t.tags.length := by omega
          have HZ := hide (show R = false from by rw [← HR2.out, fewO, decide_eq_false u2, Bool.and_false]; rfl)
          clear u2
          go_wp2_with fail
          go_ret
          exact ⟨ret_bool HZ.out.symm, HBW.out⟩
        have u2' : ¬ (20 : Int) < t.tags.length := by omega
        by_cases u3 : t.id.size ≤ 60
        case neg =>
          have u3' : (60 : Int) < t.id.size := by omega
          have HZ := hide (show R = false from by rw [← HR2.out, fewO, decide_eq_false u3, Bool.and_false]; rfl)
          clear u3
          go_wp2_with fail
          go_ret
          exact ⟨ret_bool HZ.out.symm, HBW.out⟩
        have u3' : ¬ (60 : Int) < t.id.size := by omega
        have HR3 := hide (show (fewR (t.refs.drop 0) && (fewG t.tags && (l.drop (k + 1)).all fewO)) = R from by
          rw [← HR2.out, fewO, decide_eq_true u1, decide_eq_true u2, decide_eq_true u3, List.drop_zero]
          simp only [Bool.true_and, Bool.and_assoc])
        clear u1 u2 u3 HR2
        go_wp2_with fail
        clear hwo c0 c1 c2 c3 c4 c5 d0 dm
        generalize wr.heap.size = bo at *
        go_loop [7] (fun i => ∃ j : Nat, j ≤ t.refs.length ∧ i = .int .i64 j ∧ Hid ((fewR (t.refs.drop j) && (fewG t.tags && (l.drop (k + 1)).all fewO)) = R)) (fun i => t.refs.length - (intOf i).toNat)
        case atStart => exact ⟨0, Nat.zero_le _, rfl, HR3⟩
        case round =>
          clear HR3
          obtain ⟨j, hj, rfl, hr⟩ := hrel
          by_cases hjl : j < t.refs.length
          · obtain ⟨gr, og, rfl, hgr, hpr⟩ := HAR.out (by intro e; rw [e] at hjl; simp at hjl)
            have c1 := (hpr.below hgr HBW.out) j _ (List.getElem?_eq_getElem hjl)
            have hr2 := hr.out
            rw [fewR, drop_st t.refs j hjl, List.all_cons] at hr2
            have hsz := hs3 _ (List.getElem_mem hjl)
            generalize t.refs[j] = s at *
            unfold maxLen at hsz
            have j0 : (0 : Int) ≤ j := by omega
            have j1 : (j : Int) < t.refs.length := by omega
            have HJ := hide hjl
            have HMJ := hide (show t.refs.length - (j + 1) < t.refs.length - j from by omega)
            have HR4 := hide hr2
            clear hr hr2 hjl hpr
            by_cases u1 : 60 < s.size
            · have u1' : (60 : Int) < s.size := by omega
              have HZ := hide (show R = false from by rw [← HR4.out, decide_eq_false (show ¬ s.size ≤ 60 by omega)]; rfl)
              go_wp2_with fail
              go_ret
              exact ⟨ret_bool HZ.out.symm, HBW.out⟩
            have u1' : ¬ (60 : Int) < s.size := by omega
            have HZ := hide (show (fewR (t.refs.drop (j + 1)) && (fewG t.tags && (l.drop (k + 1)).all fewO)) = R from by
              rw [← HR4.out, decide_eq_true (show s.size ≤ 60 by omega)]; rfl)
            go_wp2_with fail
            refine ⟨⟨j + 1, HJ.out, by go_num, HZ⟩, ?_⟩
            have := HMJ.out
            simp [intOf]; omega
          · have HR4 := hide (show (fewG (t.tags.drop 0) && (l.drop (k + 1)).all fewO) = R from by
              have e : t.refs.drop j = [] := List.drop_eq_nil_of_le (by omega)
              rw [← hr.out, e, List.drop_zero]; rfl)
            clear hr
            go_wp2_with fail
            go_loopw [8] (fun i wr => ∃ j : Nat, j ≤ t.tags.length ∧ i = .int .i64 j ∧ Hid (Below wo.heap.size wo wr) ∧ Hid ((fewG (t.tags.drop j) && (l.drop (k + 1)).all fewO) = R)) (fun i _ => t.tags.length - (intOf i).toNat)
            case atStart => exact ⟨0, Nat.zero_le _, rfl, Below.refl _ _, HR4⟩
            case round =>
              clear HR4
              obtain ⟨j2, hj2, rfl, hb2, hr⟩ := hrel
              have d5 : wr.cell? ⟨bo, 5, none⟩ = some (.slice At t.tags.length ct) := cell_of_row wr _ 5 _ _ _ (blkB hb2.out HBL.out)
              by_cases hjl : j2 < t.tags.length
              · obtain ⟨gr, og, rfl, hgr, hpr⟩ := HAT.out (by intro e; rw [e] at hjl; simp at hjl)
                obtain ⟨c1, c2⟩ := (hpr.below hgr (bto HBW.out hb2.out)) j2 _ (List.getElem?_eq_getElem hjl)
                have hr2 := hr.out
                rw [fewG, drop_tg t.tags j2 hjl, List.all_cons] at hr2
                have hsz := hs5 _ (List.getElem_mem hjl)
                generalize t.tags[j2] = s at *
                obtain ⟨sk, sv⟩ := s
                simp only at c1 c2 hr2 hsz
                unfold maxLen at hsz
                have j0 : (0 : Int) ≤ j2 := by omega
                have j1 : (j2 : Int) < t.tags.length := by omega
                have HJ := hide hjl
                have HMJ := hide (show t.tags.length - (j2 + 1) < t.tags.length - j2 from by omega)
                have HR4 := hide hr2
                clear hr hr2 hjl hpr
                obtain ⟨z, hz⟩ : ∃ z, IntKind.i64.wrap ((sk.size : Int) + sv.size) = z := ⟨_, rfl⟩
                have hr5 := HR4.out
                simp only [hz] at hr5
                have HR5 := hide hr5
                clear HR4 hr5
                by_cases u1 : z ≤ 300
                · have u1' : ¬ (300 : Int) < z := by omega
                  have HZ := hide (show (fewG (t.tags.drop (j2 + 1)) && (l.drop (k + 1)).all fewO) = R from by
                    rw [← HR5.out, decide_eq_true u1]; rfl)
                  have HB6 := hide hb2.out
                  clear u1
                  go_wp2_with fail
                  go_quiet (fail)
                  go_wp2_with fail
                  refine ⟨⟨j2 + 1, HJ.out, by go_num, bto HB6.out (below_drewN _ _), HZ⟩, ?_⟩
                  have := HMJ.out
                  simp [intOf]; omega
                · have u1' : (300 : Int) < z := by omega
                  have HZ := hide (show R = false from by rw [← HR5.out, decide_eq_false u1]; rfl)
                  have HB6 := hide (bto HBW.out hb2.out)
                  clear u1
                  go_wp2_with fail
                  go_quiet (fail)
                  go_wp2_with fail
                  go_ret
                  exact ⟨ret_bool HZ.out.symm, bto HB6.out (below_drewN _ _)⟩
              · have HZ := hide (show (l.drop (k + 1)).all fewO = R from by
                  have e : t.tags.drop j2 = [] := List.drop_eq_nil_of_le (by omega)
                  rw [← hr.out, e]; rfl)
                have HB5 := hide (bto HBO.out hb2.out)
                clear hr hb2
                go_wp2_with fail
                refine ⟨⟨k + 1, HL.out, by go_num, HB5, HZ⟩, ?_⟩
                have := HMS.out
                simp [intOf]; omega
      · have HZ := hide (show R = true from by rw [← hr.out, List.drop_eq_nil_of_le (by omega)]; rfl)
        have HB := hide (bto HWA.out hb.out)
        clear hr hb
        go_wp2_with fail
        go_ret
        exact ⟨ret_bool HZ.out.symm, HB.out⟩
  · have h1 : (n : Int) < l.length := by omega
    have HZ := hide (show R = false from by rw [← HR.out, decide_eq_false hln]; rfl)
    clear HR hln
    go_enter Try.func32, Try.ntmps32
    go_wp2_with fail
    go_ret
    exact ⟨ret_bool HZ.out.symm, HWA.out⟩
set_option maxRecDepth 100000 in
theorem fewlaw_any (l : List Ob) (v : Value) (w : World) (hv : MapW w v l) :
    Calls Try.prog 11 #[.agg #[v]] w fun e w' => e = .returned (.bool (fewM 24 l)) ∧ Below w.heap.size w w' := by
  obtain ⟨A, c, rfl, _⟩ := id hv.obs
  obtain ⟨wa, hwa⟩ : ∃ wa, w.alloc (.cells #[.slice A l.length c] 24) = wa := ⟨_, rfl⟩
  have ha : Below w.heap.size w wa := by rw [← hwa]; exact (Below.refl _ _).alloc (Nat.le_refl _) _
  have dm : wa.cell? ⟨w.heap.size, 0, none⟩ = some (.slice A l.length c) := by rw [← hwa]; exact (blk1 (heap_alloc_new w _)).1
  have HF := hide (few_any l 24 _ wa (hv.below ha) (by decide))
  clear hv
  go_enter Try.func11, Try.ntmps11
  go_wp2_with fail
  refine HF.out.mono ?_
  rintro _ w1 ⟨rfl, b1⟩
  have HB := hide (bto ha b1)
  clear b1 ha dm hwa
  go_wp2_with fail
  go_ret
  exact ⟨rfl, HB.out⟩
end Go.Proofs.Ytpiocaomlifljaa
