/-
  The law of the pairs, walked.
-/
import Derived.Test.YtfkgjbdeicggaaaGreatTopZI
namespace Go.Proofs.YtfkgjbdeicggaaaGreat
open Go.RowKit Go.Proofs.PlLex Go.Proofs.PlNet Go.Proofs.PlMap Go.Proofs.PlGeom Go.Proofs.PlTop
attribute [local go_sem] Oper.semAt_some run_makeMap

/-- While the law goes through the segments. -/
structure LwI (W0 W : World) (xa bm pm : Nat) (ml : List (Pt × Value)) (g : Pt → Option BA) (S : List Sg) (N : Nat) : Prop where
  ix : IxR W xa bm (ixL decI 0 S)
  mp : MapPt W pm ml
  gm : ∀ p, getL ml p = (g p).map Value.string
  ln : ml.length ≤ N
  below : Below W0.heap.size W0 W
theorem LwI.lift {W0 W W' : World} {xa bm pm : Nat} {ml : List (Pt × Value)} {g : Pt → Option BA} {S : List Sg} {N : Nat} (h : LwI W0 W xa bm pm ml g S N) (hb : Below W.heap.size W W') : LwI W0 W' xa bm pm ml g S N := ⟨h.ix.below hb, h.mp.kept (bgrow hb) (by simp), h.gm, h.ln, bto h.below hb⟩
theorem zero_str13 (w : World) : (zeroValue 9).run Tryz.prog w = .ok (.string ⟨#[]⟩) w := by kernel_rfl
theorem IxR.mapset {W W' : World} {xa bm pm : Nat} {l : List (BA × Bx)} (h : IxR W xa bm l) (hg : W.grownBy W' (some pm)) (hm : ∃ es c, W.heap[pm]? = some (.map es c)) (h1 : pm ≠ xa) (h2 : pm ≠ bm) : IxR W' xa bm l := by
  rcases h with h | ⟨d, g, bx, ls, h⟩
  · exact .inl ⟨(hg.block _ (lt_of_block h.box) (fun e => h1 (Option.some.inj e.symm))).trans h.box, h.map.kept hg (fun e => h2 (Option.some.inj e).symm)⟩
  · obtain ⟨es, c, hm⟩ := hm
    exact .inr ⟨d, g, bx, ls, (hg.block _ (lt_of_block h.box) (fun e => h1 (Option.some.inj e.symm))).trans h.box, h.node.grown hg (fun r e => by cases e; exact ⟨_, hm, rfl⟩), h.perm⟩
/-- What the law's table of points becomes. -/
def updG (g : Pt → Option BA) (s : BA) (p : Pt) : Pt → Option BA := fun q => if q = p then some s else g q
def oneB (g : Pt → Option BA) (s : BA) (p : Pt) : Bool := match g p with | some t => decide (t ≠ s) | none => false
set_option maxRecDepth 100000 in
set_option maxHeartbeats 16000000 in
theorem pairs_any (l : List Ob) (v : Value) (w : World) (hv : MapW w v l) :
    Calls Tryz.prog 4 #[.agg #[v]] w fun e w' => e = .returned (.bool true) ∧ Below w.heap.size w w' := by
  have hmx : Tryz.prog.follows .mixedOrders = true := by kernel_rfl
  obtain ⟨A, c, rfl, _, _⟩ := id hv.obs
  obtain ⟨w1, hw1⟩ : ∃ w1, w.alloc (.cells #[.slice A l.length c] 24) = w1 := ⟨_, rfl⟩
  have hb1 : Below w.heap.size w w1 := by rw [← hw1]; exact (Below.refl _ _).alloc (Nat.le_refl _) _
  have hx1 : w1.heap[w.heap.size]? = some (.cells #[.slice A l.length c] 24 (0, 0)) := by rw [← hw1]; exact heap_alloc_new _ _
  have HV := hide hv
  have HX1 := hide hx1
  have HB1 := hide hb1
  clear hb1 hx1 hv
  go_enter Tryz.func4, Tryz.ntmps4
  go_wp2_with fail
  clear hw1
  refine (crossed_any w1).mono ?_
  rintro _ w2 ⟨rfl, hb2⟩
  have HX2 := hide (blkB hb2 HX1.out)
  have HB2 := hide (bto HB1.out hb2)
  have d0 := (blk1 HX2.out).1
  clear HX1 HB1 hb2
  go_wp2_with fail
  refine (fewlaw_any l _ w2 (HV.out.below HB2.out)).mono ?_
  rintro _ w3 ⟨rfl, hb3⟩
  have HX3 := hide (blkB hb3 HX2.out)
  have HB3 := hide (bto HB2.out hb3)
  clear HX2 HB2 hb3 d0
  have d0 := (blk1 HX3.out).1
  obtain ⟨Fw, hfw⟩ : ∃ F, fewM 20 l = F := ⟨_, rfl⟩
  rw [hfw]
  have HF := hide hfw
  clear hfw
  cases Fw with
  | false =>
    go_wp2_with fail
    go_ret
    exact ⟨rfl, HB3.out⟩
  | true =>
    have hmi := HV.out.mapI HF.out
    have HMI := hide hmi
    have hsm := small_few HF.out
    have HSM := hide hsm
    go_wp2_with fail
    refine (avalid_any l _ w3 (hmi.below HB3.out).obs hmi.len hmi.ok).mono ?_
    rintro _ w4 ⟨rfl, hb4⟩
    have HX4 := hide (blkB hb4 HX3.out)
    have HB4 := hide (bto HB3.out hb4)
    clear HX3 HB3 hb4 d0 hmi hsm
    have d0 := (blk1 HX4.out).1
    obtain ⟨M, hM⟩ : ∃ M, mapB l = M := ⟨_, rfl⟩
    rw [hM]
    have HM := hide hM
    clear hM
    cases M with
    | false =>
      go_wp2_with fail
      go_ret
      exact ⟨rfl, HB4.out⟩
    | true =>
      go_wp2_with fail
      refine (psegments_any l _ w4 (HMI.out.below HB4.out) HM.out HSM.out).mono ?_
      rintro _ w5 ⟨sv, ov, rfl, hsg, hgr, hb5⟩
      obtain ⟨n, hn⟩ : ∃ n, (bordersL l).length = n := ⟨_, rfl⟩
      have hns : (segsL l).length = n := by unfold segsL; rw [List.length_map]; exact hn
      have hn240 : n ≤ 240 := by rw [← hn]; exact borders_len HSM.out
      have HSG := hide hsg
      obtain ⟨As, cs, rfl, _⟩ := hsg
      obtain ⟨Ag, cg, rfl, _⟩ := hgr
      rw [List.length_map, hn, hns]
      have HN := hide hn
      have HNS := hide hns
      have HX5 := hide (blkB hb5 HX4.out)
      have HB5 := hide (bto HB4.out hb5)
      clear HX4 HB4 hb5 d0 hn hns
      have d0 := (blk1 HX5.out).1
      go_wp2_with fail
      refine (sweep_any (segsL l) _ w5 (by have := HSG.out; rw [HNS.out] at this; exact this) (by rw [HNS.out]; omega)).mono ?_
      rintro _ w6 ⟨mv, rfl, hmt, hb6⟩
      obtain ⟨Am, cm, rfl⟩ := row_form hmt
      obtain ⟨na, hna⟩ : ∃ na, (allP (segsL l)).length = na := ⟨_, rfl⟩
      rw [hna] at hmt ⊢
      have HNA := hide hna
      have hna6 : na ≤ 57600 := by
        have h1 := allP_len (segsL l)
        rw [hna, HNS.out] at h1
        have h2 := Nat.mul_le_mul hn240 hn240
        omega
      have HMT := hide hmt
      have HSG6 := hide (HSG.out.below hb6)
      have HX6 := hide (blkB hb6 HX5.out)
      have HB6 := hide (bto HB5.out hb6)
      clear hna hmt hb6 d0 HSG HX5 HB5
      have d0 := (blk1 HX6.out).1
      go_wp2_with fail
      refine (borders_any l _ w6 (HMI.out.below HB6.out) HM.out HSM.out).mono ?_
      rintro _ w7 ⟨bv, Lb, Db, rfl, hbd, hbf, hb7⟩
      have hLb : Lb.length = n := by rw [← HN.out, ← hbf, List.length_map]
      obtain ⟨Ab, cb, rfl⟩ := row_form hbd.row
      rw [hLb] at hbd ⊢
      have HLB := hide hLb
      have HBD := hide hbd
      have HBF := hide hbf
      have HMT7 := hide (own_below HMT.out hb7)
      have HSG7 := hide (HSG6.out.below hb7)
      have HX7 := hide (blkB hb7 HX6.out)
      have HB7 := hide (bto HB6.out hb7)
      clear hbd hbf hLb hb7 d0 HMT HSG6 HX6 HB6
      have d0 := (blk1 HX7.out).1
      go_wp2_with fail
      refine (new_any w7).mono ?_
      rintro _ w8 ⟨xa, bm, rfl, hix, hb8, hx1, hx2⟩
      have HPT : Hid (PtI w7 w8 xa bm (segsL l) 0) := hide ⟨hix, hb8⟩
      have HX1 := hide hx1
      have HX2 := hide hx2
      have HOKB : Hid (∀ s ∈ segsL l, okX (boxS s)) := hide (fun s hs => okX_box (segs_ok HM.out hs))
      have HL3 : Hid ((segsL l).length ≤ 300) := hide (by rw [HNS.out]; omega)
      have HSO : Hid (1 ≤ n → ∃ g o, As = some ⟨g, o, none⟩ ∧ ∀ W, Below w7.heap.size w7 W → SgO W g o (segsL l)) := hide (fun h1 => by
        obtain ⟨A2, c2, e, h⟩ := HSG7.out
        rw [Value.slice.injEq] at e
        obtain ⟨rfl, _, _⟩ := e
        obtain ⟨g, o, e, hg, ho⟩ := h.resolve_left (fun e => by have := HNS.out; rw [e] at this; simp at this; omega)
        exact ⟨g, o, e, fun W hW => ho.below hg hW⟩)
      clear hix hb8 hx1 hx2 d0
      go_upto_block 0 with (fail)
      go_cut [10] (fun _ wx => Hid (PtI w7 wx xa bm (segsL l) n))
      case first =>
        go_wp2_with fail
        go_loopw [10] (fun i wr => ∃ k : Nat, k ≤ n ∧ i = .int .i64 k ∧ Hid (PtI w7 wr xa bm (segsL l) k)) (fun i _ => n - (intOf i).toNat)
        case atStart => exact ⟨0, Nat.zero_le _, rfl, HPT⟩
        case round =>
          clear HPT
          obtain ⟨k, hk, rfl, hpt⟩ := hrel
          have HPD0 := hide hpt.out
          by_cases hlt : k < n
          · have k0 : (0 : Int) ≤ (k : Nat) := by omega
            have k1 : ((k : Nat) : Int) < (n : Nat) := by omega
            obtain ⟨gs, os, rfl, hso⟩ := HSO.out (by omega)
            obtain ⟨s, hs⟩ : ∃ s, (segsL l)[k]? = some s := ⟨_, List.getElem?_eq_getElem (by rw [HNS.out]; exact hlt)⟩
            have HS := hide hs
            have HLT := hide hlt
            clear hpt hk
            go_wp2_with fail
            refine wp_region_any hmx ?_
            have HPD := hide (HPD0.out.lift (below_drew wr))
            obtain ⟨e0, e1, e2, e3⟩ := hso _ HPD.out.below k s hs
            clear HPD0 hs hso
            simp only [List.size_toArray, List.length_cons, List.length_nil, Nat.reduceAdd]
            change wpAny _ _ _ _ _ _ _ (World.drew _)
            generalize wr.drew = wd at *
            refine wpAny_take (i := 0) (v := .pointer (some ⟨xa, 0, none⟩)) rfl (by kernel_rfl) (by kernel_rfl) (by kernel_rfl) (fun _ _ _ h => h) (.inl ⟨by kernel_rfl, fun w => rfl⟩) ?_
            refine wpAny_take (i := 1) (v := .int .i64 k) rfl (by kernel_rfl) (by kernel_rfl) (by kernel_rfl) (fun _ _ _ h => h) (.inl ⟨by kernel_rfl, fun w => by go_simp⟩) ?_
            refine wpAny_take (i := 3) (v := .slice (some ⟨gs, os, none⟩) n cs) rfl (by kernel_rfl) (by kernel_rfl) (by kernel_rfl) (fun _ _ _ h => h) (.inl ⟨by kernel_rfl, fun w => rfl⟩) ?_
            refine wpAny_take (i := 4) (v := .int .i64 k) rfl (by kernel_rfl) (by kernel_rfl) (by kernel_rfl) (fun _ _ _ h => h) (.inl ⟨by kernel_rfl, fun w => by go_simp⟩) ?_
            refine wpAny_take (i := 5) (v := .pointer (some ⟨gs, os + k * 4, none⟩)) rfl (by kernel_rfl) (by kernel_rfl) (by kernel_rfl) (fun _ _ _ h => h) (.inl ⟨by kernel_rfl, fun w => by go_simp⟩) ?_
            refine wpAny_ready (rs := [2, 6]) (by kernel_rfl) (by simp) ?_
            refine AllReady.cons rfl (fun K' hK => ?_) (AllReady.cons rfl (fun K' hK => ?_) (AllReady.nil))
            · rw [if_pos (by kernel_rfl)]
              go_simp
              go_at_call 22
              refine (dec_any k (by omega) wd).mono ?_
              rintro _ _ ⟨rfl, rfl⟩
              refine hK _ _ ?_
              refine wpAny_ready (rs := [6]) (by kernel_rfl) (by simp) ?_
              refine AllReady.cons rfl (fun K' hK => ?_) (AllReady.nil)
              rw [if_pos (by kernel_rfl)]
              go_simp
              refine hK _ _ ?_
              refine wpAny_ready (rs := [7]) (by kernel_rfl) (by simp) ?_
              refine AllReady.cons rfl (fun K' hK => ?_) (AllReady.nil)
              rw [if_pos (by kernel_rfl)]
              go_simp
              go_at_call 23
              refine (box_any s wd).mono ?_
              rintro _ wx ⟨rfl, hbx⟩
              have HPX := hide (HPD.out.lift hbx)
              clear hbx
              refine hK _ _ ?_
              refine wpAny_ready (rs := [8]) (by kernel_rfl) (by simp) ?_
              refine AllReady.cons rfl (fun K' hK => ?_) (AllReady.nil)
              rw [if_pos (by kernel_rfl)]
              go_simp
              go_at_call 21
              refine (putk_any w7 wx xa bm (segsL l) k s HPX.out HS.out HX1.out HX2.out HL3.out HOKB.out).mono ?_
              rintro _ wy ⟨rfl, hpy⟩
              refine hK _ _ ?_
              refine wpAny_ready (rs := [9]) (by kernel_rfl) (by simp) ?_
              refine AllReady.cons rfl (fun K' hK => ?_) (AllReady.nil)
              rw [if_pos (by kernel_rfl)]
              go_simp
              refine hK _ _ ?_
              refine wpAny_done (by kernel_rfl) ?_ _
              go_wp2_with fail
              refine ⟨⟨k + 1, HLT.out, by go_num, hide hpy⟩, ?_⟩
              have := HLT.out
              simp [intOf]; omega
            · rw [if_pos (by kernel_rfl)]
              go_simp
              refine hK _ _ ?_
              refine wpAny_ready (rs := [2]) (by kernel_rfl) (by simp) ?_
              refine AllReady.cons rfl (fun K' hK => ?_) (AllReady.nil)
              rw [if_pos (by kernel_rfl)]
              go_simp
              go_at_call 22
              refine (dec_any k (by omega) wd).mono ?_
              rintro _ _ ⟨rfl, rfl⟩
              refine hK _ _ ?_
              refine wpAny_ready (rs := [7]) (by kernel_rfl) (by simp) ?_
              refine AllReady.cons rfl (fun K' hK => ?_) (AllReady.nil)
              rw [if_pos (by kernel_rfl)]
              go_simp
              go_at_call 23
              refine (box_any s wd).mono ?_
              rintro _ wx ⟨rfl, hbx⟩
              have HPX := hide (HPD.out.lift hbx)
              clear hbx
              refine hK _ _ ?_
              refine wpAny_ready (rs := [8]) (by kernel_rfl) (by simp) ?_
              refine AllReady.cons rfl (fun K' hK => ?_) (AllReady.nil)
              rw [if_pos (by kernel_rfl)]
              go_simp
              go_at_call 21
              refine (putk_any w7 wx xa bm (segsL l) k s HPX.out HS.out HX1.out HX2.out HL3.out HOKB.out).mono ?_
              rintro _ wy ⟨rfl, hpy⟩
              refine hK _ _ ?_
              refine wpAny_ready (rs := [9]) (by kernel_rfl) (by simp) ?_
              refine AllReady.cons rfl (fun K' hK => ?_) (AllReady.nil)
              rw [if_pos (by kernel_rfl)]
              go_simp
              refine hK _ _ ?_
              refine wpAny_done (by kernel_rfl) ?_ _
              go_wp2_with fail
              refine ⟨⟨k + 1, HLT.out, by go_num, hide hpy⟩, ?_⟩
              have := HLT.out
              simp [intOf]; omega
          · obtain rfl : k = n := by omega
            have k1 : ¬ ((k : Nat) : Int) < (k : Nat) := by omega
            go_wp2_with fail
            go_meet
            exact HPD0
      case rest =>
        have hpt := hcut.out
        have HIX : Hid (IxR wc xa bm (ixL decI 0 (segsL l))) := hide (.inl (by
          have := hpt.ix
          rw [List.take_of_length_le (by rw [HNS.out]; exact Nat.le_refl _)] at this
          exact this))
        have HBC := hide hpt.below
        have hmp : MapPt (wc.alloc (.map #[] 0)) wc.heap.size [] := mapL_made _ wc
        obtain ⟨wp, hwp⟩ : ∃ wp, wc.alloc (.map #[] 0) = wp := ⟨_, rfl⟩
        have hbp : Below wc.heap.size wc wp := by rw [← hwp]; exact (Below.refl _ _).alloc (Nat.le_refl _) _
        rw [hwp] at hmp
        have hxl := HIX.out.lt
        have HPM : Hid (w7.heap.size ≤ wc.heap.size ∧ wc.heap.size ≠ xa ∧ wc.heap.size ≠ bm) := hide ⟨HBC.out.size, by omega, by have := HX2.out; omega⟩
        have HLW : Hid (LwI w7 wp xa bm wc.heap.size [] (fun _ => none) (segsL l) 0) := hide ⟨HIX.out.below hbp, hmp, fun _ => rfl, Nat.le_refl _, bto HBC.out hbp⟩
        clear hpt hmp hbp hxl HIX HBC
        go_wp2_with fail
        clear hwp
        obtain ⟨pm, hpm⟩ : ∃ pm, wc.heap.size = pm := ⟨_, rfl⟩
        rw [hpm] at HPM HLW ⊢
        clear hpm
        go_loopw [11, 12, 14] (fun nn bb i wr => ∃ (k : Nat) (b bd : Bool) (g : Pt → Option BA) (ml : List (Pt × Value)) (cn : Nat), k ≤ n ∧ i = .int .i64 k ∧ nn = .int .i64 cn ∧ bb = .bool bd ∧ Hid (cn = (preM (segsL l) k 0).length) ∧ Hid (bd = (oddM (preM (segsL l) k 0) || b)) ∧ Hid (PtsT (endsL l ((bordersL l).take k)) g b) ∧ Hid (LwI w7 wr xa bm pm ml g (segsL l) (2 * k))) (fun _ _ i _ => n - (intOf i).toNat)
        case atStart => exact ⟨0, false, false, fun _ => none, [], 0, Nat.zero_le _, rfl, rfl, rfl, hide rfl, hide rfl, hide PtsT.nil, HLW⟩
        case round =>
          clear HLW
          obtain ⟨k, b, bd, g, ml, cn, hk, rfl, rfl, rfl, hcn, hbd, hpt, hlw⟩ := hrel
          have HCN := hide hcn.out
          have HBDD := hide hbd.out
          have HPTS := hide hpt.out
          have HLW := hide hlw.out
          by_cases hlt : k < n
          · have k0 : (0 : Int) ≤ (k : Nat) := by omega
            have k1 : ((k : Nat) : Int) < (n : Nat) := by omega
            obtain ⟨gs, os, rfl, hso⟩ := HSO.out (by omega)
            obtain ⟨s, hs⟩ : ∃ s, (segsL l)[k]? = some s := ⟨_, List.getElem?_eq_getElem (by rw [HNS.out]; exact hlt)⟩
            have HS := hide hs
            have HLT := hide hlt
            have HSC := hide (fun W hW => hso W hW)
            obtain ⟨e0, e1, e2, e3⟩ := hso _ hlw.out.below k s hs
            clear hcn hbd hpt hlw hs hso hlt hk
            go_wp2_with fail
            refine (box_any s wr).mono ?_
            rintro _ wx ⟨rfl, hbx⟩
            have HLX := hide (HLW.out.lift hbx)
            clear hbx HLW e0 e1 e2 e3
            go_wp2_with fail
            refine (in_any (boxS s) (HOKB.out _ (List.mem_of_getElem? HS.out)) xa bm _ wx HLX.out.ix (by rw [ixL_len, HNS.out]; have := HLT.out; omega) (by rw [ixL_len, HNS.out]; omega) (ixL_nd decI (n := 10000) (fun i j hi hj e => decI_inj hi hj e) _ _ (by rw [HNS.out]; omega)) (fun x hx => by obtain ⟨j, t, h1, rfl⟩ := ixL_mem decI hx; exact HOKB.out t (List.mem_of_getElem? h1)) (fun x hx => by obtain ⟨j, t, h1, rfl⟩ := ixL_mem decI hx; exact decI_size _)).mono ?_
            rintro _ wy ⟨iv, S, rfl, hrow, hperm, hixy, hgrow⟩
            obtain ⟨Ai, ci, rfl⟩ := row_form hrow
            have HLY : Hid (LwI w7 wy xa bm pm ml g (segsL l) (2 * k)) := hide ⟨hixy, HLX.out.mp.kept hgrow (fun e => HPM.out.2.1 (Option.some.inj e)), HLX.out.gm, HLX.out.ln, below_row HLX.out.below hgrow (fun r e => by have := HX1.out; have := HX2.out; rw [← Option.some.inj e]; omega)⟩
            have HROW := hide hrow
            have HPERM := hide hperm
            clear hrow hperm hixy hgrow HLX
            go_upto_block 4 with (fail)
            go_cut [11, 12] (fun nn bb wx => ∃ (cn2 : Nat) (bd2 : Bool), nn = .int .i64 cn2 ∧ bb = .bool bd2 ∧ Hid (cn2 = (preM (segsL l) (k + 1) 0).length) ∧ Hid (bd2 = (oddM (preM (segsL l) (k + 1) 0) || b)) ∧ Hid (Below wy.heap.size wy wx))
            case first =>
              have HC0 : Hid (cn = (preM (segsL l) k (k + 1)).length) := hide (by rw [preM_low _ _ _ (Nat.le_refl _)]; exact HCN.out)
              have HB0 : Hid (bd = (oddM (preM (segsL l) k (k + 1)) || b)) := hide (by rw [preM_low _ _ _ (Nat.le_refl _)]; exact HBDD.out)
              go_wp2_with fail
              go_loopw [11, 12, 16] (fun nn bb j wr => ∃ (m cn2 : Nat) (bd2 : Bool), k + 1 ≤ m ∧ m ≤ n ∧ j = .int .i64 m ∧ nn = .int .i64 cn2 ∧ bb = .bool bd2 ∧ Hid (cn2 = (preM (segsL l) k m).length) ∧ Hid (bd2 = (oddM (preM (segsL l) k m) || b)) ∧ Hid (Below wy.heap.size wy wr)) (fun _ _ j _ => n - (intOf j).toNat)
              case atStart => exact ⟨k + 1, cn, bd, Nat.le_refl _, HLT.out, by go_num, rfl, rfl, HC0, HB0, hide (Below.refl _ _)⟩
              case round =>
                clear HC0 HB0
                obtain ⟨m, cn2, bd2, hm1, hm2, rfl, rfl, rfl, hcn, hbd, hbw⟩ := hrel
                by_cases hmn : m < n
                · obtain ⟨t, ht⟩ : ∃ t, (segsL l)[m]? = some t := ⟨_, List.getElem?_eq_getElem (by rw [HNS.out]; exact hmn)⟩
                  obtain ⟨kd, hkd⟩ : ∃ kd, meets s t = kd := ⟨_, rfl⟩
                  have HT := hide ht
                  have HKD := hide hkd
                  have HMN := hide hmn
                  have HCN2 := hide hcn.out
                  have HBD2 := hide hbd.out
                  have HBW2 := hide hbw.out
                  have HMC : Hid (∀ W, Calls Tryz.prog 25 #[.agg #[.int .i64 s.a.x, .int .i64 s.a.y, .int .i64 s.b.x, .int .i64 s.b.y], .agg #[.int .i64 t.a.x, .int .i64 t.a.y, .int .i64 t.b.x, .int .i64 t.b.y]] W fun e w' => e = .returned (.int .i64 kd) ∧ Below W.heap.size W w') := hide (fun W => by rw [← HKD.out]; exact meets_any _ _ _ _ _ _ _ _ W)
                  have HMM : Hid (∀ W, Below wr.heap.size wr W → (W.cell? ⟨gs, os + k * 4, none⟩ = some (.int .i64 s.a.x) ∧ W.cell? ⟨gs, os + k * 4 + 1, none⟩ = some (.int .i64 s.a.y) ∧ W.cell? ⟨gs, os + k * 4 + 2, none⟩ = some (.int .i64 s.b.x) ∧ W.cell? ⟨gs, os + k * 4 + 3, none⟩ = some (.int .i64 s.b.y)) ∧ W.cell? ⟨gs, os + m * 4, none⟩ = some (.int .i64 t.a.x) ∧ W.cell? ⟨gs, os + m * 4 + 1, none⟩ = some (.int .i64 t.a.y) ∧ W.cell? ⟨gs, os + m * 4 + 2, none⟩ = some (.int .i64 t.b.x) ∧ W.cell? ⟨gs, os + m * 4 + 3, none⟩ = some (.int .i64 t.b.y)) := hide (fun W hW => by
                    have h := HSC.out W (bto HLY.out.below (bto HBW2.out hW))
                    exact ⟨h k s HS.out, h m t HT.out⟩)
                  have m0 : (0 : Int) ≤ (m : Nat) := by omega
                  have m1 : ((m : Nat) : Int) < (n : Nat) := by omega
                  clear hcn hbd hbw ht hkd hmn hm2
                  go_wp2_with fail
                  refine wp_region_anyM (fun W => Below wr.heap.size wr W) 9 hmx ?_
                  have hM := below_drew wr
                  generalize wr.drew = wd at *
                  simp only [List.size_toArray, List.length_cons, List.length_nil, Nat.reduceAdd]
                  refine wpAnyM_take (i := 0) (v := .slice (some ⟨gs, os, none⟩) n cs) rfl (by kernel_rfl) (by kernel_rfl) (by kernel_rfl) (by kernel_rfl) (fun _ _ _ h => h) (.inl ⟨by kernel_rfl, fun w hm => rfl⟩) ?_
                  refine wpAnyM_take (i := 1) (v := .int .i64 k) rfl (by kernel_rfl) (by kernel_rfl) (by kernel_rfl) (by kernel_rfl) (fun _ _ _ h => h) (.inl ⟨by kernel_rfl, fun w hm => by go_simp⟩) ?_
                  refine wpAnyM_take (i := 2) (v := .pointer (some ⟨gs, os + k * 4, none⟩)) rfl (by kernel_rfl) (by kernel_rfl) (by kernel_rfl) (by kernel_rfl) (fun _ _ _ h => h) (.inl ⟨by kernel_rfl, fun w hm => by go_simp⟩) ?_
                  refine wpAnyM_take (i := 3) (v := .agg #[.int .i64 s.a.x, .int .i64 s.a.y, .int .i64 s.b.x, .int .i64 s.b.y]) rfl (by kernel_rfl) (by kernel_rfl) (by kernel_rfl) (by kernel_rfl) (fun _ _ _ h => h) (.inl ⟨by kernel_rfl, fun w hm => by obtain ⟨⟨m0, m1, m2, m3⟩, m4, m5, m6, m7⟩ := HMM.out w hm; clear m4 m5 m6 m7; go_simp⟩) ?_
                  refine wpAnyM_take (i := 4) (v := .slice (some ⟨gs, os, none⟩) n cs) rfl (by kernel_rfl) (by kernel_rfl) (by kernel_rfl) (by kernel_rfl) (fun _ _ _ h => h) (.inl ⟨by kernel_rfl, fun w hm => rfl⟩) ?_
                  refine wpAnyM_take (i := 5) (v := .int .i64 m) rfl (by kernel_rfl) (by kernel_rfl) (by kernel_rfl) (by kernel_rfl) (fun _ _ _ h => h) (.inl ⟨by kernel_rfl, fun w hm => by go_simp⟩) ?_
                  refine wpAnyM_take (i := 6) (v := .pointer (some ⟨gs, os + m * 4, none⟩)) rfl (by kernel_rfl) (by kernel_rfl) (by kernel_rfl) (by kernel_rfl) (fun _ _ _ h => h) (.inl ⟨by kernel_rfl, fun w hm => by go_simp⟩) ?_
                  refine wpAnyM_take (i := 7) (v := .agg #[.int .i64 t.a.x, .int .i64 t.a.y, .int .i64 t.b.x, .int .i64 t.b.y]) rfl (by kernel_rfl) (by kernel_rfl) (by kernel_rfl) (by kernel_rfl) (fun _ _ _ h => h) (.inl ⟨by kernel_rfl, fun w hm => by obtain ⟨⟨m0, m1, m2, m3⟩, m4, m5, m6, m7⟩ := HMM.out w hm; clear m0 m1 m2 m3; go_simp⟩) ?_
                  refine wpAnyM_ready (rs := [8]) (by kernel_rfl) (by simp) (hM) ?_
                  refine AllReadyM.cons rfl (fun K' hK => ?_) (AllReadyM.nil)
                  rw [if_pos (by kernel_rfl)]
                  go_simp
                  go_at_call 25
                  refine (HMC.out _).mono ?_
                  rintro _ wu ⟨rfl, hbu⟩
                  have hM := bto hM hbu
                  refine hK _ _ ?_
                  refine wpAnyM_ready (rs := [9]) (by kernel_rfl) (by simp) (hM) ?_
                  refine AllReadyM.cons rfl (fun K' hK => ?_) (AllReadyM.nil)
                  rw [if_pos (by kernel_rfl)]
                  go_simp
                  refine hK _ _ ?_
                  refine wpAnyM_done (by kernel_rfl) (by kernel_rfl) ?_ _
                  have HBU := hide (bto HBW2.out hM)
                  clear hM hbu
                  go_simp
                  by_cases hz : kd = 0
                  · subst hz
                    have HE1 : Hid (cn2 = (preM (segsL l) k (m + 1)).length) := hide (by rw [HCN2.out, preM_skip _ HS.out HT.out HKD.out])
                    have HE2 : Hid (bd2 = (oddM (preM (segsL l) k (m + 1)) || b)) := hide (by rw [HBD2.out, preM_skip _ HS.out HT.out HKD.out])
                    go_wp2_with fail
                    refine ⟨⟨m + 1, cn2, bd2, by omega, HMN.out, by go_num, rfl, rfl, HE1, HE2, HBU⟩, ?_⟩
                    have := HMN.out
                    simp [intOf]; omega
                  · have z2 : (kd == 0) = false := beq_eq_false_iff_ne.2 hz
                    have hat := preM_at _ HS.out HT.out (show k < m by omega) (by rw [HKD.out]; exact hz)
                    rw [HKD.out, ← HCN2.out] at hat
                    have hca : cn2 < na := by
                      have := (List.getElem?_eq_some_iff.1 hat.1).1
                      rw [HNA.out] at this
                      exact this
                    obtain ⟨gm, cm2, hv⟩ := row_at2 HMT7.out (by omega)
                    rw [Value.slice.injEq] at hv
                    obtain ⟨rfl, _, rfl⟩ := hv
                    have hrm := own_below (own_below HMT7.out HLY.out.below) HBU.out
                    have key : ∀ j u, j < 3 → (encM ⟨k, m, kd⟩)[j]? = some u → wu.cell? ⟨gm, cn2 * 3 + j, none⟩ = some u := fun j u hj hu => own_cell hrm _ _ (by
                      rw [flat_get (enc := encM) (k := 3) (fun _ => rfl) (allP (segsL l)) cn2 j hj, hat.1]
                      exact hu)
                    have y0 := key 0 _ (by omega) rfl
                    have y1 := key 1 _ (by omega) rfl
                    have y2 := key 2 _ (by omega) rfl
                    simp only [Nat.add_zero] at y0
                    have c0 : (0 : Int) ≤ (cn2 : Nat) := by omega
                    have c1 : ((cn2 : Nat) : Int) < (na : Nat) := by omega
                    have c2 : ¬ ((na : Nat) : Int) ≤ (cn2 : Nat) := by omega
                    have HAT := hide hat
                    have HCA := hide hca
                    clear hat hrm key
                    have hmem : decI m ∈ S := HPERM.out.mem_iff.2 (ix_found decI HT.out (by rw [HKD.out]; exact hz))
                    have hS1 : 1 ≤ S.length := List.length_pos_of_mem hmem
                    obtain ⟨gi, ci2, hv⟩ := row_at2 HROW.out hS1
                    rw [Value.slice.injEq] at hv
                    obtain ⟨rfl, _, rfl⟩ := hv
                    have HMEM := hide hmem
                    have HDC : Hid (∀ W, Calls Tryz.prog 22 #[.int .i64 m] W fun e w' => e = .returned (.string (decI m)) ∧ w' = W) := hide (fun W => (dec_any m (by omega) W).mono (by rintro e w' ⟨h1, h2⟩; exact ⟨h1, h2.symm⟩))
                    have HSL : Hid (S.length ≤ 100000) := hide (by
                      have h1 := HPERM.out.length_eq
                      have h2 : (hitL (boxS s) ((ixL decI 0 (segsL l)).map fun x => (x.2, x.1))).length ≤ ((ixL decI 0 (segsL l)).map fun x => (x.2, x.1)).length := by
                        unfold hitL
                        rw [List.length_map]
                        exact List.length_filter_le _ _
                      rw [List.length_map, ixL_len, HNS.out] at h2
                      omega)
                    clear hmem
                    go_upto_block 6 with (fail)
                    go_cut [18] (fun f wx => f = .bool true ∧ Hid (Below wy.heap.size wy wx))
                    case first =>
                      go_wp2_with fail
                      go_loopw [18, 19] (fun f z wr => ∃ (q : Nat) (fb : Bool), q ≤ S.length ∧ z = .int .i64 q ∧ f = .bool fb ∧ Hid (fb = (S.take q).any (fun x => decide (x = decI m))) ∧ Hid (Below wy.heap.size wy wr)) (fun _ z _ => S.length - (intOf z).toNat)
                      case atStart => exact ⟨0, false, Nat.zero_le _, rfl, rfl, hide rfl, HBU⟩
                      case round =>
                        obtain ⟨q, fb, hq, rfl, rfl, hfb, hbw⟩ := hrel
                        have hsl := HSL.out
                        by_cases hlq : q < S.length
                        · have q0 : (0 : Int) ≤ (q : Nat) := by omega
                          have q1 : ((q : Nat) : Int) < (S.length : Nat) := by omega
                          obtain ⟨x, hx⟩ : ∃ x, S[q]? = some x := ⟨_, List.getElem?_eq_getElem hlq⟩
                          have ex : wr.cell? ⟨gi, q, none⟩ = some (.string x) := own_cell (own_below HROW.out hbw.out) q _ (by rw [List.getElem?_map, hx]; rfl)
                          have HLQ := hide hlq
                          have HFN : Hid ((S.take (q + 1)).any (fun x => decide (x = decI m)) = (fb || decide (x = decI m))) := hide (by rw [List.take_add_one, hx, List.any_append, hfb.out]; simp)
                          have HBQ := hide hbw.out
                          clear hfb hbw hlq hq hx
                          cases fb with
                          | true =>
                            go_wp2_with fail
                            go_quiet (fail)
                            have HB9 := hide (bto HBQ.out (below_drewN wr nq))
                            clear ex
                            generalize wr.drewN nq = wn at *
                            go_wp2_with fail
                            refine ⟨⟨q + 1, true, HLQ.out, by go_num, rfl, hide (by rw [HFN.out]; rfl), HB9⟩, ?_⟩
                            have := HLQ.out
                            simp [intOf]; omega
                          | false =>
                            by_cases hxe : x = decI m
                            · obtain ⟨g1, g2⟩ := eqS hxe
                              have HXE := hide hxe
                              clear hxe
                              go_wp2_with fail
                              go_quiet (first | (go_at_call 22; exact Calls.quiet_of_same (HDC.out _)))
                              have HB9 := hide (bto HBQ.out (below_drewN wr nq))
                              clear ex
                              generalize wr.drewN nq = wn at *
                              go_wp2_with fail
                              refine ⟨⟨q + 1, true, HLQ.out, by go_num, rfl, hide (by rw [HFN.out, HXE.out]; simp), HB9⟩, ?_⟩
                              have := HLQ.out
                              simp [intOf]; omega
                            · obtain ⟨g1, g2⟩ := neS hxe
                              have HXE := hide hxe
                              clear hxe
                              go_wp2_with fail
                              go_quiet (first | (go_at_call 22; exact Calls.quiet_of_same (HDC.out _)))
                              have HB9 := hide (bto HBQ.out (below_drewN wr nq))
                              clear ex
                              generalize wr.drewN nq = wn at *
                              go_wp2_with fail
                              refine ⟨⟨q + 1, false, HLQ.out, by go_num, rfl, hide (by rw [HFN.out]; simp [HXE.out]), HB9⟩, ?_⟩
                              have := HLQ.out
                              simp [intOf]; omega
                        · obtain rfl : q = S.length := by omega
                          have q1 : ¬ ((S.length : Nat) : Int) < (S.length : Nat) := by omega
                          have hft : fb = true := by
                            rw [hfb.out, List.take_length, List.any_eq_true]
                            exact ⟨_, HMEM.out, by simp⟩
                          subst hft
                          have HB9 := hide hbw.out
                          clear hfb hbw
                          go_wp2_with fail
                          go_meet
                          exact ⟨rfl, HB9⟩
                    case rest =>
                      obtain ⟨rfl, hw6⟩ := hcut
                      have HE1 : Hid (cn2 + 1 = (preM (segsL l) k (m + 1)).length) := hide (by rw [HAT.out.2, List.length_append, ← HCN2.out]; rfl)
                      have HE3 := hide hw6.out
                      have hcl := HCA.out
                      clear hw6
                      cases bd2 with
                      | true =>
                        have HE2 : Hid (true = (oddM (preM (segsL l) k (m + 1)) || b)) := hide (by
                          rw [HAT.out.2, oddM_snoc]
                          have := HBD2.out
                          revert this
                          cases oddM (preM (segsL l) k m) <;> cases b <;> simp)
                        go_wp2_with fail
                        refine ⟨⟨m + 1, cn2 + 1, true, by omega, HMN.out, by go_num, by go_num, rfl, HE1, HE2, HE3⟩, ?_⟩
                        have := HMN.out
                        simp [intOf]; omega
                      | false =>
                        by_cases hk1 : kd = 1
                        · subst hk1
                          have HE2 : Hid (false = (oddM (preM (segsL l) k (m + 1)) || b)) := hide (by
                            rw [HAT.out.2, oddM_snoc]
                            have := HBD2.out
                            revert this
                            cases oddM (preM (segsL l) k m) <;> cases b <;> simp)
                          go_wp2_with fail
                          refine ⟨⟨m + 1, cn2 + 1, false, by omega, HMN.out, by go_num, by go_num, rfl, HE1, HE2, HE3⟩, ?_⟩
                          have := HMN.out
                          simp [intOf]; omega
                        · have HE2 : Hid (true = (oddM (preM (segsL l) k (m + 1)) || b)) := hide (by
                            rw [HAT.out.2, oddM_snoc]
                            simp [hk1])
                          have z3 : (kd == 1) = false := beq_eq_false_iff_ne.2 hk1
                          have z4 : (kd != 1) = true := by simpa using hk1
                          go_wp2_with fail
                          refine ⟨⟨m + 1, cn2 + 1, true, by omega, HMN.out, by go_num, by go_num, rfl, HE1, HE2, HE3⟩, ?_⟩
                          have := HMN.out
                          simp [intOf]; omega
                · obtain rfl : m = n := by omega
                  have k9 : ¬ ((m : Nat) : Int) < (m : Nat) := by omega
                  have HE1 : Hid (cn2 = (preM (segsL l) (k + 1) 0).length) := hide (by rw [hcn.out, ← preM_next, HNS.out])
                  have HE2 : Hid (bd2 = (oddM (preM (segsL l) (k + 1) 0) || b)) := hide (by rw [hbd.out, ← preM_next, HNS.out])
                  have HE3 := hide hbw.out
                  clear hcn hbd hbw
                  go_wp2_with fail
                  go_meet
                  exact ⟨cn2, bd2, rfl, rfl, HE1, HE2, HE3⟩
            case rest =>
              obtain ⟨cn2, bd2, rfl, rfl, hc2, hd2, hw2⟩ := hcut
              rename World => wj
              have HLC := hide (HLY.out.lift hw2.out)
              have HC2 := hide hc2.out
              have HD2 := hide hd2.out
              obtain ⟨⟨⟨sa, sb⟩, ov⟩, hb⟩ : ∃ x, Lb[k]? = some x := ⟨_, List.getElem?_eq_getElem (by rw [HLB.out]; exact HLT.out)⟩
              have hbl : (bordersL l)[k]? = some (sa, sb) := by rw [← HBF.out, List.getElem?_map, hb]; rfl
              obtain ⟨gb, cb2, hv⟩ := row_at2 (show w7.ownsRow w6.heap.size 75 7 (.slice Ab n cb) n (Lb.flatMap (encD (ptO l))) by have := HBD.out.row; rw [HLB.out] at this; exact this) (by omega)
              rw [Value.slice.injEq] at hv
              obtain ⟨rfl, _, rfl⟩ := hv
              obtain ⟨pa, hpa⟩ : ∃ p, ptO l sa = p := ⟨_, rfl⟩
              obtain ⟨pb, hpb⟩ : ∃ p, ptO l sb = p := ⟨_, rfl⟩
              have HMM : Hid (∀ W, Below wj.heap.size wj W → W.cell? ⟨gb, k * 7, none⟩ = some (.string sa) ∧ W.cell? ⟨gb, k * 7 + 1, none⟩ = some (.string sb) ∧ W.cell? ⟨gb, k * 7 + 2, none⟩ = some (.int .i64 pa.x) ∧ W.cell? ⟨gb, k * 7 + 3, none⟩ = some (.int .i64 pa.y) ∧ W.cell? ⟨gb, k * 7 + 4, none⟩ = some (.int .i64 pb.x) ∧ W.cell? ⟨gb, k * 7 + 5, none⟩ = some (.int .i64 pb.y)) := hide (fun W hW => by
                obtain ⟨m0, m1, m2, m3, m4, m5, _⟩ := (HBD.out.below (bto HLC.out.below hW)).cells hb
                simp only [hpa, hpb] at m0 m1 m2 m3 m4 m5
                exact ⟨m0, m1, m2, m3, m4, m5⟩)
              have HBK := hide hbl
              have HPA := hide hpa
              have HPB := hide hpb
              clear hc2 hd2 hw2 hb hbl hpa hpb HLY
              go_upto_region 38 with (fail)
              go_cut [20] from 153 to 163 (fun v20 wx => ∃ q20 : Nat, v20 = .slice (some ⟨q20, 0, none⟩) 2 2 ∧ Hid (wx.heap[q20]? = some (.cells #[.string sa, .string sb] 9 (0, 0)) ∧ Below wj.heap.size wj wx))
              case first =>
                refine wp_region_anyM (fun W => Below wj.heap.size wj W) 11 hmx ?_
                have hM := below_drew wj
                generalize wj.drew = wd at *
                simp only [List.size_toArray, List.length_cons, List.length_nil, Nat.reduceAdd]
                refine wpAnyM_take (i := 0) (v := .slice (some ⟨gb, 0, none⟩) n cb) rfl (by kernel_rfl) (by kernel_rfl) (by kernel_rfl) (by kernel_rfl) (fun _ _ _ h => h) (.inl ⟨by kernel_rfl, fun w hm => rfl⟩) ?_
                refine wpAnyM_take (i := 1) (v := .int .i64 k) rfl (by kernel_rfl) (by kernel_rfl) (by kernel_rfl) (by kernel_rfl) (fun _ _ _ h => h) (.inl ⟨by kernel_rfl, fun w hm => by go_simp⟩) ?_
                refine wpAnyM_take (i := 2) (v := .pointer (some ⟨gb, k * 7, none⟩)) rfl (by kernel_rfl) (by kernel_rfl) (by kernel_rfl) (by kernel_rfl) (fun _ _ _ h => h) (.inl ⟨by kernel_rfl, fun w hm => by go_simp⟩) ?_
                refine wpAnyM_take (i := 3) (v := .pointer (some ⟨gb, k * 7, none⟩)) rfl (by kernel_rfl) (by kernel_rfl) (by kernel_rfl) (by kernel_rfl) (fun _ _ _ h => h) (.inl ⟨by kernel_rfl, fun w hm => by go_simp⟩) ?_
                refine wpAnyM_take (i := 4) (v := .string sa) rfl (by kernel_rfl) (by kernel_rfl) (by kernel_rfl) (by kernel_rfl) (fun _ _ _ h => h) (.inl ⟨by kernel_rfl, fun w hm => by obtain ⟨m0, m1, m2, m3, m4, m5⟩ := HMM.out w hm; clear m1 m2 m3 m4 m5; go_simp⟩) ?_
                refine wpAnyM_take (i := 5) (v := .slice (some ⟨gb, 0, none⟩) n cb) rfl (by kernel_rfl) (by kernel_rfl) (by kernel_rfl) (by kernel_rfl) (fun _ _ _ h => h) (.inl ⟨by kernel_rfl, fun w hm => rfl⟩) ?_
                refine wpAnyM_take (i := 6) (v := .int .i64 k) rfl (by kernel_rfl) (by kernel_rfl) (by kernel_rfl) (by kernel_rfl) (fun _ _ _ h => h) (.inl ⟨by kernel_rfl, fun w hm => by go_simp⟩) ?_
                refine wpAnyM_take (i := 7) (v := .pointer (some ⟨gb, k * 7, none⟩)) rfl (by kernel_rfl) (by kernel_rfl) (by kernel_rfl) (by kernel_rfl) (fun _ _ _ h => h) (.inl ⟨by kernel_rfl, fun w hm => by go_simp⟩) ?_
                refine wpAnyM_take (i := 8) (v := .pointer (some ⟨gb, k * 7 + 1, none⟩)) rfl (by kernel_rfl) (by kernel_rfl) (by kernel_rfl) (by kernel_rfl) (fun _ _ _ h => h) (.inl ⟨by kernel_rfl, fun w hm => by go_simp⟩) ?_
                refine wpAnyM_take (i := 9) (v := .string sb) rfl (by kernel_rfl) (by kernel_rfl) (by kernel_rfl) (by kernel_rfl) (fun _ _ _ h => h) (.inl ⟨by kernel_rfl, fun w hm => by obtain ⟨m0, m1, m2, m3, m4, m5⟩ := HMM.out w hm; clear m0 m2 m3 m4 m5; go_simp⟩) ?_
                refine wpAnyM_ready (rs := [10]) (by kernel_rfl) (by simp) (hM) ?_
                refine AllReadyM.cons rfl (fun K' hK => ?_) (AllReadyM.nil)
                rw [if_pos (by kernel_rfl)]
                go_simp
                have hq := heap_alloc_new wd (.cells #[.string sa, .string sb] 9)
                have hMq := bto hM ((Below.refl wd.heap.size wd).alloc (Nat.le_refl _) (.cells #[.string sa, .string sb] 9))
                refine hK _ _ ?_
                refine wpAnyM_ready (rs := [11]) (by kernel_rfl) (by simp) (hMq) ?_
                refine AllReadyM.cons rfl (fun K' hK => ?_) (AllReadyM.nil)
                rw [if_pos (by kernel_rfl)]
                go_simp
                refine hK _ _ ?_
                refine wpAnyM_done (by kernel_rfl) (by kernel_rfl) ?_ _
                obtain ⟨q20, hq20⟩ : ∃ q, wd.heap.size = q := ⟨_, rfl⟩
                rw [hq20] at hq ⊢
                obtain ⟨we, hwe⟩ : ∃ we, wd.alloc (.cells #[.string sa, .string sb] 9) = we := ⟨_, rfl⟩
                rw [hwe] at hq hMq ⊢
                have HN20 := hide hq
                have HBE := hide hMq
                clear hq hMq hM hwe hq20
                go_simp
                have HQ2 := hide (show we.heap[q20]? = some (.cells #[.string sa, .string sb] 9 (0, 0)) ∧ Below wj.heap.size wj we from ⟨HN20.out, HBE.out⟩)
                go_wp2_with fail
                go_meet
                exact ⟨q20, rfl, HQ2⟩
              case rest =>
                rename World => wk
                obtain ⟨q20, rfl, hq2⟩ := hcut
                have HN20 := hide hq2.out
                clear hq2
                go_upto_region 39 with (fail)
                go_cut [21] from 164 to 174 (fun v21 wx => ∃ q21 : Nat, v21 = .slice (some ⟨q21, 0, none⟩) 2 2 ∧ Hid (wx.heap[q20]? = some (.cells #[.string sa, .string sb] 9 (0, 0)) ∧ wx.heap[q21]? = some (.cells #[.int .i64 pa.x, .int .i64 pa.y, .int .i64 pb.x, .int .i64 pb.y] 44 (0, 0)) ∧ Below wj.heap.size wj wx))
                case first =>
                  have hq39 := blkB (below_drew wk) HN20.out.1
                  have HQ39 := hide hq39
                  clear hq39
                  refine wp_region_anyM (fun W => Below wj.heap.size wj W) 11 hmx ?_
                  have hM := bto HN20.out.2 (below_drew wk)
                  generalize wk.drew = wf at *
                  simp only [List.size_toArray, List.length_cons, List.length_nil, Nat.reduceAdd]
                  refine wpAnyM_take (i := 0) (v := .slice (some ⟨gb, 0, none⟩) n cb) rfl (by kernel_rfl) (by kernel_rfl) (by kernel_rfl) (by kernel_rfl) (fun _ _ _ h => h) (.inl ⟨by kernel_rfl, fun w hm => rfl⟩) ?_
                  refine wpAnyM_take (i := 1) (v := .int .i64 k) rfl (by kernel_rfl) (by kernel_rfl) (by kernel_rfl) (by kernel_rfl) (fun _ _ _ h => h) (.inl ⟨by kernel_rfl, fun w hm => by go_simp⟩) ?_
                  refine wpAnyM_take (i := 2) (v := .pointer (some ⟨gb, k * 7, none⟩)) rfl (by kernel_rfl) (by kernel_rfl) (by kernel_rfl) (by kernel_rfl) (fun _ _ _ h => h) (.inl ⟨by kernel_rfl, fun w hm => by go_simp⟩) ?_
                  refine wpAnyM_take (i := 3) (v := .pointer (some ⟨gb, k * 7 + 2, none⟩)) rfl (by kernel_rfl) (by kernel_rfl) (by kernel_rfl) (by kernel_rfl) (fun _ _ _ h => h) (.inl ⟨by kernel_rfl, fun w hm => by go_simp⟩) ?_
                  refine wpAnyM_take (i := 4) (v := .agg #[.int .i64 pa.x, .int .i64 pa.y]) rfl (by kernel_rfl) (by kernel_rfl) (by kernel_rfl) (by kernel_rfl) (fun _ _ _ h => h) (.inl ⟨by kernel_rfl, fun w hm => by obtain ⟨m0, m1, m2, m3, m4, m5⟩ := HMM.out w hm; clear m0 m1 m4 m5; go_simp⟩) ?_
                  refine wpAnyM_take (i := 5) (v := .slice (some ⟨gb, 0, none⟩) n cb) rfl (by kernel_rfl) (by kernel_rfl) (by kernel_rfl) (by kernel_rfl) (fun _ _ _ h => h) (.inl ⟨by kernel_rfl, fun w hm => rfl⟩) ?_
                  refine wpAnyM_take (i := 6) (v := .int .i64 k) rfl (by kernel_rfl) (by kernel_rfl) (by kernel_rfl) (by kernel_rfl) (fun _ _ _ h => h) (.inl ⟨by kernel_rfl, fun w hm => by go_simp⟩) ?_
                  refine wpAnyM_take (i := 7) (v := .pointer (some ⟨gb, k * 7, none⟩)) rfl (by kernel_rfl) (by kernel_rfl) (by kernel_rfl) (by kernel_rfl) (fun _ _ _ h => h) (.inl ⟨by kernel_rfl, fun w hm => by go_simp⟩) ?_
                  refine wpAnyM_take (i := 8) (v := .pointer (some ⟨gb, k * 7 + 4, none⟩)) rfl (by kernel_rfl) (by kernel_rfl) (by kernel_rfl) (by kernel_rfl) (fun _ _ _ h => h) (.inl ⟨by kernel_rfl, fun w hm => by go_simp⟩) ?_
                  refine wpAnyM_take (i := 9) (v := .agg #[.int .i64 pb.x, .int .i64 pb.y]) rfl (by kernel_rfl) (by kernel_rfl) (by kernel_rfl) (by kernel_rfl) (fun _ _ _ h => h) (.inl ⟨by kernel_rfl, fun w hm => by obtain ⟨m0, m1, m2, m3, m4, m5⟩ := HMM.out w hm; clear m0 m1 m2 m3; go_simp⟩) ?_
                  refine wpAnyM_ready (rs := [10]) (by kernel_rfl) (by simp) (hM) ?_
                  refine AllReadyM.cons rfl (fun K' hK => ?_) (AllReadyM.nil)
                  rw [if_pos (by kernel_rfl)]
                  go_simp
                  have hq := heap_alloc_new wf (.cells #[.int .i64 pa.x, .int .i64 pa.y, .int .i64 pb.x, .int .i64 pb.y] 44)
                  have hMq := bto hM ((Below.refl wf.heap.size wf).alloc (Nat.le_refl _) (.cells #[.int .i64 pa.x, .int .i64 pa.y, .int .i64 pb.x, .int .i64 pb.y] 44))
                  refine hK _ _ ?_
                  refine wpAnyM_ready (rs := [11]) (by kernel_rfl) (by simp) (hMq) ?_
                  refine AllReadyM.cons rfl (fun K' hK => ?_) (AllReadyM.nil)
                  rw [if_pos (by kernel_rfl)]
                  go_simp
                  refine hK _ _ ?_
                  refine wpAnyM_done (by kernel_rfl) (by kernel_rfl) ?_ _
                  obtain ⟨q21, hq21⟩ : ∃ q, wf.heap.size = q := ⟨_, rfl⟩
                  rw [hq21] at hq ⊢
                  have hn20 := blkB ((Below.refl _ _).alloc (Nat.le_refl _) (.cells #[.int .i64 pa.x, .int .i64 pa.y, .int .i64 pb.x, .int .i64 pb.y] 44)) HQ39.out
                  obtain ⟨wg, hwg⟩ : ∃ wg, wf.alloc (.cells #[.int .i64 pa.x, .int .i64 pa.y, .int .i64 pb.x, .int .i64 pb.y] 44) = wg := ⟨_, rfl⟩
                  rw [hwg] at hq hMq hn20 ⊢
                  have HN20g := hide hn20
                  have HN21 := hide hq
                  have HBG := hide hMq
                  clear hq hMq hM hwg hq21 hn20
                  go_simp
                  have HQ2 := hide (show wg.heap[q20]? = some (.cells #[.string sa, .string sb] 9 (0, 0)) ∧ wg.heap[q21]? = some (.cells #[.int .i64 pa.x, .int .i64 pa.y, .int .i64 pb.x, .int .i64 pb.y] 44 (0, 0)) ∧ Below wj.heap.size wj wg from ⟨HN20g.out, HN21.out, HBG.out⟩)
                  go_wp2_with fail
                  go_meet
                  exact ⟨q21, rfl, HQ2⟩
                case rest =>
                  rename World => wn
                  obtain ⟨q21, rfl, hq2⟩ := hcut
                  have HLN := hide (HLC.out.lift hq2.out.2.2)
                  have HQ2 := hide (show wn.heap[q20]? = some (.cells #[.string sa, .string sb] 9 (0, 0)) ∧ wn.heap[q21]? = some (.cells #[.int .i64 pa.x, .int .i64 pa.y, .int .i64 pb.x, .int .i64 pb.y] 44 (0, 0)) from ⟨hq2.out.1, hq2.out.2.1⟩)
                  have HPT0 : Hid (PtsT (endsL l ((bordersL l).take k) ++ [(sa, pa), (sb, pb)].take 0) g b) := hide (by rw [List.take_zero, List.append_nil]; exact HPTS.out)
                  have HEN : Hid (endsL l ((bordersL l).take (k + 1)) = endsL l ((bordersL l).take k) ++ [(sa, pa), (sb, pb)]) := hide (by
                    rw [List.take_add_one, HBK.out]
                    unfold endsL
                    rw [List.flatMap_append, ← HPA.out, ← HPB.out]
                    rfl)
                  have HOKP : Hid (∀ x ∈ [(sa, pa), (sb, pb)], PlMap.okPt x.2) := hide (by
                    obtain ⟨n1, n2⟩ := borders_node (List.mem_of_getElem? HBK.out)
                    have g1 := node_grid HM.out n1
                    have g2 := node_grid HM.out n2
                    simp only at g1 g2
                    rw [HPA.out] at g1
                    rw [HPB.out] at g2
                    intro x hx
                    simp only [List.mem_cons, List.not_mem_nil, or_false] at hx
                    unfold PlMap.okPt
                    rcases hx with rfl | rfl <;> simp only <;> omega)
                  clear hq2 HN20 HPTS HLC HMM HROW HPERM HBK HPA HPB HCN HBDD
                  go_wp2_with fail
                  go_loopw [12, 22] (fun bb jj wr => ∃ (j : Nat) (b2 bd3 : Bool) (g2 : Pt → Option BA) (ml2 : List (Pt × Value)), j ≤ 2 ∧ jj = .int .i64 j ∧ bb = .bool bd3 ∧ Hid (bd3 = (oddM (preM (segsL l) (k + 1) 0) || b2)) ∧ Hid (PtsT (endsL l ((bordersL l).take k) ++ [(sa, pa), (sb, pb)].take j) g2 b2) ∧ Hid (LwI w7 wr xa bm pm ml2 g2 (segsL l) (2 * k + j)) ∧ Hid (wr.heap[q20]? = some (.cells #[.string sa, .string sb] 9 (0, 0)) ∧ wr.heap[q21]? = some (.cells #[.int .i64 pa.x, .int .i64 pa.y, .int .i64 pb.x, .int .i64 pb.y] 44 (0, 0)))) (fun _ jj _ => 2 - (intOf jj).toNat)
                  case atStart => exact ⟨0, b, bd2, g, ml, by omega, rfl, rfl, HD2, HPT0, HLN, HQ2⟩
                  case round =>
                    clear HPT0 HLN HQ2 HD2
                    obtain ⟨j, b2, bd3, g2, ml2, hj, rfl, rfl, hbd, hpt, hlw, hq⟩ := hrel
                    have HBD3 := hide hbd.out
                    have HPT3 := hide hpt.out
                    have HLW3 := hide hlw.out
                    have HQ3 := hide hq.out
                    by_cases hlt2 : j < 2
                    · have j0 : (0 : Int) ≤ (j : Nat) := by omega
                      have j1 : ((j : Nat) : Int) < 2 := by omega
                      obtain ⟨⟨sj, pj⟩, hx⟩ : ∃ x, [(sa, pa), (sb, pb)][j]? = some x := ⟨_, List.getElem?_eq_getElem (by simpa using hlt2)⟩
                      have HXJ := hide hx
                      have HOKJ := hide (HOKP.out _ (List.mem_of_getElem? hx))
                      have HCJ : Hid (∀ W : World, (W.heap[q20]? = some (.cells #[.string sa, .string sb] 9 (0, 0)) ∧ W.heap[q21]? = some (.cells #[.int .i64 pa.x, .int .i64 pa.y, .int .i64 pb.x, .int .i64 pb.y] 44 (0, 0))) → W.cell? ⟨q20, j, none⟩ = some (.string sj) ∧ W.cell? ⟨q21, j * 2, none⟩ = some (.int .i64 pj.x) ∧ W.cell? ⟨q21, j * 2 + 1, none⟩ = some (.int .i64 pj.y)) := hide (fun W hW => by
                        match j, hx with
                        | 0, hx =>
                          simp at hx
                          obtain ⟨rfl, rfl⟩ := hx
                          exact ⟨cell_of_row _ _ 0 _ _ _ hW.1, cell_of_row _ _ 0 _ _ _ hW.2, cell_of_row _ _ 1 _ _ _ hW.2⟩
                        | 1, hx =>
                          simp at hx
                          obtain ⟨rfl, rfl⟩ := hx
                          exact ⟨cell_of_row _ _ 1 _ _ _ hW.1, cell_of_row _ _ 2 _ _ _ hW.2, cell_of_row _ _ 3 _ _ _ hW.2⟩
                        | j + 2, hx => simp at hx)
                      obtain ⟨y0, y1, y2⟩ := HCJ.out wr HQ3.out
                      have hlook := HLW3.out.mp.look_ok Tryz.underlying69 zero_str13 (x := pj) HOKJ.out
                      rw [HLW3.out.gm] at hlook
                      obtain ⟨V, hV⟩ : ∃ V, ((g2 pj).map Value.string).getD (.string ⟨#[]⟩) = V := ⟨_, rfl⟩
                      obtain ⟨Ib, hI⟩ : ∃ Ib, ((g2 pj).map Value.string).isSome = Ib := ⟨_, rfl⟩
                      rw [hV, hI] at hlook
                      change (Instr.lookup 69 (.map (some pm)) (.agg #[.int .i64 pj.x, .int .i64 pj.y]) true).run Tryz.prog wr = _ at hlook
                      have HVV := hide hV
                      have HII := hide hI
                      have HJ := hide hlt2
                      clear hbd hpt hlw hq hx hV hI hj hlt2
                      go_upto_region 44 with (fail)
                      go_cut [12] from 188 to 199 (fun v12 wx => ∃ bd4 : Bool, v12 = .bool bd4 ∧ Hid (bd4 = (bd3 || oneB g2 sj pj)) ∧ Hid (Below wr.heap.size wr wx))
                      case first =>
                        cases bd3 with
                        | true =>
                          go_wp2_with fail
                          go_meet
                          exact ⟨true, rfl, hide rfl, hide (Below.refl _ _)⟩
                        | false =>
                          cases hg : g2 pj with
                          | none =>
                            have hv := HVV.out
                            have hi := HII.out
                            rw [hg] at hv hi
                            simp only [Option.map_none, Option.getD_none, Option.isSome_none] at hv hi
                            subst hv hi
                            have HON : Hid (false = (false || oneB g2 sj pj)) := hide (by unfold oneB; rw [hg]; rfl)
                            clear hg
                            go_wp2_with fail
                            go_meet
                            exact ⟨false, rfl, HON, hide (Below.refl _ _)⟩
                          | some t =>
                            have hv := HVV.out
                            have hi := HII.out
                            rw [hg] at hv hi
                            simp only [Option.map_some, Option.getD_some, Option.isSome_some] at hv hi
                            subst hv hi
                            by_cases hts : t = sj
                            · obtain ⟨g3, g4⟩ := eqS hts
                              have HON : Hid (false = (false || oneB g2 sj pj)) := hide (by unfold oneB; rw [hg]; simp [hts])
                              clear hg hts
                              go_wp2_with fail
                              go_meet
                              exact ⟨false, rfl, HON, hide (Below.refl _ _)⟩
                            · obtain ⟨g3, g4⟩ := neS hts
                              have HON : Hid (true = (false || oneB g2 sj pj)) := hide (by unfold oneB; rw [hg]; simp [hts])
                              clear hg hts
                              go_wp2_with fail
                              go_meet
                              exact ⟨true, rfl, HON, hide (Below.refl _ _)⟩
                      case rest =>
                        rename World => wt
                        obtain ⟨bd4, rfl, hbd4, hbt⟩ := hcut
                        have HLT3 := hide (HLW3.out.lift hbt.out)
                        have HQT := hide (show wt.heap[q20]? = some (.cells #[.string sa, .string sb] 9 (0, 0)) ∧ wt.heap[q21]? = some (.cells #[.int .i64 pa.x, .int .i64 pa.y, .int .i64 pb.x, .int .i64 pb.y] 44 (0, 0)) from ⟨blkB hbt.out HQ3.out.1, blkB hbt.out HQ3.out.2⟩)
                        have HB4 : Hid (bd4 = (oddM (preM (segsL l) (k + 1) 0) || (b2 || oneB g2 sj pj))) := hide (by rw [hbd4.out, HBD3.out, Bool.or_assoc])
                        have HP4 : Hid (PtsT (endsL l ((bordersL l).take k) ++ [(sa, pa), (sb, pb)].take (j + 1)) (updG g2 sj pj) (b2 || oneB g2 sj pj)) := hide (by
                          rw [List.take_add_one, HXJ.out, ← List.append_assoc]
                          exact HPT3.out.step sj pj)
                        obtain ⟨z0, z1, z2⟩ := HCJ.out wt HQT.out
                        have hln := HLT3.out.ln
                        have hmd : MapPt wt.drew pm ml2 := HLT3.out.mp.drew
                        obtain ⟨W3, hst, hml3, htu⟩ := hmd.store Tryz.underlying69 (by unfold maxLen; omega) (x := pj) HOKJ.out (.string sj)
                        change (Instr.mapUpdate 69 (.map (some pm)) (.agg #[.int .i64 pj.x, .int .i64 pj.y]) (.string sj)).run _ _ = _ at hst
                        have hmb := map_blk hmd
                        have HL4 : Hid (LwI w7 W3 xa bm pm (putL ml2 pj (.string sj)) (updG g2 sj pj) (segsL l) (2 * k + (j + 1))) := hide (by
                          refine ⟨(HLT3.out.ix.below (below_drew wt)).mapset htu.grown hmb HPM.out.2.1 HPM.out.2.2, hml3, fun q => ?_, ?_, below_row (bto HLT3.out.below (below_drew wt)) htu.grown (fun r e => by rw [← Option.some.inj e]; exact HPM.out.1)⟩
                          · rw [getL_put]
                            unfold updG
                            by_cases e : q = pj
                            · rw [if_pos e, if_pos e]; rfl
                            · rw [if_neg e, if_neg e]; exact HLT3.out.gm q
                          · rw [putL_len]
                            split <;> omega)
                        have HQ4 := hide (show W3.heap[q20]? = some (.cells #[.string sa, .string sb] 9 (0, 0)) ∧ W3.heap[q21]? = some (.cells #[.int .i64 pa.x, .int .i64 pa.y, .int .i64 pb.x, .int .i64 pb.y] 44 (0, 0)) from by
                          obtain ⟨es, cl, hmb⟩ := hmb
                          have h1 := blkB (below_drew wt) HQT.out.1
                          have h2 := blkB (below_drew wt) HQT.out.2
                          exact ⟨(htu.grown.block _ (lt_of_block h1) (fun e => by rw [Option.some.inj e, hmb] at h1; cases h1)).trans h1, (htu.grown.block _ (lt_of_block h2) (fun e => by rw [Option.some.inj e, hmb] at h2; cases h2)).trans h2⟩)
                        have HST := hide hst
                        clear hbd4 hbt hst hml3 htu hmb hmd hln HLT3 HQT hlook y0 y1 y2
                        go_wp2_with fail
                        go_still_tail 9, (by kernel_rfl)
                        have hst := HST.out
                        clear HST
                        change wpList _ _ _ _ _ wt.drew
                        go_wp2_with fail
                        refine ⟨⟨j + 1, (b2 || oneB g2 sj pj), bd4, updG g2 sj pj, putL ml2 pj (.string sj), HJ.out, by go_num, rfl, HB4, HP4, HL4, HQ4⟩, ?_⟩
                        have := HJ.out
                        simp [intOf]; omega
                    · obtain rfl : j = 2 := by omega
                      have HE1 : Hid (PtsT (endsL l ((bordersL l).take (k + 1))) g2 b2) := hide (by
                        rw [HEN.out]
                        exact HPT3.out)
                      have HE2 : Hid (LwI w7 wr xa bm pm ml2 g2 (segsL l) (2 * (k + 1))) := hide (by
                        have := HLW3.out
                        rw [show 2 * (k + 1) = 2 * k + 2 by omega]
                        exact this)
                      have j1 : ¬ ((2 : Nat) : Int) < 2 := by omega
                      clear hbd hpt hlw hq
                      go_wp2_with fail
                      refine ⟨⟨k + 1, b2, bd3, g2, ml2, cn2, HLT.out, by go_num, rfl, rfl, HC2, HBD3, HE1, HE2⟩, ?_⟩
                      have := HLT.out
                      simp [intOf]; omega
          · obtain rfl : k = n := by omega
            have k1 : ¬ ((k : Nat) : Int) < (k : Nat) := by omega
            have hall : (bordersL l).take k = bordersL l := List.take_of_length_le (by rw [HN.out]; exact Nat.le_refl _)
            have hpre : preM (segsL l) k 0 = allP (segsL l) := by
              have := preM_all (segsL l)
              rw [HNS.out] at this
              exact this
            have HCE : Hid (cn = na) := hide (by rw [HCN.out, hpre, HNA.out])
            have HBE : Hid (bd = true ↔ badT l) := hide (by
              have h1 := HPTS.out
              rw [hall] at h1
              rw [HBDD.out, hpre]
              exact bad_end h1)
            have d0 := (blk1 (blkB HLW.out.below HX7.out)).1
            have HMF := hide (HMI.out.below (bto HB7.out HLW.out.below))
            have HBF2 := hide (bto HB7.out HLW.out.below)
            have HCE2 := HCE.out
            clear hcn hbd hpt hlw HCN HBDD HPTS HLW hall hpre hk
            subst HCE2
            go_wp2_with fail
            refine (check_any l _ wr HMF.out HM.out HSM.out).mono ?_
            rintro _ wq ⟨Q, Aq, cq, rfl, hq1, hq2, hbq⟩
            have hQ : 0 < Q.length ↔ bd = true := by
              rw [HBE.out, ← bad_same, ← noted_bad, List.length_pos_iff_exists_mem]
              exact exists_congr hq2
            have HBQ := hide (bto HBF2.out hbq)
            clear hq1 hq2 hbq d0 HBE
            cases bd with
            | true =>
              have q1 := hQ.2 rfl
              have q2 : (0 : Int) < (Q.length : Nat) := by omega
              have q3 : ¬ Q = [] := fun e => by rw [e] at q1; simp at q1
              clear hQ
              go_wp2_with fail
              go_ret
              exact ⟨rfl, HBQ.out⟩
            | false =>
              have q1 : Q.length = 0 := by
                have : ¬ 0 < Q.length := fun e => by have := hQ.1 e; cases this
                omega
              have q2 : ¬ (0 : Int) < (Q.length : Nat) := by omega
              obtain rfl : Q = [] := List.eq_nil_of_length_eq_zero q1
              clear hQ q1
              go_wp2_with fail
              go_ret
              exact ⟨rfl, HBQ.out⟩
