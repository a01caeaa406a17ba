/-
  The law of the bare map, walked.
-/
import Derived.Test.YtpiocaomlifljaaNetOc
import Derived.Test.YtpiocaomlifljaaPlainO
namespace Go.Proofs.Ytpiocaomlifljaa
open Go.RowKit Go.Proofs.PlLex Go.Proofs.PlNet Go.Proofs.PlMap
attribute [local go_sem] run_makeMap

theorem refd_next {l : List Ob} {i : Nat} {t : Ob} (h : l[i]? = some t) (x : BA) : refd (l.take (i + 1)) x = (refd (l.take i) x || hasS x t.refs) := by
  rw [List.take_add_one, h]
  unfold refd
  rw [List.any_append]
  simp
theorem hasS_next {r : List BA} {m : Nat} {s : BA} (h : r[m]? = some s) (x : BA) : hasS x (r.take (m + 1)) = (hasS x (r.take m) || (s.toList == x.toList)) := by
  rw [List.take_add_one, h, Bool.eq_iff_iff, Bool.or_eq_true, hasS_mem, hasS_mem]
  simp only [Option.toList_some, List.mem_append, List.mem_singleton, beq_iff_eq, toList_inj]
  exact or_congr Iff.rfl eq_comm
theorem okO_bare {o : Ob} (h : okO o) : okO (bareO o) := ⟨h.1, h.2.1, h.2.2.1, by show 0 ≤ 100000; omega, fun t ht => nomatch ht⟩
theorem bare_next {l L : List Ob} {k : Nat} {t : Ob} (h : l[k]? = some t) : ((l.take (k + 1)).filter (keepO L)).map bareO = ((l.take k).filter (keepO L)).map bareO ++ (if keepO L t = true then [bareO t] else []) := by
  rw [List.take_add_one, h, List.filter_append, List.map_append]
  cases e : keepO L t <;> simp [e]
/-- The map of what is referred to, so far. -/
structure UsI (w3 : World) (bm : Nat) (S : List BA) (W : World) : Prop where
  ml : ∃ M, MapS W bm M ∧ (∀ x, getL M x = if hasS x S then some (.bool true) else none) ∧ M.length ≤ S.length
  ge : w3.heap.size ≤ bm
  below : Below w3.heap.size w3 W
theorem UsI.lift {w3 : World} {bm : Nat} {S : List BA} {W W' : World} (h : UsI w3 bm S W) (hb : Below W.heap.size W W') : UsI w3 bm S W' := by
  obtain ⟨⟨M, h4, h5⟩, h6, h7⟩ := h
  exact ⟨⟨M, h4.kept (row := none) ⟨hb.os, hb.tape, hb.output, hb.size, fun i hi _ => hb.block i hi⟩ (by simp), h5⟩, h6, bto h7 hb⟩
theorem UsI.made (w3 : World) : UsI w3 w3.heap.size [] (w3.alloc (.map #[] 0)) :=
  ⟨⟨[], mapL_made _ w3, fun _ => rfl, Nat.le_refl _⟩, Nat.le_refl _, (Below.refl _ _).alloc (Nat.le_refl _) _⟩
theorem UsI.lt {w3 : World} {bm : Nat} {S : List BA} {W : World} (h : UsI w3 bm S W) : bm < W.heap.size := by
  obtain ⟨M, h4, _⟩ := h.ml
  exact h4.lt
theorem UsI.put {w3 : World} {bm : Nat} {S : List BA} {W : World} (h : UsI w3 bm S W) (s : BA) (hs : s.size ≤ 100000) (hl : S.length ≤ 1000000000) :
    ∃ W1, (Instr.mapUpdate 51 (.map (some bm)) (.string s) (.bool true)).run Try.prog W = .ok () W1 ∧ UsI w3 bm (s :: S) W1 := by
  obtain ⟨⟨M, h4, h5, h6⟩, h7, h8⟩ := h
  have hok : s.size ≤ maxLen := Nat.le_trans hs (by unfold maxLen; omega)
  obtain ⟨W1, hst, hml, htu⟩ := h4.store Try.underlying51 (by unfold maxLen; omega) (x := s) hok (.bool true)
  refine ⟨W1, hst, ⟨_, hml, seen_put h5 s, by rw [putL_len]; simp only [List.length_cons]; split <;> omega⟩, h7, belowK_map h8 h7 htu⟩
theorem UsI.look {w3 : World} {bm : Nat} {S : List BA} {W : World} (h : UsI w3 bm S W) (s : BA) (hs : s.size ≤ 100000) :
    (Instr.lookup 51 (.map (some bm)) (.string s) false).run Try.prog W = .ok (.bool (hasS s S)) W := by
  obtain ⟨⟨M, h4, h5, h6⟩, h7, h8⟩ := h
  have hok : s.size ≤ maxLen := Nat.le_trans hs (by unfold maxLen; omega)
  have hlook := h4.look Try.underlying51 zero_bool (x := s) hok
  have e1 : (getL M s).getD (.bool false) = .bool (hasS s S) := by rw [h5]; cases hasS s S <;> rfl
  rw [e1] at hlook
  exact hlook
theorem set_tags {W : World} {b : Nat} {a0 a1 a2 a3 a4 a5 x : Value} {t : TypeId} (h : W.heap[b]? = some (.cells #[a0, a1, a2, a3, a4, a5] t (0, 0))) : (W.setCell ⟨b, 5, none⟩ x).heap[b]? = some (.cells #[a0, a1, a2, a3, a4, x] t (0, 0)) := by
  obtain ⟨hlt, hk⟩ := Array.getElem?_eq_some_iff.1 h
  show (W.heap.modify b _)[b]? = _
  rw [Array.getElem?_eq_getElem (by simpa using hlt), Array.getElem_modify_self, hk]
  rfl

set_option maxRecDepth 100000 in
set_option maxHeartbeats 16000000 in
theorem otherslaw_any (l : List Ob) (v : Value) (w : World) (hv : MapW w v l) :
    Calls Try.prog 8 #[.agg #[v]] w fun e w' => e = .returned (.bool true) ∧ Below w.heap.size w w' := by
  have hlen := hv.len
  obtain ⟨A, c, rfl, _, hA⟩ := id hv.obs
  obtain ⟨wa, hwa⟩ : ∃ wa, w.alloc (.cells #[.slice A l.length c] 24) = wa := ⟨_, rfl⟩
  have ha : Below w.heap.size w wa := by rw [← hwa]; exact (Below.refl _ _).alloc (Nat.le_refl _) _
  have hm : wa.heap[w.heap.size]? = some (.cells #[.slice A l.length c] 24 (0, 0)) := by rw [← hwa]; exact heap_alloc_new w _
  have HV := hide (hv.below ha)
  have HH := hide (head_any wa)
  clear hv hA
  go_enter Try.func8, Try.ntmps8
  go_wp2_with fail
  refine HH.out.mono ?_
  rintro _ w1 ⟨rfl, b1⟩
  have hm1 := blkB b1 hm
  have hb1 := bto ha b1
  have HV1 := hide (HV.out.below b1)
  have dm := (blk1 hm1).1
  have HF := hide (fewlaw_any l _ w1 HV1.out)
  clear hwa ha hm HV HH b1
  cases hfew : fewM 24 l with
  | false =>
    rw [hfew] at HF
    clear hfew
    go_wp2_with fail
    refine HF.out.mono ?_
    rintro _ w2 ⟨rfl, b2⟩
    have HB := hide (bto hb1 b2)
    clear dm hm1 b2 hb1
    go_wp2_with fail
    go_ret
    exact ⟨rfl, HB.out⟩
  | true =>
    rw [hfew] at HF
    have HL24 := hide (fewM_ok hfew (fun o ho => (HV1.out.ok o ho).2.2.2.2.1))
    have HMI := hide (show MapI w1 _ l from ⟨HV1.out.obs, by have := HL24.out.1; omega, HL24.out.2⟩)
    clear hfew
    go_wp2_with fail
    refine HF.out.mono ?_
    rintro _ w2 ⟨rfl, b2⟩
    have hm2 := blkB b2 hm1
    have hb2 := bto hb1 b2
    have HMI2 := hide (HMI.out.below b2)
    have dm := (blk1 hm2).1
    have HVA := hide (avalid_any l _ w2 HMI2.out.obs HMI2.out.len HMI2.out.ok)
    clear HF b2 hb1 hm1 HV1 HMI
    cases hmb : mapB l with
    | false =>
      rw [hmb] at HVA
      clear hmb
      go_wp2_with fail
      refine HVA.out.mono ?_
      rintro _ w3 ⟨rfl, b3⟩
      have HB := hide (bto hb2 b3)
      clear dm hm2 b3 hb2
      go_wp2_with fail
      go_ret
      exact ⟨rfl, HB.out⟩
    | true =>
      rw [hmb] at HVA
      have HMB := hide hmb
      clear hmb
      go_wp2_with fail
      refine HVA.out.mono ?_
      rintro _ w3 ⟨rfl, b3⟩
      have HM3 := hide (blkB b3 hm2)
      have HB3 := hide (bto hb2 b3)
      have HMI3 := hide (HMI2.out.below b3)
      clear HVA b3 hb2 hm2 HMI2 dm
      obtain ⟨i0, hi, hz0, hz1, hz2⟩ := info_parts info_ob
      have HI := hide hi
      have HZ0 := hide hz0
      have HZ1 := hide hz1
      have HZ2 := hide hz2
      clear hi hz0 hz1 hz2
      obtain ⟨wb, hwb⟩ : ∃ wb, w3.alloc (.map #[] 0) = wb := ⟨_, rfl⟩
      have hus := UsI.made w3
      rw [hwb] at hus
      have HU0 := hide hus
      have hl24 := HL24.out.1
      obtain ⟨A3, c3, e3, _, hA3⟩ := id HMI3.out.obs
      cases e3
      have HA := hide hA3
      clear hus hA3
      go_wp2_with fail
      clear hwb
      go_loopw [5] (fun i wr => ∃ (k : Nat) (S : List BA), k ≤ l.length ∧ i = .int .i64 k ∧ Hid (UsI w3 w3.heap.size S wr) ∧ Hid (∀ x, hasS x S = refd (l.take k) x) ∧ Hid (S.length ≤ k * 100000)) (fun i _ => l.length - (intOf i).toNat)
      case atStart => exact ⟨0, [], Nat.zero_le _, rfl, HU0, fun _ => rfl, Nat.zero_le _⟩
      case round =>
        obtain ⟨k, S, hk, rfl, hus, hS, hSl⟩ := hrel
        have e0 : wr.cell? ⟨w.heap.size, 0, none⟩ = some (.slice A l.length c) := (blk1 (blkB hus.out.below HM3.out)).1
        by_cases hlt : k < l.length
        · obtain ⟨g, o, rfl, hg, hp⟩ := HA.out.resolve_left (by rintro rfl; simp at hlt)
          have hkt := List.getElem?_eq_getElem hlt
          obtain ⟨rv, tv, hoa⟩ := hp k _ hkt
          have hmem := List.getElem_mem hlt
          have hok := HL24.out.2 _ hmem
          generalize l[k] = t at *
          obtain ⟨Ao, co, hrv, _, hAo⟩ := id hoa.refs
          subst hrv
          have HAo := hide (fun h => hAo.resolve_left h)
          have k0 : (0 : Int) ≤ k := by omega
          have k1 : (k : Int) < l.length := by omega
          have HKL := hide (show k + 1 ≤ l.length from hlt)
          have HMS := hide (show l.length - (k + 1) < l.length - k from by omega)
          have HOK := hide hok
          have HRX := hide (refd_next hkt)
          have HC4 := hide (fun W (hb : Below w3.heap.size w3 W) => (hb.cell (p := ⟨g, o + k * 6 + 4, none⟩) hg).trans hoa.c4)
          have HS0 := hide hS.out
          have HSL0 := hide hSl.out
          have HUS0 := hide hus.out
          have hk24 : k ≤ 24 := by omega
          have hrl : t.refs.length ≤ 100000 := hok.2.1
          clear hlt hp hkt hmem hok hAo hoa hS hSl hus hk
          go_wp2_with fail
          clear e0
          go_loopw [6] (fun j wr => ∃ (m : Nat) (S : List BA), m ≤ t.refs.length ∧ j = .int .i64 m ∧ Hid (UsI w3 w3.heap.size S wr) ∧ Hid (∀ x, hasS x S = (refd (l.take k) x || hasS x (t.refs.take m))) ∧ Hid (S.length ≤ k * 100000 + m)) (fun j _ => t.refs.length - (intOf j).toNat)
          case atStart => exact ⟨0, S, Nat.zero_le _, rfl, HUS0, fun x => by rw [HS0.out]; simp [hasS], hide (Nat.le_trans HSL0.out (Nat.le_add_right _ _))⟩
          case round =>
            obtain ⟨m, S, hm, rfl, hus, hS, hSl⟩ := hrel
            have e0 : wr.cell? ⟨w.heap.size, 0, none⟩ = some (.slice (some ⟨g, o, none⟩) l.length c) := (blk1 (blkB hus.out.below HM3.out)).1
            have c4 := HC4.out _ hus.out.below
            by_cases hml : m < t.refs.length
            · obtain ⟨g2, o2, rfl, hg2, hp2⟩ := HAo.out (by intro e; rw [e] at hml; simp at hml)
              have hms := List.getElem?_eq_getElem hml
              have hsz := HOK.out.2.2.1 _ (List.getElem_mem hml)
              generalize t.refs[m] = s at *
              have z0 := (hus.out.below.cell (p := ⟨g2, o2 + m, none⟩) hg2).trans (hp2 m s hms)
              have hr1 := HOK.out.2.1
              obtain ⟨W1, hst, hus1⟩ := hus.out.put s hsz (by have := hSl.out; omega)
              have m0 : (0 : Int) ≤ m := by omega
              have m1 : (m : Int) < t.refs.length := by omega
              have HML := hide (show m + 1 ≤ t.refs.length from hml)
              have HMM := hide (show t.refs.length - (m + 1) < t.refs.length - m from by omega)
              have HU1 := hide hus1
              have HS1 := hide (show ∀ x, hasS x (s :: S) = (refd (l.take k) x || hasS x (t.refs.take (m + 1))) from fun x => by
                rw [hasS_cons, hS.out, hasS_next hms]
                cases refd (l.take k) x <;> cases hasS x (t.refs.take m) <;> cases (s.toList == x.toList) <;> rfl)
              have HSL1 := hide (show (s :: S).length ≤ k * 100000 + (m + 1) from by have := hSl.out; rw [List.length_cons]; omega)
              clear hml hm hp2 hms hsz hus hus1 hS hSl hr1
              go_wp2_with fail
              refine ⟨⟨m + 1, s :: S, HML.out, by go_num, HU1, HS1, HSL1⟩, ?_⟩
              have := HMM.out
              simp [intOf]; omega
            · obtain rfl : m = t.refs.length := by omega
              have HU1 := hide hus.out
              have HS1 := hide (show ∀ x, hasS x S = refd (l.take (k + 1)) x from fun x => by rw [hS.out, HRX.out, List.take_length])
              have HSL1 := hide (show S.length ≤ (k + 1) * 100000 from by have := hSl.out; have := HOK.out.2.1; omega)
              clear hus hS hSl hml hm
              go_wp2_with fail
              refine ⟨⟨k + 1, S, HKL.out, by go_num, HU1, HS1, HSL1⟩, ?_⟩
              have := HMS.out
              simp [intOf]; omega
        · obtain rfl : k = l.length := by omega
          have hS2 := hS.out
          rw [List.take_length] at hS2
          have HUS := hide hus.out
          have HS2 := hide hS2
          obtain ⟨wc, hwc⟩ : ∃ wc, wr.alloc (.cells #[.slice none 0 0] 24) = wc := ⟨_, rfl⟩
          have hcc : Below wr.heap.size wr wc := by rw [← hwc]; exact (Below.refl _ _).alloc (Nat.le_refl _) _
          have HB0 := hide (BoI.nil (bb := wr.heap.size) hcc (Nat.le_refl _) (by rw [← hwc]; exact heap_alloc_new _ _))
          clear hus hS hSl hS2 hlt hk hcc HU0
          go_wp2_with fail
          clear hwc e0
          generalize wr = w4 at *
          have HMI4 := hide (HMI3.out.below HUS.out.below)
          have HM4 := hide (blkB HUS.out.below HM3.out)
          have HB4 := hide (bto HB3.out HUS.out.below)
          go_loopw [8] (fun i wr => ∃ (k : Nat) (R : List OV) (Ar : Option Addr) (cr : Nat), k ≤ l.length ∧ i = .int .i64 k ∧ Hid (BoI w4 w4.heap.size R (.slice Ar R.length cr) wr) ∧ Hid (R.map OV.o = ((l.take k).filter (keepO l)).map bareO)) (fun i _ => l.length - (intOf i).toNat)
          case atStart => exact ⟨0, [], none, 0, Nat.zero_le _, rfl, HB0, rfl⟩
          case round =>
            obtain ⟨k, R, Ar, cr, hk, rfl, hbo, hR⟩ := hrel
            have e0 : wr.cell? ⟨w.heap.size, 0, none⟩ = some (.slice A l.length c) := (blk1 (blkB hbo.out.below HM4.out)).1
            by_cases hlt : k < l.length
            · obtain ⟨g, o, rfl, hg, hp⟩ := HA.out.resolve_left (by rintro rfl; simp at hlt)
              have hkt := List.getElem?_eq_getElem hlt
              obtain ⟨rv, tv, hoa⟩ := hp k _ hkt
              have hnext := bare_next (L := l) hkt
              have hmem := List.getElem_mem hlt
              have hok := HL24.out.2 _ hmem
              generalize l[k] = t at *
              have hRL : R.length ≤ k := by
                have := congrArg List.length hR.out
                rw [List.length_map, List.length_map] at this
                have h2 := List.length_filter_le (keepO l) (l.take k)
                rw [List.length_take] at h2
                omega
              have hsr := hoa.refs.below HUS.out.below
              obtain ⟨Ao, co, hrv, _⟩ := id hoa.refs
              obtain ⟨Ag, cg, htv, _⟩ := id hoa.tags
              subst hrv
              subst htv
              obtain ⟨c0, c1, c2, c3, c4, c5, _, _⟩ := hoa.below hg (bto HUS.out.below hbo.out.below)
              obtain ⟨wo, hwo⟩ : ∃ wo, wr.alloc (.cells #[.string t.id, .int .i64 t.kind, .int .i64 t.x, .int .i64 t.y, .slice Ao t.refs.length co, .slice Ag t.tags.length cg] 42) = wo := ⟨_, rfl⟩
              have hblk : wo.heap[wr.heap.size]? = some (.cells #[.string t.id, .int .i64 t.kind, .int .i64 t.x, .int .i64 t.y, .slice Ao t.refs.length co, .slice Ag t.tags.length cg] 42 (0, 0)) := by rw [← hwo]; exact heap_alloc_new _ _
              have hbo2 : Below wr.heap.size wr wo := by rw [← hwo]; exact (Below.refl _ _).alloc (Nat.le_refl _) _
              have d5 := cell_of_row wo _ 5 _ _ _ hblk
              have d5f := frozen_of_row wo _ 5 _ _ hblk
              obtain ⟨w8, hw8⟩ : ∃ w8, wo.setCell ⟨wr.heap.size, 5, none⟩ (.slice none 0 0) = w8 := ⟨_, rfl⟩
              have hbl8 : w8.heap[wr.heap.size]? = some (.cells #[.string t.id, .int .i64 t.kind, .int .i64 t.x, .int .i64 t.y, .slice Ao t.refs.length co, .slice none 0 0] 42 (0, 0)) := by
                rw [← hw8]; exact set_tags hblk
              have hwr8 : Below wr.heap.size wr w8 := by rw [← hw8]; exact hbo2.setCell (Nat.le_refl _) _
              have f0 := cell_of_row w8 _ 0 _ _ _ hbl8
              have f1 := cell_of_row w8 _ 1 _ _ _ hbl8
              have f2 := cell_of_row w8 _ 2 _ _ _ hbl8
              have f3 := cell_of_row w8 _ 3 _ _ _ hbl8
              have f4 := cell_of_row w8 _ 4 _ _ _ hbl8
              have f5 := cell_of_row w8 _ 5 _ _ _ hbl8
              simp only [List.getElem?_toArray, List.getElem?_cons_zero, List.getElem?_cons_succ] at d5 f0 f1 f2 f3 f4 f5
              have hbo8 := hbo.out.lift hwr8
              have hlook := (HUS.out.lift hbo8.below).look t.id hok.1
              rw [HS2.out] at hlook
              have hbx := (blk1 hbo8.box).1
              have k0 : (0 : Int) ≤ k := by omega
              have k1 : (k : Int) < l.length := by omega
              have HKL := hide (show k + 1 ≤ l.length from hlt)
              have HMS := hide (show l.length - (k + 1) < l.length - k from by omega)
              have s8 : StS w8 (.slice Ao t.refs.length co) t.refs := hsr.below hbo8.below
              have ap8 : Apart (.slice Ao t.refs.length co) w4.heap.size (Value.slice Ar R.length cr).ownBlock t.refs := fun hn b hb => ⟨by
                have h1 := hsr.own_lt hn b hb; omega, fun e => by
                have h1 := hsr.own_lt hn b hb; have h2 := (own_block hbo.out.row e).1; omega⟩
              have HS8 := hide s8
              have HAP := hide ap8
              have HB8 := hide hbo8
              have HNX := hide hnext
              have HR := hide hR.out
              have HRL := hide hRL
              have HK24 := hide (show k ≤ 24 from by omega)
              clear hlt hp hkt hmem hok hsr hoa hbo hR hblk hbo2 hnext hRL hbl8 hwr8 hbo8 s8 ap8 hk
              by_cases h3 : t.kind = 3
              · have p3 : (t.kind != 3) = false := by simpa using h3
                have HQ := hide (show keepO l t = false from by unfold keepO; rw [decide_eq_false (show ¬ t.kind ≠ 3 from fun h => h h3)]; rfl)
                clear h3
                have HR2 := hide (show R.map OV.o = ((l.take (k + 1)).filter (keepO l)).map bareO from by
                  rw [HNX.out, if_neg (by rw [HQ.out]; exact Bool.false_ne_true), List.append_nil, HR.out])
                go_wp2_with fail
                refine ⟨⟨k + 1, R, Ar, cr, HKL.out, by go_num, HB8, HR2⟩, ?_⟩
                have := HMS.out
                simp [intOf]; omega
              · have p3 : (t.kind != 3) = true := by simpa using h3
                by_cases h1 : t.kind = 1
                · have p1 : (t.kind != 1) = false := by simpa using h1
                  cases hrd : refd l t.id with
                  | true =>
                    have HQ := hide (show keepO l t = true from by unfold keepO; rw [decide_eq_true h3, hrd]; simp)
                    rw [hrd] at hlook
                    clear h1 h3 hrd
                    obtain ⟨wx, hwx⟩ : ∃ wx, w8.alloc (.cells (#[.string t.id, .int .i64 t.kind, .int .i64 t.x, .int .i64 t.y, .slice Ao t.refs.length co, .slice none 0 0] : Array Value) 42) = wx := ⟨_, rfl⟩
                    have hbx8 : Below w8.heap.size w8 wx := by rw [← hwx]; exact (Below.refl _ _).alloc (Nat.le_refl _) _
                    have HBX := hide (HB8.out.lift hbx8)
                    have HXX := hide hbx8
                    have HNC := hide (show ∀ j u, ((⟨bareO t, .slice Ao t.refs.length co, .slice none 0 0⟩ : OV)).cells[j]? = some u → wx.cell? (Addr.add ⟨w8.heap.size, 0, none⟩ j) = some u from fun j u hj => by rw [← hwx]; exact new_cells w8 ((⟨bareO t, .slice Ao t.refs.length co, .slice none 0 0⟩ : OV)).cells 42 j u hj)
                    have HSZ := hide (show wx.heap.size = w8.heap.size + 1 from by rw [← hwx]; simp)
                    clear hbx8
                    go_wp2_with (at_builtin; go_must (refine wpList_append_lies _ rfl (.tmp 77) (.tmp 79) 22 rfl w4.heap.size 42 i0 (.agg #[.string ⟨#[]⟩, .int .i64 0, .int .i64 0, .int .i64 0, .slice none 0 0, .slice none 0 0]) 6 88 Try.underlying22 HI.out HZ0.out HZ1.out HZ2.out rfl (by decide) (.slice Ar R.length cr) R.length (cellsX R) rfl ?c0 ⟨w8.heap.size, 0, none⟩ 1 1 ((⟨bareO t, .slice Ao t.refs.length co, .slice none 0 0⟩ : OV)).cells rfl rfl ?c1 ?c2 (by decide) ?c3 ?c4 ?c5 (w8.heap.size + 1) ?c6 ?_))
                    case c0 => exact HBX.out.row
                    case c1 => exact HNC.out
                    case c2 => intro u hu; simp [OV.cells] at hu; rcases hu with rfl | rfl | rfl | rfl | rfl | rfl <;> rfl
                    case c3 => unfold maxLen; have := HRL.out; have := HK24.out; omega
                    case c4 => have := HRL.out; have := HK24.out; omega
                    case c5 => exact HBX.out.below.size
                    case c6 => exact HSZ.out
                    intro g9 cap w9 hown9 hgrow9 hat9 _
                    have hbo9 := BoI.more (x := (⟨bareO t, .slice Ao t.refs.length co, .slice none 0 0⟩ : OV)) HBX.out (HS8.out.below HXX.out) ⟨none, 0, rfl, .inl rfl⟩ HAP.out (fun h => (h rfl).elim) hown9 hgrow9 (by rw [HSZ.out]; exact hat9)
                    have hb9 := HBX.out.box9 hgrow9
                    have hc9 := (blk1 hb9).1
                    have hf9 := (blk1 hb9).2
                    have HB9 := hide hbo9
                    clear hbo9 hb9 hown9 hgrow9 hat9 hwx hw8 hwo c0 c1 c2 c3 c4 c5 d5 d5f f0 f1 f2 f3 f4 f5 e0 hbx hlook
                    have HR2 := hide (show (R ++ [(⟨bareO t, .slice Ao t.refs.length co, .slice none 0 0⟩ : OV)]).map OV.o = ((l.take (k + 1)).filter (keepO l)).map bareO from by
                      rw [HNX.out, if_pos HQ.out, List.map_append, HR.out]; rfl)
                    go_wp2_with fail
                    refine ⟨⟨k + 1, R ++ [(⟨bareO t, .slice Ao t.refs.length co, .slice none 0 0⟩ : OV)], some ⟨g9, 0, none⟩, cap, HKL.out, by go_num, HB9, HR2⟩, ?_⟩
                    have := HMS.out
                    simp [intOf]; omega
                  | false =>
                    have HQ := hide (show keepO l t = false from by unfold keepO; rw [decide_eq_false (show ¬ t.kind ≠ 1 from fun h => h h1), hrd]; simp)
                    rw [hrd] at hlook
                    clear h1 h3 hrd
                    have HR2 := hide (show R.map OV.o = ((l.take (k + 1)).filter (keepO l)).map bareO from by
                      rw [HNX.out, if_neg (by rw [HQ.out]; exact Bool.false_ne_true), List.append_nil, HR.out])
                    go_wp2_with fail
                    refine ⟨⟨k + 1, R, Ar, cr, HKL.out, by go_num, HB8, HR2⟩, ?_⟩
                    have := HMS.out
                    simp [intOf]; omega
                · have p1 : (t.kind != 1) = true := by simpa using h1
                  have HQ := hide (show keepO l t = true from by unfold keepO; rw [decide_eq_true h3, decide_eq_true h1]; rfl)
                  clear h1 h3
                  obtain ⟨wx, hwx⟩ : ∃ wx, w8.alloc (.cells (#[.string t.id, .int .i64 t.kind, .int .i64 t.x, .int .i64 t.y, .slice Ao t.refs.length co, .slice none 0 0] : Array Value) 42) = wx := ⟨_, rfl⟩
                  have hbx8 : Below w8.heap.size w8 wx := by rw [← hwx]; exact (Below.refl _ _).alloc (Nat.le_refl _) _
                  have HBX := hide (HB8.out.lift hbx8)
                  have HXX := hide hbx8
                  have HNC := hide (show ∀ j u, ((⟨bareO t, .slice Ao t.refs.length co, .slice none 0 0⟩ : OV)).cells[j]? = some u → wx.cell? (Addr.add ⟨w8.heap.size, 0, none⟩ j) = some u from fun j u hj => by rw [← hwx]; exact new_cells w8 ((⟨bareO t, .slice Ao t.refs.length co, .slice none 0 0⟩ : OV)).cells 42 j u hj)
                  have HSZ := hide (show wx.heap.size = w8.heap.size + 1 from by rw [← hwx]; simp)
                  clear hbx8
                  go_wp2_with (at_builtin; go_must (refine wpList_append_lies _ rfl (.tmp 77) (.tmp 79) 22 rfl w4.heap.size 42 i0 (.agg #[.string ⟨#[]⟩, .int .i64 0, .int .i64 0, .int .i64 0, .slice none 0 0, .slice none 0 0]) 6 88 Try.underlying22 HI.out HZ0.out HZ1.out HZ2.out rfl (by decide) (.slice Ar R.length cr) R.length (cellsX R) rfl ?c0 ⟨w8.heap.size, 0, none⟩ 1 1 ((⟨bareO t, .slice Ao t.refs.length co, .slice none 0 0⟩ : OV)).cells rfl rfl ?c1 ?c2 (by decide) ?c3 ?c4 ?c5 (w8.heap.size + 1) ?c6 ?_))
                  case c0 => exact HBX.out.row
                  case c1 => exact HNC.out
                  case c2 => intro u hu; simp [OV.cells] at hu; rcases hu with rfl | rfl | rfl | rfl | rfl | rfl <;> rfl
                  case c3 => unfold maxLen; have := HRL.out; have := HK24.out; omega
                  case c4 => have := HRL.out; have := HK24.out; omega
                  case c5 => exact HBX.out.below.size
                  case c6 => exact HSZ.out
                  intro g9 cap w9 hown9 hgrow9 hat9 _
                  have hbo9 := BoI.more (x := (⟨bareO t, .slice Ao t.refs.length co, .slice none 0 0⟩ : OV)) HBX.out (HS8.out.below HXX.out) ⟨none, 0, rfl, .inl rfl⟩ HAP.out (fun h => (h rfl).elim) hown9 hgrow9 (by rw [HSZ.out]; exact hat9)
                  have hb9 := HBX.out.box9 hgrow9
                  have hc9 := (blk1 hb9).1
                  have hf9 := (blk1 hb9).2
                  have HB9 := hide hbo9
                  clear hbo9 hb9 hown9 hgrow9 hat9 hwx hw8 hwo c0 c1 c2 c3 c4 c5 d5 d5f f0 f1 f2 f3 f4 f5 e0 hbx hlook
                  have HR2 := hide (show (R ++ [(⟨bareO t, .slice Ao t.refs.length co, .slice none 0 0⟩ : OV)]).map OV.o = ((l.take (k + 1)).filter (keepO l)).map bareO from by
                    rw [HNX.out, if_pos HQ.out, List.map_append, HR.out]; rfl)
                  go_wp2_with fail
                  refine ⟨⟨k + 1, R ++ [(⟨bareO t, .slice Ao t.refs.length co, .slice none 0 0⟩ : OV)], some ⟨g9, 0, none⟩, cap, HKL.out, by go_num, HB9, HR2⟩, ?_⟩
                  have := HMS.out
                  simp [intOf]; omega
            · obtain rfl : k = l.length := by omega
              have hR2 := hR.out
              rw [List.take_length] at hR2
              have hR3 : R.map OV.o = bareL l := hR2
              have hmi : MapI wr (.slice Ar R.length cr) (bareL l) := by
                refine ⟨?_, ?_, fun o' ho => ?_⟩
                · have := hbo.out.obs
                  rw [hR3] at this
                  exact this
                · unfold bareL
                  rw [List.length_map]
                  have := List.length_filter_le (keepO l) l
                  omega
                · obtain ⟨o, ho2, _, rfl⟩ := mem_bare.1 ho
                  exact okO_bare (HL24.out.2 o ho2)
              have HTW := hide (show TwM w w.heap.size w4.heap.size (.slice A l.length c) (.slice Ar R.length cr) l (bareL l) wr from ⟨HMI4.out.below hbo.out.below, hmi, blkB hbo.out.below HM4.out, hbo.out.box, bto HB4.out hbo.out.below⟩)
              have C1 := hide (fun W (h : MapI W (.slice A l.length c) l) => check_any l _ W h)
              have C2 := hide (fun W (h : MapI W (.slice Ar R.length cr) (bareL l)) => check_any _ _ W h)
              have A1 := hide (fun W (h : MapI W (.slice A l.length c) l) => arcs_any l _ W h)
              have A2 := hide (fun W (h : MapI W (.slice Ar R.length cr) (bareL l)) => arcs_any _ _ W h)
              have P1 := hide (fun W (h : MapI W (.slice A l.length c) l) => parts_any l _ W h)
              have P2 := hide (fun W (h : MapI W (.slice Ar R.length cr) (bareL l)) => parts_any _ _ W h)
              rw [if_pos HMB.out] at C1 A1
              rw [if_pos (bare_mapB HMB.out), bare_check] at C2
              rw [if_pos (bare_mapB HMB.out), bare_arcs] at A2
              have HS := hide (samevi_true (checkL l) (by have := checkL_len l; omega))
              have HSA := hide (samearcs_true (arcsL l) (by
                refine Nat.le_trans (onceA_len [] (allArcs l)) ?_
                have h1 := allArcs_len l l HL24.out.2
                unfold allArcs
                rw [List.length_nil]
                omega))
              have HLE := hide (fun R => parts_len R l)
              have HPE := hide (fun (R R' : BA → BA) (h : ∀ x y, R x = R y ↔ Con (ER l) x y) h' => bare_parts (R := R) (R' := R') h h')
              have HMT := hide (bare_mapB HMB.out)
              have HTD := hide (HTW.out.lift (below_drew wr))
              clear hR hR2 hR3 hmi hbo hk hlt
              generalize bareL l = T at *
              go_wp2_with fail
              go_region_held3 (fun w' => TwM w w.heap.size w4.heap.size (.slice A l.length c) (.slice Ar R.length cr) l T w' ∧ w'.cell? ⟨w.heap.size, 0, none⟩ = some (.slice A l.length c) ∧ w'.cell? ⟨w4.heap.size, 0, none⟩ = some (.slice Ar R.length cr))
                (first | exact HTD.out.cells | exact hk7.cells)
                (first
                  | (go_at_call 13; (with_reducible refine (C1.out _ (TwM.a (And.left (by assumption)))).mono ?_); rintro _ w7 ⟨r1, rfl, h1, b7⟩; have hk7 := TwM.lift (And.left (by assumption)) b7)
                  | (go_at_call 13; (with_reducible refine (C2.out _ (TwM.b (And.left (by assumption)))).mono ?_); rintro _ w7 ⟨r2, rfl, h2, b7⟩; have hk7 := TwM.lift (And.left (by assumption)) b7; have h1' := h1.below b7)
                  | (go_at_call 12; (with_reducible refine (HS.out _ _ _ h1' h2).mono ?_); rintro _ w7 ⟨rfl, b7⟩; have hk7 := TwM.lift (And.left (by assumption)) b7)
                  | (go_at_call 16; (with_reducible refine (A1.out _ (TwM.a (And.left (by assumption)))).mono ?_); rintro _ w7 ⟨r1, rfl, h1, b7⟩; have hk7 := TwM.lift (And.left (by assumption)) b7)
                  | (go_at_call 16; (with_reducible refine (A2.out _ (TwM.b (And.left (by assumption)))).mono ?_); rintro _ w7 ⟨r2, rfl, h2, b7⟩; have hk7 := TwM.lift (And.left (by assumption)) b7; have h1' := h1.below b7)
                  | (go_at_call 15; (with_reducible refine (HSA.out _ _ _ h1' h2).mono ?_); rintro _ w7 ⟨rfl, b7⟩; have hk7 := TwM.lift (And.left (by assumption)) b7)
                  | (go_at_call 19; (with_reducible refine (P1.out _ (TwM.a (And.left (by assumption)))).mono ?_); rintro _ w7 ⟨r1, rfl, b7, _, h1⟩; obtain ⟨R1, q1, h1⟩ := h1 HMB.out; have hk7 := TwM.lift (And.left (by assumption)) b7)
                  | (go_at_call 19; (with_reducible refine (P2.out _ (TwM.b (And.left (by assumption)))).mono ?_); rintro _ w7 ⟨r2, rfl, b7, _, h2⟩; obtain ⟨R2, q2, h2⟩ := h2 HMT.out; have hk7 := TwM.lift (And.left (by assumption)) b7; have h1' := h1.below b7)
                  | (go_at_call 18; (with_reducible refine (lists_true _ (by have := (HLE.out R1).1; omega) (fun r hr => by have := (HLE.out R1).2 r hr; unfold maxLen; omega) _ _ _ h1' (by rw [HPE.out R1 R2 q1 q2]; exact h2)).mono ?_); rintro _ w7 ⟨rfl, b7⟩; have hk7 := TwM.lift (And.left (by assumption)) b7))
              all_goals
                go_wp2_with fail
                go_ret
                exact ⟨rfl, TwM.below (And.left (by assumption))⟩
end Go.Proofs.Ytpiocaomlifljaa
