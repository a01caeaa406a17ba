/-
  network.Allowed at strings of any size; the reference's has and Allowed, walked.
-/
import Derived.Test.YtpiocaomlifljaaNetMd
namespace Go.Proofs.Ytpiocaomlifljaa
open Go.RowKit Go.Proofs.PlLex Go.Proofs.PlNet Go.Proofs.PlMap

theorem NetR.way_all {w W : World} {v : Value} {l : List Ob} {bn bd bw : Nat} {nl wl : List (ByteArray × Value)} (h : NetR w v l bn bd bw nl wl W) {s : ByteArray} (hs : s.size ≤ maxLen) :
    (Instr.lookup 65 (.map (some bw)) (.string s) false).run Try.prog W = .ok ((getL wl s).getD (.slice none 0 0)) W :=
  h.ways.look Try.underlying65 zero_strs (x := s) hs
set_option maxRecDepth 100000 in
set_option maxHeartbeats 8000000 in
theorem allowed_all (l : List Ob) (v : Value) (f n t : ByteArray) (w : World) (hv : MapI w v l) (hf : f.size ≤ maxLen) (ht : t.size ≤ maxLen) :
    Calls Try.prog 21 #[.agg #[v], .string f, .string n, .string t] w fun e w' => e = .returned (.bool (mapB l && allowedB l f n t)) ∧ Below w.heap.size w w' := by
  have HV := hide hv
  obtain ⟨R, hR⟩ : ∃ R, (mapB l && allowedB l f n t) = R := ⟨_, rfl⟩
  rw [hR]
  have HR := hide hR
  clear hR
  obtain ⟨A, c, rfl, _, _⟩ := hv.obs
  obtain ⟨wa, hwa⟩ : ∃ wa, (((w.alloc (.cells #[.slice A l.length c] 24)).alloc (.cells #[.string f] 9)).alloc (.cells #[.string n] 9)).alloc (.cells #[.string t] 9) = wa := ⟨_, rfl⟩
  have ha : Below w.heap.size w wa := by rw [← hwa]; exact ((((Below.refl _ _).alloc (Nat.le_refl _) _).alloc (by simp) _).alloc (by simp <;> omega) _).alloc (by simp <;> omega) _
  have hm : wa.heap[w.heap.size]? = some (.cells #[.slice A l.length c] 24 (0, 0)) := by
    rw [← hwa]
    exact blkB ((((Below.refl _ _).alloc (Nat.le_refl _) _).alloc (by simp) _).alloc (by simp <;> omega) _) (heap_alloc_new w _)
  have hth : ThI (w.heap.size + 1) f n t wa := by
    rw [← hwa]
    refine ⟨blkB (((Below.refl _ _).alloc (Nat.le_refl _) _).alloc (by simp) _) ?_, blkB ((Below.refl _ _).alloc (Nat.le_refl _) _) ?_, ?_⟩
    · have := heap_alloc_new (w.alloc (.cells #[.slice A l.length c] 24)) (.cells #[.string f] 9)
      simpa using this
    · have := heap_alloc_new ((w.alloc (.cells #[.slice A l.length c] 24)).alloc (.cells #[.string f] 9)) (.cells #[.string n] 9)
      simpa using this
    · have := heap_alloc_new (((w.alloc (.cells #[.slice A l.length c] 24)).alloc (.cells #[.string f] 9)).alloc (.cells #[.string n] 9)) (.cells #[.string t] 9)
      simpa using this
  have dm := (blk1 hm).1
  have HOF := hide (of_any l _ wa (hv.below ha).obs hv.len hv.ok)
  have HWA := hide ha
  have HTH := hide hth
  clear hv ha hm hth
  go_enter Try.func21, Try.ntmps21
  go_wp2_with fail
  refine HOF.out.mono ?_
  rintro _ w1 (⟨hmb, rfl, hb⟩ | ⟨hmb, s, nl, wl, rfl, hnr⟩)
  · have HB := hide (bto HWA.out hb)
    have HZ := hide (show R = false from by rw [← HR.out, hmb]; rfl)
    clear hwa dm hb hmb HOF HR
    go_wp2_with fail
    go_quiet (fail)
    go_wp2_with fail
    go_ret
    exact ⟨ret_bool HZ.out.symm, below_drewN' HB.out nq⟩
  · have HR1 := HR.out
    rw [hmb, Bool.true_and] at HR1
    have HR2 := hide HR1
    clear HR HR1
    have hok := HV.out.ok
    obtain ⟨A1, c1, r1, hv1, hw1, HC1⟩ := hnr.way_any hmb hok f
    obtain ⟨A2, c2, r2, hv2, hw2, HC2⟩ := hnr.way_any hmb hok t
    have ya : ∀ u : Gls w1, u.w.cell? ⟨w.heap.size + 1, 0, none⟩ = some (.string f) := fun u => (blk1 (HTH.out.below (bto hnr.below u.2)).b0).1
    have yb : ∀ u : Gls w1, u.w.cell? ⟨w.heap.size + 1 + 1, 0, none⟩ = some (.string n) := fun u => (blk1 (HTH.out.below (bto hnr.below u.2)).b1).1
    have yc : ∀ u : Gls w1, u.w.cell? ⟨w.heap.size + 1 + 1 + 1, 0, none⟩ = some (.string t) := fun u => (blk1 (HTH.out.below (bto hnr.below u.2)).b2).1
    have yd : ∀ u : Gls w1, u.w.cell? ⟨s + 2, 2, none⟩ = some (.map (some (s + 1))) := fun u => cell_of_row u.w _ 2 _ _ _ (hnr.lift u.2).nb
    have l1 : ∀ u : Gls w1, (Instr.lookup 65 (.map (some (s + 1))) (.string f) false).run Try.prog u.w = .ok (.slice A1 r1.length c1) u.w := fun u => by have := (hnr.lift u.2).way_all hf; rw [hv1] at this; exact this
    have l2 : ∀ u : Gls w1, (Instr.lookup 65 (.map (some (s + 1))) (.string t) false).run Try.prog u.w = .ok (.slice A2 r2.length c2) u.w := fun u => by have := (hnr.lift u.2).way_all ht; rw [hv2] at this; exact this
    have YN : Nonempty (Gls w1) := ⟨⟨_, Below.refl _ _⟩⟩
    have HCA := hide (fun u : Gls w1 => HC1 u.w u.2 n)
    have HCB := hide (fun u : Gls w1 => HC2 u.w u.2 n)
    have HNR := hide hnr
    unfold allowedB at HR2
    rw [hw1, hw2] at HR2
    clear hv1 hv2 hw1 hw2 HC1 HC2 HOF hwa dm hnr hmb hok
    generalize hasS n r1 = P1 at *
    generalize hasS n r2 = P2 at *
    cases P1 with
    | false =>
      go_wp2_with fail
      refine wp_region_quietW (J := Gls w1) Gls.w ⟨_, below_drew w1⟩ rfl (by kernel_rfl) (by kernel_rfl) ?_
      repeat (go_big_quiet_step ((first | ((with_reducible refine (HCA.out _).mono ?_); rintro _ w8 ⟨rfl, rfl⟩; exact ⟨rfl, ⟨_, rfl⟩⟩) | ((with_reducible refine (HCB.out _).mono ?_); rintro _ w8 ⟨rfl, rfl⟩; exact ⟨rfl, ⟨_, rfl⟩⟩))))
      refine wpQuiet_nil ?_
      rintro w9 ⟨u, rfl⟩
      have HB := hide (bto HWA.out (bto HNR.out.below u.2))
      clear ya yb yc yd l1 l2 YN HCA HCB
      go_wp2_with fail
      go_ret
      exact ⟨ret_bool (by rw [← HR2.out]; rfl), HB.out⟩
    | true =>
      cases P2 with
      | false =>
        go_wp2_with fail
        refine wp_region_quietW (J := Gls w1) Gls.w ⟨_, below_drew w1⟩ rfl (by kernel_rfl) (by kernel_rfl) ?_
        repeat (go_big_quiet_step ((first | ((with_reducible refine (HCA.out _).mono ?_); rintro _ w8 ⟨rfl, rfl⟩; exact ⟨rfl, ⟨_, rfl⟩⟩) | ((with_reducible refine (HCB.out _).mono ?_); rintro _ w8 ⟨rfl, rfl⟩; exact ⟨rfl, ⟨_, rfl⟩⟩))))
        refine wpQuiet_nil ?_
        rintro w9 ⟨u, rfl⟩
        have HB := hide (bto HWA.out (bto HNR.out.below u.2))
        clear ya yb yc yd l1 l2 YN HCA HCB
        go_wp2_with fail
        go_ret
        exact ⟨ret_bool (by rw [← HR2.out]; rfl), HB.out⟩
      | true =>
        go_wp2_with fail
        refine wp_region_quietW (J := Gls w1) Gls.w ⟨_, below_drew w1⟩ rfl (by kernel_rfl) (by kernel_rfl) ?_
        repeat (go_big_quiet_step ((first | ((with_reducible refine (HCA.out _).mono ?_); rintro _ w8 ⟨rfl, rfl⟩; exact ⟨rfl, ⟨_, rfl⟩⟩) | ((with_reducible refine (HCB.out _).mono ?_); rintro _ w8 ⟨rfl, rfl⟩; exact ⟨rfl, ⟨_, rfl⟩⟩))))
        refine wpQuiet_nil ?_
        rintro w9 ⟨u, rfl⟩
        have hb9 := u.2
        have yn := cell_of_row u.w _ 0 _ _ _ (HNR.out.lift hb9).nb
        simp only [List.getElem?_toArray, List.getElem?_cons_zero] at yn
        have HB := hide (bto HWA.out (bto HNR.out.below u.2))
        have HCT := hide (containsf_turn (w.heap.size + 1) f n t u.w (HTH.out.below (bto HNR.out.below u.2)) l _ (HV.out.below HB.out))
        clear ya yb yc yd l1 l2 YN HCA HCB hb9
        generalize l.any (turnB f n t) = P3 at *
        go_wp2_with fail
        refine HCT.out.mono ?_
        rintro _ w7 ⟨rfl, hb7⟩
        have HM := hide (bto HB.out hb7)
        clear hb7 yn HCT
        go_wp2_with fail
        go_ret
        exact ⟨ret_bool (by rw [← HR2.out]; cases P3 <;> rfl), HM.out⟩

/-- Has the first object with an Id a reference? -/
def hasW (L : List Ob) (f n : BA) : Bool := match findO L f with | none => false | some o => hasS n o.refs
theorem hasW_cons (o : Ob) (L : List Ob) (f n : BA) : hasW (o :: L) f n = if o.id = f then hasS n o.refs else hasW L f n := by
  unfold hasW findO
  rw [List.find?_cons]
  by_cases h : o.id = f
  · simp [h]
  · simp [h]
set_option maxRecDepth 100000 in
set_option maxHeartbeats 8000000 in
theorem has16_any (L : List Ob) (f n : BA) (v : Value) (w : World) (hv : ObsS w v L) (hl : L.length ≤ 100000) (hr : ∀ o ∈ L, o.refs.length ≤ 100000) :
    Calls Try.prog 48 #[v, .string f, .string n] w fun e w' => e = .returned (.bool (hasW L f n)) ∧ w = w' := by
  obtain ⟨R, hR⟩ : ∃ R, hasW L f n = R := ⟨_, rfl⟩
  rw [hR]
  have HR := hide hR
  obtain ⟨A, c, rfl, _, hA⟩ := hv
  have HA := hide hA
  have HRL := hide hr
  clear hA hR hr
  go_enter Try.func48, Try.ntmps48
  go_wp2_with fail
  go_loop [7] (fun i => ∃ k : Nat, k ≤ L.length ∧ i = .int .i64 k ∧ Hid (hasW (L.drop k) f n = R)) (fun i => L.length - (intOf i).toNat)
  case atStart => exact ⟨0, Nat.zero_le _, rfl, HR⟩
  case round =>
    obtain ⟨k, hk, rfl, hn⟩ := hrel
    by_cases hlt : k < L.length
    · obtain ⟨g, o, rfl, hg, hp⟩ := HA.out.resolve_left (by rintro rfl; simp at hlt)
      obtain ⟨rv, tv, hoa⟩ := hp k _ (List.getElem?_eq_getElem hlt)
      have hrl := HRL.out _ (List.getElem_mem hlt)
      have hn2 := hn.out
      rw [drop_ob L k hlt, hasW_cons] at hn2
      generalize L[k] = t at *
      have c0 := hoa.c0
      have c4 := hoa.c4
      have k0 : (0 : Int) ≤ k := by omega
      have k1 : (k : Int) < L.length := by omega
      have HL := hide hlt
      have HM := hide (show L.length - (k + 1) < L.length - k from by omega)
      have HIN := hide (in_any t.refs n rv w hoa.refs hrl)
      by_cases e : t.id = f
      · rw [if_pos e] at hn2
        obtain ⟨e2, e1⟩ := eqS e
        rw [hn2] at HIN
        clear hp hn hn2 hlt e hoa hrl
        go_wp2_with fail
        refine HIN.out.mono ?_
        rintro _ w2 ⟨rfl, rfl⟩
        go_wp2_with fail
        go_ret
        exact ⟨rfl, rfl⟩
      · rw [if_neg e] at hn2
        obtain ⟨e2, e1⟩ := neS e
        have HZ := hide hn2
        clear hp hn hn2 hlt e hoa hrl HIN
        go_wp2_with fail
        refine ⟨⟨k + 1, HL.out, by go_num, HZ⟩, ?_⟩
        have := HM.out
        simp [intOf]; omega
    · have hz : R = false := by rw [← hn.out, List.drop_eq_nil_of_le (by omega)]; rfl
      have HZ := hide hz
      clear hn hz
      go_wp2_with fail
      go_ret
      exact ⟨ret_bool HZ.out.symm, rfl⟩
/-! What the reference says of a turn, in plain Lean. -/
theorem of_ways {l : List Ob} (hm : mapB l = true) : ofL l 2 = waysO l := by
  unfold ofL waysO
  rw [if_pos hm]
  apply List.filter_congr
  intro o _
  unfold sndB wayB soundW
  by_cases h : o.kind = 2
  · simp [h]
  · simp [h]
theorem hasW_way {l : List Ob} (hm : mapB l = true) (f n : BA) : hasW (ofL l 2) f n = hasS n ((wayAt l f).getD []) := by
  rw [of_ways hm]
  unfold hasW wayAt
  cases findO (waysO l) f <;> rfl
def turn3 (f n t : BA) (o : Ob) : Bool := (refAt o 0).toList == f.toList && ((refAt o 1).toList == n.toList && (refAt o 2).toList == t.toList)
def allowedR (l : List Ob) (f n t : BA) : Bool := hasW (ofL l 2) f n && (hasW (ofL l 2) t n && !(ofL l 5).any (turn3 f n t))
theorem list3 {r : List BA} (h : r.length = 3) : r = [r.getD 0 ⟨#[]⟩, r.getD 1 ⟨#[]⟩, r.getD 2 ⟨#[]⟩] := by
  match r, h with
  | [a, b, c], _ => rfl
theorem way_has_node {l : List Ob} {f n : BA} (h : hasS n ((wayAt l f).getD []) = true) : (wayAt l f).isSome = true ∧ isNode l n = true := by
  cases e : wayAt l f with
  | none => rw [e] at h; cases h
  | some r =>
    rw [e] at h
    obtain ⟨_, _, _, _, _, h5⟩ := wayAt_some e
    exact ⟨rfl, h5 n ((hasS_mem _ _).1 h)⟩
theorem allowed_ref {l : List Ob} (f n t : BA) : allowedR l f n t = (mapB l && allowedB l f n t) := by
  cases hm : mapB l with
  | false =>
    unfold allowedR ofL
    rw [hm]
    rfl
  | true =>
    unfold allowedR allowedB
    rw [hasW_way hm, hasW_way hm, Bool.true_and]
    cases h1 : hasS n ((wayAt l f).getD []) with
    | false => rfl
    | true =>
      cases h2 : hasS n ((wayAt l t).getD []) with
      | false => rfl
      | true =>
        simp only [Bool.true_and]
        congr 1
        obtain ⟨w1, hn⟩ := way_has_node h1
        obtain ⟨w2, _⟩ := way_has_node h2
        rw [Bool.eq_iff_iff, List.any_eq_true, List.any_eq_true]
        unfold ofL
        rw [if_pos hm]
        constructor
        · rintro ⟨o, ho, h⟩
          obtain ⟨ho1, ho2⟩ := List.mem_filter.1 ho
          refine ⟨o, ho1, ?_⟩
          unfold sndB at ho2
          rw [Bool.and_eq_true, decide_eq_true_eq] at ho2
          obtain ⟨h3, _⟩ := turn_refs hm ho1 ho2.1
          unfold turn3 refAt at h
          simp only [Bool.and_eq_true, beq_iff_eq, toList_inj] at h
          unfold turnB sameR
          rw [decide_eq_true ho2.1, list3 h3, h.1, h.2.1, h.2.2]
          simp
        · rintro ⟨o, ho, h⟩
          unfold turnB sameR at h
          rw [Bool.and_eq_true, decide_eq_true_eq, decide_eq_true_eq] at h
          refine ⟨o, List.mem_filter.2 ⟨ho, ?_⟩, ?_⟩
          · unfold sndB
            rw [decide_eq_true h.1, kind5_sound h.1]
            unfold soundB
            rw [h.1, h.2]
            simp [soundL, w1, w2, hn]
          · unfold turn3 refAt
            rw [h.2]
            simp
theorem ofL_sub {l : List Ob} {K : Int} {o : Ob} (h : o ∈ ofL l K) : mapB l = true ∧ o ∈ l ∧ o.kind = K ∧ soundW l o = true := by
  unfold ofL at h
  split at h
  · rename_i hm
    obtain ⟨h1, h2⟩ := List.mem_filter.1 h
    unfold sndB at h2
    rw [Bool.and_eq_true, decide_eq_true_eq] at h2
    exact ⟨hm, h1, h2.1, h2.2⟩
  · cases h
theorem ofL_len (l : List Ob) (K : Int) : (ofL l K).length ≤ l.length := by
  unfold ofL
  split
  · exact List.length_filter_le _ _
  · exact Nat.zero_le _
set_option maxRecDepth 100000 in
set_option maxHeartbeats 16000000 in
theorem allowed16_any (l : List Ob) (v : Value) (f n t : BA) (w : World) (hv : MapI w v l) :
    Calls Try.prog 22 #[.agg #[v], .string f, .string n, .string t] w fun e w' => e = .returned (.bool (mapB l && allowedB l f n t)) ∧ Below w.heap.size w w' := by
  rw [← allowed_ref]
  obtain ⟨R, hR⟩ : ∃ R, allowedR l f n t = R := ⟨_, rfl⟩
  rw [hR]
  have hlen := hv.len
  have HV := hide hv
  have HOK := hide hv.ok
  obtain ⟨A, c, rfl, _, _⟩ := id hv.obs
  obtain ⟨wo, hwo⟩ : ∃ wo, w.alloc (.cells #[.slice A l.length c] 24) = wo := ⟨_, rfl⟩
  have HBO : Hid (Below w.heap.size w wo) := by rw [← hwo]; exact (Below.refl _ _).alloc (Nat.le_refl _) _
  have hbl : wo.heap[w.heap.size]? = some (.cells #[.slice A l.length c] 24 (0, 0)) := by rw [← hwo]; exact heap_alloc_new _ _
  have HBL := hide hbl
  have dm := (blk1 hbl).1
  have HO2 := hide (of16_any l _ 2 wo (HV.out.below HBO.out))
  unfold allowedR at hR
  have HR := hide hR
  clear hv hbl hR
  go_enter Try.func22, Try.ntmps22
  go_wp2_with fail
  refine HO2.out.mono ?_
  rintro _ w2 ⟨rv, rfl, hob, b2⟩
  have HB2 := hide b2
  have e0 := (blk1 (blkB b2 HBL.out)).1
  have hlw := ofL_len l 2
  have HH := hide (fun (s : BA) => has16_any (ofL l 2) s n rv w2 hob (by omega) (fun o ho => (HOK.out o (ofL_sub ho).2.1).2.1))
  obtain ⟨Aw, cw, rfl, _⟩ := id hob
  obtain ⟨p1, hp1⟩ := bool_of (b := hasW (ofL l 2) f n)
  obtain ⟨p2, hp2⟩ := bool_of (b := hasW (ofL l 2) t n)
  have hF := HH.out f
  have hT := HH.out t
  rw [hp1] at hF
  rw [hp2] at hT
  have HF := hide hF
  have HT := hide hT
  have hR2 := HR.out
  rw [hp1, hp2] at hR2
  have HR2 := hide hR2
  clear hwo dm HO2 b2 HH hF hT hp1 hp2 hob hR2 hlw
  generalize (ofL l 2).length = lw at *
  cases p1 with
  | false =>
    have HZ := hide (show R = false from by rw [← HR2.out]; rfl)
    go_wp2_with fail
    refine HF.out.mono ?_
    rintro _ w3 ⟨rfl, rfl⟩
    go_wp2_with fail
    go_ret
    exact ⟨ret_bool HZ.out.symm, bto HBO.out HB2.out⟩
  | true =>
    cases p2 with
    | false =>
      have HZ := hide (show R = false from by rw [← HR2.out]; rfl)
      go_wp2_with fail
      refine HF.out.mono ?_
      rintro _ w3 ⟨rfl, rfl⟩
      go_wp2_with fail
      refine HT.out.mono ?_
      rintro _ w4 ⟨rfl, rfl⟩
      go_wp2_with fail
      go_ret
      exact ⟨ret_bool HZ.out.symm, bto HBO.out HB2.out⟩
    | true =>
      have HO5 := hide (of16_any l _ 5 w2 (HV.out.below (bto HBO.out HB2.out)))
      have HR3 : Hid ((!((ofL l 5).drop 0).any (turn3 f n t)) = R) := hide (by rw [← HR2.out]; simp)
      have hl5 := ofL_len l 5
      have HSUB := hide (fun (o : Ob) (ho : o ∈ ofL l 5) => turn_refs (ofL_sub ho).1 (ofL_sub ho).2.1 (ofL_sub ho).2.2.1)
      generalize ofL l 5 = L at *
      clear HR HR2
      go_wp2_with fail
      refine HF.out.mono ?_
      rintro _ w3 ⟨rfl, rfl⟩
      go_wp2_with fail
      refine HT.out.mono ?_
      rintro _ w4 ⟨rfl, rfl⟩
      go_wp2_with fail
      refine HO5.out.mono ?_
      rintro _ w5 ⟨rv5, rfl, hob5, b5⟩
      obtain ⟨A5, c5, rfl, _, hA5⟩ := hob5
      have HA5 := hide hA5
      have HB5 := hide (bto HBO.out (bto HB2.out b5))
      clear hA5 b5 e0 HO5 HF HT
      go_wp2_with fail
      go_loop [11] (fun i => ∃ k : Nat, k ≤ L.length ∧ i = .int .i64 k ∧ Hid ((!(L.drop k).any (turn3 f n t)) = R)) (fun i => L.length - (intOf i).toNat)
      case atStart => exact ⟨0, Nat.zero_le _, rfl, HR3⟩
      case round =>
        obtain ⟨k, hk, rfl, hn⟩ := hrel
        by_cases hlt : k < L.length
        · obtain ⟨g, o, rfl, hg, hp⟩ := HA5.out.resolve_left (by rintro rfl; simp at hlt)
          obtain ⟨rv, tv, hoa⟩ := hp k _ (List.getElem?_eq_getElem hlt)
          obtain ⟨h3, r0, r1, r2, hr⟩ := HSUB.out _ (List.getElem_mem hlt)
          have hn2 := hn.out
          rw [drop_ob L k hlt, List.any_cons] at hn2
          generalize L[k] = z at *
          obtain ⟨Az, cz, hrz, _, hsz⟩ := id hoa.refs
          subst hrz
          have c4 := hoa.c4
          rw [h3] at c4
          rw [hr] at hsz
          obtain ⟨g3, o3, rfl, hg3, hp3⟩ := hsz.resolve_left (List.cons_ne_nil _ _)
          have t0 : w5.cell? ⟨g3, o3, none⟩ = some (.string r0) := by have := hp3 0 _ rfl; rwa [Nat.add_zero] at this
          have t1 : w5.cell? ⟨g3, o3 + 1, none⟩ = some (.string r1) := hp3 1 _ rfl
          have t2 : w5.cell? ⟨g3, o3 + 2, none⟩ = some (.string r2) := hp3 2 _ rfl
          have ht3 : turn3 f n t z = (r0.toList == f.toList && (r1.toList == n.toList && r2.toList == t.toList)) := by
            unfold turn3 refAt
            rw [hr]
            rfl
          rw [ht3] at hn2
          have k0 : (0 : Int) ≤ k := by omega
          have k1 : (k : Int) < L.length := by omega
          have HL := hide hlt
          have HM := hide (show L.length - (k + 1) < L.length - k from by omega)
          obtain ⟨x0, hx0⟩ := bool_of (b := (r0.toList == f.toList))
          obtain ⟨x1, hx1⟩ := bool_of (b := (r1.toList == n.toList))
          obtain ⟨x2, hx2⟩ := bool_of (b := (r2.toList == t.toList))
          rw [hx0, hx1, hx2] at hn2
          have HN2 := hide hn2
          have y0 : (x0 = true → r0.toList = f.toList) ∧ (x0 = false → ¬ r0.toList = f.toList) := ⟨fun h => by rw [h] at hx0; simpa using hx0, fun h e => by rw [h, e] at hx0; simp at hx0⟩
          have y1 : (x1 = true → r1.toList = n.toList) ∧ (x1 = false → ¬ r1.toList = n.toList) := ⟨fun h => by rw [h] at hx1; simpa using hx1, fun h e => by rw [h, e] at hx1; simp at hx1⟩
          have y2 : (x2 = true → r2.toList = t.toList) ∧ (x2 = false → ¬ r2.toList = t.toList) := ⟨fun h => by rw [h] at hx2; simpa using hx2, fun h e => by rw [h, e] at hx2; simp at hx2⟩
          clear hp hn hn2 hlt hoa h3 hr hsz hp3 hg3 ht3
          have hcs : (x0 = true ∧ x1 = true ∧ x2 = true) ∨ (x0 = false ∨ (x0 = true ∧ x1 = false) ∨ (x0 = true ∧ x1 = true ∧ x2 = false)) := by cases x0 <;> cases x1 <;> cases x2 <;> simp
          rcases hcs with ⟨rfl, rfl, rfl⟩ | hcs
          · have HZ := hide (show R = false from by rw [← HN2.out]; simp)
            replace y0 := y0.1 rfl
            replace y1 := y1.1 rfl
            replace y2 := y2.1 rfl
            go_wp2_with fail
            go_ret
            exact ⟨ret_bool HZ.out.symm, HB5.out⟩
          · have HZ : Hid ((!(L.drop (k + 1)).any (turn3 f n t)) = R) := by
              rw [← HN2.out]
              rcases hcs with rfl | ⟨rfl, rfl⟩ | ⟨rfl, rfl, rfl⟩ <;> exact hide (by simp)
            rcases hcs with rfl | ⟨rfl, rfl⟩ | ⟨rfl, rfl, rfl⟩
            all_goals as_aux_lemma =>
              try replace y0 := y0.1 rfl
              try replace y0 := y0.2 rfl
              try replace y1 := y1.1 rfl
              try replace y1 := y1.2 rfl
              try replace y2 := y2.2 rfl
              go_wp2_with fail
              refine ⟨⟨k + 1, HL.out, by go_num, HZ⟩, ?_⟩
              have := HM.out
              simp [intOf]; omega
        · have hz : R = true := by rw [← hn.out, List.drop_eq_nil_of_le (by omega)]; rfl
          have HZ := hide hz
          clear hn hz
          go_wp2_with fail
          go_ret
          exact ⟨ret_bool HZ.out.symm, HB5.out⟩
end Go.Proofs.Ytpiocaomlifljaa
