/-
  network.Check, walked.
-/
import Derived.Test.YtpiocaomlifljaaNetL
namespace Go.Proofs.Ytpiocaomlifljaa
open Go.RowKit Go.Proofs.PlLex Go.Proofs.PlNet Go.Proofs.PlMap

/-- What a map must be for the network's functions to answer: the premises of their contracts. -/
structure MapI (w : World) (v : Value) (l : List Ob) : Prop where
  obs : ObsS w v l
  len : l.length ≤ 100000
  ok : ∀ o ∈ l, okO o
theorem MapI.below {w w' : World} {v : Value} {l : List Ob} (h : MapI w v l) (hb : Below w.heap.size w w') : MapI w' v l := ⟨h.obs.below hb, h.len, h.ok⟩
theorem soundL_ways {l : List Ob} {k : Int} (h4 : k ≠ 5) : ∀ (i : Nat) (r : List ByteArray), soundL l k i r = true → ∀ s ∈ r, (wayAt l s).isSome = true
  | _, [], _, s, hs => nomatch hs
  | i, x :: r, h, s, hs => by
    rw [soundL, if_neg (fun e => h4 e.1), Bool.and_eq_true] at h
    rcases List.mem_cons.1 hs with e | e
    · rw [e]; exact h.1
    · exact soundL_ways h4 (i + 1) r h.2 s e
theorem obB_turn {o : Ob} (h : obB o = true) (h5 : o.kind = 5) : o.refs.length = 3 := by
  unfold obB tailB at h
  rw [if_neg (by omega), if_pos h5] at h
  simp only [Bool.and_eq_true, decide_eq_true_eq] at h
  exact h.2.1
theorem soundB_turn {l : List Ob} {o : Ob} (h : soundB l o = true) (h5 : o.kind = 5) (h3 : o.refs.length = 3) : (wayAt l (refAt o 0)).isSome = true ∧ isNode l (refAt o 1) = true ∧ (wayAt l (refAt o 2)).isSome = true := by
  obtain ⟨id, k, x, y, refs, tags⟩ := o
  simp only at h5 h3
  obtain ⟨a, b, c, rfl⟩ : ∃ a b c, refs = [a, b, c] := by
    match refs, h3 with
    | [a, b, c], _ => exact ⟨a, b, c, rfl⟩
  subst h5
  unfold soundB at h
  simp only [soundL, Bool.and_eq_true] at h
  rw [if_neg (by omega), if_pos (by exact ⟨trivial, trivial⟩), if_neg (by omega)] at h
  exact ⟨h.1, h.2.1, h.2.2.1⟩
theorem badR_snoc (l : List Ob) (p : Ob → Bool) (k : Nat) (h : k < l.length) : (l.take (k + 1)).filter p = (l.take k).filter p ++ (if p l[k] then [l[k]] else []) := by
  rw [List.take_succ_eq_append_getElem h, List.filter_append]
  congr 1
  simp only [List.filter_cons, List.filter_nil]

set_option maxRecDepth 100000 in
set_option maxHeartbeats 8000000 in
theorem check_any (l : List Ob) (v : Value) (w : World) (hv : MapI w v l) :
    Calls Try.prog 13 #[.agg #[v]] w fun e w' => ∃ rv, e = .returned rv ∧ ViS w' rv (if mapB l then checkL l else []) ∧ Below w.heap.size w w' := by
  have HOF := hide (fun w' (hb : Below w.heap.size w w') => of_any l v w' (hv.below hb).obs hv.len hv.ok)
  have HV := hide hv
  obtain ⟨i0, hi, hz0, hz1, hz2⟩ := info_parts info_vi
  have HI := hide hi
  have HZ0 := hide hz0
  have HZ1 := hide hz1
  have HZ2 := hide hz2
  have hl := hv.len
  obtain ⟨A, c, rfl, _, hA⟩ := hv.obs
  have HA := hide hA
  obtain ⟨wa, hwa⟩ : ∃ wa, w.alloc (.cells #[.slice A l.length c] 24) = wa := ⟨_, rfl⟩
  have ha : Below w.heap.size w wa := by rw [← hwa]; exact (Below.refl _ _).alloc (Nat.le_refl _) _
  have hm : wa.heap[w.heap.size]? = some (.cells #[.slice A l.length c] 24 (0, 0)) := by rw [← hwa]; exact heap_alloc_new w _
  have dm := (blk1 hm).1
  have HOF2 := hide (HOF.out wa ha)
  clear hi hz0 hz1 hz2 hA hv HOF
  cases hmb : mapB l with
  | false =>
    rw [hmb] at HOF2
    clear hmb
    go_enter Try.func13, Try.ntmps13
    go_wp2_with fail
    refine HOF2.out.mono ?_
    rintro _ w1 (⟨_, rfl, hb⟩ | ⟨h, _⟩)
    · have HB := hide (bto ha hb)
      clear hwa ha hm dm hb
      go_wp2_with fail
      go_ret
      exact ⟨_, rfl, ⟨none, 0, rfl, .inl rfl⟩, HB.out⟩
    · cases h
  | true =>
    rw [hmb] at HOF2
    have HMB := hide hmb
    clear hmb
    go_enter Try.func13, Try.ntmps13
    go_wp2_with fail
    refine HOF2.out.mono ?_
    rintro _ w1 (⟨h, _⟩ | ⟨_, s, nl, wl, rfl, hnr⟩)
    · cases h
    have HN := hide hnr
    have n0 : w1.cell? ⟨s + 2, 0, none⟩ = some (.slice A l.length c) := cell_of_row w1 _ 0 _ _ _ hnr.nb
    have HWA := hide ha
    clear hwa hm dm ha HOF2 hnr
    go_wp2_with fail
    have HC0 : Hid (CkI w1 [] [] (.slice none 0 0) (.slice none 0 0) w1) := CkI.nil (Below.refl _ _)
    clear n0
    go_loopw [5, 6, 21] (fun u5 u6 i wr => ∃ (k : Nat) (R T : List Vr) (Ar At : Option Addr) (cr ct : Nat), k ≤ l.length ∧ i = .int .i64 k ∧ u5 = .slice Ar R.length cr ∧ u6 = .slice At T.length ct ∧ Hid (CkI w1 R T (.slice Ar R.length cr) (.slice At T.length ct) wr) ∧ Hid (Below w1.heap.size w1 wr) ∧ Hid (R.map Vr.pair = ((l.take k).filter (badRoute l)).map (fun o => (5, o.id))) ∧ Hid (T.map Vr.pair = ((l.take k).filter (badTurn l)).map (fun o => (6, o.id)))) (fun _ _ i _ => l.length - (intOf i).toNat)
    case atStart => exact ⟨0, [], [], none, none, 0, 0, Nat.zero_le _, rfl, rfl, rfl, HC0, Below.refl _ _, rfl, rfl⟩
    case round =>
      obtain ⟨k, R, T, Ar, At, cr, ct, hk, rfl, rfl, rfl, hck, hbw, hR, hT⟩ := hrel
      by_cases hlt : k < l.length
      · obtain ⟨g, o, rfl, hg, hp⟩ := HA.out.resolve_left (by rintro rfl; simp at hlt)
        obtain ⟨rv, tv, hoa⟩ := hp k _ (List.getElem?_eq_getElem hlt)
        have hmem := List.getElem_mem hlt
        have hok := HV.out.ok _ hmem
        have hvo := mapB_obs HMB.out _ hmem
        have hsr := badR_snoc l (badRoute l) k hlt
        have hst := badR_snoc l (badTurn l) k hlt
        generalize l[k] = t at *
        obtain ⟨Ao, co, hrv, _⟩ := id hoa.refs
        obtain ⟨Ag, cg, htv, _⟩ := id hoa.tags
        subst hrv
        subst htv
        have hbl := bto HWA.out (bto HN.out.below hbw.out)
        have hoa2 := hoa.below hg HWA.out
        obtain ⟨c0, c1, c2, c3, c4, c5, _, _⟩ := hoa.below hg hbl
        obtain ⟨wo, hwo⟩ : ∃ wo, wr.alloc (.cells #[.string t.id, .int .i64 t.kind, .int .i64 t.x, .int .i64 t.y, .slice Ao t.refs.length co, .slice Ag t.tags.length cg] 42) = wo := ⟨_, rfl⟩
        have hblk : wo.heap[wr.heap.size]? = some (.cells #[.string t.id, .int .i64 t.kind, .int .i64 t.x, .int .i64 t.y, .slice Ao t.refs.length co, .slice Ag t.tags.length cg] 42 (0, 0)) := by rw [← hwo]; exact heap_alloc_new _ _
        have hbo : Below wr.heap.size wr wo := by rw [← hwo]; exact (Below.refl _ _).alloc (Nat.le_refl _) _
        have d0 := cell_of_row wo _ 0 _ _ _ hblk
        have d1 := cell_of_row wo _ 1 _ _ _ hblk
        have d2 := cell_of_row wo _ 2 _ _ _ hblk
        have d3 := cell_of_row wo _ 3 _ _ _ hblk
        have d4 := cell_of_row wo _ 4 _ _ _ hblk
        have d5 := cell_of_row wo _ 5 _ _ _ hblk
        simp only [List.getElem?_toArray, List.getElem?_cons_zero, List.getElem?_cons_succ] at d0 d1 d2 d3 d4 d5
        have HSO := hide (fun W (hb : Below w1.heap.size w1 W) => sound_any wa W _ l (s + 2) s (s + 1) nl wl (HN.out.lift hb) HMB.out HV.out.ok t _ _ hoa2.refs hoa2.tags hok)
        have HCO := hide (fun (h4 : t.kind ≠ 5) (hsd : soundB l t = true) W (hb : Below w1.heap.size w1 W) => connected_any wa W _ l (s + 2) s (s + 1) nl wl (HN.out.lift hb) HMB.out HV.out.ok t _ _ hoa2.refs hoa2.tags hok (soundL_ways h4 0 t.refs hsd))
        have HME := hide (fun (h5 : t.kind = 5) (hsd : soundB l t = true) W (hb : Below w1.heap.size w1 W) => meets_any wa W _ l (s + 2) s (s + 1) nl wl (HN.out.lift hb) HMB.out HV.out.ok t _ _ hoa2.refs hoa2.tags hok (obB_turn hvo h5) (soundB_turn hsd h5 (obB_turn hvo h5)).1 (soundB_turn hsd h5 (obB_turn hvo h5)).2.2)
        unfold obV at HSO HCO HME
        have k0 : (0 : Int) ≤ k := by omega
        have k1 : (k : Int) < l.length := by omega
        have HL := hide hlt
        have HMS := hide (show l.length - (k + 1) < l.length - k from by omega)
        have HBO := hide (bto hbw.out hbo)
        have HCK := hide (hck.out.lift hbo)
        have HBL := hide hblk
        have HSR := hide hsr
        have HST := hide hst
        have HRL : R.length ≤ k := by have := congrArg List.length hR.out; simp only [List.length_map] at this; have h2 := filter_len (l.take k) (badRoute l); rw [List.length_take] at h2; omega
        have HTL : T.length ≤ k := by have := congrArg List.length hT.out; simp only [List.length_map] at this; have h2 := filter_len (l.take k) (badTurn l); rw [List.length_take] at h2; omega
        have HR := hide hR.out
        have HT := hide hT.out
        clear hlt hp hoa hoa2 hok hvo hsr hst hmem hbl hbw hck hR hT hblk hbo
        by_cases h4 : t.kind = 4
        · have hnt : badTurn l t = false := by unfold badTurn; rw [decide_eq_false (by omega)]; rfl
          have HT2 : Hid (T.map Vr.pair = ((l.take (k + 1)).filter (badTurn l)).map (fun o => (6, o.id))) := by
            have := HT.out
            rw [HST.out, hnt, if_neg (by decide), List.append_nil]
            exact this
          have hne : t.kind ≠ 5 := by omega
          have hbr : badRoute l t = (soundB l t && !connB l t.refs) := by unfold badRoute; rw [decide_eq_true h4]; rfl
          rw [hbr] at HSR
          have HCO2 := hide (HCO.out hne)
          clear hbr hnt HST HT HME HCO hne
          rw [h4] at c1 d1 hwo HBL HSO HCO2
          cases hsd : soundB l t with
          | false =>
            rw [hsd] at HSR HSO
            have HR2 : Hid (R.map Vr.pair = ((l.take (k + 1)).filter (badRoute l)).map (fun o => (5, o.id))) := by
              have := HR.out
              rw [HSR.out, Bool.false_and, if_neg (by decide), List.append_nil]
              exact this
            clear HSR HR HCO2 hsd
            go_wp2_with fail
            refine (HSO.out _ HBO.out).mono ?_
            rintro _ w5 ⟨rfl, b5⟩
            have HB5 := hide (bto HBO.out b5)
            have HCK2 := hide (HCK.out.lift b5)
            have e1 := cell_of_row w5 _ 1 _ _ _ (blkB b5 HBL.out)
            simp only [List.getElem?_toArray, List.getElem?_cons_zero, List.getElem?_cons_succ] at e1
            clear hwo c0 c1 c2 c3 c4 c5 d0 d1 d2 d3 d4 d5 HSO HBO HCK b5
            go_wp2_with fail
            refine ⟨⟨k + 1, R, T, Ar, At, cr, ct, HL.out, by go_num, rfl, rfl, HCK2, HB5, HR2, HT2⟩, ?_⟩
            have := HMS.out
            simp [intOf]; omega
          | true =>
            have HCO3 := hide (HCO2.out hsd)
            rw [hsd] at HSR HSO
            cases hcn : connB l t.refs with
            | true =>
              rw [hcn] at HSR HCO3
              have HR2 : Hid (R.map Vr.pair = ((l.take (k + 1)).filter (badRoute l)).map (fun o => (5, o.id))) := by
                have := HR.out
                rw [HSR.out, Bool.not_true, Bool.and_false, if_neg (by decide), List.append_nil]
                exact this
              clear HSR HR HCO2 hsd hcn
              go_wp2_with fail
              refine (HSO.out _ HBO.out).mono ?_
              rintro _ w5 ⟨rfl, b5⟩
              have HB5 := hide (bto HBO.out b5)
              have HCK2 := hide (HCK.out.lift b5)
              have hb5 := blkB b5 HBL.out
              have e0 := cell_of_row w5 _ 0 _ _ _ hb5
              have e1 := cell_of_row w5 _ 1 _ _ _ hb5
              have e2 := cell_of_row w5 _ 2 _ _ _ hb5
              have e3 := cell_of_row w5 _ 3 _ _ _ hb5
              have e4 := cell_of_row w5 _ 4 _ _ _ hb5
              have e5 := cell_of_row w5 _ 5 _ _ _ hb5
              simp only [List.getElem?_toArray, List.getElem?_cons_zero, List.getElem?_cons_succ] at e0 e1 e2 e3 e4 e5
              have HBL5 := hide hb5
              clear hwo c0 c1 c2 c3 c4 c5 d0 d1 d2 d3 d4 d5 HSO HBO HCK b5 hb5 HBL
              go_wp2_with fail
              refine (HCO3.out _ HB5.out).mono ?_
              rintro _ w6 ⟨rfl, b6⟩
              have HB6 := hide (bto HB5.out b6)
              have HCK3 := hide (HCK2.out.lift b6)
              have f1 := cell_of_row w6 _ 1 _ _ _ (blkB b6 HBL5.out)
              simp only [List.getElem?_toArray, List.getElem?_cons_zero, List.getElem?_cons_succ] at f1
              clear e0 e1 e2 e3 e4 e5 HCO3 HB5 HCK2 b6 HBL5
              go_wp2_with fail
              refine ⟨⟨k + 1, R, T, Ar, At, cr, ct, HL.out, by go_num, rfl, rfl, HCK3, HB6, HR2, HT2⟩, ?_⟩
              have := HMS.out
              simp [intOf]; omega
            | false =>
              rw [hcn] at HSR HCO3
              have HR2 : Hid ((R.map Vr.pair) ++ [(5, t.id)] = ((l.take (k + 1)).filter (badRoute l)).map (fun o => (5, o.id))) := by
                have := HR.out
                rw [HSR.out, Bool.not_false, Bool.and_true, if_pos rfl, List.map_append, ← this]
                rfl
              clear HSR HR HCO2 hsd hcn
              go_wp2_with fail
              refine (HSO.out _ HBO.out).mono ?_
              rintro _ w5 ⟨rfl, b5⟩
              have HB5 := hide (bto HBO.out b5)
              have HCK4 := hide (HCK.out.lift b5)
              have hb5 := blkB b5 HBL.out
              have e0 := cell_of_row w5 _ 0 _ _ _ hb5
              have e1 := cell_of_row w5 _ 1 _ _ _ hb5
              have e2 := cell_of_row w5 _ 2 _ _ _ hb5
              have e3 := cell_of_row w5 _ 3 _ _ _ hb5
              have e4 := cell_of_row w5 _ 4 _ _ _ hb5
              have e5 := cell_of_row w5 _ 5 _ _ _ hb5
              simp only [List.getElem?_toArray, List.getElem?_cons_zero, List.getElem?_cons_succ] at e0 e1 e2 e3 e4 e5
              have HBL5 := hide hb5
              clear hwo c0 c1 c2 c3 c4 c5 d0 d1 d2 d3 d4 d5 HSO HBO HCK b5 hb5 HBL
              go_wp2_with fail
              refine (HCO3.out _ HB5.out).mono ?_
              rintro _ wf ⟨rfl, b6⟩
              have HB6 := hide (bto HB5.out b6)
              have HCK2 := hide (HCK4.out.lift b6)
              have f0 := cell_of_row wf _ 0 _ _ _ (blkB b6 HBL5.out)
              simp only [List.getElem?_toArray, List.getElem?_cons_zero] at f0
              clear e0 e1 e2 e3 e4 e5 HCO3 HB5 HCK4 b6 HBL5
              go_wp2_with (at_builtin; go_must (refine wpList_append_lies _ rfl (.tmp 40) (.tmp 45) 28 rfl w1.heap.size 58 i0 (.agg #[.string ⟨#[]⟩, .int .i64 0, .slice none 0 0]) 3 48 Try.underlying28 HI.out HZ0.out HZ1.out HZ2.out rfl (by decide) (.slice Ar R.length cr) R.length (cellsV R) rfl ?c0 ⟨wf.heap.size + 1, 0, none⟩ 1 1 (Vr.mk 5 t.id wf.heap.size).cells rfl rfl ?c1 ?c2 (by decide) ?c3 ?c4 ?c5 (wf.heap.size + 2) ?c6 ?_))
              case c0 => exact own_below ((HCK2.out)).rr ((Below.refl _ _).alloc (Nat.le_refl _) _ |>.alloc (by simp) _)
              case c1 =>
                intro j u hj
                have := new_cells (wf.alloc (.cells #[.string t.id] 9)) (Vr.mk 5 t.id wf.heap.size).cells 58 j u hj
                simp only [World.size_alloc] at this
                exact this
              case c2 => intro u hu; simp [Vr.cells] at hu; rcases hu with rfl | rfl | rfl <;> rfl
              case c3 => unfold maxLen; omega
              case c4 => omega
              case c5 => have := HCK2.out.below.size; simp; omega
              case c6 => simp
              intro g9 cap w9 hown9 hgrow9 hat9 _
              have hidb : ((wf.alloc (.cells #[.string t.id] 9)).alloc (.cells #[.string ⟨#[]⟩, .int .i64 5, .slice (some ⟨wf.heap.size, 0, none⟩) 1 1] 58)).heap[wf.heap.size]? = some (.cells #[.string t.id] 9 (0, 0)) := blkB ((Below.refl _ _).alloc (Nat.le_refl _) _) (heap_alloc_new _ _)
              have hbb : Below wf.heap.size wf ((wf.alloc (.cells #[.string t.id] 9)).alloc (.cells #[.string ⟨#[]⟩, .int .i64 5, .slice (some ⟨wf.heap.size, 0, none⟩) 1 1] 58)) := (Below.refl _ _).alloc (Nat.le_refl _) _ |>.alloc (by simp) _
              have hck9 := ((HCK2.out).lift hbb).more (k := 5) (id := t.id) (b := wf.heap.size) hidb hown9 hgrow9 (by simpa using hat9)
              have HB9 := hide hck9.below
              have HCK9 := hide hck9
              have HR2 : Hid ((R ++ [(⟨5, t.id, wf.heap.size⟩ : Vr)]).map Vr.pair = ((l.take (k + 1)).filter (badRoute l)).map (fun o => (5, o.id))) := by
                rw [List.map_append]; exact HR2.out
              have hln : Value.slice (some ⟨g9, 0, none⟩) (R.length + 1) cap = .slice (some ⟨g9, 0, none⟩) (R ++ [(⟨5, t.id, wf.heap.size⟩ : Vr)]).length cap := by simp
              have HLN := hide hln
              clear f0 hown9 hgrow9 hat9 hidb hbb hck9 hln HB6 HCK2
              go_wp2_with fail
              refine ⟨⟨k + 1, R ++ [⟨5, t.id, wf.heap.size⟩], T, some ⟨g9, 0, none⟩, At, cap, ct, HL.out, by go_num, HLN.out, rfl, HCK9, HB9, HR2, HT2⟩, ?_⟩
              have := HMS.out
              simp [intOf]; omega
        · by_cases h5 : t.kind = 5
          · have hnt : badRoute l t = false := by unfold badRoute; rw [decide_eq_false (by omega)]; rfl
            have HR2 : Hid (R.map Vr.pair = ((l.take (k + 1)).filter (badRoute l)).map (fun o => (5, o.id))) := by
              have := HR.out
              rw [HSR.out, hnt, if_neg (by decide), List.append_nil]
              exact this
            have hbr : badTurn l t = (soundB l t && !meetsB l t) := by unfold badTurn; rw [decide_eq_true h5]; rfl
            rw [hbr] at HST
            have HCO2 := hide (HME.out h5)
            clear hbr hnt HSR HR HME HCO
            rw [h5] at c1 d1 hwo HBL HSO HCO2
            cases hsd : soundB l t with
            | false =>
              rw [hsd] at HST HSO
              have HT2 : Hid (T.map Vr.pair = ((l.take (k + 1)).filter (badTurn l)).map (fun o => (6, o.id))) := by
                have := HT.out
                rw [HST.out, Bool.false_and, if_neg (by decide), List.append_nil]
                exact this
              clear HST HT HCO2 hsd
              go_wp2_with fail
              refine (HSO.out _ HBO.out).mono ?_
              rintro _ w5 ⟨rfl, b5⟩
              have HB5 := hide (bto HBO.out b5)
              have HCK2 := hide (HCK.out.lift b5)
              have e1 := cell_of_row w5 _ 1 _ _ _ (blkB b5 HBL.out)
              simp only [List.getElem?_toArray, List.getElem?_cons_zero, List.getElem?_cons_succ] at e1
              clear hwo c0 c1 c2 c3 c4 c5 d0 d1 d2 d3 d4 d5 HSO HBO HCK b5
              go_wp2_with fail
              refine ⟨⟨k + 1, R, T, Ar, At, cr, ct, HL.out, by go_num, rfl, rfl, HCK2, HB5, HR2, HT2⟩, ?_⟩
              have := HMS.out
              simp [intOf]; omega
            | true =>
              have HCO3 := hide (HCO2.out hsd)
              rw [hsd] at HST HSO
              cases hcn : meetsB l t with
              | true =>
                rw [hcn] at HST HCO3
                have HT2 : Hid (T.map Vr.pair = ((l.take (k + 1)).filter (badTurn l)).map (fun o => (6, o.id))) := by
                  have := HT.out
                  rw [HST.out, Bool.not_true, Bool.and_false, if_neg (by decide), List.append_nil]
                  exact this
                clear HST HT HCO2 hsd hcn
                go_wp2_with fail
                refine (HSO.out _ HBO.out).mono ?_
                rintro _ w5 ⟨rfl, b5⟩
                have HB5 := hide (bto HBO.out b5)
                have HCK2 := hide (HCK.out.lift b5)
                have hb5 := blkB b5 HBL.out
                have e0 := cell_of_row w5 _ 0 _ _ _ hb5
                have e1 := cell_of_row w5 _ 1 _ _ _ hb5
                have e2 := cell_of_row w5 _ 2 _ _ _ hb5
                have e3 := cell_of_row w5 _ 3 _ _ _ hb5
                have e4 := cell_of_row w5 _ 4 _ _ _ hb5
                have e5 := cell_of_row w5 _ 5 _ _ _ hb5
                simp only [List.getElem?_toArray, List.getElem?_cons_zero, List.getElem?_cons_succ] at e0 e1 e2 e3 e4 e5
                have HBL5 := hide hb5
                clear hwo c0 c1 c2 c3 c4 c5 d0 d1 d2 d3 d4 d5 HSO HBO HCK b5 hb5 HBL
                go_wp2_with fail
                refine (HCO3.out _ HB5.out).mono ?_
                rintro _ w6 ⟨rfl, b6⟩
                have HB6 := hide (bto HB5.out b6)
                have HCK3 := hide (HCK2.out.lift b6)
                have f1 := cell_of_row w6 _ 1 _ _ _ (blkB b6 HBL5.out)
                simp only [List.getElem?_toArray, List.getElem?_cons_zero, List.getElem?_cons_succ] at f1
                clear e0 e1 e2 e3 e4 e5 HCO3 HB5 HCK2 b6 HBL5
                go_wp2_with fail
                refine ⟨⟨k + 1, R, T, Ar, At, cr, ct, HL.out, by go_num, rfl, rfl, HCK3, HB6, HR2, HT2⟩, ?_⟩
                have := HMS.out
                simp [intOf]; omega
              | false =>
                rw [hcn] at HST HCO3
                have HT2 : Hid ((T.map Vr.pair) ++ [(6, t.id)] = ((l.take (k + 1)).filter (badTurn l)).map (fun o => (6, o.id))) := by
                  have := HT.out
                  rw [HST.out, Bool.not_false, Bool.and_true, if_pos rfl, List.map_append, ← this]
                  rfl
                clear HST HT HCO2 hsd hcn
                go_wp2_with fail
                refine (HSO.out _ HBO.out).mono ?_
                rintro _ w5 ⟨rfl, b5⟩
                have HB5 := hide (bto HBO.out b5)
                have HCK4 := hide (HCK.out.lift b5)
                have hb5 := blkB b5 HBL.out
                have e0 := cell_of_row w5 _ 0 _ _ _ hb5
                have e1 := cell_of_row w5 _ 1 _ _ _ hb5
                have e2 := cell_of_row w5 _ 2 _ _ _ hb5
                have e3 := cell_of_row w5 _ 3 _ _ _ hb5
                have e4 := cell_of_row w5 _ 4 _ _ _ hb5
                have e5 := cell_of_row w5 _ 5 _ _ _ hb5
                simp only [List.getElem?_toArray, List.getElem?_cons_zero, List.getElem?_cons_succ] at e0 e1 e2 e3 e4 e5
                have HBL5 := hide hb5
                clear hwo c0 c1 c2 c3 c4 c5 d0 d1 d2 d3 d4 d5 HSO HBO HCK b5 hb5 HBL
                go_wp2_with fail
                refine (HCO3.out _ HB5.out).mono ?_
                rintro _ wf ⟨rfl, b6⟩
                have HB6 := hide (bto HB5.out b6)
                have HCK2 := hide (HCK4.out.lift b6)
                have f0 := cell_of_row wf _ 0 _ _ _ (blkB b6 HBL5.out)
                simp only [List.getElem?_toArray, List.getElem?_cons_zero] at f0
                clear e0 e1 e2 e3 e4 e5 HCO3 HB5 HCK4 b6 HBL5
                go_wp2_with (at_builtin; go_must (refine wpList_append_lies _ rfl (.tmp 62) (.tmp 67) 28 rfl w1.heap.size 58 i0 (.agg #[.string ⟨#[]⟩, .int .i64 0, .slice none 0 0]) 3 48 Try.underlying28 HI.out HZ0.out HZ1.out HZ2.out rfl (by decide) (.slice At T.length ct) T.length (cellsV T) rfl ?c0 ⟨wf.heap.size + 1, 0, none⟩ 1 1 (Vr.mk 6 t.id wf.heap.size).cells rfl rfl ?c1 ?c2 (by decide) ?c3 ?c4 ?c5 (wf.heap.size + 2) ?c6 ?_))
                case c0 => exact own_below ((HCK2.out.swap)).rr ((Below.refl _ _).alloc (Nat.le_refl _) _ |>.alloc (by simp) _)
                case c1 =>
                  intro j u hj
                  have := new_cells (wf.alloc (.cells #[.string t.id] 9)) (Vr.mk 6 t.id wf.heap.size).cells 58 j u hj
                  simp only [World.size_alloc] at this
                  exact this
                case c2 => intro u hu; simp [Vr.cells] at hu; rcases hu with rfl | rfl | rfl <;> rfl
                case c3 => unfold maxLen; omega
                case c4 => omega
                case c5 => have := HCK2.out.below.size; simp; omega
                case c6 => simp
                intro g9 cap w9 hown9 hgrow9 hat9 _
                have hidb : ((wf.alloc (.cells #[.string t.id] 9)).alloc (.cells #[.string ⟨#[]⟩, .int .i64 6, .slice (some ⟨wf.heap.size, 0, none⟩) 1 1] 58)).heap[wf.heap.size]? = some (.cells #[.string t.id] 9 (0, 0)) := blkB ((Below.refl _ _).alloc (Nat.le_refl _) _) (heap_alloc_new _ _)
                have hbb : Below wf.heap.size wf ((wf.alloc (.cells #[.string t.id] 9)).alloc (.cells #[.string ⟨#[]⟩, .int .i64 6, .slice (some ⟨wf.heap.size, 0, none⟩) 1 1] 58)) := (Below.refl _ _).alloc (Nat.le_refl _) _ |>.alloc (by simp) _
                have hck9 := ((HCK2.out.swap).lift hbb).more (k := 6) (id := t.id) (b := wf.heap.size) hidb hown9 hgrow9 (by simpa using hat9)
                have HB9 := hide hck9.below
                have HCK9 := hide hck9.swap
                have HT2 : Hid ((T ++ [(⟨6, t.id, wf.heap.size⟩ : Vr)]).map Vr.pair = ((l.take (k + 1)).filter (badTurn l)).map (fun o => (6, o.id))) := by
                  rw [List.map_append]; exact HT2.out
                have hln : Value.slice (some ⟨g9, 0, none⟩) (T.length + 1) cap = .slice (some ⟨g9, 0, none⟩) (T ++ [(⟨6, t.id, wf.heap.size⟩ : Vr)]).length cap := by simp
                have HLN := hide hln
                clear f0 hown9 hgrow9 hat9 hidb hbb hck9 hln HB6 HCK2
                go_wp2_with fail
                refine ⟨⟨k + 1, R, T ++ [⟨6, t.id, wf.heap.size⟩], Ar, some ⟨g9, 0, none⟩, cr, cap, HL.out, by go_num, rfl, HLN.out, HCK9, HB9, HR2, HT2⟩, ?_⟩
                have := HMS.out
                simp [intOf]; omega
          · have hbr : badRoute l t = false := by unfold badRoute; rw [decide_eq_false h4]; rfl
            have hbt : badTurn l t = false := by unfold badTurn; rw [decide_eq_false h5]; rfl
            have h4b : (t.kind == 4) = false := beq_eq_false_iff_ne.2 h4
            have h5b : (t.kind == 5) = false := beq_eq_false_iff_ne.2 h5
            have HR2 : Hid (R.map Vr.pair = ((l.take (k + 1)).filter (badRoute l)).map (fun o => (5, o.id))) := by
              have := HR.out
              rw [HSR.out, hbr, if_neg (by decide), List.append_nil]
              exact this
            have HT2 : Hid (T.map Vr.pair = ((l.take (k + 1)).filter (badTurn l)).map (fun o => (6, o.id))) := by
              have := HT.out
              rw [HST.out, hbt, if_neg (by decide), List.append_nil]
              exact this
            clear HSR HST HR HT hbr hbt HSO HCO HME
            go_wp2_with fail
            refine ⟨⟨k + 1, R, T, Ar, At, cr, ct, HL.out, by go_num, rfl, rfl, HCK, HBO, HR2, HT2⟩, ?_⟩
            have := HMS.out
            simp [intOf]; omega
      · obtain rfl : k = l.length := by omega
        have HCK := hide hck.out
        have HRES : Hid ((R ++ T).map Vr.pair = checkL l) := by
          have h1 := hR.out
          have h2 := hT.out
          rw [List.take_length] at h1 h2
          show _ = _
          rw [List.map_append, h1, h2]
          rfl
        have HRL : R.length ≤ l.length := by have := congrArg List.length hR.out; simp only [List.length_map] at this; have h2 := filter_len (l.take l.length) (badRoute l); rw [List.take_length] at h2 this; omega
        have HTL : T.length ≤ l.length := by have := congrArg List.length hT.out; simp only [List.length_map] at this; have h2 := filter_len (l.take l.length) (badTurn l); rw [List.take_length] at h2 this; omega
        have HB := hide (bto HWA.out HN.out.below)
        clear hR hT hbw hck
        rcases HCK.out.rt.2 with ⟨hvt, hn0⟩ | ⟨gt, capt, curt, hvt, hgt, hbt, hle, _⟩
        · have hT0 : T = [] := List.length_eq_zero_iff.1 hn0
          subst hT0
          simp only [Value.slice.injEq] at hvt
          obtain ⟨rfl, _, rfl⟩ := hvt
          have HCV := hide HCK.out.vis
          have HBF := hide (bto HB.out HCK.out.below)
          go_wp2_with (at_builtin; go_must (refine wpList_append_own_none rfl (.tmp 70) (.tmp 71) 28 rfl w1.heap.size 58 i0 3 Try.underlying28 HI.out (.slice Ar R.length cr) R.length (cellsV R) rfl HCK.out.rr rfl ?_))
          go_ret
          refine ⟨_, rfl, ?_, HBF.out⟩
          have := HRES.out
          rw [List.append_nil] at this
          rw [← this]
          exact HCV.out
        · simp only [Value.slice.injEq] at hvt
          obtain ⟨rfl, _, rfl⟩ := hvt
          have HGT := hide hbt
          have hnews : ∀ j u, (cellsV T)[j]? = some u → wr.cell? ((⟨gt, 0, none⟩ : Addr).add j) = some u := HCK.out.rt.cells (g := gt) rfl
          have HNW := hide hnews
          clear hnews hbt
          go_wp2_with (at_builtin; go_must (refine wpList_append_own_at wr rfl (.tmp 70) (.tmp 71) 28 rfl w1.heap.size 58 i0 (.agg #[.string ⟨#[]⟩, .int .i64 0, .slice none 0 0]) 3 48 Try.underlying28 HI.out HZ0.out HZ1.out HZ2.out rfl (by decide) (.slice Ar R.length cr) R.length (cellsV R) rfl HCK.out.rr ⟨gt, 0, none⟩ T.length _ (cellsV T) rfl (cellsV_len T) HNW.out ?c2 ?c3 ?c4 HCK.out.below.size ?_))
          case c2 =>
            have : ∀ (L : List Vr), ∀ u ∈ cellsV L, u.oneCell' = true := by
              intro L
              induction L with
              | nil => intro u hu; cases hu
              | cons x L ih =>
                intro u hu
                rcases List.mem_append.1 hu with hu | hu
                · simp [Vr.cells] at hu; rcases hu with rfl | rfl | rfl <;> rfl
                · exact ih u hu
            exact this T
          case c3 => unfold maxLen; omega
          case c4 => omega
          intro v9 w9 hown9 hgrow9 _ _
          have hck9 : CkI w1 (R ++ T) [] v9 (.slice none 0 0) w9 := by
            refine ⟨by rw [cellsV_app, List.length_append]; exact hown9, World.ownsRow_nil _ _ _ _, fun x hx => ?_, (fun b _ h => by cases h), ?_⟩
            · rw [List.append_nil] at hx
              have hi := HCK.out.ids x hx
              refine (hgrow9.block x.b (lt_of_block hi) (fun e => ?_)).trans hi
              obtain ⟨_, cur, hc⟩ := own_block HCK.out.rr e.symm
              rw [hc] at hi
              simp at hi
            · have hq := HCK.out.below
              exact ⟨hgrow9.os.trans hq.os, hgrow9.tape.trans hq.tape, hgrow9.output.trans hq.output, Nat.le_trans hq.size hgrow9.size, fun i hi => (hgrow9.block i (Nat.lt_of_lt_of_le hi hq.size) (fun e => by
                have := (own_block HCK.out.rr e.symm).1
                omega)).trans (hq.block i hi)⟩
          obtain ⟨A9, c9, rfl⟩ := own_slice hck9.rr
          have hcv : ViS w9 (.slice A9 (R.length + T.length) c9) ((R ++ T).map Vr.pair) := by have := hck9.vis; rwa [List.length_append] at this
          have HCV := hide hcv
          have HBF := hide (bto HB.out hck9.below)
          rw [List.length_append]
          clear hown9 hgrow9 hck9 hcv
          go_wp2_with fail
          go_ret
          refine ⟨_, rfl, ?_, HBF.out⟩
          have := HRES.out
          rw [← this]
          exact HCV.out
end Go.Proofs.Ytpiocaomlifljaa
