/-
  The reference's Valid of an object and of a map, walked.
-/
import Derived.Test.YtpiocaomlifljaaNetMb
namespace Go.Proofs.Ytpiocaomlifljaa
open Go.RowKit Go.Proofs.PlLex Go.Proofs.PlNet Go.Proofs.PlMap

def atB (o : Ob) : Bool := if o.kind = 1 then gridB o.x o.y else decide (o.x = 0 ∧ o.y = 0)
def kindB (k : Int) : Bool := decide (1 ≤ k ∧ k ≤ 5)
theorem obB_ref (o : Ob) : obB o = (name o.id.data.toList && (kindB o.kind && (atB o && (tagsB o.tags && rrefsB o)))) := by
  unfold obB headB tailB rrefsB atB kindB lenB
  by_cases hk : 1 ≤ o.kind ∧ o.kind ≤ 5
  · rw [decide_eq_true hk]
    have h : o.kind = 1 ∨ o.kind = 2 ∨ o.kind = 3 ∨ o.kind = 4 ∨ o.kind = 5 := by omega
    rcases h with h | h | h | h | h
    · simp only [h, leastK]
      simp
      cases name o.id.data.toList <;> cases tagsB o.tags <;> cases refsB 1 [] ⟨#[]⟩ o.refs <;> cases gridB o.x o.y <;> simp
    · simp only [h, leastK]
      simp
      cases name o.id.data.toList <;> cases tagsB o.tags <;> cases refsB 2 [] ⟨#[]⟩ o.refs <;> cases decide (2 ≤ o.refs.length) <;> cases decide (o.refs.length ≤ 2000) <;> cases decide (o.x = 0) <;> simp
    · simp only [h, leastK]
      simp
      cases name o.id.data.toList <;> cases tagsB o.tags <;> cases refsB 3 [] ⟨#[]⟩ o.refs <;> cases decide (3 ≤ o.refs.length) <;> cases decide (o.refs.length ≤ 2000) <;> cases decide (o.x = 0) <;> simp
    · simp only [h, leastK]
      simp
      cases name o.id.data.toList <;> cases tagsB o.tags <;> cases refsB 4 [] ⟨#[]⟩ o.refs <;> cases decide (1 ≤ o.refs.length) <;> cases decide (o.refs.length ≤ 2000) <;> cases decide (o.x = 0) <;> simp
    · simp only [h, leastK]
      simp
      by_cases h3 : o.refs.length = 3
      · simp [h3]
        cases name o.id.data.toList <;> cases tagsB o.tags <;> cases refsB 5 [] ⟨#[]⟩ o.refs <;> cases decide (o.x = 0) <;> simp
      · simp [h3]
  · rw [decide_eq_false hk]
    simp
set_option maxRecDepth 100000 in
set_option maxHeartbeats 16000000 in
theorem rvalid11_any (o : Ob) (rv tv : Value) (w : World) (hr : StS w rv o.refs) (ht : TgS w tv o.tags) (ho : okO o) :
    Calls Try.prog 75 #[.agg (obV o rv tv)] w fun e w' => e = .returned (.bool (obB o)) ∧ Below w.heap.size w w' := by
  rw [obB_ref]
  have HRF := hide (fun W (h : Below w.heap.size w W) => rrefs_any o rv tv W (hr.below h) (ht.below h) ho.2.2.1)
  have HTG := hide (fun W (h : Below w.heap.size w W) => rtags_any o.tags tv W (ht.below h) ho.2.2.2.2)
  have HNA := hide (fun W => rname_any o.id W (Nat.le_trans ho.1 (by unfold maxLen; omega)))
  obtain ⟨A, c, rfl, _⟩ := hr
  obtain ⟨At, ct, rfl, _⟩ := ht
  unfold obV at *
  obtain ⟨nb, hnb⟩ := bool_of (b := name o.id.data.toList)
  obtain ⟨kb, hkb⟩ := bool_of (b := kindB o.kind)
  obtain ⟨ab, hab⟩ := bool_of (b := atB o)
  obtain ⟨tb, htb⟩ := bool_of (b := tagsB o.tags)
  obtain ⟨rb, hrb⟩ := bool_of (b := rrefsB o)
  rw [hnb] at HNA
  rw [htb] at HTG
  rw [hrb] at HRF
  rw [hnb, hkb, hab, htb, hrb]
  have HWD : Hid (∀ W, Calls Try.prog 83 #[.int .i64 o.kind] W fun e w' => e = .returned (.string (wordS o.kind)) ∧ Below W.heap.size W w') := hide (fun W => rword_any o.kind W)
  have hwe : (wordS o.kind).toList.isEmpty = !kb := by
    rw [← hkb]
    unfold kindB
    by_cases hk : 1 ≤ o.kind ∧ o.kind ≤ 5
    · rw [decide_eq_true hk, wordS_in _ hk.1 hk.2]; rfl
    · rw [decide_eq_false hk, wordS_out _ (by omega)]
      rw [ByteArray.toList_eq]; rfl
  have hwp : kb = true → ¬ (wordS o.kind).toList = [] := fun h e => by rw [e, h] at hwe; cases hwe
  have hwq : kb = false → (wordS o.kind).toList = [] := fun h => by rw [h] at hwe; simpa using hwe
  generalize wordS o.kind = wd at *
  obtain ⟨wo, hwo⟩ : ∃ wo, w.alloc (.cells #[.string o.id, .int .i64 o.kind, .int .i64 o.x, .int .i64 o.y, .slice A o.refs.length c, .slice At o.tags.length ct] 42) = wo := ⟨_, rfl⟩
  have hbo : Below w.heap.size w wo := by rw [← hwo]; exact (Below.refl _ _).alloc (Nat.le_refl _) _
  have hbl : wo.heap[w.heap.size]? = some (.cells #[.string o.id, .int .i64 o.kind, .int .i64 o.x, .int .i64 o.y, .slice A o.refs.length c, .slice At o.tags.length ct] 42 (0, 0)) := by rw [← hwo]; exact heap_alloc_new _ _
  obtain ⟨d0, d1, d2, d3, d4, d5⟩ := box6 hbl
  have d3' : wo.cell? ⟨w.heap.size, 2 + 1, none⟩ = some (.int .i64 o.y) := d3
  have HON := hide (rgrid_any o.x o.y wo)
  have HBO := hide hbo
  have HBL := hide hbl
  clear hnb hkb htb hrb hbo hbl
  have fin : ∀ (W : World), Below wo.heap.size wo W → W.cell? ⟨w.heap.size, 0, none⟩ = some (.string o.id) ∧ W.cell? ⟨w.heap.size, 1, none⟩ = some (.int .i64 o.kind) ∧ W.cell? ⟨w.heap.size, 2, none⟩ = some (.int .i64 o.x) ∧ W.cell? ⟨w.heap.size, 3, none⟩ = some (.int .i64 o.y) ∧ W.cell? ⟨w.heap.size, 4, none⟩ = some (.slice A o.refs.length c) ∧ W.cell? ⟨w.heap.size, 5, none⟩ = some (.slice At o.tags.length ct) := fun W h => box6 (blkB h HBL.out)
  have FIN := hide fin
  clear fin
  go_enter Try.func75, Try.ntmps75
  by_cases h1 : o.kind = 1
  · have hon : gridB o.x o.y = ab := by rw [← hab]; unfold atB; rw [if_pos h1]
    rw [hon] at HON
    have q1 : (o.kind != 1) = false := by simp [h1]
    clear hab hon h1
    go_wp2_with fail
    refine HON.out.mono ?_
    rintro _ w2 ⟨rfl, b2⟩
    have HB2 := hide b2
    obtain ⟨e0, e1, e2, e3, e4, e5⟩ := FIN.out w2 b2
    clear hwo d0 d1 d2 d3 d4 d5 d3' b2
    go_wp2_with fail
    refine (HNA.out _).mono ?_
    rintro _ w3 ⟨rfl, rfl⟩
    cases nb with
    | false =>
      go_wp2_with fail
      go_ret
      exact ⟨ret_bool (by simp), bto HBO.out HB2.out⟩
    | true =>
      go_wp2_with fail
      refine (HWD.out _).mono ?_
      rintro _ w4 ⟨rfl, b4⟩
      have HB4 := hide (bto HB2.out b4)
      clear e0 e1 e2 e3 e4 e5 b4
      obtain ⟨e0, e1, e2, e3, e4, e5⟩ := FIN.out w4 HB4.out
      cases kb with
      | false =>
        replace hwq := hwq rfl
        go_wp2_with fail
        go_ret
        exact ⟨ret_bool (by simp), bto HBO.out HB4.out⟩
      | true =>
        replace hwp := hwp rfl
        cases ab with
        | false =>
          go_wp2_with fail
          go_ret
          exact ⟨ret_bool (by simp), bto HBO.out HB4.out⟩
        | true =>
          have HX := hide (HTG.out w4 (bto HBO.out HB4.out))
          go_wp2_with fail
          refine HX.out.mono ?_
          rintro _ w5 ⟨rfl, b5⟩
          have HB5 := hide (bto HB4.out b5)
          clear e0 e1 e2 e3 e4 e5 b5
          obtain ⟨e0, e1, e2, e3, e4, e5⟩ := FIN.out w5 HB5.out
          cases tb with
          | false =>
            go_wp2_with fail
            go_ret
            exact ⟨ret_bool (by simp), bto HBO.out HB5.out⟩
          | true =>
            have HY := hide (HRF.out w5 (bto HBO.out HB5.out))
            go_wp2_with fail
            refine HY.out.mono ?_
            rintro _ w6 ⟨rfl, b6⟩
            have HB6 := hide (bto HB5.out b6)
            clear e0 e1 e2 e3 e4 e5 b6
            go_wp2_with fail
            go_ret
            exact ⟨ret_bool (by simp), bto HBO.out HB6.out⟩
  · have hon : G.ptEq o.x o.y 0 0 = ab := by
      rw [← hab]
      unfold atB G.ptEq
      rw [if_neg h1, Bool.eq_iff_iff]
      simp
    have q1 : (o.kind != 1) = true := by simp [h1]
    clear hab h1
    go_wp2_with fail
    refine HON.out.mono ?_
    rintro _ w2 ⟨rfl, b2⟩
    have HB2 := hide b2
    obtain ⟨e0, e1, e2, e3, e4, e5⟩ := FIN.out w2 b2
    have e3' : w2.cell? ⟨w.heap.size, 2 + 1, none⟩ = some (.int .i64 o.y) := e3
    clear hwo d0 d1 d2 d3 d4 d5 d3' b2
    go_wp2_with fail
    clear e3'
    refine (HNA.out _).mono ?_
    rintro _ w3 ⟨rfl, rfl⟩
    cases nb with
    | false =>
      go_wp2_with fail
      go_ret
      exact ⟨ret_bool (by simp), bto HBO.out HB2.out⟩
    | true =>
      go_wp2_with fail
      refine (HWD.out _).mono ?_
      rintro _ w4 ⟨rfl, b4⟩
      have HB4 := hide (bto HB2.out b4)
      clear e0 e1 e2 e3 e4 e5 b4
      obtain ⟨e0, e1, e2, e3, e4, e5⟩ := FIN.out w4 HB4.out
      cases kb with
      | false =>
        replace hwq := hwq rfl
        go_wp2_with fail
        go_ret
        exact ⟨ret_bool (by simp), bto HBO.out HB4.out⟩
      | true =>
        replace hwp := hwp rfl
        cases ab with
        | false =>
          go_wp2_with fail
          go_ret
          exact ⟨ret_bool (by simp), bto HBO.out HB4.out⟩
        | true =>
          have HX := hide (HTG.out w4 (bto HBO.out HB4.out))
          go_wp2_with fail
          refine HX.out.mono ?_
          rintro _ w5 ⟨rfl, b5⟩
          have HB5 := hide (bto HB4.out b5)
          clear e0 e1 e2 e3 e4 e5 b5
          obtain ⟨e0, e1, e2, e3, e4, e5⟩ := FIN.out w5 HB5.out
          cases tb with
          | false =>
            go_wp2_with fail
            go_ret
            exact ⟨ret_bool (by simp), bto HBO.out HB5.out⟩
          | true =>
            have HY := hide (HRF.out w5 (bto HBO.out HB5.out))
            go_wp2_with fail
            refine HY.out.mono ?_
            rintro _ w6 ⟨rfl, b6⟩
            have HB6 := hide (bto HB5.out b6)
            clear e0 e1 e2 e3 e4 e5 b6
            go_wp2_with fail
            go_ret
            exact ⟨ret_bool (by simp), bto HBO.out HB6.out⟩
def lastI (l : List Ob) (k : Nat) : BA := lastR (l.map Ob.id) k
theorem lastI_next {l : List Ob} {k : Nat} {t : Ob} (h : l[k]? = some t) : lastI l (k + 1) = t.id := lastR_next (by rw [List.getElem?_map, h]; rfl)
theorem obB_name {o : Ob} (h : obB o = true) : name o.id.data.toList = true := by
  rw [obB_ref] at h
  simp only [Bool.and_eq_true] at h
  exact h.1
theorem mapL_next (l : List Ob) (k : Nat) (t : Ob) (r : List Ob) : mapL (lastI l k) (t :: r) = (obB t && ((decide (k = 0) || Go.Op.bytesLess (lastI l k).toList t.id.toList) && mapL t.id r)) := by
  rw [mapL]
  cases ho : obB t with
  | false => rfl
  | true =>
    obtain ⟨n1, n2⟩ := name_first (obB_name ho)
    by_cases hk : k = 0
    · subst hk
      have e : lastI l 0 = ⟨#[]⟩ := rfl
      rw [e, n1, n2]
      simp
    · rw [decide_eq_false hk, Bool.false_or, Bool.true_and, Bool.true_and, less_or]
set_option maxRecDepth 100000 in
set_option maxHeartbeats 16000000 in
theorem rvalid12_any (l : List Ob) (v : Value) (w : World) (hv : MapI w v l) :
    Calls Try.prog 58 #[.agg #[v]] w fun e w' => e = .returned (.bool (mapB l)) ∧ Below w.heap.size w w' := by
  obtain ⟨R, hR⟩ : ∃ R, mapB l = R := ⟨_, rfl⟩
  rw [hR]
  have hlen := hv.len
  have HR : Hid (mapL (lastI l 0) (l.drop 0) = R) := by
    unfold mapB at hR
    rw [decide_eq_true (show l.length ≤ 1000000 by omega), Bool.and_true] at hR
    exact hide hR
  have HOK := hide hv.ok
  obtain ⟨A, c, rfl, _, hA⟩ := id hv.obs
  have HA := hide hA
  obtain ⟨wo, hwo⟩ : ∃ wo, w.alloc (.cells #[.slice A l.length c] 24) = wo := ⟨_, rfl⟩
  have HBO : Hid (Below w.heap.size w wo) := by rw [← hwo]; exact (Below.refl _ _).alloc (Nat.le_refl _) _
  have hbl : wo.heap[w.heap.size]? = some (.cells #[.slice A l.length c] 24 (0, 0)) := by rw [← hwo]; exact heap_alloc_new _ _
  have HBL := hide hbl
  have dm := (blk1 hbl).1
  clear hA hv hR hbl
  go_enter Try.func58, Try.ntmps58
  go_wp2_with fail
  clear hwo dm
  go_loopw [3] (fun i wr => ∃ (k : Nat), k ≤ l.length ∧ i = .int .i64 k ∧ Hid (Below wo.heap.size wo wr) ∧ Hid (mapL (lastI l k) (l.drop k) = R)) (fun i _ => l.length - (intOf i).toNat)
  case atStart => exact ⟨0, Nat.zero_le _, rfl, Below.refl _ _, HR⟩
  case round =>
    obtain ⟨k, hk, rfl, hb, hr⟩ := hrel
    have e0 := (blk1 (blkB hb.out HBL.out)).1
    by_cases hlt : k < l.length
    · obtain ⟨g, o, rfl, hg, hp⟩ := HA.out.resolve_left (by intro e; rw [e] at hlt; simp at hlt)
      have hkt := List.getElem?_eq_getElem hlt
      obtain ⟨rv, tv, hoa⟩ := hp k _ hkt
      have hok := HOK.out _ (List.getElem_mem hlt)
      have hr2 := hr.out
      rw [drop_ob l k hlt, mapL_next] at hr2
      generalize l[k] = t at *
      have HV := hide (fun u : Gls wo => rvalid11_any t rv tv u.w (hoa.refs.below (bto HBO.out u.2)) (hoa.tags.below (bto HBO.out u.2)) hok)
      obtain ⟨Ar, cr, hrv, _⟩ := id hoa.refs
      obtain ⟨At, ct, htv, _⟩ := id hoa.tags
      subst hrv
      subst htv
      have HOA := hide hoa
      have bq : ∀ u : Gls wo, ObAt u.w g (o + k * 6) t (.slice Ar t.refs.length cr) (.slice At t.tags.length ct) := fun u => HOA.out.below hg (bto HBO.out u.2)
      have X0 := fun u : Gls wo => (bq u).c0
      have X1 := fun u : Gls wo => (bq u).c1
      have X2 := fun u : Gls wo => (bq u).c2
      have X3 := fun u : Gls wo => (bq u).c3
      have X4 := fun u : Gls wo => (bq u).c4
      have X5 := fun u : Gls wo => (bq u).c5
      have E0 : ∀ u : Gls wo, u.w.cell? ⟨w.heap.size, 0, none⟩ = some (.slice (some ⟨g, o, none⟩) l.length c) := fun u => (blk1 (blkB u.2 HBL.out)).1
      have P0 : ¬ k = 0 → ∀ u : Gls wo, u.w.cell? ⟨g, o + (k - 1) * 6, none⟩ = some (.string (lastI l k)) := fun h u => by
        have h2 := lastR_at (l := l.map Ob.id) h (by rw [List.length_map]; exact hk)
        rw [List.getElem?_map, Option.map_eq_some_iff] at h2
        obtain ⟨p, hp1, hp2⟩ := h2
        obtain ⟨_, _, ha⟩ := hp (k - 1) p hp1
        unfold lastI
        rw [← hp2]
        exact (ha.below hg (bto HBO.out u.2)).c0
      unfold obV at HV
      have YN : Nonempty (Gls wo) := ⟨⟨_, hb.out⟩⟩
      have hbd := bto hb.out (below_drew wr)
      have k0 : (0 : Int) ≤ k := by omega
      have k1 : (k : Int) < l.length := by omega
      have HL := hide hlt
      have HM := hide (show l.length - (k + 1) < l.length - k from by omega)
      have s0 : IntKind.i64.wrap ((k : Int) - 1) = (k : Int) - 1 := IntWalk.i64_in _ (by omega)
      have s1 : ((k : Int) - 1).toNat = k - 1 := by omega
      have s3 : (k : Int) - 1 < l.length := by omega
      have HNX := hide (lastI_next hkt)
      obtain ⟨ob, hob⟩ := bool_of (b := obB t)
      obtain ⟨ls, hls⟩ := bool_of (b := Go.Op.bytesLess (lastI l k).toList t.id.toList)
      rw [hob, hls] at hr2
      rw [hob] at HV
      have HR2 := hide hr2
      clear hr hr2 hp hlt hkt hoa hok bq hob
      cases ob with
      | false =>
        have HZ := hide (show R = false from by rw [← HR2.out]; rfl)
        clear hls P0
        go_wp2_with fail
        refine wp_region_quietW (J := Gls wo) Gls.w ⟨_, hbd⟩ rfl (by kernel_rfl) (by kernel_rfl) ?_
        repeat (go_big_quiet_step (((with_reducible refine (HV.out _).mono ?_); rintro _ w8 ⟨rfl, b8⟩; exact ⟨rfl, Gls.go _ b8⟩)))
        refine wpQuiet_nil ?_
        rintro w9 ⟨u, rfl⟩
        have HB2 := hide (bto HBO.out u.2)
        go_wp2_with fail
        go_ret
        exact ⟨ret_bool HZ.out.symm, HB2.out⟩
      | true =>
        by_cases hk0 : k = 0
        · have z0 : decide (0 < k) = false := decide_eq_false (by omega)
          have HZ : Hid (mapL (lastI l (k + 1)) (l.drop (k + 1)) = R) := by
            rw [HNX.out, ← HR2.out, decide_eq_true hk0]
            exact hide (by simp)
          clear P0 hls hk0
          go_wp2_with fail
          refine wp_region_quietW (J := Gls wo) Gls.w ⟨_, hbd⟩ rfl (by kernel_rfl) (by kernel_rfl) ?_
          repeat (go_big_quiet_step (((with_reducible refine (HV.out _).mono ?_); rintro _ w8 ⟨rfl, b8⟩; exact ⟨rfl, Gls.go _ b8⟩)))
          refine wpQuiet_nil ?_
          rintro w9 ⟨u, rfl⟩
          have HB2 := hide (show Below wo.heap.size wo u.w from u.2)
          go_wp2_with fail
          refine ⟨⟨k + 1, HL.out, by go_num, HB2, HZ⟩, ?_⟩
          have := HM.out
          simp [intOf]; omega
        · have z0 : decide (0 < k) = true := decide_eq_true (by omega)
          have s2 : (0 : Int) ≤ (k : Int) - 1 := by omega
          have P1 := P0 hk0
          have HZ0 : Hid ((ls && mapL (lastI l (k + 1)) (l.drop (k + 1))) = R) := by
            rw [HNX.out, ← HR2.out, decide_eq_false hk0]
            exact hide (by simp)
          generalize lastI l k = pr at *
          clear P0 hk0
          cases ls with
          | true =>
            have HZ : Hid (mapL (lastI l (k + 1)) (l.drop (k + 1)) = R) := hide (by have := HZ0.out; simpa using this)
            go_wp2_with fail
            refine wp_region_quietW (J := Gls wo) Gls.w ⟨_, hbd⟩ rfl (by kernel_rfl) (by kernel_rfl) ?_
            repeat (go_big_quiet_step (((with_reducible refine (HV.out _).mono ?_); rintro _ w8 ⟨rfl, b8⟩; exact ⟨rfl, Gls.go _ b8⟩)))
            refine wpQuiet_nil ?_
            rintro w9 ⟨u, rfl⟩
            have HB2 := hide (show Below wo.heap.size wo u.w from u.2)
            go_wp2_with fail
            refine ⟨⟨k + 1, HL.out, by go_num, HB2, HZ⟩, ?_⟩
            have := HM.out
            simp [intOf]; omega
          | false =>
            have HZ := hide (show R = false from by rw [← HZ0.out]; rfl)
            go_wp2_with fail
            refine wp_region_quietW (J := Gls wo) Gls.w ⟨_, hbd⟩ rfl (by kernel_rfl) (by kernel_rfl) ?_
            repeat (go_big_quiet_step (((with_reducible refine (HV.out _).mono ?_); rintro _ w8 ⟨rfl, b8⟩; exact ⟨rfl, Gls.go _ b8⟩)))
            refine wpQuiet_nil ?_
            rintro w9 ⟨u, rfl⟩
            have HB2 := hide (bto HBO.out u.2)
            go_wp2_with fail
            go_ret
            exact ⟨ret_bool HZ.out.symm, HB2.out⟩
    · have hz : R = true := by rw [← hr.out, List.drop_eq_nil_of_le (by omega)]; rfl
      have HZ := hide hz
      have HB := hide (bto HBO.out hb.out)
      clear hz hr hb
      go_wp2_with fail
      go_ret
      exact ⟨ret_bool HZ.out.symm, HB.out⟩
end Go.Proofs.Ytpiocaomlifljaa
