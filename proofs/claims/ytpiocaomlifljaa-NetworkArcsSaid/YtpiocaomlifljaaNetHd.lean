/-
  The law of the arcs, walked.
-/
import Derived.Test.YtpiocaomlifljaaNetHc
import Derived.Test.YtpiocaomlifljaaPlainN
namespace Go.Proofs.Ytpiocaomlifljaa
open Go.RowKit Go.Proofs.PlLex Go.Proofs.PlNet Go.Proofs.PlMap

/-- A map that is few and valid serves the network's functions. -/
theorem MapW.mapI {w : World} {v : Value} {l : List Ob} (h : MapW w v l) (hf : fewM 24 l = true) : MapI w v l := by
  obtain ⟨h1, h2⟩ := fewM_ok hf (fun o ho => (h.ok o ho).2.2.2.2.1)
  exact ⟨h.obs, by omega, h2⟩
theorem ar_back_k (L : List Ar) (y : Ar) (k : Nat) (h : k < L.length) : (decide (y ∈ L.take (k + 1))) = (decide (y ∈ L.take k) || decide (L[k] = y)) := by
  rw [List.take_succ_eq_append_getElem h, Bool.eq_iff_iff]
  simp only [List.mem_append, List.mem_cons, List.not_mem_nil, or_false, Bool.or_eq_true, decide_eq_true_eq]
  exact or_congr Iff.rfl eq_comm
theorem sqn (a : Int) : 0 ≤ a * a := by
  rcases Int.le_total 0 a with h | h
  · exact Int.mul_nonneg h h
  · have := Int.mul_nonneg (show (0 : Int) ≤ -a by omega) (show (0 : Int) ≤ -a by omega)
    grind
theorem eqin_arc (a b : Ar) (w : World) : (Op.equalIn 10000 49 (arV a) (arV b)).run Try.prog w = .ok (decide (a = b)) w := by
  obtain ⟨f, t, v, n⟩ := a
  obtain ⟨f', t', v', n'⟩ := b
  unfold arV
  simp only [show ∀ a b c d a' b' c' d', (decide ((⟨a, b, c, d⟩ : Ar) = ⟨a', b', c', d'⟩)) = (decide (a = a') && (decide (b = b') && (decide (c = c') && decide (d = d')))) from fun a b c d a' b' c' d' => by simp only [Ar.mk.injEq, Bool.decide_and]]
  by_cases h1 : f = f'
  · subst h1
    by_cases h2 : t = t'
    · subst h2
      by_cases h3 : v = v'
      · subst h3
        by_cases h4 : n = n'
        · subst h4
          go_simp
        · have e4 : (n == n') = false := by simpa using h4
          go_simp
      · have e3 : (v.toList == v'.toList) = false := by simpa using (fun h => h3 (toList_inj.1 h))
        have d3 : ¬ v.toList = v'.toList := fun h => h3 (toList_inj.1 h)
        go_simp
    · have e2 : (t.toList == t'.toList) = false := by simpa using (fun h => h2 (toList_inj.1 h))
      have d2 : ¬ t.toList = t'.toList := fun h => h2 (toList_inj.1 h)
      go_simp
  · have e1 : (f.toList == f'.toList) = false := by simpa using (fun h => h1 (toList_inj.1 h))
    have d1 : ¬ f.toList = f'.toList := fun h => h1 (toList_inj.1 h)
    go_simp
theorem beq_same {a b : ByteArray} (h : a = b) : (a.toList == b.toList) = true ∧ a.toList = b.toList := by subst h; exact ⟨by simp, rfl⟩
theorem eq_bool (a b : ByteArray) : ∃ t : Bool, (t = true ↔ a = b) ∧ (a.toList == b.toList) = t ∧ (t = false → ¬ a.toList = b.toList) := by
  by_cases h : a = b
  · subst h; exact ⟨true, by simp, by simp, by simp⟩
  · have h2 : ¬ a.toList = b.toList := fun e => h (toList_inj.1 e)
    exact ⟨false, by simp [h], by simpa using h2, fun _ => h2⟩
theorem beq_other {a b : ByteArray} (h : a ≠ b) : (a.toList == b.toList) = false ∧ ¬ a.toList = b.toList :=
  ⟨by simpa using fun e => h (toList_inj.1 e), fun e => h (toList_inj.1 e)⟩
set_option maxRecDepth 100000 in
set_option maxHeartbeats 16000000 in
theorem arcslaw_any (l : List Ob) (v : Value) (w : World) (hv : MapW w v l) :
    Calls Try.prog 6 #[.agg #[v]] w fun e w' => e = .returned (.bool true) ∧ Below w.heap.size w w' := by
  have hlen := hv.len
  obtain ⟨A, c, rfl, _, hA⟩ := id hv.obs
  obtain ⟨wa, hwa⟩ : ∃ wa, w.alloc (.cells #[.slice A l.length c] 24) = wa := ⟨_, rfl⟩
  have ha : Below w.heap.size w wa := by rw [← hwa]; exact (Below.refl _ _).alloc (Nat.le_refl _) _
  have hm : wa.heap[w.heap.size]? = some (.cells #[.slice A l.length c] 24 (0, 0)) := by rw [← hwa]; exact heap_alloc_new w _
  have HV := hide (hv.below ha)
  have HH := hide (head_any wa)
  clear hv hA
  go_enter Try.func6, Try.ntmps6
  go_wp2_with fail
  refine HH.out.mono ?_
  rintro _ w1 ⟨rfl, b1⟩
  have hm1 := blkB b1 hm
  have hb1 := bto ha b1
  have HV1 := hide (HV.out.below b1)
  have dm := (blk1 hm1).1
  have HF := hide (fewlaw_any l _ w1 HV1.out)
  clear hwa ha hm HV HH b1
  cases hfew : fewM 24 l with
  | false =>
    rw [hfew] at HF
    clear hfew
    go_wp2_with fail
    refine HF.out.mono ?_
    rintro _ w2 ⟨rfl, b2⟩
    have HB := hide (bto hb1 b2)
    clear dm hm1 b2 hb1
    go_wp2_with fail
    go_ret
    exact ⟨rfl, HB.out⟩
  | true =>
    rw [hfew] at HF
    have HMI := hide (HV1.out.mapI hfew)
    have HL24 := hide (fewM_ok hfew (fun o ho => (HV1.out.ok o ho).2.2.2.2.1))
    clear hfew
    go_wp2_with fail
    refine HF.out.mono ?_
    rintro _ w2 ⟨rfl, b2⟩
    have hm2 := blkB b2 hm1
    have hb2 := bto hb1 b2
    have HV2 := hide (HV1.out.below b2)
    have HMI2 := hide (HMI.out.below b2)
    have dm := (blk1 hm2).1
    have HVA := hide (avalid_any l _ w2 HMI2.out.obs HMI2.out.len HMI2.out.ok)
    clear HF b2 hb1 hm1 HV1 HMI
    cases hmb : mapB l with
    | false =>
      rw [hmb] at HVA
      clear hmb
      go_wp2_with fail
      refine HVA.out.mono ?_
      rintro _ w3 ⟨rfl, b3⟩
      have HB := hide (bto hb2 b3)
      clear dm hm2 b3 hb2
      go_wp2_with fail
      go_ret
      exact ⟨rfl, HB.out⟩
    | true =>
      rw [hmb] at HVA
      have HMB := hide hmb
      clear hmb
      go_wp2_with fail
      refine HVA.out.mono ?_
      rintro _ w3 ⟨rfl, b3⟩
      have hm3 := blkB b3 hm2
      have hb3 := bto hb2 b3
      have HV3 := hide (HV2.out.below b3)
      have HMI3 := hide (HMI2.out.below b3)
      have dm := (blk1 hm3).1
      have HAR := hide (arcs_any l _ w3 HMI3.out)
      clear HVA b3 hb2 hm2 HV2 HMI2
      go_wp2_with fail
      refine HAR.out.mono ?_
      rintro _ w4 ⟨ra, rfl, har, b4⟩
      rw [if_pos HMB.out] at har
      obtain ⟨L, hL⟩ : ∃ L, arcsL l = L := ⟨_, rfl⟩
      rw [hL] at har
      have HL := hide hL
      have HV4 := hide (HV3.out.below b4)
      have HM4 := hide (blkB b4 hm3)
      have HB4 := hide (bto hb3 b4)
      obtain ⟨Aa, ca, rfl, har2⟩ := har
      have HAA := hide har2
      clear HAR b4 hb3 hm3 HV3 HMI3 dm hL har2
      have hlb : L.length ≤ 1000000000 := by
        rw [← HL.out]
        refine Nat.le_trans (onceA_len [] (allArcs l)) ?_
        have h1 := allArcs_len l l HL24.out.2
        have h2 := HL24.out.1
        unfold allArcs
        rw [List.length_nil]
        omega
      go_wp2_with fail
      go_loopw [5] (fun i wr => ∃ k : Nat, k ≤ L.length ∧ i = .int .i64 k ∧ Hid (Below w4.heap.size w4 wr)) (fun i _ => L.length - (intOf i).toNat)
      case atStart => exact ⟨0, Nat.zero_le _, rfl, Below.refl _ _⟩
      case round =>
        obtain ⟨k, hk, rfl, hb⟩ := hrel
        by_cases hlt : k < L.length
        · obtain ⟨g, o, rfl, hg, hp⟩ := HAA.out.resolve_left (by rintro rfl; simp at hlt)
          obtain ⟨c0, c1, c2, c3⟩ := hp k _ (List.getElem?_eq_getElem hlt)
          have hmem : L[k] ∈ L := List.getElem_mem hlt
          have hkx := List.getElem?_eq_getElem hlt
          generalize L[k] = x at *
          have c0 := (hb.out.cell (p := ⟨g, _, none⟩) hg).trans c0
          have c1 := (hb.out.cell (p := ⟨g, _, none⟩) hg).trans c1
          have c2 := (hb.out.cell (p := ⟨g, _, none⟩) hg).trans c2
          have c3 := (hb.out.cell (p := ⟨g, _, none⟩) hg).trans c3
          have k0 : (0 : Int) ≤ k := by omega
          have k1 : (k : Int) < L.length := by omega
          have HLT := hide hlt
          have HMS := hide (show L.length - (k + 1) < L.length - k from by omega)
          have HMEM := hide hmem
          have HKX := hide hkx
          have HP := hide (show ArO w4 g o L from hp)
          obtain ⟨wo, hwo⟩ : ∃ wo, wr.alloc (.cells #[.string x.f, .string x.t, .string x.w, .int .i64 x.n] 49) = wo := ⟨_, rfl⟩
          have hbo : Below w4.heap.size w4 wo := by rw [← hwo]; exact bto hb.out ((Below.refl _ _).alloc (Nat.le_refl _) _)
          have hblk : wo.heap[wr.heap.size]? = some (.cells #[.string x.f, .string x.t, .string x.w, .int .i64 x.n] 49 (0, 0)) := by rw [← hwo]; exact heap_alloc_new _ _
          have HBO := hide hbo
          have HBL := hide hblk
          clear hlt hp hmem hkx hb hbo hblk
          go_wp2_with fail
          clear hwo c0 c1 c2 c3
          generalize wr.heap.size = bo at *
          go_loopw [7, 8, 9] (fun bk tw j wr => ∃ m : Nat, m ≤ L.length ∧ j = .int .i64 m ∧ tw = .bool false ∧ bk = .bool (decide ((⟨x.t, x.f, x.w, x.n⟩ : Ar) ∈ L.take m)) ∧ Hid (Below wo.heap.size wo wr)) (fun _ _ j _ => L.length - (intOf j).toNat)
          case atStart => exact ⟨0, Nat.zero_le _, rfl, rfl, by simp, Below.refl _ _⟩
          case round =>
            obtain ⟨m, hm, rfl, rfl, rfl, hb⟩ := hrel
            have hb4 := bto HBO.out hb.out
            have hbl := blkB hb.out HBL.out
            have d0 : wr.cell? ⟨bo, 0, none⟩ = some (.string x.f) := cell_of_row wr _ 0 _ _ _ hbl
            have d1 : wr.cell? ⟨bo, 1, none⟩ = some (.string x.t) := cell_of_row wr _ 1 _ _ _ hbl
            have d2 : wr.cell? ⟨bo, 2, none⟩ = some (.string x.w) := cell_of_row wr _ 2 _ _ _ hbl
            have d3 : wr.cell? ⟨bo, 3, none⟩ = some (.int .i64 x.n) := cell_of_row wr _ 3 _ _ _ hbl
            by_cases hml : m < L.length
            · obtain ⟨c0, c1, c2, c3⟩ := HP.out m _ (List.getElem?_eq_getElem hml)
              have c0 := (hb4.cell (p := ⟨g, _, none⟩) hg).trans c0
              have c1 := (hb4.cell (p := ⟨g, _, none⟩) hg).trans c1
              have c2 := (hb4.cell (p := ⟨g, _, none⟩) hg).trans c2
              have c3 := (hb4.cell (p := ⟨g, _, none⟩) hg).trans c3
              have hbk := ar_back_k L ⟨x.t, x.f, x.w, x.n⟩ m hml
              have hmy : L[m] ∈ L := List.getElem_mem hml
              have hky := List.getElem?_eq_getElem hml
              generalize L[m] = y at *
              have m0 : (0 : Int) ≤ m := by omega
              have m1 : (m : Int) < L.length := by omega
              have HML := hide hml
              have HKY := hide hky
              have HMM := hide (show L.length - (m + 1) < L.length - m from by omega)
              have HBR := hide hb.out
              clear hml hb hbl hb4 hm hk
              obtain ⟨B, hB⟩ : ∃ B, decide ((⟨x.t, x.f, x.w, x.n⟩ : Ar) ∈ L.take m) = B := ⟨_, rfl⟩
              rw [hB] at hbk ⊢
              have HBK := hide hbk
              clear hB hbk
              have hg2 : g < wo.heap.size := Nat.lt_of_lt_of_le hg HBO.out.size
              have hb9 := bto HBR.out (below_drew wr)
              have C0 : ∀ u : Gls wo, u.w.cell? ⟨g, o + m * 4, none⟩ = some (.string y.f) := fun u => ((bto HBO.out u.2).cell (p := ⟨g, _, none⟩) hg).trans (HP.out m y HKY.out).1
              have C1 : ∀ u : Gls wo, u.w.cell? ⟨g, o + m * 4 + 1, none⟩ = some (.string y.t) := fun u => ((bto HBO.out u.2).cell (p := ⟨g, _, none⟩) hg).trans (HP.out m y HKY.out).2.1
              have C2 : ∀ u : Gls wo, u.w.cell? ⟨g, o + m * 4 + 2, none⟩ = some (.string y.w) := fun u => ((bto HBO.out u.2).cell (p := ⟨g, _, none⟩) hg).trans (HP.out m y HKY.out).2.2.1
              have C3 : ∀ u : Gls wo, u.w.cell? ⟨g, o + m * 4 + 3, none⟩ = some (.int .i64 y.n) := fun u => ((bto HBO.out u.2).cell (p := ⟨g, _, none⟩) hg).trans (HP.out m y HKY.out).2.2.2
              have D0 : ∀ u : Gls wo, u.w.cell? ⟨bo, 0, none⟩ = some (.string x.f) := fun u => cell_of_row u.w _ 0 _ _ _ (blkB u.2 HBL.out)
              have D1 : ∀ u : Gls wo, u.w.cell? ⟨bo, 1, none⟩ = some (.string x.t) := fun u => cell_of_row u.w _ 1 _ _ _ (blkB u.2 HBL.out)
              have D2 : ∀ u : Gls wo, u.w.cell? ⟨bo, 2, none⟩ = some (.string x.w) := fun u => cell_of_row u.w _ 2 _ _ _ (blkB u.2 HBL.out)
              have D3 : ∀ u : Gls wo, u.w.cell? ⟨bo, 3, none⟩ = some (.int .i64 x.n) := fun u => cell_of_row u.w _ 3 _ _ _ (blkB u.2 HBL.out)
              have YN : Nonempty (Gls wo) := ⟨⟨_, hb9⟩⟩
              clear c0 c1 c2 c3 d0 d1 d2 d3
              obtain ⟨B2, hB2⟩ : ∃ B2, decide (y = (⟨x.t, x.f, x.w, x.n⟩ : Ar)) = B2 := ⟨_, rfl⟩
              have EQ : ∀ w : World, (Op.equalIn 10000 49 (.agg #[.string y.f, .string y.t, .string y.w, .int .i64 y.n]) (.agg #[.string x.t, .string x.f, .string x.w, .int .i64 x.n])).run Try.prog w = .ok B2 w := fun w => by rw [← hB2]; exact eqin_arc y ⟨x.t, x.f, x.w, x.n⟩ w
              rw [hB2] at HBK
              have h4 : m = k ∨ (m ≠ k ∧ y.f ≠ x.f) ∨ (m ≠ k ∧ y.f = x.f ∧ y.t ≠ x.t) ∨ (m ≠ k ∧ y.f = x.f ∧ y.t = x.t ∧ y.w ≠ x.w) := by
                by_cases e0 : m = k
                · exact .inl e0
                · by_cases e1 : y.f = x.f
                  · by_cases e2 : y.t = x.t
                    · by_cases e3 : y.w = x.w
                      · have hxy := arc_once HMB.out (show x ∈ arcsL l by rw [HL.out]; exact HMEM.out) (show y ∈ arcsL l by rw [HL.out]; exact hmy) e1 e2 e3
                        have hnd := arcsL_nodup l
                        rw [HL.out] at hnd
                        have hk1 := HKX.out
                        have hk2 := HKY.out
                        rw [hxy] at hk2
                        exact (e0 ((List.getElem?_inj (List.getElem?_eq_some_iff.1 hk2).1 hnd).1 (hk2.trans hk1.symm))).elim
                      · exact .inr (.inr (.inr ⟨e0, e1, e2, e3⟩))
                    · exact .inr (.inr (.inl ⟨e0, e1, e2⟩))
                  · exact .inr (.inl ⟨e0, e1⟩)
              clear hB2 hmy hky
              rcases h4 with e0 | ⟨e0, e1⟩ | ⟨e0, e1, e2⟩ | ⟨e0, e1, e2, e3⟩
              · subst e0
                cases B
                all_goals as_aux_lemma =>
                  go_wp2_with fail
                  refine wp_region_quietW (J := Gls wo) Gls.w ⟨_, hb9⟩ rfl (by kernel_rfl) (by kernel_rfl) ?_
                  repeat (go_big_quiet_step (fail))
                  refine wpQuiet_nil ?_
                  rintro w9 ⟨u, rfl⟩
                  have hu := bto u.2 (below_drew u.w)
                  go_wp2_with fail
                  refine wp_region_quietW (J := Gls wo) Gls.w ⟨_, hu⟩ rfl (by kernel_rfl) (by kernel_rfl) ?_
                  repeat (go_big_quiet_step (fail))
                  refine wpQuiet_nil ?_
                  rintro w9 ⟨u2, rfl⟩
                  have hu2 : Below wo.heap.size wo u2.w := u2.2
                  generalize u2.w = wq at *
                  go_wp2_with fail
                  refine ⟨⟨m + 1, HML.out, by go_num, rfl, by rw [HBK.out]; rfl, hide hu2⟩, ?_⟩
                  have := HMM.out
                  simp [intOf]; omega
              · have f0 : ¬ (m : Int) = k := by omega
                have f1 : ((m : Int) == (k : Int)) = false := by simp; omega
                have f4 : ¬ m = k := e0
                have f6 : ((m : Int) != (k : Int)) = true := by simp; omega
                have f7 : (m != k) = true := by simpa using e0
                have f5 : (m == k) = false := by simpa using e0
                have f2 : ¬ y.f.toList = x.f.toList := fun h => e1 (toList_inj.1 h)
                have f3 : (y.f.toList == x.f.toList) = false := by simpa using f2
                clear e1
                cases B
                all_goals as_aux_lemma =>
                  go_wp2_with fail
                  refine wp_region_quietW (J := Gls wo) Gls.w ⟨_, hb9⟩ rfl (by kernel_rfl) (by kernel_rfl) ?_
                  repeat (go_big_quiet_step (fail))
                  refine wpQuiet_nil ?_
                  rintro w9 ⟨u, rfl⟩
                  have hu := bto u.2 (below_drew u.w)
                  go_wp2_with fail
                  refine wp_region_quietW (J := Gls wo) Gls.w ⟨_, hu⟩ rfl (by kernel_rfl) (by kernel_rfl) ?_
                  repeat (go_big_quiet_step (fail))
                  refine wpQuiet_nil ?_
                  rintro w9 ⟨u2, rfl⟩
                  have hu2 : Below wo.heap.size wo u2.w := u2.2
                  generalize u2.w = wq at *
                  go_wp2_with fail
                  refine ⟨⟨m + 1, HML.out, by go_num, rfl, by rw [HBK.out]; rfl, hide hu2⟩, ?_⟩
                  have := HMM.out
                  simp [intOf]; omega
              · have f0 : ¬ (m : Int) = k := by omega
                have f1 : ((m : Int) == (k : Int)) = false := by simp; omega
                have f4 : ¬ m = k := e0
                have f6 : ((m : Int) != (k : Int)) = true := by simp; omega
                have f7 : (m != k) = true := by simpa using e0
                have f5 : (m == k) = false := by simpa using e0
                have f2 : ¬ y.t.toList = x.t.toList := fun h => e2 (toList_inj.1 h)
                have f3 : (y.t.toList == x.t.toList) = false := by simpa using f2
                clear e2
                rw [e1] at C0 EQ
                clear e1
                cases B
                all_goals as_aux_lemma =>
                  go_wp2_with fail
                  refine wp_region_quietW (J := Gls wo) Gls.w ⟨_, hb9⟩ rfl (by kernel_rfl) (by kernel_rfl) ?_
                  repeat (go_big_quiet_step (fail))
                  refine wpQuiet_nil ?_
                  rintro w9 ⟨u, rfl⟩
                  have hu := bto u.2 (below_drew u.w)
                  go_wp2_with fail
                  refine wp_region_quietW (J := Gls wo) Gls.w ⟨_, hu⟩ rfl (by kernel_rfl) (by kernel_rfl) ?_
                  repeat (go_big_quiet_step (fail))
                  refine wpQuiet_nil ?_
                  rintro w9 ⟨u2, rfl⟩
                  have hu2 : Below wo.heap.size wo u2.w := u2.2
                  generalize u2.w = wq at *
                  go_wp2_with fail
                  refine ⟨⟨m + 1, HML.out, by go_num, rfl, by rw [HBK.out]; rfl, hide hu2⟩, ?_⟩
                  have := HMM.out
                  simp [intOf]; omega
              · have f0 : ¬ (m : Int) = k := by omega
                have f1 : ((m : Int) == (k : Int)) = false := by simp; omega
                have f4 : ¬ m = k := e0
                have f6 : ((m : Int) != (k : Int)) = true := by simp; omega
                have f7 : (m != k) = true := by simpa using e0
                have f5 : (m == k) = false := by simpa using e0
                have f2 : ¬ y.w.toList = x.w.toList := fun h => e3 (toList_inj.1 h)
                have f3 : (y.w.toList == x.w.toList) = false := by simpa using f2
                clear e3
                rw [e1] at C0 EQ
                rw [e2] at C1 EQ
                clear e1 e2
                cases B
                all_goals as_aux_lemma =>
                  go_wp2_with fail
                  refine wp_region_quietW (J := Gls wo) Gls.w ⟨_, hb9⟩ rfl (by kernel_rfl) (by kernel_rfl) ?_
                  repeat (go_big_quiet_step (fail))
                  refine wpQuiet_nil ?_
                  rintro w9 ⟨u, rfl⟩
                  have hu := bto u.2 (below_drew u.w)
                  go_wp2_with fail
                  refine wp_region_quietW (J := Gls wo) Gls.w ⟨_, hu⟩ rfl (by kernel_rfl) (by kernel_rfl) ?_
                  repeat (go_big_quiet_step (fail))
                  refine wpQuiet_nil ?_
                  rintro w9 ⟨u2, rfl⟩
                  have hu2 : Below wo.heap.size wo u2.w := u2.2
                  generalize u2.w = wq at *
                  go_wp2_with fail
                  refine ⟨⟨m + 1, HML.out, by go_num, rfl, by rw [HBK.out]; rfl, hide hu2⟩, ?_⟩
                  have := HMM.out
                  simp [intOf]; omega
            · obtain rfl : m = L.length := by omega
              rw [List.take_length]
              have hbk : decide ((⟨x.t, x.f, x.w, x.n⟩ : Ar) ∈ L) = true := by
                rw [decide_eq_true_eq, ← HL.out]
                exact arc_back (by rw [HL.out]; exact HMEM.out)
              rw [hbk]
              obtain ⟨ow, op, oq, hai⟩ := arc_is HMB.out (show x ∈ arcsL l by rw [HL.out]; exact HMEM.out)
              obtain ⟨iw, hiw1, hiw2⟩ := findN_of (mapB_uniq HMB.out) hai.mem
              obtain ⟨ia, hia1, hia2⟩ := findN_of (mapB_uniq HMB.out) hai.from'.mem
              obtain ⟨ib, hib1, hib2⟩ := findN_of (mapB_uniq HMB.out) hai.to'.mem
              rw [hai.id] at hiw1
              rw [hai.from'.id] at hia1
              rw [hai.to'.id] at hib1
              have hlw : iw < l.length := (List.getElem?_eq_some_iff.1 hiw2).1
              have hla : ia < l.length := (List.getElem?_eq_some_iff.1 hia2).1
              have hlb2 : ib < l.length := (List.getElem?_eq_some_iff.1 hib2).1
              obtain ⟨A', c', e, _, hA2⟩ := id HV4.out.obs
              cases e
              obtain ⟨g2, o2, rfl, hg2, hp2⟩ := hA2.resolve_left (by intro e; rw [e] at hlw; simp at hlw)
              obtain ⟨rw', tw', hoaw⟩ := hp2 iw ow hiw2
              obtain ⟨Ar, cr, hrv, _, hAr⟩ := id hoaw.refs
              subst hrv
              have HAR := hide (fun h => hAr.resolve_left h)
              have G0 : ∀ u : Gls wo, u.w.cell? ⟨g2, o2 + iw * 6 + 4, none⟩ = some (.slice Ar ow.refs.length cr) := fun u => ((bto HBO.out u.2).cell (p := ⟨g2, _, none⟩) hg2).trans hoaw.c4
              have HP2 := hide hp2
              have w0 : (0 : Int) ≤ iw := by omega
              have w1' : (iw : Int) < l.length := by omega
              clear hA2 hoaw hAr hp2
              have FW := hide (fun u : Gls wo => find_any l x.w _ u.w (HV4.out.below (bto HBO.out u.2)))
              have FA := hide (fun u : Gls wo => find_any l x.f _ u.w (HV4.out.below (bto HBO.out u.2)))
              have FB := hide (fun u : Gls wo => find_any l x.t _ u.w (HV4.out.below (bto HBO.out u.2)))
              rw [show findI l x.w = (iw : Int) from by unfold findI; rw [hiw1]] at FW
              rw [show findI l x.f = (ia : Int) from by unfold findI; rw [hia1]] at FA
              rw [show findI l x.t = (ib : Int) from by unfold findI; rw [hib1]] at FB
              have HAI := hide hai
              have HW2 := hide hiw2
              have HA2 := hide hia2
              have HB2 := hide hib2
              have hbr := bto hb.out (below_drew wr)
              have D0 : ∀ u : Gls wo, u.w.cell? ⟨bo, 0, none⟩ = some (.string x.f) := fun u => cell_of_row u.w _ 0 _ _ _ (blkB u.2 HBL.out)
              have D1 : ∀ u : Gls wo, u.w.cell? ⟨bo, 1, none⟩ = some (.string x.t) := fun u => cell_of_row u.w _ 1 _ _ _ (blkB u.2 HBL.out)
              have D2 : ∀ u : Gls wo, u.w.cell? ⟨bo, 2, none⟩ = some (.string x.w) := fun u => cell_of_row u.w _ 2 _ _ _ (blkB u.2 HBL.out)
              have D3 : ∀ u : Gls wo, u.w.cell? ⟨bo, 3, none⟩ = some (.int .i64 x.n) := fun u => cell_of_row u.w _ 3 _ _ _ (blkB u.2 HBL.out)
              have E0 : ∀ u : Gls wo, u.w.cell? ⟨w.heap.size, 0, none⟩ = some (.slice (some ⟨g2, o2, none⟩) l.length c) := fun u => (blk1 (blkB (bto HBO.out u.2) HM4.out)).1
              have YN : Nonempty (Gls wo) := ⟨⟨_, hbr⟩⟩
              have nw : ¬ (iw : Int) < 0 := by omega
              have na : ¬ (ia : Int) < 0 := by omega
              have nb : ¬ (ib : Int) < 0 := by omega
              clear hbk hai hiw1 hiw2 hia1 hia2 hib1 hib2 hb4 hbl d0 d1 d2 d3 hb hml hm
              go_wp2_with fail
              refine wp_region_quietW (J := Gls wo) Gls.w ⟨_, hbr⟩ rfl (by kernel_rfl) (by kernel_rfl) ?_
              repeat (go_big_quiet_step ((first | ((with_reducible refine (FW.out _).mono ?_); rintro _ w8 ⟨rfl, b8⟩; exact ⟨rfl, Gls.go _ b8⟩) | ((with_reducible refine (FA.out _).mono ?_); rintro _ w8 ⟨rfl, b8⟩; exact ⟨rfl, Gls.go _ b8⟩) | ((with_reducible refine (FB.out _).mono ?_); rintro _ w8 ⟨rfl, b8⟩; exact ⟨rfl, Gls.go _ b8⟩))))
              refine wpQuiet_nil ?_
              rintro w9 ⟨u, rfl⟩
              clear FW FA FB
              have g0 := G0 u
              have hu := u.2
              go_wp2_with fail
              have hu3 : Below wo.heap.size wo u.w := u.2
              clear g0 hu
              generalize u.w = wq at *
              go_loopw [13, 15] (fun nx j wr => ∃ (m : Nat) (N : Bool), m ≤ ow.refs.length ∧ j = .int .i64 m ∧ nx = .bool N ∧ Hid (N = false → ∀ i, i < m → ¬ ((ow.refs[i]? = some x.f ∧ ow.refs[i + 1]? = some x.t) ∨ (ow.refs[i]? = some x.t ∧ ow.refs[i + 1]? = some x.f))) ∧ Hid (Below wo.heap.size wo wr)) (fun _ j _ => ow.refs.length - (intOf j).toNat)
              case atStart => exact ⟨0, false, Nat.zero_le _, rfl, rfl, fun _ i hi => by omega, hu3⟩
              case round =>
                clear hu3
                obtain ⟨m, N, hm, rfl, rfl, hN, hb⟩ := hrel
                have hrl : ow.refs.length ≤ 100000 := (HL24.out.2 ow HAI.out.mem).2.1
                have s0 : IntKind.i64.wrap ((m : Int) + 1) = (m : Int) + 1 := IntWalk.i64_in _ (by omega)
                by_cases hml : m + 1 < ow.refs.length
                · obtain ⟨g3, o3, rfl, hg3, hp3⟩ := HAR.out (by intro e; rw [e] at hml; simp at hml)
                  have k1' := List.getElem?_eq_getElem (show m < ow.refs.length by omega)
                  have k2' := List.getElem?_eq_getElem hml
                  generalize ow.refs[m] = ra at *
                  generalize ow.refs[m + 1] = rb at *
                  have Z0 : ∀ u : Gls wo, u.w.cell? ⟨g3, o3 + m, none⟩ = some (.string ra) := fun u => ((bto HBO.out u.2).cell (p := ⟨g3, _, none⟩) hg3).trans (hp3 m ra k1')
                  have Z1 : ∀ u : Gls wo, u.w.cell? ⟨g3, o3 + (m + 1), none⟩ = some (.string rb) := fun u => ((bto HBO.out u.2).cell (p := ⟨g3, _, none⟩) hg3).trans (hp3 (m + 1) rb k2')
                  have Z1' : ∀ u : Gls wo, u.w.cell? ⟨g3, o3 + m + 1, none⟩ = some (.string rb) := Z1
                  have m0 : (0 : Int) ≤ m := by omega
                  have m1 : (m : Int) < ow.refs.length := by omega
                  have m2 : (0 : Int) ≤ (m : Int) + 1 := by omega
                  have m3 : (m : Int) + 1 < ow.refs.length := by omega
                  have hbd := bto hb.out (below_drew wr)
                  obtain ⟨bA, pA, tA, tA'⟩ := eq_bool ra x.f
                  obtain ⟨bB, pB, tB, tB'⟩ := eq_bool rb x.t
                  obtain ⟨bC, pC, tC, tC'⟩ := eq_bool ra x.t
                  obtain ⟨bD, pD, tD, tD'⟩ := eq_bool rb x.f
                  have HZ := hide (show (N || (bA && bB) || (bC && bD)) = false → ∀ i, i < m + 1 → ¬ ((ow.refs[i]? = some x.f ∧ ow.refs[i + 1]? = some x.t) ∨ (ow.refs[i]? = some x.t ∧ ow.refs[i + 1]? = some x.f)) from fun h2 i hi => by
                    simp only [Bool.or_eq_false_iff] at h2
                    by_cases e : i = m
                    · subst e
                      rw [k1', k2', Option.some_inj, Option.some_inj, Option.some_inj, Option.some_inj, ← pA, ← pB, ← pC, ← pD]
                      cases bA <;> cases bB <;> cases bC <;> cases bD <;> simp_all
                    · exact hN.out h2.1.1 i (by omega))
                  have HML := hide (show m + 1 ≤ ow.refs.length from by omega)
                  have HMM := hide (show ow.refs.length - (m + 1) < ow.refs.length - m from by omega)
                  clear hml hm hb hN hp3 k1' k2' hrl pA pB pC pD
                  have hcs : N = true ∨ (N = false ∧ bA = true ∧ bB = true) ∨ (N = false ∧ bA = true ∧ bB = false ∧ bC = true ∧ bD = true) ∨ (N = false ∧ bA = true ∧ bB = false ∧ bC = true ∧ bD = false) ∨ (N = false ∧ bA = true ∧ bB = false ∧ bC = false) ∨ (N = false ∧ bA = false ∧ bC = true ∧ bD = true) ∨ (N = false ∧ bA = false ∧ bC = true ∧ bD = false) ∨ (N = false ∧ bA = false ∧ bC = false) := by
                    cases N <;> cases bA <;> cases bB <;> cases bC <;> cases bD <;> simp
                  rcases hcs with rfl | ⟨rfl, rfl, rfl⟩ | ⟨rfl, rfl, rfl, rfl, rfl⟩ | ⟨rfl, rfl, rfl, rfl, rfl⟩ | ⟨rfl, rfl, rfl, rfl⟩ | ⟨rfl, rfl, rfl, rfl⟩ | ⟨rfl, rfl, rfl, rfl⟩ | ⟨rfl, rfl, rfl⟩
                  all_goals as_aux_lemma =>
                    try replace tA' := tA' rfl
                    try replace tB' := tB' rfl
                    try replace tC' := tC' rfl
                    try replace tD' := tD' rfl
                    go_wp2_with fail
                    refine wp_region_quietW (J := Gls wo) Gls.w ⟨_, hbd⟩ rfl (by kernel_rfl) (by kernel_rfl) ?_
                    repeat (go_big_quiet_step (fail))
                    refine wpQuiet_nil ?_
                    rintro w9 ⟨u, rfl⟩
                    have hu : Below wo.heap.size wo u.w := u.2
                    generalize u.w = wq at *
                    go_wp2_with fail
                    refine ⟨⟨m + 1, _, HML.out, by go_num, rfl, HZ, hide hu⟩, ?_⟩
                    have := HMM.out
                    simp [intOf]; omega
                · have s1 : ¬ (m : Int) + 1 < ow.refs.length := by omega
                  obtain rfl : N = true := by
                    cases N with
                    | true => rfl
                    | false =>
                      refine (HAI.out.next.elim (fun ⟨i, h1, h2⟩ => hN.out rfl i ?_ (.inl ⟨h1, h2⟩)) (fun ⟨i, h1, h2⟩ => hN.out rfl i ?_ (.inr ⟨h1, h2⟩))).elim
                      all_goals (have := (List.getElem?_eq_some_iff.1 h2).1; omega)
                  clear hN hml
                  have gp := obB_grid (mapB_obs HMB.out op HAI.out.from'.mem) HAI.out.from'.kind
                  have gq := obB_grid (mapB_obs HMB.out oq HAI.out.to'.mem) HAI.out.to'.kind
                  obtain ⟨rva, tva, hoa⟩ := HP2.out ia op HA2.out
                  obtain ⟨rvb, tvb, hob⟩ := HP2.out ib oq HB2.out
                  have X2 : ∀ u : Gls wo, u.w.cell? ⟨g2, o2 + ia * 6 + 2, none⟩ = some (.int .i64 op.x) := fun u => ((bto HBO.out u.2).cell (p := ⟨g2, _, none⟩) hg2).trans hoa.c2
                  have X3 : ∀ u : Gls wo, u.w.cell? ⟨g2, o2 + ia * 6 + 3, none⟩ = some (.int .i64 op.y) := fun u => ((bto HBO.out u.2).cell (p := ⟨g2, _, none⟩) hg2).trans hoa.c3
                  have Y2 : ∀ u : Gls wo, u.w.cell? ⟨g2, o2 + ib * 6 + 2, none⟩ = some (.int .i64 oq.x) := fun u => ((bto HBO.out u.2).cell (p := ⟨g2, _, none⟩) hg2).trans hob.c2
                  have Y3 : ∀ u : Gls wo, u.w.cell? ⟨g2, o2 + ib * 6 + 3, none⟩ = some (.int .i64 oq.y) := fun u => ((bto HBO.out u.2).cell (p := ⟨g2, _, none⟩) hg2).trans hob.c3
                  have X3' : ∀ u : Gls wo, u.w.cell? ⟨g2, o2 + ia * 6 + 2 + 1, none⟩ = some (.int .i64 op.y) := X3
                  have Y3' : ∀ u : Gls wo, u.w.cell? ⟨g2, o2 + ib * 6 + 2 + 1, none⟩ = some (.int .i64 oq.y) := Y3
                  obtain ⟨dx, hdx⟩ : ∃ dx, op.x - oq.x = dx := ⟨_, rfl⟩
                  obtain ⟨dy, hdy⟩ : ∃ dy, op.y - oq.y = dy := ⟨_, rfl⟩
                  have s2 : IntKind.i64.wrap (op.x - oq.x) = dx := by rw [hdx]; exact IntWalk.i64_in _ (by omega)
                  have s3 : IntKind.i64.wrap (op.y - oq.y) = dy := by rw [hdy]; exact IntWalk.i64_in _ (by omega)
                  have hroot := HAI.out.root
                  have hbd2 := sqD_bd gp gq
                  unfold sqD at hroot hbd2
                  rw [hdx, hdy] at hroot hbd2
                  have sq1 := sqn dx
                  have sq2 := sqn dy
                  obtain ⟨q1, hq1⟩ : ∃ q, x.n * x.n = q := ⟨_, rfl⟩
                  obtain ⟨q2, hq2⟩ : ∃ q, (x.n + 1) * (x.n + 1) = q := ⟨_, rfl⟩
                  obtain ⟨p1, hp1⟩ : ∃ q, dx * dx = q := ⟨_, rfl⟩
                  obtain ⟨p2, hp2⟩ : ∃ q, dy * dy = q := ⟨_, rfl⟩
                  obtain ⟨DD, hDD⟩ : ∃ q, p1 + p2 = q := ⟨_, rfl⟩
                  have hn1 := hroot.one
                  have hn2 := hroot.le
                  have hn3 := hroot.sq
                  have hn4 := hroot.lt
                  have hn5 := hroot.zero
                  have hq3 := PlGeom.prod_bd 4194304 x.n x.n (by omega) (by omega) (by omega) (by omega)
                  have hq4 := PlGeom.prod_bd 4194304 (x.n + 1) (x.n + 1) (by omega) (by omega) (by omega) (by omega)
                  rw [hp1, hp2, hDD] at hn3 hn4 hn5 hbd2
                  rw [hq1] at hn3 hq3
                  rw [hq2] at hn4 hq4
                  rw [hp1] at sq1
                  rw [hp2] at sq2
                  have s4 : IntKind.i64.wrap (dx * dx) = p1 := by rw [hp1]; exact IntWalk.i64_in _ (by omega)
                  have s5 : IntKind.i64.wrap (dy * dy) = p2 := by rw [hp2]; exact IntWalk.i64_in _ (by omega)
                  have s6 : IntKind.i64.wrap (p1 + p2) = DD := by rw [hDD]; exact IntWalk.i64_in _ (by omega)
                  have s7 : IntKind.i64.wrap (x.n * x.n) = q1 := by rw [hq1]; exact IntWalk.i64_in _ (by omega)
                  have s8 : IntKind.i64.wrap (x.n + 1) = x.n + 1 := IntWalk.i64_in _ (by omega)
                  have s9 : IntKind.i64.wrap ((x.n + 1) * (x.n + 1)) = q2 := by rw [hq2]; exact IntWalk.i64_in _ (by omega)
                  have hdd : 0 ≤ DD := by omega
                  have HN := hide (And.intro hn3 (And.intro hn4 hn5))
                  clear hn1 hn2 hn3 hn4 hn5 hq3 hq4 hroot hbd2 sq1 sq2 hdx hdy hp1 hp2 hq1 hq2 hDD
                  have a0 : (0 : Int) ≤ ia := by omega
                  have a1 : (ia : Int) < l.length := by omega
                  have b0 : (0 : Int) ≤ ib := by omega
                  have b1 : (ib : Int) < l.length := by omega
                  have hbd := bto hb.out (below_drew wr)
                  have HGP := hide gp
                  have HGQ := hide gq
                  clear gp gq hoa hob hb
                  go_wp2_with fail
                  refine wp_region_quietW (J := Gls wo) Gls.w ⟨_, hbd⟩ rfl (by kernel_rfl) (by kernel_rfl) ?_
                  repeat (go_big_quiet_step (fail))
                  refine wpQuiet_nil ?_
                  rintro w9 ⟨u, rfl⟩
                  have d3 := D3 u
                  have HU := hide (show Below wo.heap.size wo u.w from u.2)
                  obtain ⟨HN3, HN4, HN5⟩ := HN.out
                  have r2 : ¬ q2 ≤ DD := by omega
                  by_cases hz : DD = 0
                  · have hx1 := HN5 hz
                    subst hz
                    clear HN3 HN4 HN5 HN
                    rw [hx1] at d3 s7 s8 s9
                    go_wp2_with fail
                    refine ⟨⟨k + 1, by have := HLT.out; omega, by go_num, hide (bto HBO.out HU.out)⟩, ?_⟩
                    have := HMS.out
                    simp [intOf]; omega
                  · have z1 : 0 < DD := by omega
                    have z2 : ¬ DD < q1 := by have := HN3 z1; omega
                    have z3 : (DD == 0) = false := by simpa using hz
                    clear HN3 HN4 HN5 HN
                    go_wp2_with fail
                    refine ⟨⟨k + 1, by have := HLT.out; omega, by go_num, hide (bto HBO.out HU.out)⟩, ?_⟩
                    have := HMS.out
                    simp [intOf]; omega
        · have HB := hide (bto HB4.out hb.out)
          clear hb
          go_wp2_with fail
          go_ret
          exact ⟨rfl, HB.out⟩
end Go.Proofs.Ytpiocaomlifljaa
