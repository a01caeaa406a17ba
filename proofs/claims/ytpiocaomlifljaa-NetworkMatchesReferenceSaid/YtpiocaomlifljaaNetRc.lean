/-
  The law of the routes, walked.
-/
import Derived.Test.YtpiocaomlifljaaNetRb
namespace Go.Proofs.Ytpiocaomlifljaa
open Go.RowKit Go.Proofs.PlLex Go.Proofs.PlNet Go.Proofs.PlMap

theorem mapI_few {w : World} {v : Value} {l : List Ob} (h : MapW w v l) (hf : fewM 24 l = true) : MapI w v l := by
  obtain ⟨h1, h2⟩ := fewM_ok hf (fun o ho => (h.ok o ho).2.2.2.2.1)
  exact ⟨h.obs, by omega, h2⟩
/-- Does none of the first choices of directions lead through a route? -/
def noneP (l : List Ob) (r : List BA) : Nat → Bool
  | 0 => true
  | n + 1 => noneP l r n && !passP l n true ⟨#[]⟩ r
theorem noneP_iff (l : List Ob) (r : List BA) (n : Nat) : noneP l r n = true ↔ ¬ ∃ b, b < n ∧ passP l b true ⟨#[]⟩ r = true := by
  induction n with
  | zero => simp [noneP]
  | succ n ih =>
    rw [noneP, Bool.and_eq_true, ih, Bool.not_eq_true']
    constructor
    · rintro ⟨h1, h2⟩ ⟨b, hb, hp⟩
      rcases Nat.lt_or_ge b n with c | c
      · exact h1 ⟨b, c, hp⟩
      · obtain rfl : b = n := by omega
        rw [h2] at hp; cases hp
    · intro h
      refine ⟨fun ⟨b, hb, hp⟩ => h ⟨b, by omega, hp⟩, ?_⟩
      cases e : passP l n true ⟨#[]⟩ r with
      | false => rfl
      | true => exact (h ⟨n, by omega, e⟩).elim
theorem noneP_conn {l : List Ob} (hm : mapB l = true) (r : List BA) (h : ∀ s ∈ r, (wayAt l s).isSome = true) : noneP l r (2 ^ r.length) = !connB l r := by
  have := noneP_iff l r (2 ^ r.length)
  rw [← pass_conn hm r h ⟨#[]⟩] at this
  cases e1 : noneP l r (2 ^ r.length) <;> cases e2 : connB l r <;> simp_all
theorem kind4_sound {l : List Ob} {o : Ob} (h : o.kind = 4) : soundW l o = soundB l o := by unfold soundW; rw [if_neg (by omega), if_neg (by omega)]
theorem kind5_sound {l : List Ob} {o : Ob} (h : o.kind = 5) : soundW l o = soundB l o := by unfold soundW; rw [if_neg (by omega), if_neg (by omega)]
theorem badB_route {l : List Ob} {o : Ob} (h : o.kind = 4) : badB l o = (soundB l o && !connB l o.refs) := by unfold badB badRoute badTurn; simp [h]
theorem badB_turn {l : List Ob} {o : Ob} (h : o.kind = 5) : badB l o = (soundB l o && !meetsB l o) := by unfold badB badRoute badTurn; simp [h]
theorem badB_other {l : List Ob} {o : Ob} (h4 : o.kind ≠ 4) (h5 : o.kind ≠ 5) : badB l o = false := by unfold badB badRoute badTurn; simp [h4, h5]
theorem checkL_len2 (l : List Ob) : (checkL l).length ≤ l.length := by rw [check_len]; exact List.length_filter_le _ _
theorem pow8 (m : Nat) (h : ¬ 8 < m) : wrap64 ((2 : Int) ^ m) = ((2 ^ m : Nat) : Int) := by
  have : m = 0 ∨ m = 1 ∨ m = 2 ∨ m = 3 ∨ m = 4 ∨ m = 5 ∨ m = 6 ∨ m = 7 ∨ m = 8 := by omega
  rcases this with rfl | rfl | rfl | rfl | rfl | rfl | rfl | rfl | rfl <;> decide +kernel
theorem pow8_le (m : Nat) (h : ¬ 8 < m) : 2 ^ m ≤ 256 := by
  have : m = 0 ∨ m = 1 ∨ m = 2 ∨ m = 3 ∨ m = 4 ∨ m = 5 ∨ m = 6 ∨ m = 7 ∨ m = 8 := by omega
  rcases this with rfl | rfl | rfl | rfl | rfl | rfl | rfl | rfl | rfl <;> decide +kernel
theorem turn_refs {l : List Ob} (hm : mapB l = true) {t : Ob} (ht : t ∈ l) (h5 : t.kind = 5) : t.refs.length = 3 ∧ ∃ r0 r1 r2, t.refs = [r0, r1, r2] := by
  have h := mapB_obs hm t ht
  unfold obB tailB at h
  rw [if_neg (by omega), if_pos h5] at h
  simp only [Bool.and_eq_true, decide_eq_true_eq] at h
  have h3 := h.2.1
  refine ⟨h3, ?_⟩
  match t.refs, h3 with
  | [a, b, c], _ => exact ⟨a, b, c, rfl⟩
theorem turn_ways {l : List Ob} (hm : mapB l = true) {t : Ob} {r0 r1 r2 : BA} (h5 : t.kind = 5) (hr : t.refs = [r0, r1, r2]) (hs : soundB l t = true) : ∃ (j0 : Nat) (p0 : Ob) (j2 : Nat) (p2 : Ob), findN r0 l = some j0 ∧ l[j0]? = some p0 ∧ findN r2 l = some j2 ∧ l[j2]? = some p2 ∧ meetsB l t = (hasS r1 p0.refs && hasS r1 p2.refs) := by
  unfold soundB at hs
  rw [hr, h5] at hs
  simp only [soundL, Bool.and_eq_true, Bool.and_true] at hs
  obtain ⟨h1, _, h2⟩ := hs
  rw [if_neg (by omega)] at h1
  rw [if_neg (by omega)] at h2
  obtain ⟨p0, a1, a2, _⟩ := way_find (mapB_uniq hm) h1
  obtain ⟨p2, b1, b2, _⟩ := way_find (mapB_uniq hm) h2
  obtain ⟨a3, a4⟩ := findO_some a1
  obtain ⟨b3, b4⟩ := findO_some b1
  obtain ⟨j0, a5, a6⟩ := findN_of (mapB_uniq hm) a3
  obtain ⟨j2, b5, b6⟩ := findN_of (mapB_uniq hm) b3
  rw [a4] at a5
  rw [b4] at b5
  refine ⟨j0, p0, j2, p2, a5, a6, b5, b6, ?_⟩
  unfold meetsB refAt
  rw [hr]
  simp only [List.getD_cons_zero, List.getD_cons_succ]
  rw [a2, b2]
  rfl
/-- The cells of an object's box. -/
theorem box6 {W : World} {b : Nat} {a0 a1 a2 a3 a4 a5 : Value} {t : TypeId} (h : W.heap[b]? = some (.cells #[a0, a1, a2, a3, a4, a5] t (0, 0))) : W.cell? ⟨b, 0, none⟩ = some a0 ∧ W.cell? ⟨b, 1, none⟩ = some a1 ∧ W.cell? ⟨b, 2, none⟩ = some a2 ∧ W.cell? ⟨b, 3, none⟩ = some a3 ∧ W.cell? ⟨b, 4, none⟩ = some a4 ∧ W.cell? ⟨b, 5, none⟩ = some a5 :=
  ⟨cell_of_row W _ 0 _ _ _ h, cell_of_row W _ 1 _ _ _ h, cell_of_row W _ 2 _ _ _ h, cell_of_row W _ 3 _ _ _ h, cell_of_row W _ 4 _ _ _ h, cell_of_row W _ 5 _ _ _ h⟩
set_option maxRecDepth 100000 in
set_option maxHeartbeats 16000000 in
theorem routes_any (l : List Ob) (v : Value) (w : World) (hv : MapW w v l) :
    Calls Try.prog 5 #[.agg #[v]] w fun e w' => e = .returned (.bool true) ∧ Below w.heap.size w w' := by
  have hlen := hv.len
  obtain ⟨A, c, rfl, _, hA⟩ := id hv.obs
  obtain ⟨wa, hwa⟩ : ∃ wa, w.alloc (.cells #[.slice A l.length c] 24) = wa := ⟨_, rfl⟩
  have ha : Below w.heap.size w wa := by rw [← hwa]; exact (Below.refl _ _).alloc (Nat.le_refl _) _
  have hm : wa.heap[w.heap.size]? = some (.cells #[.slice A l.length c] 24 (0, 0)) := by rw [← hwa]; exact heap_alloc_new w _
  have HV := hide (hv.below ha)
  have HH := hide (head_any wa)
  clear hv hA
  go_enter Try.func5, Try.ntmps5
  go_wp2_with fail
  refine HH.out.mono ?_
  rintro _ w1 ⟨rfl, b1⟩
  have hm1 := blkB b1 hm
  have hb1 := bto ha b1
  have HV1 := hide (HV.out.below b1)
  have dm := (blk1 hm1).1
  have HF := hide (fewlaw_any l _ w1 HV1.out)
  clear hwa ha hm HV HH b1
  cases hfew : fewM 24 l with
  | false =>
    rw [hfew] at HF
    clear hfew
    go_wp2_with fail
    refine HF.out.mono ?_
    rintro _ w2 ⟨rfl, b2⟩
    have HB := hide (bto hb1 b2)
    clear dm hm1 b2 hb1
    go_wp2_with fail
    go_ret
    exact ⟨rfl, HB.out⟩
  | true =>
    rw [hfew] at HF
    have HMI := hide (mapI_few HV1.out hfew)
    have HL24 := hide (fewM_ok hfew (fun o ho => (HV1.out.ok o ho).2.2.2.2.1))
    clear hfew
    go_wp2_with fail
    refine HF.out.mono ?_
    rintro _ w2 ⟨rfl, b2⟩
    have hm2 := blkB b2 hm1
    have hb2 := bto hb1 b2
    have HV2 := hide (HV1.out.below b2)
    have HMI2 := hide (HMI.out.below b2)
    have dm := (blk1 hm2).1
    have HVA := hide (avalid_any l _ w2 HMI2.out.obs HMI2.out.len HMI2.out.ok)
    clear HF b2 hb1 hm1 HV1 HMI
    cases hmb : mapB l with
    | false =>
      rw [hmb] at HVA
      clear hmb
      go_wp2_with fail
      refine HVA.out.mono ?_
      rintro _ w3 ⟨rfl, b3⟩
      have HB := hide (bto hb2 b3)
      clear dm hm2 b3 hb2
      go_wp2_with fail
      go_ret
      exact ⟨rfl, HB.out⟩
    | true =>
      rw [hmb] at HVA
      have HMB := hide hmb
      clear hmb
      go_wp2_with fail
      refine HVA.out.mono ?_
      rintro _ w3 ⟨rfl, b3⟩
      have hm3 := blkB b3 hm2
      have hb3 := bto hb2 b3
      have HV3 := hide (HV2.out.below b3)
      have HMI3 := hide (HMI2.out.below b3)
      have dm := (blk1 hm3).1
      have HCK := hide (check_any l _ w3 HMI3.out)
      clear HVA b3 hb2 hm2 HV2 HMI2
      go_wp2_with fail
      refine HCK.out.mono ?_
      rintro _ w4 ⟨ra, rfl, har, b4⟩
      rw [if_pos HMB.out] at har
      have HVI := hide har
      have HV4 := hide (HV3.out.below b4)
      have HI4 := hide (HMI3.out.below b4)
      have HM4 := hide (blkB b4 hm3)
      have HB4 := hide (bto hb3 b4)
      obtain ⟨Aa, ca, rfl, _⟩ := id har
      have hlb := checkL_len2 l
      have h24 := HL24.out.1
      have HCL := hide (check_len l)
      generalize hLE : (checkL l).length = LE at *
      have HLE := hide hLE
      clear HCK b4 hb3 hm3 HV3 HMI3 dm har hLE
      obtain ⟨A', c', e, _, hA⟩ := id HV4.out.obs
      cases e
      have HA := hide hA
      clear hA
      go_wp2_with fail
      go_loopw [5, 6] (fun n i wr => ∃ k : Nat, k ≤ l.length ∧ n = .int .i64 (((l.take k).filter (badB l)).length : Nat) ∧ i = .int .i64 k ∧ Hid (Below w4.heap.size w4 wr)) (fun _ i _ => l.length - (intOf i).toNat)
      case atStart => exact ⟨0, Nat.zero_le _, rfl, rfl, Below.refl _ _⟩
      case round =>
        obtain ⟨k, hk, rfl, rfl, hb⟩ := hrel
        by_cases hlt : k < l.length
        · obtain ⟨g, o, rfl, hg, hp⟩ := HA.out.resolve_left (by rintro rfl; simp at hlt)
          obtain ⟨rv, tv, hoa⟩ := hp k _ (List.getElem?_eq_getElem hlt)
          have hmem : l[k] ∈ l := List.getElem_mem hlt
          have hbs := badB_snoc l k hlt
          have hnb : ((l.take k).filter (badB l)).length ≤ 24 := Nat.le_trans (List.length_filter_le _ _) (by rw [List.length_take]; omega)
          generalize ((l.take k).filter (badB l)).length = n at *
          obtain ⟨n1, hne⟩ : ∃ n1, ((l.take (k + 1)).filter (badB l)).length = n1 := ⟨_, rfl⟩
          rw [hne] at hbs
          have HNE := hide hne
          clear hne
          generalize l[k] = t at *
          obtain ⟨Ar, cr, hrv, _⟩ := id hoa.refs
          obtain ⟨At, ct, htv, _⟩ := id hoa.tags
          subst hrv
          subst htv
          have HOA := hide (hoa.below hg hb.out)
          obtain ⟨c0, c1, c2, c3, c4, c5, _, _⟩ := hoa.below hg hb.out
          have e0 := (blk1 (blkB (bto (Below.refl _ _) hb.out) HM4.out)).1
          have k0 : (0 : Int) ≤ k := by omega
          have k1 : (k : Int) < l.length := by omega
          have HKL := hide (show k + 1 ≤ l.length from hlt)
          have HMS := hide (show l.length - (k + 1) < l.length - k from by omega)
          obtain ⟨wo, hwo⟩ : ∃ wo, wr.alloc (.cells #[.string t.id, .int .i64 t.kind, .int .i64 t.x, .int .i64 t.y, .slice Ar t.refs.length cr, .slice At t.tags.length ct] 42) = wo := ⟨_, rfl⟩
          have hwb : Below wr.heap.size wr wo := by rw [← hwo]; exact (Below.refl _ _).alloc (Nat.le_refl _) _
          have HBO := hide (bto hb.out hwb)
          have HBL : Hid (wo.heap[wr.heap.size]? = some (.cells #[.string t.id, .int .i64 t.kind, .int .i64 t.x, .int .i64 t.y, .slice Ar t.refs.length cr, .slice At t.tags.length ct] 42 (0, 0))) := by rw [← hwo]; exact heap_alloc_new _ _
          have HMM := hide (fun (W : World) (h : Below wo.heap.size wo W) => blkB (bto HBO.out h) HM4.out)
          have HBB := hide (fun (W : World) (h : Below wo.heap.size wo W) => blkB h HBL.out)
          have HIU := hide (fun (W : World) (h : Below wo.heap.size wo W) => HI4.out.below (bto HBO.out h))
          have HWU := hide (fun (W : World) (h : Below wo.heap.size wo W) => HV4.out.below (bto HBO.out h))
          have HRU := hide (fun (W : World) (h : Below wo.heap.size wo W) => (HOA.out.refs.below hwb).below h)
          have HTU := hide (fun (W : World) (h : Below wo.heap.size wo W) => (HOA.out.tags.below hwb).below h)
          have HNU := hide (fun (W : World) (h : Below wo.heap.size wo W) => HVI.out.below (bto HBO.out h))
          obtain ⟨d0, d1, d2, d3, d4, d5⟩ := box6 HBL.out
          have f0 := (blk1 (HMM.out wo (Below.refl _ _))).1
          have HME := hide hmem
          have HBS := hide hbs
          have HRL := hide ((HL24.out.2 t hmem).2.1)
          clear hp hoa hb hlt hmem hbs hwb
          by_cases h4 : t.kind = 4
          · have HK4 := hide h4
            rw [h4] at c1 d1 hwo HBB HBL
            by_cases h8 : 8 < t.refs.length
            · have HB := hide (bto HB4.out HBO.out)
              have h8' : (8 : Int) < t.refs.length := by omega
              go_wp2_with fail
              go_ret
              exact ⟨rfl, HB.out⟩
            · have h8' : ¬ (8 : Int) < t.refs.length := by omega
              have HS := hide (sound13_any l _ HMB.out _ t _ _ wo (Nat.le_refl _) HME.out (HIU.out wo (Below.refl _ _)) (HRU.out wo (Below.refl _ _)) (HTU.out wo (Below.refl _ _)))
              rw [kind4_sound h4] at HS
              unfold obV at HS
              rw [h4] at HS
              have HBS2 := HBS.out
              rw [badB_route h4] at HBS2
              have HPS := hide (fun (W : World) (h : Below wo.heap.size wo W) (b : Nat) => passes_any l _ t.refs _ b W (HWU.out W h) (fun o ho => (HL24.out.2 o ho).2.1) (HRU.out W h) (by omega))
              cases hsd : soundB l t with
              | false =>
                rw [hsd] at HS HBS2
                have HN1 : Hid (n1 = n) := by rw [HBS2]; rfl
                clear HBS2 hsd h4
                go_wp2_with fail
                refine HS.out.mono ?_
                rintro _ w5 ⟨rfl, b5⟩
                have HB5 := hide b5
                obtain ⟨f0', f1, f2, f3, f4, f5⟩ := box6 (HBB.out w5 HB5.out)
                clear f0' f2 f3 f4 f5 b5 c0 c1 c2 c3 c4 c5 d0 d1 d2 d3 d4 d5 hwo
                go_wp2_with fail
                refine ⟨⟨k + 1, HKL.out, by rw [HNE.out, HN1.out], by go_num, hide (bto HBO.out HB5.out)⟩, ?_⟩
                have := HMS.out
                simp [intOf]; omega
              | true =>
                rw [hsd] at HS HBS2
                have HCN := hide (noneP_conn HMB.out t.refs (soundL_way2 (show (4 : Int) ≠ 5 by decide) t.refs 0 (by rw [← h4]; exact hsd)))
                obtain ⟨Q, hQ⟩ : ∃ Q, connB l t.refs = Q := ⟨_, rfl⟩
                have HNM := hide (fun (W : World) (h : Below wo.heap.size wo W) => named_any (checkL l) 5 t.id _ W (HNU.out W h) (by rw [HLE.out]; omega))
                rw [named_route (mapB_uniq HMB.out) HME.out h4, hsd, hQ] at HNM
                rw [hQ] at HCN HBS2
                have HBS3 := hide HBS2
                obtain ⟨N, hN⟩ : ∃ N, 2 ^ t.refs.length = N := ⟨_, rfl⟩
                rw [hN] at HCN
                have hpw := pow8 _ h8
                have hN256 := pow8_le _ h8
                rw [hN] at hpw hN256
                clear HBS2 hsd h4 hQ hN
                go_wp2_with fail
                refine HS.out.mono ?_
                rintro _ w5 ⟨rfl, b5⟩
                have HB5 := hide b5
                clear b5 c0 c1 c2 c3 c4 c5 d0 d1 d2 d3 d4 d5 hwo
                go_wp2_with fail
                go_loopw [8, 9] (fun want bits wr2 => ∃ B : Nat, B ≤ N ∧ want = .bool (noneP l t.refs B) ∧ bits = .int .i64 B ∧ Hid (Below wo.heap.size wo wr2)) (fun _ bits _ => N - (intOf bits).toNat)
                case atStart => exact ⟨0, Nat.zero_le _, rfl, rfl, HB5.out⟩
                case round =>
                  obtain ⟨B, hB, rfl, rfl, hb2⟩ := hrel
                  obtain ⟨f0', f1, f2, f3, f4, f5⟩ := box6 (HBB.out wr hb2.out)
                  have g0 := (blk1 (HMM.out wr hb2.out)).1
                  clear f2 f3 f5
                  by_cases hBN : B < N
                  · have b0 : (B : Int) < N := by omega
                    have HX := hide (HPS.out wr hb2.out B)
                    have HNX : Hid (noneP l t.refs (B + 1) = (noneP l t.refs B && !passP l B true ⟨#[]⟩ t.refs)) := hide rfl
                    have HBN := hide hBN
                    have HB2 := hide hb2.out
                    clear f0' f1 hBN hb2
                    cases hps : passP l B true ⟨#[]⟩ t.refs with
                    | true =>
                      rw [hps] at HX HNX
                      clear hps
                      go_wp2_with fail
                      refine HX.out.mono ?_
                      rintro _ w6 ⟨rfl, b6⟩
                      have HB6 := hide (bto HB2.out b6)
                      clear b6 f4 g0
                      go_wp2_with fail
                      refine ⟨⟨B + 1, HBN.out, by rw [HNX.out]; simp, by go_num, HB6⟩, ?_⟩
                      have := HBN.out
                      simp [intOf]; omega
                    | false =>
                      rw [hps] at HX HNX
                      clear hps
                      go_wp2_with fail
                      refine HX.out.mono ?_
                      rintro _ w6 ⟨rfl, b6⟩
                      have HB6 := hide (bto HB2.out b6)
                      clear b6 f4 g0
                      go_wp2_with fail
                      refine ⟨⟨B + 1, HBN.out, by rw [HNX.out]; simp, by go_num, HB6⟩, ?_⟩
                      have := HBN.out
                      simp [intOf]; omega
                  · have b0 : ¬ (B : Int) < N := by omega
                    obtain rfl : B = N := by omega
                    rw [HCN.out]
                    have HX := hide (HNM.out wr hb2.out)
                    have HB2 := hide (bto HBO.out hb2.out)
                    clear hBN hb2
                    cases Q with
                    | true =>
                      have HN1 : Hid (n1 = n) := by rw [HBS3.out]; rfl
                      go_wp2_with fail
                      refine HX.out.mono ?_
                      rintro _ w6 ⟨rfl, rfl⟩
                      go_wp2_with fail
                      refine ⟨⟨k + 1, HKL.out, by rw [HNE.out, HN1.out], by go_num, HB2⟩, ?_⟩
                      have := HMS.out
                      simp [intOf]; omega
                    | false =>
                      have HN1 : Hid (n1 = n + 1) := by rw [HBS3.out]; rfl
                      go_wp2_with fail
                      refine HX.out.mono ?_
                      rintro _ w6 ⟨rfl, rfl⟩
                      go_wp2_with fail
                      refine ⟨⟨k + 1, HKL.out, by rw [HNE.out, HN1.out]; go_num, by go_num, HB2⟩, ?_⟩
                      have := HMS.out
                      simp [intOf]; omega
          · by_cases h5 : t.kind = 5
            · obtain ⟨hl3, hr3⟩ := turn_refs HMB.out HME.out h5
              obtain ⟨r0, r1, r2, hr⟩ := hr3
              rw [h5] at c1 d1 hwo HBB HBL
              have HS := hide (sound13_any l _ HMB.out _ t _ _ wo (Nat.le_refl _) HME.out (HIU.out wo (Below.refl _ _)) (HRU.out wo (Below.refl _ _)) (HTU.out wo (Below.refl _ _)))
              rw [kind5_sound h5] at HS
              unfold obV at HS
              rw [h5, hl3] at HS
              rw [hl3] at c4 d4 hwo HBB HBL HRU
              have HBS2 := HBS.out
              rw [badB_turn h5] at HBS2
              have q54 : ((5 : Int) == 4) = false := rfl
              cases hsd : soundB l t with
              | false =>
                rw [hsd] at HS HBS2
                have HN1 : Hid (n1 = n) := by rw [HBS2]; rfl
                clear HBS2 hsd h5 h4 hr hl3
                go_wp2_with fail
                refine HS.out.mono ?_
                rintro _ w5 ⟨rfl, b5⟩
                have HB5 := hide (bto HBO.out b5)
                clear b5 c0 c1 c2 c3 c4 c5 d0 d1 d2 d3 d4 d5 hwo
                go_wp2_with fail
                refine ⟨⟨k + 1, HKL.out, by rw [HNE.out, HN1.out], by go_num, HB5⟩, ?_⟩
                have := HMS.out
                simp [intOf]; omega
              | true =>
                rw [hsd] at HS HBS2
                obtain ⟨j0, p0, j2, p2, hj0, hp0, hj2, hp2, hme⟩ := turn_ways HMB.out h5 hr hsd
                obtain ⟨Q, hQ⟩ : ∃ Q, meetsB l t = Q := ⟨_, rfl⟩
                have HNM := hide (fun (W : World) (h : Below wo.heap.size wo W) => named_any (checkL l) 6 t.id _ W (HNU.out W h) (by rw [HLE.out]; omega))
                rw [named_turn (mapB_uniq HMB.out) HME.out h5, hsd, hQ] at HNM
                rw [hQ] at hme HBS2
                have HBS3 := hide HBS2
                have hRU : ∀ (W : World) (h : Below wo.heap.size wo W), StS W (.slice Ar 3 cr) [r0, r1, r2] := fun W h => by rw [← hr]; exact HRU.out W h
                obtain ⟨A3, c3', e3, _, hA3⟩ := id (hRU wo (Below.refl _ _))
                cases e3
                obtain ⟨g3, o3, rfl, hg3, hp3⟩ := hA3.resolve_left (List.cons_ne_nil _ _)
                have R0 : ∀ u : Gls wo, u.w.cell? ⟨g3, o3, none⟩ = some (.string r0) := fun u => (u.2.cell (p := ⟨g3, _, none⟩) hg3).trans (by have := hp3 0 _ rfl; rwa [Nat.add_zero] at this)
                have R1 : ∀ u : Gls wo, u.w.cell? ⟨g3, o3 + 1, none⟩ = some (.string r1) := fun u => (u.2.cell (p := ⟨g3, _, none⟩) hg3).trans (hp3 1 _ rfl)
                have R2 : ∀ u : Gls wo, u.w.cell? ⟨g3, o3 + 2, none⟩ = some (.string r2) := fun u => (u.2.cell (p := ⟨g3, _, none⟩) hg3).trans (hp3 2 _ rfl)
                obtain ⟨g', o', e', hg', hpa⟩ := HA.out.resolve_left (by rintro rfl; cases hj0)
                cases e'
                obtain ⟨rv0, tv0, ho0⟩ := hpa j0 p0 hp0
                obtain ⟨rv2, tv2, ho2⟩ := hpa j2 p2 hp2
                have P0 : ∀ u : Gls wo, u.w.cell? ⟨g, o + j0 * 6 + 4, none⟩ = some rv0 := fun u => (ho0.below hg (bto HBO.out u.2)).c4
                have P2 : ∀ u : Gls wo, u.w.cell? ⟨g, o + j2 * 6 + 4, none⟩ = some rv2 := fun u => (ho2.below hg (bto HBO.out u.2)).c4
                have hl0 := (HL24.out.2 p0 (List.mem_of_getElem? hp0)).2.1
                have hl2 := (HL24.out.2 p2 (List.mem_of_getElem? hp2)).2.1
                have FI0 := hide (fun u : Gls wo => in_any p0.refs r1 rv0 u.w (ho0.below hg (bto HBO.out u.2)).refs hl0)
                have FI2 := hide (fun u : Gls wo => in_any p2.refs r1 rv2 u.w (ho2.below hg (bto HBO.out u.2)).refs hl2)
                have F0 := hide (fun u : Gls wo => find_any l r0 _ u.w (HWU.out u.w u.2))
                have F2 := hide (fun u : Gls wo => find_any l r2 _ u.w (HWU.out u.w u.2))
                rw [show findI l r0 = (j0 : Int) from by unfold findI; rw [hj0]] at F0
                rw [show findI l r2 = (j2 : Int) from by unfold findI; rw [hj2]] at F2
                have z0 : (0 : Int) ≤ j0 := by omega
                have z1 : (j0 : Int) < l.length := by have := (List.getElem?_eq_some_iff.1 hp0).1; omega
                have z2 : (0 : Int) ≤ j2 := by omega
                have z3 : (j2 : Int) < l.length := by have := (List.getElem?_eq_some_iff.1 hp2).1; omega
                have E0 : ∀ u : Gls wo, u.w.cell? ⟨w.heap.size, 0, none⟩ = some (.slice (some ⟨g, o, none⟩) l.length c) := fun u => (blk1 (HMM.out u.w u.2)).1
                have D0 : ∀ u : Gls wo, u.w.cell? ⟨wr.heap.size, 0, none⟩ = some (.string t.id) := fun u => (box6 (HBB.out u.w u.2)).1
                have D1 : ∀ u : Gls wo, u.w.cell? ⟨wr.heap.size, 1, none⟩ = some (.int .i64 5) := fun u => (box6 (HBB.out u.w u.2)).2.1
                have D4 : ∀ u : Gls wo, u.w.cell? ⟨wr.heap.size, 4, none⟩ = some (.slice (some ⟨g3, o3, none⟩) 3 cr) := fun u => (box6 (HBB.out u.w u.2)).2.2.2.2.1
                have YN : Nonempty (Gls wo) := ⟨⟨_, Below.refl _ _⟩⟩
                have HME2 := hide hme
                clear HBS2 hsd h5 h4 hQ hme hl0 hl2 ho0 ho2 hpa hg' hp3 hg3 hA3 hRU hj0 hp0 hj2 hp2 hr hl3
                go_wp2_with fail
                refine HS.out.mono ?_
                rintro _ w5 ⟨rfl, b5⟩
                have hbd := bto b5 (below_drew w5)
                have d5' := D1 ⟨w5, b5⟩
                change w5.cell? _ = _ at d5'
                clear b5 c0 c1 c2 c3 c4 c5 d0 d1 d2 d3 d4 d5 hwo
                go_wp2_with fail
                refine wp_region_quietW (J := Gls wo) Gls.w ⟨_, hbd⟩ rfl (by kernel_rfl) (by kernel_rfl) ?_
                repeat (go_big_quiet_step (first | ((with_reducible refine (F0.out _).mono ?_); rintro _ w8 ⟨rfl, b8⟩; exact ⟨rfl, Gls.go _ b8⟩) | ((with_reducible refine (F2.out _).mono ?_); rintro _ w8 ⟨rfl, b8⟩; exact ⟨rfl, Gls.go _ b8⟩)))
                refine wpQuiet_nil ?_
                rintro w9 ⟨u, rfl⟩
                have hbd := bto u.2 (below_drew u.w)
                obtain ⟨q0, hq0⟩ : ∃ q, hasS r1 p0.refs = q := ⟨_, rfl⟩
                obtain ⟨q2, hq2⟩ : ∃ q, hasS r1 p2.refs = q := ⟨_, rfl⟩
                rw [hq0] at FI0
                rw [hq2] at FI2
                have HQ := hide (show Q = (q0 && q2) from by rw [HME2.out, hq0, hq2])
                clear hq0 hq2 F0 F2
                cases q0 with
                | false =>
                  rw [show Q = false from HQ.out] at HNM HBS3
                  have HN1 : Hid (n1 = n + 1) := by rw [HBS3.out]; rfl
                  go_wp2_with fail
                  refine wp_region_quietW (J := Gls wo) Gls.w ⟨_, hbd⟩ rfl (by kernel_rfl) (by kernel_rfl) ?_
                  repeat (go_big_quiet_step (((with_reducible refine (FI0.out _).mono ?_); rintro _ w8 ⟨rfl, rfl⟩; exact ⟨rfl, Gls.go _ (Below.refl _ _)⟩)))
                  refine wpQuiet_nil ?_
                  rintro w9 ⟨u2, rfl⟩
                  have HB2 := hide (show Below wo.heap.size wo u2.w from u2.2)
                  have HX := hide (HNM.out u2.w HB2.out)
                  go_wp2_with fail
                  refine HX.out.mono ?_
                  rintro _ w6 ⟨rfl, rfl⟩
                  go_wp2_with fail
                  refine ⟨⟨k + 1, HKL.out, by rw [HNE.out, HN1.out]; go_num, by go_num, hide (bto HBO.out HB2.out)⟩, ?_⟩
                  have := HMS.out
                  simp [intOf]; omega
                | true =>
                  cases q2 with
                  | false =>
                    rw [show Q = false from HQ.out] at HNM HBS3
                    have HN1 : Hid (n1 = n + 1) := by rw [HBS3.out]; rfl
                    go_wp2_with fail
                    refine wp_region_quietW (J := Gls wo) Gls.w ⟨_, hbd⟩ rfl (by kernel_rfl) (by kernel_rfl) ?_
                    repeat (go_big_quiet_step (first | ((with_reducible refine (FI0.out _).mono ?_); rintro _ w8 ⟨rfl, rfl⟩; exact ⟨rfl, Gls.go _ (Below.refl _ _)⟩) | ((with_reducible refine (FI2.out _).mono ?_); rintro _ w8 ⟨rfl, rfl⟩; exact ⟨rfl, Gls.go _ (Below.refl _ _)⟩)))
                    refine wpQuiet_nil ?_
                    rintro w9 ⟨u2, rfl⟩
                    have HB2 := hide (show Below wo.heap.size wo u2.w from u2.2)
                    have HX := hide (HNM.out u2.w HB2.out)
                    go_wp2_with fail
                    refine HX.out.mono ?_
                    rintro _ w6 ⟨rfl, rfl⟩
                    go_wp2_with fail
                    refine ⟨⟨k + 1, HKL.out, by rw [HNE.out, HN1.out]; go_num, by go_num, hide (bto HBO.out HB2.out)⟩, ?_⟩
                    have := HMS.out
                    simp [intOf]; omega
                  | true =>
                    rw [show Q = true from HQ.out] at HNM HBS3
                    have HN1 : Hid (n1 = n) := by rw [HBS3.out]; rfl
                    go_wp2_with fail
                    refine wp_region_quietW (J := Gls wo) Gls.w ⟨_, hbd⟩ rfl (by kernel_rfl) (by kernel_rfl) ?_
                    repeat (go_big_quiet_step (first | ((with_reducible refine (FI0.out _).mono ?_); rintro _ w8 ⟨rfl, rfl⟩; exact ⟨rfl, Gls.go _ (Below.refl _ _)⟩) | ((with_reducible refine (FI2.out _).mono ?_); rintro _ w8 ⟨rfl, rfl⟩; exact ⟨rfl, Gls.go _ (Below.refl _ _)⟩)))
                    refine wpQuiet_nil ?_
                    rintro w9 ⟨u2, rfl⟩
                    have HB2 := hide (show Below wo.heap.size wo u2.w from u2.2)
                    have HX := hide (HNM.out u2.w HB2.out)
                    go_wp2_with fail
                    refine HX.out.mono ?_
                    rintro _ w6 ⟨rfl, rfl⟩
                    go_wp2_with fail
                    refine ⟨⟨k + 1, HKL.out, by rw [HNE.out, HN1.out], by go_num, hide (bto HBO.out HB2.out)⟩, ?_⟩
                    have := HMS.out
                    simp [intOf]; omega
            · have q4 : (t.kind == 4) = false := beq_eq_false_iff_ne.2 h4
              have q5 : (t.kind == 5) = false := beq_eq_false_iff_ne.2 h5
              have hn1 : n1 = n := by rw [HBS.out, badB_other h4 h5]; simp
              have HN1 := hide hn1
              clear hn1
              go_wp2_with fail
              refine ⟨⟨k + 1, HKL.out, by rw [HNE.out, HN1.out], by go_num, hide HBO.out⟩, ?_⟩
              have := HMS.out
              simp [intOf]; omega
        · obtain rfl : k = l.length := by omega
          have HB := hide (bto HB4.out hb.out)
          rw [List.take_length]
          rw [HCL.out.symm]
          have e0 := (blk1 (blkB hb.out HM4.out)).1
          clear hb
          go_wp2_with fail
          go_ret
          exact ⟨rfl, HB.out⟩
end Go.Proofs.Ytpiocaomlifljaa
