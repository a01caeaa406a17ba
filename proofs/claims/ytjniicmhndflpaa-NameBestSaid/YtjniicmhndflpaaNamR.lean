/-
  The law of the languages, walked.
-/
import Derived.Test.YtjniicmhndflpaaNamQ
namespace Go.Proofs.Ytjniicmhndflpaa
open Go.RowKit Go.Proofs.PlLex Go.Proofs.PlName

theorem fewT_facts {n : Nat} {l : List Tg} (h : fewT n l = true) : l.length ≤ n ∧ ∀ t ∈ l, t.k.size ≤ 300 ∧ t.v.size ≤ 300 := by
  unfold fewT at h
  simp only [Bool.and_eq_true, decide_eq_true_eq, List.all_eq_true] at h
  exact h
theorem fewS_nil (n : Nat) : fewS n [] = true := by simp [fewS]

set_option maxRecDepth 100000 in
set_option maxHeartbeats 16000000 in
theorem languages_law (l : List Tg) (v : Value) (other : ByteArray) (w : World) (hv : TgS w v l) (hl : l.length ≤ maxLen) (_ : other.size ≤ maxLen) :
    Calls Try.prog 4 #[v, .string other] w fun e w' => e = .returned (.bool true) ∧ Below w.heap.size w w' := by
  have HH := hide (head_any w)
  have HT := hide hv
  have HF := hide (fun w' (h : TgS w' v l) => few_any l [] v (.slice none 0 0) w' h ⟨none, 0, rfl, Nat.le_refl _, .inl rfl⟩ hl (by decide))
  simp only [fewS_nil, Bool.and_true] at HF
  cases hfew : fewT 70 l with
  | false =>
    rw [hfew] at HF
    obtain ⟨A, c, rfl, _⟩ := hv
    clear hfew
    go_enter Try.func4, Try.ntmps4
    go_wp2_with fail
    refine (HH.out).mono ?_
    rintro _ w1 ⟨rfl, b1⟩
    go_wp2_with fail
    refine (HF.out w1 (HT.out.below b1)).mono ?_
    rintro _ w2 ⟨rfl, b2⟩
    have HB := hide (bto b1 b2)
    clear b1 b2
    go_wp2_with fail
    go_ret
    exact ⟨rfl, HB.out⟩
  | true =>
    rw [hfew] at HF
    obtain ⟨f1, f2⟩ := fewT_facts hfew
    have hsz : ∀ t ∈ l, t.k.size ≤ 100000 ∧ t.v.size ≤ 100000 := fun t ht => ⟨by have := (f2 t ht).1; omega, by have := (f2 t ht).2; omega⟩
    have hl5 : l.length ≤ 100000 := by omega
    clear hfew
    by_cases ho : 30 < other.size
    · have ho' : (30 : Int) < other.size := by omega
      obtain ⟨A, c, rfl, _⟩ := hv
      clear f1 f2 hsz
      go_enter Try.func4, Try.ntmps4
      go_wp2_with fail
      refine (HH.out).mono ?_
      rintro _ w1 ⟨rfl, b1⟩
      go_wp2_with fail
      refine (HF.out w1 (HT.out.below b1)).mono ?_
      rintro _ w2 ⟨rfl, b2⟩
      have HB := hide (bto b1 b2)
      clear b1 b2
      go_wp2_with fail
      go_ret
      exact ⟨rfl, HB.out⟩
    · have ho' : ¬ (30 : Int) < other.size := by omega
      have HV := hide (fun w' (h : TgS w' v l) => tvalid_any l v w' h hl5 (fun t ht => ⟨Nat.le_trans (hsz t ht).1 (by unfold maxLen; omega), Nat.le_trans (hsz t ht).2 (by unfold maxLen; omega)⟩))
      cases hval : tagsB l with
      | false =>
        rw [hval] at HV
        obtain ⟨A, c, rfl, _⟩ := hv
        clear f1 f2 hsz hval
        go_enter Try.func4, Try.ntmps4
        go_wp2_with fail
        refine (HH.out).mono ?_
        rintro _ w1 ⟨rfl, b1⟩
        go_wp2_with fail
        refine (HF.out w1 (HT.out.below b1)).mono ?_
        rintro _ w2 ⟨rfl, b2⟩
        go_wp2_with fail
        refine (HV.out w2 (HT.out.below (bto b1 b2))).mono ?_
        rintro _ w3 ⟨rfl, b3⟩
        have HB := hide (bto (bto b1 b2) b3)
        clear b1 b2 b3
        go_wp2_with fail
        go_ret
        exact ⟨rfl, HB.out⟩
      | true =>
        rw [hval] at HV
        have HL := hide (fun w' (h : TgS w' v l) => languages_any l v w' h hl5 hsz)
        rw [hval] at HL
        simp only [if_true] at HL
        have HBE := hide (fun L vl w' (h : TgS w' v l) (h2 : StS w' vl L) (hL : L.length ≤ 100000) => best_any l L v vl w' h h2 hl5 hL hsz)
        unfold bestR at HBE
        rw [hval] at HBE
        simp only [if_true] at HBE
        have HVAL := hide hval
        have HSZ := hide hsz
        have hol : ((namesL l).map langO).length ≤ 100000 := by rw [List.length_map]; exact Nat.le_trans (names_len l) hl5
        obtain ⟨O, hO⟩ : ∃ O, (namesL l).map langO = O := ⟨_, rfl⟩
        rw [hO] at HL hol
        have HO := hide hO
        obtain ⟨A, c, rfl, _⟩ := hv
        clear f1 f2 hsz hval hO
        go_enter Try.func4, Try.ntmps4
        go_wp2_with fail
        refine (HH.out).mono ?_
        rintro _ w1 ⟨rfl, b1⟩
        go_wp2_with fail
        refine (HF.out w1 (HT.out.below b1)).mono ?_
        rintro _ w2 ⟨rfl, b2⟩
        go_wp2_with fail
        refine (HV.out w2 (HT.out.below (bto b1 b2))).mono ?_
        rintro _ w3 ⟨rfl, b3⟩
        have hb3 := bto (bto b1 b2) b3
        clear b1 b2 b3 HH HF HV
        go_wp2_with fail
        refine (HL.out w3 (HT.out.below hb3)).mono ?_
        rintro _ w4 ⟨v4, rfl, hs4, b4⟩
        obtain ⟨A4, c4, rfl, hc4, hp4⟩ := hs4
        have HB4 := hide (bto hb3 b4)
        have HP4 := hide hp4
        have HC4 := hide hc4
        clear HL hb3 b4 hp4 hc4
        go_wp2_with fail
        go_loopw [7] (fun i wr => ∃ k : Nat, k ≤ O.length ∧ i = .int .i64 k ∧ Hid (Below w4.heap.size w4 wr)) (fun i _ => O.length - (intOf i).toNat)
        case atStart => exact ⟨0, Nat.zero_le _, rfl, Below.refl _ _⟩
        case round =>
          obtain ⟨k, hk, rfl, hb⟩ := hrel
          by_cases hlt : k < O.length
          · obtain ⟨g, o, rfl, hg, hp⟩ := HP4.out.resolve_left (by rintro rfl; simp at hlt)
            have hpr := hp.below hg hb.out
            have c1 := hpr k _ (List.getElem?_eq_getElem hlt)
            have hmem : O[k] ∈ (namesL l).map langO := by rw [HO.out]; exact List.getElem_mem hlt
            obtain ⟨t, ht, hbst, htx⟩ := best_own hmem
            have hgr : g < wr.heap.size := Nat.lt_of_lt_of_le hg hb.out.size
            have hkc : k < c4 := Nat.lt_of_lt_of_le hlt HC4.out
            have hst : ∀ c9, 1 ≤ c9 → StS wr (.slice (some ⟨g, o + k, none⟩) 1 c9) [O[k]] := fun c9 h9 => ⟨_, _, rfl, h9, .inr ⟨g, o + k, rfl, hgr, fun i s hi => by
              cases i with
              | zero => simp at hi; subst hi; exact c1
              | succ i => simp at hi⟩⟩
            have HST := hide hst
            obtain ⟨lk1, lk2⟩ := lang_key ht
            have HX := hide (fun w' => xlang_any t.k w' (HSZ.out t (names_lang ht).1).1)
            rw [lk1, lk2, htx] at HX
            have HBK := hide (fun vl w' (h : TgS w' (.slice A l.length c) l) (h2 : StS w' vl [O[k]]) => HBE.out [O[k]] vl w' h h2 (by simp))
            rw [hbst] at HBK
            have HB5 := hide (bto HB4.out hb.out)
            have HBW := hide hb.out
            have k0 : (0 : Int) ≤ k := by omega
            have k1 : (k : Int) < O.length := by omega
            have k2 : (k : Int) + 1 ≤ c4 := by omega
            have k3 : ¬ (k : Int) = c4 := by omega
            have HLT := hide hlt
            have HM := hide (show O.length - (k + 1) < O.length - k from by omega)
            have HNX := hide (fun (j : Nat) (hj : j + 1 = k) => (by subst hj; exact hpr j _ (List.getElem?_eq_getElem (by omega)) : wr.cell? ⟨g, o + j, none⟩ = some (.string (O[j]'(by omega)))))
            clear hb hst hmem hbst lk1 lk2 hpr
            go_wp2_with fail
            refine (HBK.out _ wr (HT.out.below HB5.out) (HST.out _ (by omega))).mono ?_
            rintro _ w5 ⟨rfl, b5⟩
            have HB6 := hide (bto HBW.out b5)
            have d1 := (b5.cell (p := ⟨g, o + k, none⟩) hgr).trans c1
            clear HBK HST c1
            go_wp2_with fail
            refine (HX.out _).mono ?_
            rintro _ w6 ⟨rfl, hw6⟩
            obtain rfl : w5 = w6 := hw6
            clear HX
            by_cases hk0 : k = 0
            · have e0 : ¬ (0 : Int) < k := by omega
              have e1 : decide ((0 : Int) < k) = false := decide_eq_false e0
              have e2 : ¬ 0 < k := by omega
              generalize O[k] = x at *
              clear HNX htx ht hk0
              go_wp2_with fail
              go_quiet (fail)
              go_wp2_with fail
              refine ⟨⟨k + 1, HLT.out, by go_num, hide (below_drewN' HB6.out _)⟩, ?_⟩
              have := HM.out
              simp [intOf]; omega
            · have e0 : (0 : Int) < k := by omega
              have e1 : decide ((0 : Int) < k) = true := decide_eq_true e0
              have e2 : 0 < k := by omega
              have hkj : k - 1 + 1 = k := by omega
              obtain ⟨y, hy, d2, hnx0⟩ : ∃ y : ByteArray, (∃ h : k - 1 < O.length, O[k - 1] = y) ∧ w5.cell? ⟨g, o + (k - 1), none⟩ = some (.string y) ∧ True := ⟨_, ⟨by omega, rfl⟩, (b5.cell (p := ⟨g, o + (k - 1), none⟩) hgr).trans (HNX.out (k - 1) hkj), trivial⟩
              obtain ⟨hy1, hy2⟩ := hy
              have hnx := own_next HVAL.out (k - 1) (by rw [HO.out]; omega)
              have e5 : O[k - 1]'(by omega) = ((namesL l).map langO)[k - 1]'(by rw [HO.out]; omega) := by congr 1; exact HO.out.symm
              have e6 : O[k] = ((namesL l).map langO)[k - 1 + 1]'(by rw [HO.out]; omega) := by
                have : k - 1 + 1 = k := hkj
                simp only [this]
                congr 1; exact HO.out.symm
              rw [← e5, ← e6, hy2] at hnx
              obtain ⟨n1, n2⟩ := less_asymm hnx
              clear e5 e6 hy2 hnx0
              generalize O[k] = x at *
              clear hkj hk0
              have n3 : (y.toList == x.toList) = false := beq_eq_false_iff_ne.2 n2
              have n4 : (x.toList == y.toList) = false := beq_eq_false_iff_ne.2 (Ne.symm n2)
              have m3 : (0 : Int) ≤ (k : Int) - 1 := by omega
              have m4 : (k : Int) - 1 < O.length := by omega
              clear HNX htx ht hy1
              go_wp2_with fail
              go_quiet (fail)
              go_wp2_with fail
              refine ⟨⟨k + 1, HLT.out, by go_num, hide (below_drewN' HB6.out _)⟩, ?_⟩
              have := HM.out
              simp [intOf]; omega
          · have hs4 : ∀ w', Below w4.heap.size w4 w' → StS w' (.slice A4 O.length c4) O := fun w' hb' => StS.below (W := w4) ⟨A4, c4, rfl, HC4.out, HP4.out⟩ hb'
            have HS4 := hide hs4
            have HB5 := hide (bto HB4.out hb.out)
            have HBW := hide hb.out
            have B1 := hide (fun vl w' (h : TgS w' (.slice A l.length c) l) (h2 : StS w' vl [other]) => HBE.out [other] vl w' h h2 (by simp))
            have B2 := hide (fun vl w' (h : TgS w' (.slice A l.length c) l) (h2 : StS w' vl []) => HBE.out [] vl w' h h2 (by simp))
            have hne : hasS other O = false → (bestL [other] (namesL l)).k = (bestL [] (namesL l)).k ∧ (bestL [other] (namesL l)).v = (bestL [] (namesL l)).v := fun hf => best_other (namesL l) other (by
              rw [HO.out]
              intro hm
              rw [(hasS_iff other O).2 hm] at hf
              cases hf)
            have HHAS := hide (fun w' (hb' : Below w4.heap.size w4 w') => has_any O other _ w' (HS4.out w' hb') hol)
            obtain ⟨X, hX⟩ : ∃ X, bestL [other] (namesL l) = X := ⟨_, rfl⟩
            obtain ⟨Y, hY⟩ : ∃ Y, bestL [] (namesL l) = Y := ⟨_, rfl⟩
            rw [hX] at B1 hne
            rw [hY] at B2 hne
            clear hs4 hb hX hY HBE
            obtain ⟨wx, hwx⟩ : ∃ wx, wr.alloc (.cells #[.string other] 9) = wx := ⟨_, rfl⟩
            have hbx : Below wr.heap.size wr wx := by rw [← hwx]; exact (Below.refl _ _).alloc (Nat.le_refl _) _
            have stx : StS wx (.slice (some ⟨wr.heap.size, 0, none⟩) 1 1) [other] := by rw [← hwx]; exact st_new wr [other] 9
            have HBX := hide hbx
            cases hh : hasS other O with
            | true =>
              rw [hh] at HHAS
              clear hne
              go_wp2_with fail
              refine (B1.out _ wx (HT.out.below (bto HB5.out HBX.out)) stx).mono ?_
              rintro _ w5 ⟨rfl, b5⟩
              have b45 := bto (bto HBW.out HBX.out) b5
              clear B1 stx hwx hbx
              go_wp2_with fail
              refine (B2.out _ w5 (HT.out.below (bto (bto HB5.out HBX.out) b5)) ⟨none, 0, rfl, Nat.le_refl _, .inl rfl⟩).mono ?_
              rintro _ w6 ⟨rfl, b6⟩
              have HB7 := hide (bto HB4.out (bto b45 b6))
              have HB8 := hide (bto b45 b6)
              clear b5 b6 b45 B2
              go_wp2_with fail
              refine (HHAS.out w6 HB8.out).mono ?_
              rintro _ w7 ⟨rfl, hw7⟩
              obtain rfl : w6 = w7 := hw7
              clear HHAS
              go_wp2_with fail
              go_ret
              exact ⟨rfl, HB7.out⟩
            | false =>
              rw [hh] at HHAS
              obtain ⟨g1, g2⟩ := hne hh
              rw [g1, g2] at B1
              clear hne g1 g2
              obtain ⟨xk, hxk⟩ : ∃ xk, Y.k = xk := ⟨_, rfl⟩
              obtain ⟨xv, hxv⟩ : ∃ xv, Y.v = xv := ⟨_, rfl⟩
              rw [hxk, hxv] at B1 B2
              clear hxk hxv
              have r1 : (xk.toList == xk.toList) = true := beq_self_eq_true _
              have r2 : (xv.toList == xv.toList) = true := beq_self_eq_true _
              go_wp2_with fail
              refine (B1.out _ wx (HT.out.below (bto HB5.out HBX.out)) stx).mono ?_
              rintro _ w5 ⟨rfl, b5⟩
              have b45 := bto (bto HBW.out HBX.out) b5
              clear B1 stx hwx hbx
              go_wp2_with fail
              refine (B2.out _ w5 (HT.out.below (bto (bto HB5.out HBX.out) b5)) ⟨none, 0, rfl, Nat.le_refl _, .inl rfl⟩).mono ?_
              rintro _ w6 ⟨rfl, b6⟩
              have HB7 := hide (bto HB4.out (bto b45 b6))
              have HB8 := hide (bto b45 b6)
              clear b5 b6 b45 B2
              go_wp2_with fail
              refine (HHAS.out w6 HB8.out).mono ?_
              rintro _ w7 ⟨rfl, hw7⟩
              obtain rfl : w6 = w7 := hw7
              clear HHAS
              go_wp2_with fail
              go_ret
              exact ⟨rfl, HB7.out⟩
end Go.Proofs.Ytjniicmhndflpaa
