/-
  The law of texts, walked.
-/
import Derived.Test.YtoodmhlefaepaaaRulQ
import Derived.Test.YtoodmhlefaepaaaPlainF
namespace Go.Proofs.Ytoodmhlefaepaaa
open Go.RowKit Go.Proofs.PlLex Go.Proofs.PlRule

theorem rlz_of {x : Rl} (h : validR x = true) : RlZ x := by
  have h := vdR h
  have m : (1000000 : Nat) ≤ maxLen := by unfold maxLen; omega
  exact ⟨by have := h.area; omega, by have := h.ik; omega, by have := h.iv; omega, by have := h.key; omega, fun s hs => by have := h.vals s hs; omega, by have := h.many; omega⟩
theorem validL_all {l : List Rl} (h : validL l = true) : l.length ≤ 200 ∧ ∀ x ∈ l, validR x = true := by
  unfold validL at h
  rw [Bool.and_eq_true, decide_eq_true_eq, List.all_eq_true] at h
  exact h
/-- An argument's rules: their strings are ones that memory bears. -/
structure RlM (x : Rl) : Prop where
  area : x.area.size ≤ maxLen
  ik : x.ik.size ≤ maxLen
  iv : x.iv.size ≤ maxLen
  key : x.key.size ≤ maxLen
  many : x.vals.length ≤ maxLen
theorem few_z {n : Int} {l : List Rl} (h : fewL n l = true) (hm : ∀ x ∈ l, RlM x) : (l.length : Int) ≤ n ∧ ∀ x ∈ l, RlZ x := by
  unfold fewL at h
  rw [Bool.and_eq_true, decide_eq_true_eq, List.all_eq_true] at h
  refine ⟨h.2, fun x hx => ?_⟩
  have h1 := h.1 x hx
  have h2 := hm x hx
  unfold fewR fewV at h1
  rw [Bool.and_eq_true, Bool.and_eq_true, decide_eq_true_eq, decide_eq_true_eq, List.all_eq_true] at h1
  exact ⟨h2.area, h2.ik, h2.iv, h2.key, fun s hs => by have := h1.2.2 s hs; rw [decide_eq_true_eq] at this; omega, by have := h1.2.1; omega⟩
theorem parse_num (l : L) : (parseL l).2.1 = 0 ∨ (¬ ((parseL l).2.1 : Int) = 0 ∧ (((parseL l).2.1 : Int) == 0) = false ∧ (parseL l).1 = []) := by
  by_cases h : (parseL l).2.1 = 0
  · exact .inl h
  · have h2 : ¬ ((parseL l).2.1 : Int) = 0 := by omega
    exact .inr ⟨h2, beq_eq_false_iff_ne.2 h2, parse_none h⟩
set_option maxRecDepth 100000 in
set_option maxHeartbeats 16000000 in
theorem textslaw_any (l : List Rl) (v : Value) (text : BA) (w : World) (hv : RlS w v l) (hlen : l.length ≤ maxLen) (hz : ∀ x ∈ l, RlM x) (ht : text.size ≤ maxLen) :
    Calls Try.prog 3 #[v, .string text] w fun e w' => e = .returned (.bool true) ∧ Below w.heap.size w w' := by
  have HH := hide (head_any w)
  have HF := hide (fun W (b : Below w.heap.size w W) => rfew_any l v 30 W (hv.below b) hlen (fun x hx => (hz x hx).many))
  have hfz := fun h => few_z (n := 30) (l := l) h hz
  have HV := hide (fun W (b : Below w.heap.size w W) => hv.below b)
  unfold maxLen at ht
  clear hz
  obtain ⟨A, c, rfl, _, _⟩ := hv
  go_enter Try.func3, Try.ntmps3
  go_wp2_with fail
  refine HH.out.mono ?_
  rintro _ w0 ⟨rfl, b0⟩
  have HB0 := hide b0
  clear b0
  go_wp2_with fail
  refine (HF.out w0 HB0.out).mono ?_
  rintro _ w1 ⟨rfl, b1⟩
  have HB1 := hide (bto HB0.out b1)
  clear b1 HF HH
  cases hf : fewL 30 l with
  | false =>
    clear hf hfz
    go_wp2_with fail
    go_ret
    exact ⟨rfl, HB1.out⟩
  | true =>
  obtain ⟨hl, hz⟩ := hfz hf
  clear hf hfz
  by_cases h6 : 6000 < text.size
  · have i6 : (6000 : Int) < (text.size : Int) := by omega
    clear h6
    go_wp2_with fail
    go_ret
    exact ⟨rfl, HB1.out⟩
  have i6 : ¬ (6000 : Int) < (text.size : Int) := by omega
  have HTX := hide (fun W (b : Below w.heap.size w W) => text_any l _ W (HV.out W b) (by omega) hz)
  have HVL := hide (fun W (b : Below w.heap.size w W) => pvalid_any l _ W (HV.out W b) (by omega) hz)
  have HPT := hide (fun W => parse_any text W (by omega))
  have hmany : ∀ x ∈ l, x.vals.length ≤ 1000000 := fun x hx => (hz x hx).many
  have HMANY := hide hmany
  have HL30 := hide (show l.length ≤ 30 by omega)
  -- what is parsed from the text
  have HPV := hide (fun h => parse_valid (l := tx text) h)
  have HPN := hide (parse_num (tx text))
  obtain ⟨P, hP⟩ : ∃ P, parseL (tx text) = P := ⟨_, rfl⟩
  rw [hP] at HPT HPV HPN
  obtain ⟨x, n, o⟩ := P
  simp only at HPT HPV HPN
  clear h6 hz hmany hP
  go_wp2_with fail
  refine (HTX.out w1 HB1.out).mono ?_
  rintro _ w2 ⟨rfl, b2⟩
  have HB2 := hide (bto HB1.out b2)
  clear b2 HTX
  have htl : textL l = if validL l = true then (if 20000 < (writeL l).length then (ba [], 2) else (ba (writeL l), 0)) else (ba [], 1) := rfl
  cases hval : validL l with
  | false =>
    rw [hval, if_neg (by decide), show ba [] = (⟨#[]⟩ : BA) from rfl] at htl
    rw [htl]
    rw [hval] at HVL
    clear htl hval
    replace HVL := HVL
    go_wp2_with fail
    refine (HPT.out w2).mono ?_
    rintro _ w4 ⟨vx, rfl, hx, b4⟩
    have HX4 := hide (fun W (b : Below w4.heap.size w4 W) => hx.below b)
    obtain ⟨Ax, cx, rfl, _, _⟩ := hx
    have HB4 := hide (bto HB2.out b4)
    clear b4 HPT HB2
    rcases HPN.out with hn | ⟨hn, hn2, hx0⟩
    · obtain ⟨hval, hcan, _⟩ := HPV.out hn
      subst hn
      have hall := validL_all hval
      have HT5 := hide (fun W (b : Below w4.heap.size w4 W) => text_any x _ W (HX4.out W b) (by omega) (fun y hy => rlz_of (hall.2 y hy)))
      have HV5 := hide (fun W (b : Below w4.heap.size w4 W) => pvalid_any x _ W (HX4.out W b) (by omega) (fun y hy => rlz_of (hall.2 y hy)))
      have HS5 := hide (fun va W (b : Below w4.heap.size w4 W) (h : RlS W va x) => rSame_any x x va _ W h (HX4.out W b) (by omega) (fun y hy => (rlz_of (hall.2 y hy)).many))
      have hdx : decide (x = x) = true := decide_eq_true rfl
      rw [hval] at HV5
      rw [hdx] at HS5
      have htl : textL x = if 20000 < (writeL x).length then (ba [], 2) else (ba (writeL x), 0) := by unfold textL; rw [hval, if_pos rfl]
      by_cases h20 : 20000 < (writeL x).length
      · rw [htl, if_pos h20] at HT5
        clear hall hdx htl h20 hval hcan HPV HPN
        go_wp2_with fail
        refine (HT5.out w4 (Below.refl _ _)).mono ?_
        rintro _ w6 ⟨rfl, b6⟩
        have HB6 := hide (bto HB4.out b6)
        have HC6 := hide b6
        clear b6
        go_wp2_with fail
        refine (HV5.out w6 HC6.out).mono ?_
        rintro _ w7 ⟨rfl, b7⟩
        have HB7 := hide (bto HB6.out b7)
        clear b7
        go_wp2_with fail
        go_ret
        exact ⟨rfl, HB7.out⟩
      · have hback := parse_text hval (by omega) hcan
        rw [htl, if_neg h20] at HT5
        obtain ⟨S, hS⟩ : ∃ S, ba (writeL x) = S := ⟨_, rfl⟩
        have tS : tx S = writeL x := by rw [← hS]; exact tx_ba _
        have zS : S.size ≤ 1000000 := by show (tx S).length ≤ _; rw [tS]; omega
        rw [hS] at HT5
        have HP6 := hide (fun W => parse_any S W zS)
        rw [tS, hback] at HP6
        clear hall hdx htl h20 hval hcan HPV HPN hback hS tS zS
        go_wp2_with fail
        refine (HT5.out w4 (Below.refl _ _)).mono ?_
        rintro _ w6 ⟨rfl, b6⟩
        have HB6 := hide (bto HB4.out b6)
        have HC6 := hide b6
        clear b6
        go_wp2_with fail
        refine (HP6.out w6).mono ?_
        rintro _ w7 ⟨vy, rfl, hy, b7⟩
        have HY7 := hide (fun W (b : Below w7.heap.size w7 W) => hy.below b)
        obtain ⟨Ay, cy, rfl, _, _⟩ := hy
        have HB7 := hide (bto HB6.out b7)
        have HC7 := hide (bto HC6.out b7)
        clear b7
        go_wp2_with fail
        refine (HV5.out w7 HC7.out).mono ?_
        rintro _ w8 ⟨rfl, b8⟩
        have HB8 := hide (bto HB7.out b8)
        have HC8 := hide (bto HC7.out b8)
        have HY8 := hide (HY7.out w8 b8)
        clear b8
        go_wp2_with fail
        refine (HS5.out _ w8 HC8.out HY8.out).mono ?_
        rintro _ w9 ⟨rfl, b9⟩
        have HB9 := hide (bto HB8.out b9)
        clear b9
        go_wp2_with fail
        go_ret
        exact ⟨rfl, HB9.out⟩
    · subst hx0
      clear HPV HPN
      go_wp2_with fail
      refine (HVL.out w4 HB4.out).mono ?_
      rintro _ w5 ⟨rfl, b5⟩
      have HB5 := hide (bto HB4.out b5)
      clear b5
      go_wp2_with fail
      go_ret
      exact ⟨rfl, HB5.out⟩
  | true =>
    rw [hval, if_pos rfl] at htl
    by_cases h20 : 20000 < (writeL l).length
    · rw [if_pos h20, show ba [] = (⟨#[]⟩ : BA) from rfl] at htl
      rw [htl]
      clear htl hval h20
      go_wp2_with fail
      refine (HPT.out w2).mono ?_
      rintro _ w4 ⟨vx, rfl, hx, b4⟩
      have HX4 := hide (fun W (b : Below w4.heap.size w4 W) => hx.below b)
      obtain ⟨Ax, cx, rfl, _, _⟩ := hx
      have HB4 := hide (bto HB2.out b4)
      clear b4 HPT HB2
      rcases HPN.out with hn | ⟨hn, hn2, hx0⟩
      · obtain ⟨hval, hcan, _⟩ := HPV.out hn
        subst hn
        have hall := validL_all hval
        have HT5 := hide (fun W (b : Below w4.heap.size w4 W) => text_any x _ W (HX4.out W b) (by omega) (fun y hy => rlz_of (hall.2 y hy)))
        have HV5 := hide (fun W (b : Below w4.heap.size w4 W) => pvalid_any x _ W (HX4.out W b) (by omega) (fun y hy => rlz_of (hall.2 y hy)))
        have HS5 := hide (fun va W (b : Below w4.heap.size w4 W) (h : RlS W va x) => rSame_any x x va _ W h (HX4.out W b) (by omega) (fun y hy => (rlz_of (hall.2 y hy)).many))
        have hdx : decide (x = x) = true := decide_eq_true rfl
        rw [hval] at HV5
        rw [hdx] at HS5
        have htl : textL x = if 20000 < (writeL x).length then (ba [], 2) else (ba (writeL x), 0) := by unfold textL; rw [hval, if_pos rfl]
        by_cases h20 : 20000 < (writeL x).length
        · rw [htl, if_pos h20] at HT5
          clear hall hdx htl h20 hval hcan HPV HPN
          go_wp2_with fail
          refine (HT5.out w4 (Below.refl _ _)).mono ?_
          rintro _ w6 ⟨rfl, b6⟩
          have HB6 := hide (bto HB4.out b6)
          have HC6 := hide b6
          clear b6
          go_wp2_with fail
          refine (HV5.out w6 HC6.out).mono ?_
          rintro _ w7 ⟨rfl, b7⟩
          have HB7 := hide (bto HB6.out b7)
          clear b7
          go_wp2_with fail
          go_ret
          exact ⟨rfl, HB7.out⟩
        · have hback := parse_text hval (by omega) hcan
          rw [htl, if_neg h20] at HT5
          obtain ⟨S, hS⟩ : ∃ S, ba (writeL x) = S := ⟨_, rfl⟩
          have tS : tx S = writeL x := by rw [← hS]; exact tx_ba _
          have zS : S.size ≤ 1000000 := by show (tx S).length ≤ _; rw [tS]; omega
          rw [hS] at HT5
          have HP6 := hide (fun W => parse_any S W zS)
          rw [tS, hback] at HP6
          clear hall hdx htl h20 hval hcan HPV HPN hback hS tS zS
          go_wp2_with fail
          refine (HT5.out w4 (Below.refl _ _)).mono ?_
          rintro _ w6 ⟨rfl, b6⟩
          have HB6 := hide (bto HB4.out b6)
          have HC6 := hide b6
          clear b6
          go_wp2_with fail
          refine (HP6.out w6).mono ?_
          rintro _ w7 ⟨vy, rfl, hy, b7⟩
          have HY7 := hide (fun W (b : Below w7.heap.size w7 W) => hy.below b)
          obtain ⟨Ay, cy, rfl, _, _⟩ := hy
          have HB7 := hide (bto HB6.out b7)
          have HC7 := hide (bto HC6.out b7)
          clear b7
          go_wp2_with fail
          refine (HV5.out w7 HC7.out).mono ?_
          rintro _ w8 ⟨rfl, b8⟩
          have HB8 := hide (bto HB7.out b8)
          have HC8 := hide (bto HC7.out b8)
          have HY8 := hide (HY7.out w8 b8)
          clear b8
          go_wp2_with fail
          refine (HS5.out _ w8 HC8.out HY8.out).mono ?_
          rintro _ w9 ⟨rfl, b9⟩
          have HB9 := hide (bto HB8.out b9)
          clear b9
          go_wp2_with fail
          go_ret
          exact ⟨rfl, HB9.out⟩
      · subst hx0
        clear HPV HPN
        go_wp2_with fail
        go_ret
        exact ⟨rfl, HB4.out⟩
    · rw [if_neg h20] at htl
      rw [htl]
      have hcan : (canL l).length ≤ 5000 := by
        have := canL_len (l := l) (fun x hx => gd_many (gdR.1 ((validL_all hval).2 x hx)))
        have := HL30.out
        omega
      have hback := parse_text hval (by omega) hcan
      obtain ⟨S0, hS⟩ : ∃ S, ba (writeL l) = S := ⟨_, rfl⟩
      have tS : tx S0 = writeL l := by rw [← hS]; exact tx_ba _
      have zS : S0.size ≤ 1000000 := by show (tx S0).length ≤ _; rw [tS]; omega
      have HP0 := hide (fun W => parse_any S0 W zS)
      rw [tS, hback] at HP0
      rw [hS]
      have HSM := hide (fun va W (b : Below w.heap.size w W) (h : RlS W va l) => rSame_any l l va _ W h (HV.out W b) (by have := HL30.out; omega) HMANY.out)
      have hd : decide (l = l) = true := decide_eq_true rfl
      rw [hd] at HSM
      clear htl hval h20 hcan hback hS tS zS hd
      go_wp2_with fail
      refine (HP0.out w2).mono ?_
      rintro _ wb ⟨vb, rfl, hb, bb⟩
      have HBb := hide (bto HB2.out bb)
      have HYb := hide hb
      obtain ⟨Ab, cb, rfl, _, _⟩ := hb
      clear bb HP0
      go_wp2_with fail
      refine (HSM.out _ wb HBb.out HYb.out).mono ?_
      rintro _ wc ⟨rfl, bc⟩
      have HBc := hide (bto HBb.out bc)
      clear bc HSM
      go_wp2_with fail
      refine (HPT.out wc).mono ?_
      rintro _ w4 ⟨vx, rfl, hx, b4⟩
      have HX4 := hide (fun W (b : Below w4.heap.size w4 W) => hx.below b)
      obtain ⟨Ax, cx, rfl, _, _⟩ := hx
      have HB4 := hide (bto HBc.out b4)
      clear b4 HPT HBc
      rcases HPN.out with hn | ⟨hn, hn2, hx0⟩
      · obtain ⟨hval, hcan, _⟩ := HPV.out hn
        subst hn
        have hall := validL_all hval
        have HT5 := hide (fun W (b : Below w4.heap.size w4 W) => text_any x _ W (HX4.out W b) (by omega) (fun y hy => rlz_of (hall.2 y hy)))
        have HV5 := hide (fun W (b : Below w4.heap.size w4 W) => pvalid_any x _ W (HX4.out W b) (by omega) (fun y hy => rlz_of (hall.2 y hy)))
        have HS5 := hide (fun va W (b : Below w4.heap.size w4 W) (h : RlS W va x) => rSame_any x x va _ W h (HX4.out W b) (by omega) (fun y hy => (rlz_of (hall.2 y hy)).many))
        have hdx : decide (x = x) = true := decide_eq_true rfl
        rw [hval] at HV5
        rw [hdx] at HS5
        have htl : textL x = if 20000 < (writeL x).length then (ba [], 2) else (ba (writeL x), 0) := by unfold textL; rw [hval, if_pos rfl]
        by_cases h20 : 20000 < (writeL x).length
        · rw [htl, if_pos h20] at HT5
          clear hall hdx htl h20 hval hcan HPV HPN
          go_wp2_with fail
          refine (HT5.out w4 (Below.refl _ _)).mono ?_
          rintro _ w6 ⟨rfl, b6⟩
          have HB6 := hide (bto HB4.out b6)
          have HC6 := hide b6
          clear b6
          go_wp2_with fail
          refine (HV5.out w6 HC6.out).mono ?_
          rintro _ w7 ⟨rfl, b7⟩
          have HB7 := hide (bto HB6.out b7)
          clear b7
          go_wp2_with fail
          go_ret
          exact ⟨rfl, HB7.out⟩
        · have hback := parse_text hval (by omega) hcan
          rw [htl, if_neg h20] at HT5
          obtain ⟨S, hS⟩ : ∃ S, ba (writeL x) = S := ⟨_, rfl⟩
          have tS : tx S = writeL x := by rw [← hS]; exact tx_ba _
          have zS : S.size ≤ 1000000 := by show (tx S).length ≤ _; rw [tS]; omega
          rw [hS] at HT5
          have HP6 := hide (fun W => parse_any S W zS)
          rw [tS, hback] at HP6
          clear hall hdx htl h20 hval hcan HPV HPN hback hS tS zS
          go_wp2_with fail
          refine (HT5.out w4 (Below.refl _ _)).mono ?_
          rintro _ w6 ⟨rfl, b6⟩
          have HB6 := hide (bto HB4.out b6)
          have HC6 := hide b6
          clear b6
          go_wp2_with fail
          refine (HP6.out w6).mono ?_
          rintro _ w7 ⟨vy, rfl, hy, b7⟩
          have HY7 := hide (fun W (b : Below w7.heap.size w7 W) => hy.below b)
          obtain ⟨Ay, cy, rfl, _, _⟩ := hy
          have HB7 := hide (bto HB6.out b7)
          have HC7 := hide (bto HC6.out b7)
          clear b7
          go_wp2_with fail
          refine (HV5.out w7 HC7.out).mono ?_
          rintro _ w8 ⟨rfl, b8⟩
          have HB8 := hide (bto HB7.out b8)
          have HC8 := hide (bto HC7.out b8)
          have HY8 := hide (HY7.out w8 b8)
          clear b8
          go_wp2_with fail
          refine (HS5.out _ w8 HC8.out HY8.out).mono ?_
          rintro _ w9 ⟨rfl, b9⟩
          have HB9 := hide (bto HB8.out b9)
          clear b9
          go_wp2_with fail
          go_ret
          exact ⟨rfl, HB9.out⟩
      · subst hx0
        clear HPV HPN
        go_wp2_with fail
        go_ret
        exact ⟨rfl, HB4.out⟩
end Go.Proofs.Ytoodmhlefaepaaa
