/-
  The reference's Valid, walked.
-/
import Derived.Test.YtoodmhlefaepaaaGreatRulU
import Derived.Test.YtoodmhlefaepaaaGreatRulR
import Derived.Test.YtoodmhlefaepaaaGreatGulB
import Derived.Deep.AppendLies
import Derived.Deep.RegionLaw
namespace Go.Proofs.YtoodmhlefaepaaaGreat
open Go.RowKit Go.Proofs.PlLex Go.Proofs.PlRule

@[local go_sem ↓] theorem eqTag' (a b c d : ByteArray) (w : World) :
    (Op.equalIn 10000 34 (.agg #[.string a, .string b]) (.agg #[.string c, .string d])).run Tryz.prog w = .ok (tagEq a b c d) w := eqTag a b c d w
@[local go_sem] theorem guardTag' (op : BinOp) (x y : Operand) (xs ys : Array Value) (w : World) : (eqGuard op 34 x y (.agg xs) (.agg ys)).run Tryz.prog w = .ok () w := guardTag op x y xs ys w
def baseOk (x : Rl) : Bool := areaOk x.area && (decide (0 ≤ x.kind) && (decide (x.kind ≤ 5) && nameB x.key))
theorem validR_base (x : Rl) : validR x = (baseOk x && (ifOk x.ik x.iv && (opOk x.op x.vals.length && x.vals.all valueB))) := by
  unfold validR baseOk
  simp only [Bool.and_assoc]
set_option maxRecDepth 100000 in
set_option maxHeartbeats 16000000 in
theorem right_any (x : Rl) (vv : Value) (w : World) (hv : StS w vv x.vals) (hz : RlZ x) :
    Calls Tryz.prog 31 #[vRl x vv] w fun e w' => e = .returned (.bool (validR x)) ∧ Below w.heap.size w w' := by
  obtain ⟨V, hV⟩ : ∃ V, validR x = V := ⟨_, rfl⟩
  rw [hV]
  rw [validR_base] at hV
  have HV := hide hV
  have HZ := hide hz
  have hlen : x.vals.length ≤ 1000000 := hz.many
  obtain ⟨A, c, rfl, hcl, _⟩ := id hv
  obtain ⟨wo, hwo⟩ : ∃ wo, w.alloc (.cells #[.bool x.strict, .string x.area, .int .i64 x.kind, .string x.ik, .string x.iv, .int .i64 x.op, .string x.key, .slice A x.vals.length c] 37) = wo := ⟨_, rfl⟩
  have hb0 : Below w.heap.size w wo := by rw [← hwo]; exact (Below.refl _ _).alloc (Nat.le_refl _) _
  have hr0 : RlB x (.slice A x.vals.length c) w.heap.size wo := ⟨by rw [← hwo]; exact heap_alloc_new _ _⟩
  have HB0 := hide hb0
  have HSS := hide (hv.below hb0)
  obtain ⟨c0, c1, c2, c3, c4, c5, c6, c7⟩ := hr0.c
  have HNA := hide (fun W => rname_any x.area W hz.area)
  have HNK := hide (fun W => rname_any x.key W hz.key)
  have HNI := hide (fun W => rname_any x.ik W hz.ik)
  have HNV := hide (fun W => gvalue_any x.iv W hz.iv)
  clear hV hb0 hr0 hv hz hcl
  unfold vRl
  go_enter Tryz.func31, Tryz.ntmps31
  go_upto_region 1 with (fail)

  clear hwo
  go_cut [28] (fun s28 wx => s28 = .bool (!baseOk x) ∧ wx = wo)
  case first =>
    have key : ∀ q : Bool, nameB x.key = q → ∀ W, Calls Tryz.prog 58 #[.string x.key] W fun e w' => e = .returned (.bool q) ∧ W = w' := fun q hq W => by
      have := HNK.out W
      rw [show name x.key.data.toList = q from hq] at this
      exact this
    have KEY := hide key
    clear key HNK HNI HNV
    by_cases h0 : x.area.size = 0
    · have e := empty_of h0
      have HA : Hid (baseOk x = (decide (0 ≤ x.kind) && (decide (x.kind ≤ 5) && nameB x.key))) := by unfold baseOk areaOk; rw [decide_eq_true h0]; exact hide rfl
      rw [e] at c1
      clear h0 e
      by_cases hk0 : x.kind < 0
      · have HX : Hid (baseOk x = false) := by rw [HA.out, decide_eq_false (by omega)]; exact hide rfl
        go_wp2_with fail
        go_meet
        exact ⟨by rw [HX.out]; rfl, rfl⟩
      · by_cases hk5 : 5 < x.kind
        · have HX : Hid (baseOk x = false) := by rw [HA.out, decide_eq_true (by omega), decide_eq_false (by omega)]; exact hide rfl
          go_wp2_with fail
          go_meet
          exact ⟨by rw [HX.out]; rfl, rfl⟩
        · obtain ⟨q, hq⟩ : ∃ q, nameB x.key = q := ⟨_, rfl⟩
          have HX : Hid (baseOk x = q) := by rw [HA.out, decide_eq_true (by omega), decide_eq_true (by omega), hq]; exact hide rfl
          have HK := hide (KEY.out q hq)
          clear hq
          go_wp2_with fail
          refine (HK.out _).mono ?_
          rintro _ w2 ⟨rfl, rfl⟩
          go_wp2_with fail
          go_meet
          exact ⟨by rw [HX.out], rfl⟩
    · have e1 := full_of h0
      have e2 := full_emp h0
      cases hqa : nameB x.area with
      | false =>
        have HX : Hid (baseOk x = false) := by unfold baseOk areaOk; rw [decide_eq_false h0, hqa]; exact hide rfl
        have hn := HNA.out wo
        rw [show name x.area.data.toList = false from hqa] at hn
        have HN := hide hn
        clear h0 hqa hn
        go_wp2_with fail
        refine HN.out.mono ?_
        rintro _ w2 ⟨rfl, rfl⟩
        go_wp2_with fail
        go_meet
        exact ⟨by rw [HX.out]; rfl, rfl⟩
      | true =>
        have HA : Hid (baseOk x = (decide (0 ≤ x.kind) && (decide (x.kind ≤ 5) && nameB x.key))) := by unfold baseOk areaOk; rw [decide_eq_false h0, hqa]; exact hide rfl
        have hn := HNA.out wo
        rw [show name x.area.data.toList = true from hqa] at hn
        have HN := hide hn
        clear h0 hqa hn
        by_cases hk0 : x.kind < 0
        · have HX : Hid (baseOk x = false) := by rw [HA.out, decide_eq_false (by omega)]; exact hide rfl
          go_wp2_with fail
          refine HN.out.mono ?_
          rintro _ w2 ⟨rfl, rfl⟩
          go_wp2_with fail
          go_meet
          exact ⟨by rw [HX.out]; rfl, rfl⟩
        · by_cases hk5 : 5 < x.kind
          · have HX : Hid (baseOk x = false) := by rw [HA.out, decide_eq_true (by omega), decide_eq_false (by omega)]; exact hide rfl
            go_wp2_with fail
            refine HN.out.mono ?_
            rintro _ w2 ⟨rfl, rfl⟩
            go_wp2_with fail
            go_meet
            exact ⟨by rw [HX.out]; rfl, rfl⟩
          · obtain ⟨q, hq⟩ : ∃ q, nameB x.key = q := ⟨_, rfl⟩
            have HX : Hid (baseOk x = q) := by rw [HA.out, decide_eq_true (by omega), decide_eq_true (by omega), hq]; exact hide rfl
            have HK := hide (KEY.out q hq)
            clear hq
            go_wp2_with fail
            refine HN.out.mono ?_
            rintro _ w2 ⟨rfl, rfl⟩
            go_wp2_with fail
            refine (HK.out _).mono ?_
            rintro _ w3 ⟨rfl, rfl⟩
            go_wp2_with fail
            go_meet
            exact ⟨by rw [HX.out, decide_eq_false (by omega), decide_eq_false (by omega)]; rfl, rfl⟩
  case rest =>
    obtain ⟨rfl, rfl⟩ := hcut
    cases hA : baseOk x with
    | false =>
      have HVF : Hid (V = false) := hide (by rw [← HV.out]; simp [hA])
      clear hA
      go_wp2_with fail
      go_ret
      exact ⟨ret_b HVF.out.symm, HB0.out⟩
    | true =>
      have hv1 := HV.out
      rw [hA, Bool.true_and] at hv1
      have HV1 := hide hv1
      clear hv1 hA HV HNA HNK
      go_upto_region 3 with (fail)
      go_cut [46] (fun s46 wx => s46 = .bool (!ifOk x.ik x.iv) ∧ wx = wc)
      case first =>
        by_cases h0 : x.ik.size = 0 ∧ x.iv.size = 0
        · have e1 := empty_of h0.1
          have e2 := empty_of h0.2
          have HA : Hid (ifOk x.ik x.iv = true) := by unfold ifOk; rw [decide_eq_true h0.1, decide_eq_true h0.2]; exact hide rfl
          have ht : tagEq ⟨#[]⟩ ⟨#[]⟩ ⟨#[]⟩ ⟨#[]⟩ = true := by simp [tagEq]
          rw [e1] at c3
          rw [e2] at c4
          clear h0 e1 e2
          go_wp2_with fail
          go_meet
          exact ⟨by rw [HA.out]; rfl, rfl⟩
        · have ht : tagEq x.ik x.iv ⟨#[]⟩ ⟨#[]⟩ = false := by
            unfold tagEq
            rw [Bool.and_eq_false_iff]
            by_cases h1 : x.ik.size = 0
            · have h2 : ¬ x.iv.size = 0 := fun h => h0 ⟨h1, h⟩
              exact .inr (beq_eq_false_iff_ne.2 (by simpa using full_of h2))
            · exact .inl (beq_eq_false_iff_ne.2 (by simpa using full_of h1))
          have hi0 : ifOk x.ik x.iv = (nameB x.ik && valueB x.iv) := by
            unfold ifOk
            rw [← Bool.decide_and, decide_eq_false h0, Bool.false_or]
          obtain ⟨q, hq⟩ : ∃ q, nameB x.ik = q := ⟨_, rfl⟩
          rw [hq] at hi0
          have hn := HNI.out wc
          rw [show name x.ik.data.toList = q from hq] at hn
          have HN2 := hide hn
          clear h0 hq hn
          cases q with
          | false =>
            have HA := hide hi0
            clear hi0
            go_wp2_with fail
            refine HN2.out.mono ?_
            rintro _ w3 ⟨rfl, rfl⟩
            go_wp2_with fail
            go_meet
            exact ⟨by rw [HA.out]; rfl, rfl⟩
          | true =>
            have HA : Hid (ifOk x.ik x.iv = valueB x.iv) := hide (by rw [hi0, Bool.true_and])
            clear hi0
            go_wp2_with fail
            refine HN2.out.mono ?_
            rintro _ w3 ⟨rfl, rfl⟩
            go_wp2_with fail
            refine (HNV.out _).mono ?_
            rintro _ w4 ⟨rfl, rfl⟩
            go_wp2_with fail
            go_meet
            exact ⟨by rw [HA.out], rfl⟩
      case rest =>
        obtain ⟨rfl, rfl⟩ := hcut
        cases hI : ifOk x.ik x.iv with
        | false =>
          have HVF : Hid (V = false) := hide (by rw [← HV1.out, hI]; rfl)
          clear hI
          go_wp2_with fail
          go_ret
          exact ⟨ret_b HVF.out.symm, HB0.out⟩
        | true =>
          have hv2 := HV1.out
          rw [hI, Bool.true_and] at hv2
          have HV2 := hide hv2
          obtain ⟨_, _, he, _, hA⟩ := HSS.out
          cases he
          have HA := hide hA
          clear hv2 hI hA HNI HNV HV1 HSS
          go_wp2_with fail
          go_loop [3] (fun i => ∃ k : Nat, k ≤ x.vals.length ∧ i = .int .i64 k ∧ Hid ((x.vals.take k).all valueB = true)) (fun i => x.vals.length - (intOf i).toNat)
          case atStart => exact ⟨0, Nat.zero_le _, rfl, hide rfl⟩
          case round =>
            obtain ⟨k, hk, rfl, hx⟩ := hrel
            by_cases hlt : k < x.vals.length
            · obtain ⟨g, o, rfl, hg, hp⟩ := HA.out.resolve_left (by intro e; rw [e] at hlt; simp at hlt)
              have hks := List.getElem?_eq_getElem hlt
              have hat := all_take (p := valueB) hks
              have hano := fun h => all_no (p := valueB) hks h
              generalize x.vals[k] = s at *
              have d0 := hp k s hks
              have HW := hide (gvalue_any s · (Nat.le_trans (HZ.out.vals s (List.mem_of_getElem? hks)) (by unfold maxLen; omega)))
              have k0 : (0 : Int) ≤ k := by omega
              have k1 : (k : Int) < x.vals.length := by omega
              have HKL := hide hlt
              have HMS := hide (show x.vals.length - (k + 1) < x.vals.length - k from by omega)
              have HX := hide hx.out
              clear hlt hks hp hx
              cases hvs : valueB s with
              | true =>
                rw [hvs, Bool.and_true] at hat
                have HX2 : Hid ((x.vals.take (k + 1)).all valueB = true) := by rw [hat]; exact HX
                rw [hvs] at HW
                clear hvs hat hano
                go_wp2_with fail
                refine (HW.out _).mono ?_
                rintro _ w2 ⟨rfl, rfl⟩
                go_wp2_with fail
                refine ⟨⟨trivial, _, _, _, _, _, _, _, _, _, _, _, _, _, _, _, _, ⟨k + 1, HKL.out, by go_num, HX2⟩, rfl⟩, ?_⟩
                have := HMS.out
                simp [intOf]; omega
              | false =>
                have HVF : Hid (V = false) := hide (by rw [← HV2.out, hano hvs, Bool.and_false])
                rw [hvs] at HW
                clear hvs hat hano
                go_wp2_with fail
                refine (HW.out _).mono ?_
                rintro _ w2 ⟨rfl, rfl⟩
                go_wp2_with fail
                go_ret
                exact ⟨ret_b HVF.out.symm, HB0.out⟩
            · obtain rfl : k = x.vals.length := by omega
              have hv3 := HV2.out
              have hx2 := hx.out
              rw [List.take_length] at hx2
              rw [hx2, Bool.and_true] at hv3
              have HV3 := hide hv3
              have k1 : ¬ (x.vals.length : Int) < x.vals.length := by omega
              clear hx hlt hx2 hv3 HV2
              unfold opOk at HV3
              by_cases ho : x.op = 2
              · rw [ho] at c5
                rw [if_pos ho] at HV3
                by_cases hn0 : x.vals.length = 0
                · have HVF : Hid (V = false) := hide (by rw [← HV3.out, decide_eq_false (by omega)]; rfl)
                  have n2 : ¬ (1 : Int) ≤ (x.vals.length : Nat) := by omega
                  have n3 : ¬ (0 : Int) < (x.vals.length : Nat) := by omega
                  have hd : decide (0 < x.vals.length) = false := decide_eq_false (by omega)
                  clear hn0
                  go_wp2_with fail
                  go_ret
                  exact ⟨ret_b HVF.out.symm, HB0.out⟩
                · have n2 : (1 : Int) ≤ (x.vals.length : Nat) := by omega
                  have n3 : (0 : Int) < (x.vals.length : Nat) := by omega
                  have hd : decide (0 < x.vals.length) = true := decide_eq_true (by omega)
                  by_cases hn6 : 60 < x.vals.length
                  · have HVF : Hid (V = false) := hide (by rw [← HV3.out, decide_eq_false (show ¬ x.vals.length ≤ 60 by omega), Bool.and_false])
                    have n4 : ¬ (x.vals.length : Int) ≤ 60 := by omega
                    clear hn0
                    go_wp2_with fail
                    go_ret
                    exact ⟨ret_b HVF.out.symm, HB0.out⟩
                  · have HVT : Hid (V = true) := hide (by rw [← HV3.out, decide_eq_true (show 1 ≤ x.vals.length by omega), decide_eq_true (show x.vals.length ≤ 60 by omega)]; rfl)
                    have n4 : (x.vals.length : Int) ≤ 60 := by omega
                    clear hn0
                    go_wp2_with fail
                    go_ret
                    exact ⟨ret_b (by rw [HVT.out]), HB0.out⟩
              · have o1 : (x.op == 2) = false := beq_eq_false_iff_ne.2 ho
                rw [if_neg ho] at HV3
                by_cases hn0 : x.vals.length = 0
                · have n2 : ((x.vals.length : Nat) : Int) = 0 := by omega
                  have n3 : (((x.vals.length : Nat) : Int) == 0) = true := by rw [n2]; rfl
                  have HN0 := hide hn0
                  by_cases h1 : x.op = 1
                  · have HVT : Hid (V = true) := hide (by rw [← HV3.out, decide_eq_true h1, decide_eq_true HN0.out]; rfl)
                    rw [h1] at c5
                    go_wp2_with fail
                    go_ret
                    exact ⟨ret_b (by rw [HVT.out]), HB0.out⟩
                  · have o2 : (x.op == 1) = false := beq_eq_false_iff_ne.2 h1
                    by_cases h3 : x.op = 3
                    · have HVT : Hid (V = true) := hide (by rw [← HV3.out, decide_eq_true h3, decide_eq_true HN0.out, Bool.or_true]; rfl)
                      rw [h3] at c5
                      go_wp2_with fail
                      go_ret
                      exact ⟨ret_b (by rw [HVT.out]), HB0.out⟩
                    · have o3 : (x.op == 3) = false := beq_eq_false_iff_ne.2 h3
                      have HVF : Hid (V = false) := hide (by rw [← HV3.out, decide_eq_false h1, decide_eq_false h3]; rfl)
                      go_wp2_with fail
                      go_ret
                      exact ⟨ret_b HVF.out.symm, HB0.out⟩
                · have HVF : Hid (V = false) := hide (by rw [← HV3.out, decide_eq_false hn0, Bool.and_false])
                  have n2 : ¬ ((x.vals.length : Nat) : Int) = 0 := by omega
                  have n3 : (((x.vals.length : Nat) : Int) == 0) = false := beq_eq_false_iff_ne.2 n2
                  by_cases h1 : x.op = 1
                  · rw [h1] at c5
                    go_wp2_with fail
                    go_ret
                    exact ⟨ret_b HVF.out.symm, HB0.out⟩
                  · have o2 : (x.op == 1) = false := beq_eq_false_iff_ne.2 h1
                    by_cases h3 : x.op = 3
                    · rw [h3] at c5
                      go_wp2_with fail
                      go_ret
                      exact ⟨ret_b HVF.out.symm, HB0.out⟩
                    · have o3 : (x.op == 3) = false := beq_eq_false_iff_ne.2 h3
                      go_wp2_with fail
                      go_ret
                      exact ⟨ret_b HVF.out.symm, HB0.out⟩
set_option maxRecDepth 100000 in
set_option maxHeartbeats 4000000 in
theorem gvalid_any (l : List Rl) (v : Value) (w : World) (hv : RlS w v l) (hl : l.length ≤ 1000000) (hs : ∀ s ∈ l, RlZ s) :
    Calls Tryz.prog 12 #[v] w fun e w' => e = .returned (.bool (validL l)) ∧ Below w.heap.size w w' := by
  obtain ⟨V, hV⟩ : ∃ V, validL l = V := ⟨_, rfl⟩
  rw [hV]
  have HV := hide hV
  obtain ⟨A, c, rfl, hA⟩ := RlS.slice hv
  have HA := hide hA
  have HS := hide hs
  clear hV hA hs hv
  go_enter Tryz.func12, Tryz.ntmps12
  go_wp2_with fail
  go_loopw [3] (fun i wr => ∃ k : Nat, k ≤ l.length ∧ i = .int .i64 k ∧ Hid ((l.take k).all validR = true) ∧ Hid (Below w.heap.size w wr)) (fun i _ => l.length - (intOf i).toNat)
  case atStart => exact ⟨0, Nat.zero_le _, rfl, hide rfl, hide (Below.refl _ _)⟩
  case round =>
    obtain ⟨k, hk, rfl, hx, hb⟩ := hrel
    by_cases hlt : k < l.length
    · obtain ⟨g, o, rfl, hg, hp⟩ := HA.out.resolve_left (by rintro rfl; simp at hlt)
      have hks := List.getElem?_eq_getElem hlt
      have hat := all_take (p := validR) hks
      have hano := fun h => all_no (p := validR) hks h
      generalize l[k] = s at *
      obtain ⟨vv, hp2⟩ := hp k s hks
      obtain ⟨c0, c1, c2, c3, c4, c5, c6, c7, hst⟩ := hp2.below hg hb.out
      obtain ⟨sA, sc, rfl, _⟩ := id hst
      have HW := hide (right_any s _ wr hst (HS.out s (List.mem_of_getElem? hks)))
      unfold vRl at HW
      have k0 : (0 : Int) ≤ k := by omega
      have k1 : (k : Int) < l.length := by omega
      have HKL := hide hlt
      have HMS := hide (show l.length - (k + 1) < l.length - k from by omega)
      have HX := hide hx.out
      have HB := hide hb.out
      clear hlt hks hp hx hb hp2 hst
      cases hvs : validR s with
      | true =>
        rw [hvs, Bool.and_true] at hat
        have HX2 : Hid ((l.take (k + 1)).all validR = true) := by rw [hat]; exact HX
        rw [hvs] at HW
        clear hvs hat hano
        go_wp2_with fail
        refine HW.out.mono ?_
        rintro _ w2 ⟨rfl, b2⟩
        have HB2 := hide (tr_below HB.out b2)
        clear b2 c0 c1 c2 c3 c4 c5 c6 c7
        go_wp2_with fail
        refine ⟨⟨k + 1, HKL.out, by go_num, HX2, HB2⟩, ?_⟩
        have := HMS.out
        simp [intOf]; omega
      | false =>
        have HVF : Hid (V = false) := hide (by rw [← HV.out]; unfold validL; rw [hano hvs, Bool.and_false])
        rw [hvs] at HW
        clear hvs hat hano
        go_wp2_with fail
        refine HW.out.mono ?_
        rintro _ w2 ⟨rfl, b2⟩
        have HB2 := hide (tr_below HB.out b2)
        clear b2 c0 c1 c2 c3 c4 c5 c6 c7
        go_wp2_with fail
        go_ret
        exact ⟨ret_b HVF.out.symm, HB2.out⟩
    · obtain rfl : k = l.length := by omega
      have hx2 := hx.out
      rw [List.take_length] at hx2
      have HVL : Hid (V = decide (l.length ≤ 200)) := hide (by rw [← HV.out]; unfold validL; rw [hx2, Bool.and_true])
      have HB := hide hb.out
      have k1 : ¬ (l.length : Int) < l.length := by omega
      clear hx hlt hx2 hb
      by_cases h2 : l.length ≤ 200
      · have HVT : Hid (V = true) := by rw [HVL.out, decide_eq_true h2]; exact hide rfl
        have n2 : (l.length : Int) ≤ 200 := by omega
        go_wp2_with fail
        go_ret
        exact ⟨ret_b (by rw [HVT.out]), HB.out⟩
      · have HVF : Hid (V = false) := by rw [HVL.out, decide_eq_false h2]; exact hide rfl
        have n2 : ¬ (l.length : Int) ≤ 200 := by omega
        go_wp2_with fail
        go_ret
        exact ⟨ret_b HVF.out.symm, HB.out⟩
/-! The reference's text of a rule, walked. -/

/-- The text of a rule without the line feed. -/
def lineR (x : Rl) : L := wrMust x ++ (wrIn x ++ (kindT x.kind ++ ([32] ++ (wrIf x ++ (wrOp x ++ [59])))))
theorem lineR_w (x : Rl) : lineR x ++ [10] = writeR x := by
  unfold lineR writeR
  simp only [List.append_assoc]
  rfl
theorem joinC_snoc {l : List L} (a : L) (h : l ≠ []) : joinC (l ++ [a]) = joinC l ++ ([44, 32] ++ a) := by
  induction l with
  | nil => exact absurd rfl h
  | cons b r ih =>
    cases r with
    | nil => rfl
    | cons c r =>
      have h1 := ih (by simp)
      show b ++ ([44, 32] ++ joinC (c :: r ++ [a])) = (b ++ ([44, 32] ++ joinC (c :: r))) ++ ([44, 32] ++ a)
      rw [h1]
      simp only [List.append_assoc]
theorem ret_s {a b : BA} (h : a = b) : Ending.returned (.string a) = .returned (.string b) := by rw [h]
theorem tx_sz (s : BA) : (tx s).length = s.size := rfl
theorem tx_lit (l : L) : tx ⟨l.toArray⟩ = l := rfl
set_option maxRecDepth 100000 in
set_option maxHeartbeats 4000000 in
theorem gkinds_any (w : World) : Calls Tryz.prog 38 #[] w fun e w' => ∃ g, e = .returned (.slice (some ⟨g, 0, none⟩) 6 6) ∧ Below w.heap.size w w' ∧ g = w.heap.size ∧ ∀ (i : Nat) s, kindW[i]? = some s → w'.cell? ⟨g, i, none⟩ = some (.string (ba s)) := by
  go_enter Tryz.func38, Tryz.ntmps38
  go_wp2_with fail
  go_ret
  exact ⟨w.heap.size, rfl, (Below.refl _ _).alloc (Nat.le_refl _) _, rfl, fun i s h => kind_cells w _ i s h⟩
/-- Within the text of a rule: the rule in its box. -/
structure TeI (w : World) (x : Rl) (vv : Value) (W : World) : Prop where
  rl : RlB x vv w.heap.size W
  below : Below w.heap.size w W
theorem TeI.lift {w : World} {x : Rl} {vv : Value} {W W' : World} (h : TeI w x vv W) (hb : Below W.heap.size W W') : TeI w x vv W' := ⟨h.rl.lift hb, tr_below h.below hb⟩
set_option maxRecDepth 100000 in
set_option maxHeartbeats 16000000 in
theorem gtext_any (x : Rl) (vv : Value) (w : World) (hv : StS w vv x.vals) (hx : validR x = true) :
    Calls Tryz.prog 19 #[vRl x vv] w fun e w' => e = .returned (.string (ba (lineR x))) ∧ Below w.heap.size w w' := by
  obtain ⟨A, c, rfl, _, hA⟩ := id hv
  have HA := hide hA
  have HTI : Hid (TeI w x (.slice A x.vals.length c) (w.alloc (.cells #[.bool x.strict, .string x.area, .int .i64 x.kind, .string x.ik, .string x.iv, .int .i64 x.op, .string x.key, .slice A x.vals.length c] 37))) := by
    have hb1 : Below w.heap.size w (w.alloc (.cells #[.bool x.strict, .string x.area, .int .i64 x.kind, .string x.ik, .string x.iv, .int .i64 x.op, .string x.key, .slice A x.vals.length c] 37)) := (Below.refl _ _).alloc (Nat.le_refl _) _
    exact hide ⟨⟨heap_alloc_new _ _⟩, hb1⟩
  have HX := hide (vdR hx)
  have HVV := hide hv
  clear hv hA hx
  obtain ⟨c0, c1, c2, c3, c4, c5, c6, c7⟩ := HTI.out.rl.c
  unfold vRl
  go_enter Tryz.func19, Tryz.ntmps19
  go_upto_if 6 with (fail)
  generalize w.alloc (.cells #[.bool x.strict, .string x.area, .int .i64 x.kind, .string x.ik, .string x.iv, .int .i64 x.op, .string x.key, .slice A x.vals.length c] 37) = w1 at *
  obtain ⟨st, hst⟩ : ∃ st, x.strict = st := ⟨_, rfl⟩
  rw [hst] at c0 ⊢
  have HST := hide hst
  clear hst
  go_cut [3] (fun s3 wx => ∃ o : BA, s3 = .string o ∧ Hid (tx o = wrMust x) ∧ wx = w1)
  case first =>
    cases st with
    | false =>
      have HM : Hid (wrMust x = []) := by unfold wrMust; rw [HST.out]; exact hide rfl
      go_wp2_with fail
      go_meet
      exact ⟨_, rfl, by rw [HM.out]; exact hide rfl, rfl⟩
    | true =>
      have HM : Hid (wrMust x = [109, 117, 115, 116, 32]) := by unfold wrMust; rw [HST.out]; exact hide rfl
      go_wp2_with fail
      go_meet
      exact ⟨_, rfl, by rw [HM.out]; exact hide rfl, rfl⟩
  case rest =>
    obtain ⟨o1, rfl, ho1, rfl⟩ := hcut
    have HO1 := hide ho1.out
    clear ho1 HST
    have z1 : o1.size ≤ 5 := by
      have := wrMust_len x
      rw [← HO1.out, tx_sz] at this
      exact this
    go_upto_if 9 with (fail)
    go_cut [3] (fun s3 wx => ∃ o : BA, s3 = .string o ∧ Hid (tx o = wrMust x ++ wrIn x) ∧ wx = wc)
    case first =>
      by_cases h0 : x.area.size = 0
      · have HM : Hid (wrIn x = []) := by unfold wrIn; rw [if_pos h0]; exact hide rfl
        have e3 : (!(ByteArray.toList x.area).isEmpty) = false := by rw [empty_of h0]; simp
        rw [e3]
        clear h0 e3
        go_wp2_with fail
        go_meet
        exact ⟨_, rfl, by rw [HM.out, List.append_nil]; exact HO1, rfl⟩
      · have HM : Hid (wrIn x = wIn ++ ([32] ++ (tx x.area ++ [32]))) := by unfold wrIn; rw [if_neg h0]; exact hide rfl
        have e3 : (!(ByteArray.toList x.area).isEmpty) = true := by rw [full_emp h0]; rfl
        have r1 := cat_run o1 ⟨#[105, 110, 32]⟩ (by show _ + 3 ≤ _; omega)
        have r2 := cat_run (o1 ++ ⟨#[105, 110, 32]⟩) x.area (by have := HX.out.area; rw [app_size]; show _ + 3 + _ ≤ _; omega)
        have r3 := cat_run (o1 ++ ⟨#[105, 110, 32]⟩ ++ x.area) ⟨#[32]⟩ (by have := HX.out.area; rw [app_size, app_size]; show _ + 3 + _ + 1 ≤ _; omega)
        rw [e3]
        clear h0 e3
        go_wp2_with fail
        go_meet
        refine ⟨_, rfl, ?_, rfl⟩
        rw [tx_app, tx_app, tx_app, HO1.out, HM.out]
        exact hide (by simp only [List.append_assoc]; rfl)
    case rest =>
      obtain ⟨o2, rfl, ho2, rfl⟩ := hcut
      have HO2 := hide ho2.out
      have z2 : o2.size ≤ 33 := by
        have h1 := wrMust_len x
        have h2 := wrIn_len HX.out
        rw [← tx_sz, HO2.out, List.length_append]
        omega
      clear ho2 HO1 z1
      go_upto_region 6 with (fail)
      go_cut [3] (fun s3 wx => ∃ o : BA, s3 = .string o ∧ Hid (tx o = wrMust x ++ wrIn x ++ (kindT x.kind ++ [32])) ∧ Hid (TeI w x (.slice A x.vals.length c) wx))
      case first =>
        obtain ⟨k, hk⟩ : ∃ k : Nat, x.kind = (k : Int) := ⟨x.kind.toNat, by have := HX.out.kind.1; omega⟩
        have hk6 : k ≤ 5 := by have := HX.out.kind.2; omega
        have hkw : kindW[k]? = some (kindT x.kind) := by
          rw [hk]
          rcases (by omega : k = 0 ∨ k = 1 ∨ k = 2 ∨ k = 3 ∨ k = 4 ∨ k = 5) with rfl | rfl | rfl | rfl | rfl | rfl <;> rfl
        have HTD := hide (HTI.out.lift (below_drewX wc))
        have hkl := kindT_len x.kind
        generalize kindT x.kind = K at *
        have r1 := cat_run o2 (ba K) (by show _ + K.toArray.size ≤ _; simp; omega)
        have r2 := cat_run (o2 ++ ba K) ⟨#[32]⟩ (by rw [app_size]; show _ + K.toArray.size + 1 ≤ _; simp; omega)
        rw [hk] at c2
        have k0 : (0 : Int) ≤ (k : Int) := by omega
        have k1 : (k : Int) < 6 := by omega
        have HKW := hide hkw
        clear hk hkw hkl
        have c2d : wc.drew.cell? ⟨w.heap.size, 2, none⟩ = some (.int .i64 (k : Int)) := c2
        go_region_law
          ((go_simp; go_at_call 38; (with_reducible refine (gkinds_any _).mono ?_); rintro _ w7 ⟨g, rfl, b7, hg7, hc7⟩; have hk7 := HTD.out.lift b7; have hc2 : w7.cell? ⟨w.heap.size, 2, none⟩ = some (.int .i64 (k : Int)) := (b7.cell (p := ⟨w.heap.size, 2, none⟩) (lt_of_blk HTD.out.rl.blk)).trans c2; have hcK := hc7 k K HKW.out; clear hc7 hg7))
        all_goals
          go_wp2_with fail
          go_meet
          refine ⟨_, rfl, ?_, hide hk7⟩
          rw [tx_app, tx_app, HO2.out]
          exact hide (by simp only [List.append_assoc]; rfl)
      case rest =>
        obtain ⟨o3, rfl, ho3, hte⟩ := hcut
        have HO3 := hide ho3.out
        have HTE := hide hte.out
        have z3 : o3.size ≤ 39 := by
          have h1 := wrMust_len x
          have h2 := wrIn_len HX.out
          have h3 := kindT_len x.kind
          rw [← tx_sz, HO3.out, List.length_append, List.length_append, List.length_append]
          simp
          omega
        clear ho3 hte HO2 z2 HTI c0 c1 c2 c3 c4 c5 c6 c7
        obtain ⟨c0, c1, c2, c3, c4, c5, c6, c7⟩ := HTE.out.rl.c
        go_upto_if 27 with (fail)
        go_cut [3] (fun s3 wx => ∃ o : BA, s3 = .string o ∧ Hid (tx o = wrMust x ++ wrIn x ++ (kindT x.kind ++ [32]) ++ wrIf x) ∧ Hid (TeI w x (.slice A x.vals.length c) wx))
        case first =>
          by_cases h0 : x.ik.size = 0
          · have HM : Hid (wrIf x = []) := by unfold wrIf; rw [if_pos h0]; exact hide rfl
            have e3 : (!(ByteArray.toList x.ik).isEmpty) = false := by rw [empty_of h0]; simp
            rw [e3]
            clear h0 e3
            go_wp2_with fail
            go_meet
            exact ⟨_, rfl, by rw [HM.out, List.append_nil]; exact HO3, HTE⟩
          · have hik := HX.out.ik
            have hiv := HX.out.iv
            have hql := quote_le x.iv.data.toList
            have hq2 : x.iv.data.toList.length = x.iv.size := rfl
            have hqs : (⟨(quote x.iv.data.toList).toArray⟩ : ByteArray).size = (quote x.iv.data.toList).length := by simp [ByteArray.size]
            have HM : Hid (wrIf x = wWhere ++ ([32] ++ (tx x.ik ++ ([32, 61, 32] ++ (quote (tx x.iv) ++ [32]))))) := by
              unfold wrIf
              rw [if_neg h0]
              exact hide rfl
            have r1 := cat_run o3 ⟨#[119, 104, 101, 114, 101, 32]⟩ (by show _ + 6 ≤ _; omega)
            have r2 := cat_run (o3 ++ ⟨#[119, 104, 101, 114, 101, 32]⟩) x.ik (by rw [app_size]; show _ + 6 + _ ≤ _; omega)
            have r3 := cat_run (o3 ++ ⟨#[119, 104, 101, 114, 101, 32]⟩ ++ x.ik) ⟨#[32, 61, 32]⟩ (by rw [app_size, app_size]; show _ + 6 + _ + 3 ≤ _; omega)
            have r4 := cat_run (o3 ++ ⟨#[119, 104, 101, 114, 101, 32]⟩ ++ x.ik ++ ⟨#[32, 61, 32]⟩) ⟨(quote x.iv.data.toList).toArray⟩ (by rw [app_size, app_size, app_size, hqs]; show _ + 6 + _ + 3 + _ ≤ _; omega)
            have r5 := cat_run (o3 ++ ⟨#[119, 104, 101, 114, 101, 32]⟩ ++ x.ik ++ ⟨#[32, 61, 32]⟩ ++ ⟨(quote x.iv.data.toList).toArray⟩) ⟨#[32]⟩ (by rw [app_size, app_size, app_size, app_size, hqs]; show _ + 6 + _ + 3 + _ + 1 ≤ _; omega)
            have e3 : (!(ByteArray.toList x.ik).isEmpty) = true := by rw [full_emp h0]; rfl
            have HPQ := hide (fun W => rquote_any x.iv W (by omega))
            have D3 : ∀ u, (Drn wc u).cell? ⟨w.heap.size, 3, none⟩ = some (.string x.ik) := fun _ => c3
            have D4 : ∀ u, (Drn wc u).cell? ⟨w.heap.size, 4, none⟩ = some (.string x.iv) := fun _ => c4
            have YN : Nonempty Unit := ⟨()⟩
            rw [e3]
            clear h0 e3 hik hiv hql hq2 hqs
            go_wp2_with fail
            refine wp_region_quietV (J := Unit) (Drn wc) () rfl (by kernel_rfl) (by kernel_rfl) ?_
            repeat (go_big_quiet_step (((with_reducible refine (HPQ.out _).mono ?_); rintro _ w8 ⟨rfl, rfl⟩; exact ⟨rfl, ⟨_, rfl⟩⟩)))
            refine wpQuiet_nil ?_
            rintro w9 ⟨u, rfl⟩
            go_wp2_with fail
            go_meet
            refine ⟨_, rfl, ?_, hide (HTE.out.lift (below_drewX _))⟩
            rw [tx_app, tx_app, tx_app, tx_app, tx_app, HO3.out, HM.out]
            exact hide (by simp only [List.append_assoc]; rfl)
        case rest =>
          obtain ⟨o4, rfl, ho4, hww⟩ := hcut
          have HO4 := hide ho4.out
          have z4 : o4.size ≤ 700 := by
            have h1 := wrMust_len x
            have h2 := wrIn_len HX.out
            have h3 := kindT_len x.kind
            have h4 := wrIf_len HX.out
            rw [← tx_sz, HO4.out, List.length_append, List.length_append, List.length_append, List.length_append]
            simp
            omega
          have HTF := hide hww.out
          clear ho4 hww HO3 z3 HTE c0 c1 c2 c3 c4 c5 c6 c7
          obtain ⟨c0, c1, c2, c3, c4, c5, c6, c7⟩ := HTF.out.rl.c
          have HLR : Hid (lineR x = (wrMust x ++ wrIn x ++ (kindT x.kind ++ [32]) ++ wrIf x) ++ (wrOp x ++ [59])) := by
            unfold lineR
            exact hide (by simp only [List.append_assoc])
          generalize (wrMust x ++ wrIn x ++ (kindT x.kind ++ [32]) ++ wrIf x) = LL at *
          have hkey := HX.out.key
          obtain ⟨op, hop⟩ : ∃ op, x.op = op := ⟨_, rfl⟩
          rw [hop] at c5
          have hor := HX.out.op
          rw [hop] at hor
          by_cases h1 : op = 1
          · subst h1
            have HF : Hid (lineR x = LL ++ (wNeeds ++ ([32] ++ tx x.key) ++ [59])) := by rw [HLR.out]; unfold wrOp; rw [if_pos hop]; exact hide rfl
            have r1 := cat_run o4 ⟨#[110, 101, 101, 100, 115, 32]⟩ (by show _ + 6 ≤ _; omega)
            have r2 := cat_run (o4 ++ ⟨#[110, 101, 101, 100, 115, 32]⟩) x.key (by rw [app_size]; show _ + 6 + _ ≤ _; omega)
            have r3 := cat_run (o4 ++ ⟨#[110, 101, 101, 100, 115, 32]⟩ ++ x.key) ⟨#[59]⟩ (by rw [app_size, app_size]; show _ + 6 + _ + 1 ≤ _; omega)
            clear hop hor
            go_wp2_with fail
            go_ret
            refine ⟨ret_s (tx_inj ?_), HTF.out.below⟩
            rw [tx_app, tx_app, tx_app, HO4.out, HF.out, tx_ba]
            simp only [List.append_assoc]
            rfl
          · have o1 : (op == 1) = false := beq_eq_false_iff_ne.2 h1
            by_cases h3 : op = 3
            · subst h3
              have HF : Hid (lineR x = LL ++ (wNo ++ ([32] ++ tx x.key) ++ [59])) := by rw [HLR.out]; unfold wrOp; rw [if_neg (by rw [hop]; decide), if_pos hop]; exact hide rfl
              have r1 := cat_run o4 ⟨#[110, 111, 32]⟩ (by show _ + 3 ≤ _; omega)
              have r2 := cat_run (o4 ++ ⟨#[110, 111, 32]⟩) x.key (by rw [app_size]; show _ + 3 + _ ≤ _; omega)
              have r3 := cat_run (o4 ++ ⟨#[110, 111, 32]⟩ ++ x.key) ⟨#[59]⟩ (by rw [app_size, app_size]; show _ + 3 + _ + 1 ≤ _; omega)
              clear hop hor
              go_wp2_with fail
              go_ret
              refine ⟨ret_s (tx_inj ?_), HTF.out.below⟩
              rw [tx_app, tx_app, tx_app, HO4.out, HF.out, tx_ba]
              simp only [List.append_assoc]
              rfl
            · obtain rfl : op = 2 := by omega
              have HF : Hid (lineR x = LL ++ (wHas ++ ([32] ++ (tx x.key ++ ([32] ++ (wOf ++ ([32] ++ joinC (x.vals.map (fun s => quote (tx s))))))) ++ [59]))) := by rw [HLR.out]; unfold wrOp; rw [if_neg (by rw [hop]; decide), if_neg (by rw [hop]; decide)]; exact hide (by simp only [List.append_assoc])
              have r1 := cat_run o4 ⟨#[104, 97, 115, 32]⟩ (by show _ + 4 ≤ _; omega)
              have r2 := cat_run (o4 ++ ⟨#[104, 97, 115, 32]⟩) x.key (by rw [app_size]; show _ + 4 + _ ≤ _; omega)
              have r3 := cat_run (o4 ++ ⟨#[104, 97, 115, 32]⟩ ++ x.key) ⟨#[32, 111, 102, 32]⟩ (by rw [app_size, app_size]; show _ + 4 + _ + 4 ≤ _; omega)
              have HM : Hid (tx (o4 ++ ⟨#[104, 97, 115, 32]⟩ ++ x.key ++ ⟨#[32, 111, 102, 32]⟩) = LL ++ (wHas ++ ([32] ++ (tx x.key ++ ([32] ++ (wOf ++ [32])))))) := by
                rw [tx_app, tx_app, tx_app, HO4.out]
                exact hide (by simp only [List.append_assoc]; rfl)
              have z5 : LL.length = o4.size := by rw [← HO4.out]; rfl
              have HN := hide HX.out.many
              have HVS := hide HX.out.vals
              obtain ⟨_, _, he, _, hA⟩ := HVV.out.below HTF.out.below
              cases he
              have HA2 := hide hA
              clear hop hor h1 h3 hA
              have HF2 : Hid (lineR x = LL ++ (wHas ++ ([32] ++ (tx x.key ++ ([32] ++ (wOf ++ [32]))))) ++ (joinC (x.vals.map (fun s => quote (tx s))) ++ [59])) := by
                rw [HF.out]
                exact hide (by simp only [List.append_assoc])
              have hMl : (LL ++ (wHas ++ ([32] ++ (tx x.key ++ ([32] ++ (wOf ++ [32])))))).length ≤ 800 := by
                have e := tx_sz x.key
                simp only [wHas, wOf, List.length_append, List.length_cons, List.length_nil]
                omega
              generalize LL ++ (wHas ++ ([32] ++ (tx x.key ++ ([32] ++ (wOf ++ [32]))))) = M at *
              go_wp2_with fail
              generalize (o4 ++ ⟨#[104, 97, 115, 32]⟩ ++ x.key ++ ⟨#[32, 111, 102, 32]⟩ : BA) = o5 at *
              clear r1 r2 r3 HF HLR
              go_loop [3, 4] (fun s3 i => ∃ (k : Nat) (o : BA), k ≤ x.vals.length ∧ i = .int .i64 k ∧ s3 = .string o ∧ Hid (tx o = M ++ joinC ((x.vals.take k).map (fun s => quote (tx s))))) (fun _ i => x.vals.length - (intOf i).toNat)
              case atStart => exact ⟨0, o5, Nat.zero_le _, rfl, rfl, by rw [List.take_zero, HM.out]; exact hide (by simp [joinC])⟩
              case round =>
                obtain ⟨k, o, hk, rfl, rfl, hto⟩ := hrel
                have hosz : o.size ≤ 800 + 24240 := by
                  have h6 := joinC_len ((x.vals.take k).map (fun s => quote (tx s))) 402 (fun y hy => by
                    obtain ⟨s, hs, rfl⟩ := List.mem_map.1 hy
                    have h2 := quote_le (tx s)
                    have h3 := HVS.out s (List.mem_of_mem_take hs)
                    have h4 := tx_sz s
                    omega)
                  rw [List.length_map] at h6
                  have h7 := HN.out
                  have h8 : (x.vals.take k).length ≤ 60 := Nat.le_trans (List.length_take_le _ _) (by omega)
                  rw [← tx_sz, hto.out, List.length_append]
                  omega
                have HTO := hide hto.out
                by_cases hlt : k < x.vals.length
                · obtain ⟨g, ob, rfl, hg, hp⟩ := HA2.out.resolve_left (by intro e; rw [e] at hlt; simp at hlt)
                  have hks := List.getElem?_eq_getElem hlt
                  have hsn := tk_snoc hks
                  generalize x.vals[k] = s at *
                  have d0 := hp k s hks
                  have hs2 := HVS.out s (List.mem_of_getElem? hks)
                  have HQ := hide (fun W => rquote_any s W (by omega))
                  have hql := quote_le s.data.toList
                  have hq2 : s.data.toList.length = s.size := rfl
                  have hqs : (⟨(quote s.data.toList).toArray⟩ : ByteArray).size = (quote s.data.toList).length := by simp [ByteArray.size]
                  have hn60 : x.vals.length ≤ 60 := HN.out
                  have k0 : (0 : Int) ≤ k := by omega
                  have k1 : (k : Int) < x.vals.length := by omega
                  have HKL := hide hlt
                  have HMS := hide (show x.vals.length - (k + 1) < x.vals.length - k from by omega)
                  have HSN : Hid ((x.vals.take (k + 1)).map (fun s => quote (tx s)) = (x.vals.take k).map (fun s => quote (tx s)) ++ [quote (tx s)]) := by rw [hsn, List.map_append]; exact hide rfl
                  have HLE := hide (show (x.vals.take k).length = k by rw [List.length_take]; omega)
                  clear hlt hks hp hsn hto
                  by_cases hk0 : k = 0
                  · subst hk0
                    rw [Nat.add_zero] at d0
                    have r1 := cat_run o ⟨(quote s.data.toList).toArray⟩ (by rw [hqs]; omega)
                    have HT2 : Hid (tx (o ++ ⟨(quote s.data.toList).toArray⟩) = M ++ joinC ((x.vals.take (0 + 1)).map (fun s => quote (tx s)))) := by
                      rw [tx_app, HTO.out, HSN.out]
                      exact hide (by simp [joinC, tx])
                    clear hql hq2 hqs
                    go_wp2_with fail
                    refine (HQ.out _).mono ?_
                    rintro _ w8 ⟨rfl, rfl⟩
                    go_wp2_with fail
                    refine ⟨⟨0 + 1, _, HKL.out, by go_num, rfl, HT2⟩, ?_⟩
                    have := HMS.out
                    simp [intOf]; omega
                  · have k2 : (0 : Int) < k := by omega
                    have r1 := cat_run o ⟨#[44, 32]⟩ (by show _ + 2 ≤ _; omega)
                    have r2 := cat_run (o ++ ⟨#[44, 32]⟩) ⟨(quote s.data.toList).toArray⟩ (by rw [app_size, hqs]; show _ + 2 + _ ≤ _; omega)
                    have HT2 : Hid (tx (o ++ ⟨#[44, 32]⟩ ++ ⟨(quote s.data.toList).toArray⟩) = M ++ joinC ((x.vals.take (k + 1)).map (fun s => quote (tx s)))) := by
                      rw [tx_app, tx_app, HTO.out, HSN.out, joinC_snoc _ (fun e => by have h1 := HLE.out; rw [List.map_eq_nil_iff] at e; rw [e] at h1; exact hk0 h1.symm)]
                      exact hide (by simp only [List.append_assoc]; rfl)
                    clear hql hq2 hqs hk0
                    go_wp2_with fail
                    refine (HQ.out _).mono ?_
                    rintro _ w8 ⟨rfl, rfl⟩
                    go_wp2_with fail
                    refine ⟨⟨k + 1, _, HKL.out, by go_num, rfl, HT2⟩, ?_⟩
                    have := HMS.out
                    simp [intOf]; omega
                · obtain rfl : k = x.vals.length := by omega
                  have k1 : ¬ (x.vals.length : Int) < x.vals.length := by omega
                  have r1 := cat_run o ⟨#[59]⟩ (by show _ + 1 ≤ _; omega)
                  have HF3 : Hid (tx (o ++ ⟨#[59]⟩) = lineR x) := by
                    rw [tx_app, HTO.out, HF2.out, List.take_length]
                    exact hide (by simp only [List.append_assoc]; rfl)
                  clear hto hlt
                  go_wp2_with fail
                  go_ret
                  exact ⟨ret_s (tx_inj (by rw [HF3.out, tx_ba])), HTF.out.below⟩
/-! The reference's Text, walked. -/

theorem writeL_cut (l : List Rl) (k : Nat) : (writeL (l.take k)).length ≤ (writeL l).length := by
  have h : writeL l = writeL (l.take k) ++ writeL (l.drop k) := by
    unfold writeL
    rw [← List.flatMap_append, List.take_append_drop]
  rw [h, List.length_append]
  omega
theorem lineR_len {x : Rl} (h : VdR x) : (lineR x).length ≤ 30000 := by
  have := writeR_len h
  rw [← lineR_w, List.length_append] at this
  omega
set_option maxRecDepth 100000 in
set_option maxHeartbeats 16000000 in
theorem gText_any (l : List Rl) (v : Value) (w : World) (hv : RlS w v l) (hl : l.length ≤ 1000000) (hs : ∀ s ∈ l, RlZ s) :
    Calls Tryz.prog 7 #[v] w fun e w' => e = .returned (.tuple #[.string (textL l).1, .int .i64 (textL l).2]) ∧ Below w.heap.size w w' := by
  obtain ⟨T, hT⟩ : ∃ T, textL l = T := ⟨_, rfl⟩
  rw [hT]
  have HT := hide hT
  have HC := hide (gvalid_any l v w hv hl hs)
  obtain ⟨A, c, rfl, hA⟩ := RlS.slice hv
  have HA := hide hA
  clear hA hv hs hT
  cases hval : validL l with
  | false =>
    have HE : Hid (T = (ba [], 1)) := by rw [← HT.out]; unfold textL; rw [if_neg (by rw [hval]; decide)]; exact hide rfl
    rw [hval] at HC
    clear hval
    go_enter Tryz.func7, Tryz.ntmps7
    go_wp2_with fail
    refine HC.out.mono ?_
    rintro _ w1 ⟨rfl, b1⟩
    have HB := hide b1
    clear b1
    go_wp2_with fail
    go_ret2
    exact ⟨ret_text (by rw [HE.out]; rfl) (by rw [HE.out]), HB.out⟩
  | true =>
    have hall : ∀ x ∈ l, validR x = true := by
      unfold validL at hval
      rw [Bool.and_eq_true] at hval
      exact List.all_eq_true.1 hval.2
    have HAL := hide hall
    have HE : Hid (T = if 20000 < (writeL l).length then (ba [], 2) else (ba (writeL l), 0)) := by rw [← HT.out]; unfold textL; rw [if_pos hval]; exact hide rfl
    rw [hval] at HC
    clear hval hall HT
    go_enter Tryz.func7, Tryz.ntmps7
    go_wp2_with fail
    refine HC.out.mono ?_
    rintro _ w1 ⟨rfl, b1⟩
    have HB := hide b1
    clear b1
    go_wp2_with fail
    go_loopw [4, 5] (fun out i wr => ∃ (k : Nat) (o : BA), k ≤ l.length ∧ i = .int .i64 k ∧ out = .string o ∧ o.size ≤ 60000 ∧ Hid (tx o = writeL (l.take k)) ∧ Hid (Below w.heap.size w wr)) (fun _ i _ => l.length - (intOf i).toNat)
    case atStart => exact ⟨0, ⟨#[]⟩, Nat.zero_le _, rfl, rfl, Nat.zero_le _, hide rfl, HB⟩
    case round =>
      obtain ⟨k, o, hk, rfl, rfl, hoz, hto, hbw⟩ := hrel
      have HTO := hide hto.out
      have HBW := hide hbw.out
      clear hto hbw
      have fin : ∀ (h : k = l.length ∨ 20000 < o.size), T = if 20000 < o.size then (ba [], 2) else (o, 0) := by
        intro h
        have hw : 20000 < (writeL l).length ↔ 20000 < o.size := by
          have h1 := writeL_cut l k
          rw [← HTO.out, tx_sz] at h1
          rcases h with h | h
          · rw [← tx_sz, HTO.out, h, List.take_length]
          · omega
        rw [HE.out]
        by_cases h2 : 20000 < o.size
        · rw [if_pos h2, if_pos (hw.2 h2)]
        · rw [if_neg h2, if_neg (fun e => h2 (hw.1 e))]
          rcases h with h | h
          · have h3 := HTO.out
            rw [h, List.take_length] at h3
            rw [← h3]
            rfl
          · exact absurd h h2
      by_cases hlt : k < l.length
      · have k1 : (k : Int) < l.length := by omega
        have dk : decide (k < l.length) = true := decide_eq_true hlt
        by_cases ho : o.size ≤ 20000
        · have o1 : (o.size : Int) ≤ 20000 := by omega
          have d1 : decide (o.size ≤ 20000) = true := decide_eq_true ho
          obtain ⟨g, ob, rfl, hg, hp⟩ := HA.out.resolve_left (by rintro rfl; simp at hlt)
          have hks := List.getElem?_eq_getElem hlt
          have hsn := writeL_snoc hks
          generalize l[k] = s at *
          obtain ⟨vv, hp2⟩ := hp k s hks
          obtain ⟨c0, c1, c2, c3, c4, c5, c6, c7, hst⟩ := hp2.below hg HBW.out
          obtain ⟨sA, sc, rfl, _⟩ := id hst
          have hvs := HAL.out s (List.mem_of_getElem? hks)
          have HW := hide (gtext_any s _ wr hst hvs)
          have hll := lineR_len (vdR hvs)
          have hbz : (ba (lineR s)).size = (lineR s).length := by simp [ba, ByteArray.size]
          have r1 := cat_run o (ba (lineR s)) (by rw [hbz]; omega)
          have r2 := cat_run (o ++ ba (lineR s)) ⟨#[10]⟩ (by rw [app_size, hbz]; show _ + _ + 1 ≤ _; omega)
          have hz2 : (o ++ ba (lineR s) ++ ⟨#[10]⟩ : BA).size ≤ 60000 := by rw [app_size, app_size, hbz]; show _ + _ + 1 ≤ _; omega
          have HT2 : Hid (tx (o ++ ba (lineR s) ++ ⟨#[10]⟩) = writeL (l.take (k + 1))) := by
            rw [tx_app, tx_app, HTO.out, hsn, ← lineR_w, List.append_assoc]
            exact hide rfl
          unfold vRl at HW
          have k0 : (0 : Int) ≤ k := by omega
          have HKL := hide hlt
          have HZ2 := hide hz2
          have HMS := hide (show l.length - (k + 1) < l.length - k from by omega)
          clear hlt hks hp hsn hp2 hst hvs hll hbz fin hz2 ho
          go_wp2_with fail
          refine HW.out.mono ?_
          rintro _ w2 ⟨rfl, b2⟩
          have HB2 := hide (tr_below HBW.out b2)
          clear b2 c0 c1 c2 c3 c4 c5 c6 c7
          go_wp2_with fail
          refine ⟨⟨k + 1, _, HKL.out, by go_num, rfl, HZ2.out, HT2, HB2⟩, ?_⟩
          have := HMS.out
          simp [intOf]; omega
        · have hT2 := fin (.inr (by omega))
          rw [if_pos (by omega)] at hT2
          have HT2 := hide hT2
          have o1 : ¬ (o.size : Int) ≤ 20000 := by omega
          have o2 : (20000 : Int) < (o.size : Int) := by omega
          have d1 : decide (o.size ≤ 20000) = false := decide_eq_false ho
          clear hlt fin hT2 ho
          go_wp2_with fail
          go_ret2
          exact ⟨ret_text (by rw [HT2.out]; rfl) (by rw [HT2.out]), HBW.out⟩
      · have hkl : k = l.length := by omega
        have hT2 := fin (.inl hkl)
        have k1 : ¬ (k : Int) < l.length := by omega
        have dk : decide (k < l.length) = false := decide_eq_false hlt
        clear fin hlt hkl
        by_cases ho : 20000 < o.size
        · rw [if_pos ho] at hT2
          have HT2 := hide hT2
          have o2 : (20000 : Int) < (o.size : Int) := by omega
          clear hT2
          go_wp2_with fail
          go_ret2
          exact ⟨ret_text (by rw [HT2.out]; rfl) (by rw [HT2.out]), HBW.out⟩
        · rw [if_neg ho] at hT2
          have HT2 := hide hT2
          have o2 : ¬ (20000 : Int) < (o.size : Int) := by omega
          clear hT2
          go_wp2_with fail
          go_ret2
          exact ⟨ret_text (by rw [HT2.out]) (by rw [HT2.out]), HBW.out⟩
end Go.Proofs.YtoodmhlefaepaaaGreat
