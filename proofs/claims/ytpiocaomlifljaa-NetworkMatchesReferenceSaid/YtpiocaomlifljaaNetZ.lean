/-
  ref13.Before and ref13.Ids, walked.
-/
import Derived.Test.YtpiocaomlifljaaNetX
import Derived.Test.YtpiocaomlifljaaPlainN
namespace Go.Proofs.Ytpiocaomlifljaa
open Go.RowKit Go.Proofs.PlLex Go.Proofs.PlNet

theorem below_drewN (w : World) (n : Nat) : Below w.heap.size w (w.drewN n) := ⟨rfl, rfl, rfl, Nat.le_refl _, fun _ _ => rfl⟩
theorem before_short {a b : List BA} (h : ¬ (0 < a.length ∧ 0 < b.length)) : beforeB a b = decide (a.length < b.length) := by
  cases a with
  | nil => cases b with
    | nil => rfl
    | cons y s => simp [beforeB]
  | cons x r => cases b with
    | nil => simp [beforeB]
    | cons y s => simp at h
set_option maxRecDepth 100000 in
set_option maxHeartbeats 8000000 in
theorem before_any (a b : List BA) (va vb : Value) (w : World) (ha : StS w va a) (hb : StS w vb b) (la : a.length ≤ maxLen) :
    Calls Try.prog 54 #[va, vb] w fun e w' => e = .returned (.bool (beforeB a b)) ∧ ∃ n, w' = w.drewN n := by
  obtain ⟨R, hR⟩ : ∃ R, beforeB a b = R := ⟨_, rfl⟩
  rw [hR]
  obtain ⟨A, ca, rfl, _, hA⟩ := ha
  obtain ⟨B, cb, rfl, _, hB⟩ := hb
  have HR := hide (show beforeB (a.drop 0) (b.drop 0) = R from hR)
  have HA := hide hA
  have HB := hide hB
  unfold maxLen at la
  clear hA hB hR
  go_enter Try.func54, Try.ntmps54
  go_wp2_with fail
  go_loopw [5] (fun i wr => ∃ k n : Nat, k ≤ a.length ∧ k ≤ b.length ∧ i = .int .i64 k ∧ Hid (wr = w.drewN n) ∧ Hid (beforeB (a.drop k) (b.drop k) = R)) (fun i _ => a.length - (intOf i).toNat)
  case atStart => exact ⟨0, 0, Nat.zero_le _, Nat.zero_le _, rfl, rfl, HR⟩
  case round =>
    clear HR
    obtain ⟨k, n, hka, hkb, rfl, hw, hr⟩ := hrel
    have hbw : Below w.heap.size w wr := by rw [hw.out]; exact below_drewN w n
    by_cases h1 : k < a.length ∧ k < b.length
    · obtain ⟨h1, h2⟩ := h1
      obtain ⟨ga, oa, rfl, hga, hpa⟩ := HA.out.resolve_left (by intro e; rw [e] at h1; simp at h1)
      obtain ⟨gb, ob, rfl, hgb, hpb⟩ := HB.out.resolve_left (by intro e; rw [e] at h2; simp at h2)
      have c1 := (hpa.below hga hbw) k _ (List.getElem?_eq_getElem h1)
      have c2 := (hpb.below hgb hbw) k _ (List.getElem?_eq_getElem h2)
      have hr2 := hr.out
      rw [drop_st a k h1, drop_st b k h2, beforeB] at hr2
      generalize a[k] = x at *
      generalize b[k] = y at *
      have k0 : (0 : Int) ≤ k := by omega
      have k1 : (k : Int) < a.length := by omega
      have k2 : (k : Int) < b.length := by omega
      have HL := hide h1
      have HL2 := hide h2
      have HM := hide (show a.length - (k + 1) < a.length - k from by omega)
      have HR2 := hide hr2
      have HB2 := hide hbw
      clear hr hr2 hpa hpb h1 h2 hka hkb hbw
      by_cases e : x = y
      · have HZ := hide (show beforeB (a.drop (k + 1)) (b.drop (k + 1)) = R from by rw [← HR2.out, if_pos e])
        subst e
        go_wp2_with fail
        go_quiet (fail)
        go_wp2_with fail
        refine ⟨⟨k + 1, n + nq, HL.out, HL2.out, by go_num, hide (by rw [hw.out]; exact World.drewN_drewN ..), HZ⟩, ?_⟩
        have := HM.out
        simp [intOf]; omega
      · have e1 : ¬ x.toList = y.toList := fun h => e (toList_inj.1 h)
        have e2 : (x.toList == y.toList) = false := by simpa using e1
        have HZ := hide (show Go.Op.bytesLess x.toList y.toList = R from by rw [← HR2.out, if_neg e])
        clear e
        go_wp2_with fail
        go_quiet (fail)
        go_wp2_with fail
        go_quiet (fail)
        go_wp2_with fail
        go_ret
        exact ⟨ret_bool HZ.out, _, by rw [hw.out]; simp only [World.drewN_drewN]; rfl⟩
    · have HZ := hide (show decide (a.length < b.length) = R from by
        rw [← hr.out, before_short (by simp; omega)]
        simp
        omega)
      by_cases h2 : k < a.length
      · have h3 : ¬ k < b.length := fun h => h1 ⟨h2, h⟩
        have k1 : (k : Int) < a.length := by omega
        have k2 : ¬ (k : Int) < b.length := by omega
        clear h1
        go_wp2_with fail
        go_ret
        exact ⟨ret_bool HZ.out, n, hw.out⟩
      · have k1 : ¬ (k : Int) < a.length := by omega
        clear h1
        go_wp2_with fail
        go_ret
        exact ⟨ret_bool HZ.out, n, hw.out⟩
set_option maxRecDepth 100000 in
set_option maxHeartbeats 8000000 in
theorem ids_any (a b : List BA) (va vb : Value) (w : World) (ha : StS w va a) (hb : StS w vb b) (la : a.length ≤ maxLen) (lb : b.length ≤ maxLen) :
    Calls Try.prog 31 #[va, vb] w fun e w' => e = .returned (.bool (decide (a = b))) ∧ ∃ n, w' = w.drewN n := by
  rw [← idsB_eq a b]
  have H1 := hide (before_any a b va vb w ha hb la)
  have H2 := hide (fun n => before_any b a vb va (w.drewN n) (hb.below (below_drewN w n)) (ha.below (below_drewN w n)) lb)
  obtain ⟨A, ca, rfl, _⟩ := ha
  obtain ⟨B, cb, rfl, _⟩ := hb
  clear la lb
  go_enter Try.func31, Try.ntmps31
  go_wp2_with fail
  refine H1.out.mono ?_
  rintro _ w1 ⟨rfl, n, rfl⟩
  cases h1 : beforeB a b with
  | true =>
    go_wp2_with fail
    go_ret
    exact ⟨by unfold idsB; rw [h1]; rfl, n, rfl⟩
  | false =>
    go_wp2_with fail
    refine (H2.out n).mono ?_
    rintro _ w2 ⟨rfl, m, rfl⟩
    cases h2 : beforeB b a with
    | true =>
      go_wp2_with fail
      go_ret
      exact ⟨by unfold idsB; rw [h1, h2]; rfl, _, rfl⟩
    | false =>
      go_wp2_with fail
      go_ret
      exact ⟨by unfold idsB; rw [h1, h2]; rfl, _, rfl⟩
end Go.Proofs.Ytpiocaomlifljaa
