/-
  The law's few, walked.
-/
import Derived.Test.YtjniicmhndflpaaNamN
import Derived.Test.YtjniicmhndflpaaPlain4
namespace Go.Proofs.Ytjniicmhndflpaa
open Go.RowKit Go.Proofs.PlLex Go.Proofs.PlName

set_option maxRecDepth 100000 in
set_option maxHeartbeats 4000000 in
theorem fewS_any (l : List ByteArray) (n : Nat) (v : Value) (w : World) (hv : StS w v l) (hl : l.length ≤ maxLen) (hn : n ≤ 1000) :
    Calls Try.prog 23 #[v, .int .i64 (n : Int)] w fun e w' => e = .returned (.bool (fewS n l)) ∧ w = w' := by
  unfold maxLen at hl
  obtain ⟨R, hR⟩ : ∃ R, fewS n l = R := ⟨_, rfl⟩
  rw [hR]
  unfold fewS at hR
  obtain ⟨A, c, rfl, _, hA⟩ := hv
  have HA := hide hA
  have HR := hide hR
  clear hA hR
  by_cases hln : l.length ≤ n
  · have h1 : (l.length : Int) ≤ n := by omega
    have HR1 := hide (show l.all (fun t => decide (t.size ≤ 30)) = R from by rw [← HR.out, decide_eq_true hln]; rfl)
    have HLN := hide hln
    clear HR hln
    go_enter Try.func23, Try.ntmps23
    go_wp2_with fail
    go_loop [5] (fun i => ∃ k : Nat, k ≤ l.length ∧ i = .int .i64 k ∧ Hid ((l.drop k).all (fun t => decide (t.size ≤ 30)) = R)) (fun i => l.length - (intOf i).toNat)
    case atStart => exact ⟨0, Nat.zero_le _, rfl, HR1⟩
    case round =>
      obtain ⟨k, hk, rfl, hr⟩ := hrel
      by_cases hlt : k < l.length
      · obtain ⟨g, o, rfl, hg, hp⟩ := HA.out.resolve_left (by rintro rfl; simp at hlt)
        have c1 := hp k _ (List.getElem?_eq_getElem hlt)
        have hr2 := hr.out
        rw [drop_st l k hlt, List.all_cons] at hr2
        generalize l[k] = t at *
        have k0 : (0 : Int) ≤ k := by omega
        have k1 : (k : Int) < l.length := by omega
        have HL := hide hlt
        have HM := hide (show l.length - (k + 1) < l.length - k from by omega)
        have HR2 := hide hr2
        clear hr hr2 hlt hp
        by_cases u1 : 30 < t.size
        · have u1' : (30 : Int) < t.size := by omega
          have HZ := hide (show R = false from by rw [← HR2.out, decide_eq_false (show ¬ t.size ≤ 30 by omega)]; rfl)
          go_wp2_with fail
          go_ret
          exact ⟨ret_bool HZ.out.symm, rfl⟩
        have u1' : ¬ (30 : Int) < t.size := by omega
        have HZ := hide (show (l.drop (k + 1)).all (fun t => decide (t.size ≤ 30)) = R from by
          rw [← HR2.out, decide_eq_true (show t.size ≤ 30 by omega)]; rfl)
        go_wp2_with fail
        refine ⟨⟨k + 1, HL.out, by go_num, HZ⟩, ?_⟩
        have := HM.out
        simp [intOf]; omega
      · have HZ := hide (show R = true from by rw [← hr.out, List.drop_eq_nil_of_le (by omega)]; rfl)
        clear hr
        go_wp2_with fail
        go_ret
        exact ⟨ret_bool HZ.out.symm, rfl⟩
  · have h1 : ¬ (l.length : Int) ≤ n := by omega
    have h2 : (0 : Int) < l.length := by omega
    have HZ := hide (show R = false from by rw [← HR.out, decide_eq_false hln]; rfl)
    clear HR
    go_enter Try.func23, Try.ntmps23
    go_wp2_with fail
    go_loop [5] (fun i => i = .int .i64 0) (fun _ => 0)
    case atStart => exact rfl
    case round =>
      subst hrel
      go_wp2_with fail
      go_ret
      exact ⟨ret_bool HZ.out.symm, rfl⟩

set_option maxRecDepth 100000 in
set_option maxHeartbeats 4000000 in
theorem few12_nil (w : World) : Calls Try.prog 24 #[.agg #[.slice none 0 0], .int .i64 30] w fun e w' => e = .returned (.bool true) ∧ Below w.heap.size w w' := by
  go_enter Try.func24, Try.ntmps24
  go_wp2_with fail
  go_loop [5] (fun i => i = .int .i64 0) (fun _ => 0)
  case atStart => exact rfl
  case round =>
    subst hrel
    go_wp2_with fail
    go_ret
    exact ⟨rfl, (Below.refl _ _).alloc (Nat.le_refl _) _⟩

set_option maxRecDepth 100000 in
set_option maxHeartbeats 4000000 in
theorem few_any (l : List Tg) (L : List ByteArray) (v vl : Value) (w : World) (hv : TgS w v l) (hvl : StS w vl L) (hl : l.length ≤ maxLen) (hL : L.length ≤ maxLen) :
    Calls Try.prog 9 #[v, vl, .agg #[.slice none 0 0]] w fun e w' => e = .returned (.bool (fewT 70 l && fewS 20 L)) ∧ Below w.heap.size w w' := by
  obtain ⟨wa, hwa⟩ : ∃ wa, w.alloc (.cells #[.slice none 0 0] 29) = wa := ⟨_, rfl⟩
  have ha : Below w.heap.size w wa := by rw [← hwa]; exact (Below.refl _ _).alloc (Nat.le_refl _) _
  have hmb : wa.heap[w.heap.size]? = some (.cells #[.slice none 0 0] 29 (0, 0)) := by rw [← hwa]; exact heap_alloc_new w _
  have HT := hide (fewT_any l 70 v wa (hv.below ha) hl (by decide))
  have HS := hide (fewS_any L 20 vl wa (hvl.below ha) hL (by decide))
  have HM := hide few12_nil
  obtain ⟨A, c, rfl, _⟩ := hv
  obtain ⟨A2, c2, rfl, _⟩ := hvl
  generalize fewT 70 l = b1 at *
  generalize fewS 20 L = b2 at *
  have c1 := (blk1 hmb).1
  cases b1 with
  | false =>
    go_enter Try.func9, Try.ntmps9
    go_wp2_with fail
    refine (HT.out).mono ?_
    rintro _ w2 ⟨rfl, hw⟩
    obtain rfl : wa = w2 := hw
    go_wp2_with fail
    go_ret
    exact ⟨rfl, ha⟩
  | true =>
    cases b2 with
    | false =>
      go_enter Try.func9, Try.ntmps9
      go_wp2_with fail
      refine (HT.out).mono ?_
      rintro _ w2 ⟨rfl, hw⟩
      obtain rfl : wa = w2 := hw
      go_wp2_with fail
      refine (HS.out).mono ?_
      rintro _ w3 ⟨rfl, hw3⟩
      obtain rfl : wa = w3 := hw3
      go_wp2_with fail
      go_ret
      exact ⟨rfl, ha⟩
    | true =>
      go_enter Try.func9, Try.ntmps9
      go_wp2_with fail
      refine (HT.out).mono ?_
      rintro _ w2 ⟨rfl, hw⟩
      obtain rfl : wa = w2 := hw
      go_wp2_with fail
      refine (HS.out).mono ?_
      rintro _ w3 ⟨rfl, hw3⟩
      obtain rfl : wa = w3 := hw3
      go_wp2_with fail
      refine (HM.out wa).mono ?_
      rintro _ w4 ⟨rfl, b4⟩
      go_wp2_with fail
      go_ret
      exact ⟨rfl, bto ha b4⟩
end Go.Proofs.Ytjniicmhndflpaa
