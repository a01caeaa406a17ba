/-
  Small functions of the law and the references, walked: Has, Same, Get, Few.
-/
import Derived.Test.YtjniicmhndflpaaNamD
import Derived.BigQuiet
import Derived.Deep.QuietTactic
namespace Go.Proofs.Ytjniicmhndflpaa
open Go.RowKit Go.Proofs.PlLex Go.Proofs.PlName

theorem drop_st (l : List ByteArray) (k : Nat) (h : k < l.length) : l.drop k = l[k] :: l.drop (k + 1) := List.drop_eq_getElem_cons h
set_option maxRecDepth 100000 in
set_option maxHeartbeats 4000000 in
theorem has_any (l : List ByteArray) (s : ByteArray) (v : Value) (w : World) (hv : StS w v l) (hl : l.length ≤ 100000) :
    Calls Try.prog 14 #[v, .string s] w fun e w' => e = .returned (.bool (hasS s l)) ∧ w = w' := by
  obtain ⟨R, hR⟩ : ∃ R, hasS s l = R := ⟨_, rfl⟩
  rw [hR]
  have HR := hide hR
  clear hR
  obtain ⟨A, c, rfl, _, hA⟩ := hv
  have HA := hide hA
  clear hA
  go_enter Try.func14, Try.ntmps14
  go_wp2_with fail
  go_loop [5] (fun i => ∃ k : Nat, k ≤ l.length ∧ i = .int .i64 k ∧ Hid (hasS s (l.drop k) = R)) (fun i => l.length - (intOf i).toNat)
  case atStart => exact ⟨0, Nat.zero_le _, rfl, HR⟩
  case round =>
    obtain ⟨k, hk, rfl, hr⟩ := hrel
    by_cases hlt : k < l.length
    · obtain ⟨g, o, rfl, hg, hp⟩ := HA.out.resolve_left (by rintro rfl; simp at hlt)
      have c1 := hp k _ (List.getElem?_eq_getElem hlt)
      have hr2 := hr.out
      rw [drop_st l k hlt, hasS] at hr2
      generalize l[k] = x at *
      have k0 : (0 : Int) ≤ k := by omega
      have k1 : (k : Int) < l.length := by omega
      have HL := hide hlt
      have HM := hide (show l.length - (k + 1) < l.length - k from by omega)
      clear hr hlt hp
      cases hb : (x.toList == s.toList) with
      | true =>
        rw [hb, Bool.true_or] at hr2
        have HR2 := hide hr2
        have hb3 : x.toList = s.toList := by simpa using hb
        clear hr2
        go_wp2_with fail
        go_ret
        exact ⟨ret_bool HR2.out, rfl⟩
      | false =>
        rw [hb, Bool.false_or] at hr2
        have HR2 := hide hr2
        have hb3 : ¬ x.toList = s.toList := by simpa using hb
        clear hr2
        go_wp2_with fail
        refine ⟨⟨k + 1, HL.out, by go_num, HR2⟩, ?_⟩
        have := HM.out
        simp [intOf]; omega
    · have hz : R = false := by rw [← hr.out, List.drop_eq_nil_of_le (by omega)]; rfl
      have HZ := hide hz
      clear hr hz
      go_wp2_with fail
      go_ret
      exact ⟨ret_bool HZ.out.symm, rfl⟩

set_option maxRecDepth 100000 in
set_option maxHeartbeats 4000000 in
theorem same_any (a b : List ByteArray) (v1 v2 : Value) (w : World) (h1 : StS w v1 a) (h2 : StS w v2 b) (hl : a.length ≤ 100000) :
    Calls Try.prog 16 #[v1, v2] w fun e w' => e = .returned (.bool (sameS a b)) ∧ Below w.heap.size w w' := by
  obtain ⟨R, hR⟩ : ∃ R, sameS a b = R := ⟨_, rfl⟩
  have hne := sameS_len a b
  rw [hR] at hne ⊢
  have HR := hide hR
  obtain ⟨A, c, rfl, _, hA⟩ := h1
  obtain ⟨A2, c2, rfl, _, hA2⟩ := h2
  have HA := hide hA
  have HA2 := hide hA2
  clear hA hA2 hR
  by_cases hlen : a.length = b.length
  · have HBL := hide hlen.symm
    rw [HBL.out]
    clear hne hlen
    go_enter Try.func16, Try.ntmps16
    go_wp2_with fail
    go_loopw [5] (fun i wr => ∃ k : Nat, k ≤ a.length ∧ i = .int .i64 k ∧ Hid (Below w.heap.size w wr) ∧ Hid (sameS (a.drop k) (b.drop k) = R)) (fun i _ => a.length - (intOf i).toNat)
    case atStart => exact ⟨0, Nat.zero_le _, rfl, Below.refl _ _, HR⟩
    case round =>
      obtain ⟨k, hk, rfl, hbw, hr⟩ := hrel
      by_cases hlt : k < a.length
      · obtain ⟨g, o, rfl, hg, hp⟩ := HA.out.resolve_left (by rintro rfl; simp at hlt)
        have hlt2 : k < b.length := by rw [HBL.out]; exact hlt
        obtain ⟨g2, o2, rfl, hg2, hp2⟩ := HA2.out.resolve_left (by rintro rfl; simp at hlt2)
        have c1 := (hp.below hg hbw.out) k _ (List.getElem?_eq_getElem hlt)
        have c2 := (hp2.below hg2 hbw.out) k _ (List.getElem?_eq_getElem hlt2)
        have hr2 := hr.out
        rw [drop_st a k hlt, drop_st b k hlt2, sameS] at hr2
        generalize a[k] = x at *
        generalize b[k] = y at *
        have k0 : (0 : Int) ≤ k := by omega
        have k1 : (k : Int) < a.length := by omega
        have HL := hide hlt
        have HM := hide (show a.length - (k + 1) < a.length - k from by omega)
        have HB1 := hide hbw.out
        clear hr hlt hlt2 hp hp2 hbw
        cases hb : (x.toList == y.toList) with
        | true =>
          rw [hb, Bool.true_and] at hr2
          have HR2 := hide hr2
          have hb3 : x.toList = y.toList := by simpa using hb
          have hb4 : (x.toList != y.toList) = false := by rw [bne, hb]; rfl
          clear hr2
          go_wp2_with fail
          go_quiet (fail)
          go_wp2_with fail
          refine ⟨⟨k + 1, HL.out, by go_num, hide (below_drewN' HB1.out _), HR2⟩, ?_⟩
          have := HM.out
          simp [intOf]; omega
        | false =>
          rw [hb, Bool.false_and] at hr2
          have HR2 := hide hr2
          have hb3 : ¬ x.toList = y.toList := by simpa using hb
          have hb4 : (x.toList != y.toList) = true := by rw [bne, hb]; rfl
          clear hr2
          go_wp2_with fail
          go_quiet (fail)
          go_wp2_with fail
          go_ret
          exact ⟨ret_bool HR2.out, below_drewN' HB1.out _⟩
      · have hz : R = true := by
          rw [← hr.out, List.drop_eq_nil_of_le (by omega), List.drop_eq_nil_of_le (by rw [HBL.out]; omega)]; rfl
        have HZ := hide hz
        have HB1 := hide hbw.out
        clear hr hz hbw
        go_wp2_with fail
        go_ret
        exact ⟨ret_bool HZ.out.symm, HB1.out⟩
  · have hz := hne hlen
    have HZ := hide hz
    have h5 : ¬ (a.length : Int) = b.length := by omega
    have h6 : ((a.length : Int) != b.length) = true := bne_iff_ne.2 h5
    clear hne hz
    go_enter Try.func16, Try.ntmps16
    go_wp2_with fail
    go_ret
    exact ⟨ret_bool HZ.out.symm, Below.refl _ _⟩

def getV : Option ByteArray → Value
  | none => .tuple #[.string ⟨#[]⟩, .bool false]
  | some v => .tuple #[.string v, .bool true]
set_option maxRecDepth 100000 in
set_option maxHeartbeats 4000000 in
theorem get_any (l : List Tg) (key : ByteArray) (v : Value) (w : World) (hv : TgS w v l) (hl : l.length ≤ 100000) :
    Calls Try.prog 15 #[v, .string key] w fun e w' => e = .returned (getV (getT key l)) ∧ Below w.heap.size w w' := by
  obtain ⟨R, hR⟩ : ∃ R, getT key l = R := ⟨_, rfl⟩
  rw [hR]
  have HR := hide hR
  clear hR
  obtain ⟨A, c, rfl, hA⟩ := hv
  have HA := hide hA
  clear hA
  go_enter Try.func15, Try.ntmps15
  go_wp2_with fail
  go_loopw [10] (fun i wr => ∃ k : Nat, k ≤ l.length ∧ i = .int .i64 k ∧ Hid (Below w.heap.size w wr) ∧ Hid (getT key (l.drop k) = R)) (fun i _ => l.length - (intOf i).toNat)
  case atStart => exact ⟨0, Nat.zero_le _, rfl, Below.refl _ _, HR⟩
  case round =>
    obtain ⟨k, hk, rfl, hb, hr⟩ := hrel
    by_cases hlt : k < l.length
    · obtain ⟨g, o, rfl, hg, hp⟩ := HA.out.resolve_left (by rintro rfl; simp at hlt)
      obtain ⟨c1, c2⟩ := (hp.below hg hb.out) k _ (List.getElem?_eq_getElem hlt)
      have hr2 := hr.out
      rw [drop_tg l k hlt, getT] at hr2
      generalize l[k] = t at *
      obtain ⟨tk, tv⟩ := t
      simp only at c1 c2 hr2
      have k0 : (0 : Int) ≤ k := by omega
      have k1 : (k : Int) < l.length := by omega
      have HL := hide hlt
      have HM := hide (show l.length - (k + 1) < l.length - k from by omega)
      have hb9 := hb.out.alloc hb.out.size (.cells #[.string tk, .string tv] 42)
      have HB9 := hide hb9
      clear hr hlt hp hb9
      cases hq : (tk.toList == key.toList) with
      | true =>
        rw [hq, if_pos rfl] at hr2
        have HR2 := hide hr2
        have hb3 : tk.toList = key.toList := by simpa using hq
        clear hr2
        go_wp2_with fail
        go_ret2
        exact ⟨by rw [← HR2.out]; rfl, HB9.out⟩
      | false =>
        rw [hq, if_neg (by decide)] at hr2
        have HR2 := hide hr2
        have hb3 : ¬ tk.toList = key.toList := by simpa using hq
        clear hr2
        go_wp2_with fail
        refine ⟨⟨k + 1, HL.out, by go_num, HB9, HR2⟩, ?_⟩
        have := HM.out
        simp [intOf]; omega
    · have hz : R = none := by rw [← hr.out, List.drop_eq_nil_of_le (by omega)]; rfl
      have HZ := hide hz
      have HB9 := hide hb.out
      clear hr hz hb
      go_wp2_with fail
      go_ret2
      exact ⟨by rw [HZ.out]; rfl, HB9.out⟩
end Go.Proofs.Ytjniicmhndflpaa
