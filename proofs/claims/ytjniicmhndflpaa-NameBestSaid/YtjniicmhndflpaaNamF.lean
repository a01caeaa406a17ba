/-
  Functions of the law and the references, walked: Language, Few.
-/
import Derived.Test.YtjniicmhndflpaaNamE
namespace Go.Proofs.Ytjniicmhndflpaa
open Go.RowKit Go.Proofs.PlLex Go.Proofs.PlName

theorem low_byte (c : UInt8) : lowB c = (decide (97 ≤ (c.toNat : Int)) && decide ((c.toNat : Int) ≤ 122)) := by rw [low_nat, low_int]
theorem ret_sb2 {s t : ByteArray} {a b : Bool} (h1 : s = t) (h : a = b) : Ending.returned (.tuple #[.string s, .bool a]) = .returned (.tuple #[.string t, .bool b]) := by rw [h, h1]
set_option maxRecDepth 100000 in
set_option maxHeartbeats 4000000 in
theorem xlang_any (s : ByteArray) (w : World) (hs : s.size ≤ 100000) :
    Calls Try.prog 13 #[.string s] w fun e w' => e = .returned (.tuple #[.string ⟨(langX s.data.toList).toArray⟩, .bool (langB s.data.toList)]) ∧ w = w' := by
  have hsz : s.data.toList.length = s.size := rfl
  by_cases hn : s.data.toList = nameB
  · have h1 : (s.toList == [110, 97, 109, 101]) = true := by rw [ByteArray.toList_eq, hn]; rfl
    have e2 : langB s.data.toList = true := by unfold langB; rw [if_pos hn]
    have e1 : langX s.data.toList = [] := by unfold langX langR; rw [e2, if_pos rfl, if_pos hn]
    rw [e1, e2]
    clear e1 e2 hn hsz
    go_enter Try.func13, Try.ntmps13
    go_wp2_with fail
    go_ret2
    exact ⟨rfl, rfl⟩
  · have h1 : (s.toList == [110, 97, 109, 101]) = false := by
      rw [ByteArray.toList_eq, beq_eq_false_iff_ne]
      exact hn
    obtain ⟨p1, p2⟩ := lang_parts s.data.toList hn
    obtain ⟨X, hX⟩ : ∃ X, langX s.data.toList = X := ⟨_, rfl⟩
    obtain ⟨Y, hY⟩ : ∃ Y, langB s.data.toList = Y := ⟨_, rfl⟩
    have hXf : Y = false → X = [] := fun e => by rw [← hX]; unfold langX; rw [hY, e]; rfl
    have hXt : Y = true → X = s.data.toList.drop 5 := fun e => by
      rw [← hX]; unfold langX; rw [hY, e, if_pos rfl]; exact p2 (by rw [hY, e])
    rw [hY, hsz] at p1
    rw [hX, hY]
    have HXF := hide hXf
    have HXT := hide hXt
    have HP := hide p1
    clear hn p1 p2 hX hY hXf hXt hsz
    by_cases h6 : s.size < 6
    · have HZ := hide (show Y = false from by rw [HP.out, decide_eq_false (by omega)]; simp)
      have h6' : (s.size : Int) < 6 := by omega
      go_enter Try.func13, Try.ntmps13
      go_wp2_with fail
      go_ret2
      exact ⟨ret_sb2 (by rw [HXF.out HZ.out]) HZ.out.symm, rfl⟩
    by_cases h13 : 13 < s.size
    · have HZ := hide (show Y = false from by rw [HP.out, decide_eq_false (show ¬ s.size ≤ 13 from by omega)]; simp)
      have h6' : ¬ (s.size : Int) < 6 := by omega
      have h13' : (13 : Int) < s.size := by omega
      go_enter Try.func13, Try.ntmps13
      go_wp2_with fail
      go_ret2
      exact ⟨ret_sb2 (by rw [HXF.out HZ.out]) HZ.out.symm, rfl⟩
    have h6' : ¬ (s.size : Int) < 6 := by omega
    have h13' : ¬ (13 : Int) < s.size := by omega
    have h5 : (5 : Int) ≤ s.size := by omega
    have htk : (s.extract 0 5).toList = s.data.toList.take 5 := by
      rw [ByteArray.toList_eq, ByteArray.data_extract, Array.toList_extract, List.extract_eq_take_drop]
      rfl
    cases hpre : (s.data.toList.take 5 == namePre) with
    | false =>
      have HZ := hide (show Y = false from by rw [HP.out, hpre]; simp)
      have q1 : ((s.extract 0 5).toList == [110, 97, 109, 101, 95]) = false := by rw [htk]; exact hpre
      have q2 : (!((s.extract 0 5).toList == [110, 97, 109, 101, 95])) = true := by rw [q1]; rfl
      clear htk hpre
      go_enter Try.func13, Try.ntmps13
      go_wp2_with fail
      go_ret2
      exact ⟨ret_sb2 (by rw [HXF.out HZ.out]) HZ.out.symm, rfl⟩
    | true =>
      have q1 : ((s.extract 0 5).toList == [110, 97, 109, 101, 95]) = true := by rw [htk]; exact hpre
      have q2 : (!((s.extract 0 5).toList == [110, 97, 109, 101, 95])) = false := by rw [q1]; rfl
      have HY := hide (show Y = (s.data.toList.drop 5).all lowB from by
        rw [HP.out, hpre, decide_eq_true (show 6 ≤ s.size from by omega), decide_eq_true (show s.size ≤ 13 from by omega)]; rfl)
      clear htk hpre HP
      go_enter Try.func13, Try.ntmps13
      go_wp2_with fail
      go_loop [4] (fun i => ∃ k : Nat, 5 ≤ k ∧ k ≤ s.size ∧ i = .int .i64 k ∧ Hid ((s.data.toList.drop k).all lowB = Y)) (fun i => s.size - (intOf i).toNat)
      case atStart => exact ⟨5, Nat.le_refl _, by omega, rfl, hide HY.out.symm⟩
      case round =>
        obtain ⟨k, hk5, hk, rfl, hr⟩ := hrel
        by_cases hlt : k < s.size
        · have hd := drop_cons s k hlt
          have hr2 := hr.out
          rw [hd, List.all_cons, low_byte] at hr2
          obtain ⟨b, hb⟩ : ∃ b : Int, (s[k].toNat : Int) = b := ⟨_, rfl⟩
          rw [hb] at hr2
          have k0 : (0 : Int) ≤ k := by omega
          have k1 : (k : Int) < s.size := by omega
          have HL := hide hlt
          have HM := hide (show s.size - (k + 1) < s.size - k from by omega)
          have HR2 := hide hr2
          clear hr hr2 hd
          by_cases u1 : b < 97
          · have HZ := hide (show Y = false from by rw [← HR2.out, decide_eq_false (show ¬ 97 ≤ b from by omega)]; rfl)
            go_wp2_with fail
            go_ret2
            exact ⟨ret_sb2 (by rw [HXF.out HZ.out]) HZ.out.symm, rfl⟩
          by_cases u2 : 122 < b
          · have HZ := hide (show Y = false from by rw [← HR2.out, decide_eq_false (show ¬ b ≤ 122 from by omega)]; simp)
            go_wp2_with fail
            go_ret2
            exact ⟨ret_sb2 (by rw [HXF.out HZ.out]) HZ.out.symm, rfl⟩
          have HZ := hide (show (s.data.toList.drop (k + 1)).all lowB = Y from by
            rw [← HR2.out, decide_eq_true (show 97 ≤ b from by omega), decide_eq_true (show b ≤ 122 from by omega)]; rfl)
          go_wp2_with fail
          refine ⟨⟨k + 1, by omega, HL.out, by go_num, HZ⟩, ?_⟩
          have := HM.out
          simp [intOf]; omega
        · have HZ := hide (show Y = true from by rw [← hr.out, drop_end s k hlt]; rfl)
          clear hr
          go_wp2_with fail
          go_ret2
          refine ⟨ret_sb2 ?_ HZ.out.symm, rfl⟩
          rw [HXT.out HZ.out]
          have : (s.extract 5 s.size).data.toList = s.data.toList.drop 5 := by
            rw [ByteArray.data_extract, Array.toList_extract, List.extract_eq_take_drop]
            exact List.take_of_length_le (by rw [List.length_drop]; exact Nat.le_refl _)
          rw [← this]

set_option maxRecDepth 100000 in
set_option maxHeartbeats 4000000 in
theorem fewT_any (l : List Tg) (n : Nat) (v : Value) (w : World) (hv : TgS w v l) (hl : l.length ≤ maxLen) (hn : n ≤ 1000) :
    Calls Try.prog 22 #[v, .int .i64 (n : Int)] w fun e w' => e = .returned (.bool (fewT n l)) ∧ w = w' := by
  unfold maxLen at hl
  obtain ⟨R, hR⟩ : ∃ R, fewT n l = R := ⟨_, rfl⟩
  rw [hR]
  unfold fewT at hR
  obtain ⟨A, c, rfl, hA⟩ := hv
  have HA := hide hA
  have HR := hide hR
  clear hA hR
  by_cases hln : l.length ≤ n
  · have h1 : (l.length : Int) ≤ n := by omega
    have HR1 := hide (show l.all (fun t => decide (t.k.size ≤ 300) && decide (t.v.size ≤ 300)) = R from by rw [← HR.out, decide_eq_true hln]; rfl)
    have HLN := hide hln
    clear HR hln
    go_enter Try.func22, Try.ntmps22
    go_wp2_with fail
    go_loop [5] (fun i => ∃ k : Nat, k ≤ l.length ∧ i = .int .i64 k ∧ Hid ((l.drop k).all (fun t => decide (t.k.size ≤ 300) && decide (t.v.size ≤ 300)) = R)) (fun i => l.length - (intOf i).toNat)
    case atStart => exact ⟨0, Nat.zero_le _, rfl, HR1⟩
    case round =>
      obtain ⟨k, hk, rfl, hr⟩ := hrel
      by_cases hlt : k < l.length
      · obtain ⟨g, o, rfl, hg, hp⟩ := HA.out.resolve_left (by rintro rfl; simp at hlt)
        obtain ⟨c1, c2⟩ := hp k _ (List.getElem?_eq_getElem hlt)
        have hr2 := hr.out
        rw [drop_tg l k hlt, List.all_cons] at hr2
        generalize l[k] = t at *
        obtain ⟨tk, tv⟩ := t
        simp only at c1 c2 hr2
        have k0 : (0 : Int) ≤ k := by omega
        have k1 : (k : Int) < l.length := by omega
        have HL := hide hlt
        have HM := hide (show l.length - (k + 1) < l.length - k from by omega)
        have HR2 := hide hr2
        clear hr hr2 hlt hp
        by_cases u1 : 300 < tk.size
        · have u1' : (300 : Int) < tk.size := by omega
          have HZ := hide (show R = false from by rw [← HR2.out, decide_eq_false (show ¬ tk.size ≤ 300 from by omega)]; rfl)
          go_wp2_with fail
          go_ret
          exact ⟨ret_bool HZ.out.symm, rfl⟩
        have u1' : ¬ (300 : Int) < tk.size := by omega
        by_cases u2 : 300 < tv.size
        · have u2' : (300 : Int) < tv.size := by omega
          have HZ := hide (show R = false from by rw [← HR2.out, decide_eq_false (show ¬ tv.size ≤ 300 from by omega)]; simp)
          go_wp2_with fail
          go_ret
          exact ⟨ret_bool HZ.out.symm, rfl⟩
        have u2' : ¬ (300 : Int) < tv.size := by omega
        have HZ := hide (show (l.drop (k + 1)).all (fun t => decide (t.k.size ≤ 300) && decide (t.v.size ≤ 300)) = R from by
          rw [← HR2.out, decide_eq_true (show tk.size ≤ 300 from by omega), decide_eq_true (show tv.size ≤ 300 from by omega)]; rfl)
        go_wp2_with fail
        refine ⟨⟨k + 1, HL.out, by go_num, HZ⟩, ?_⟩
        have := HM.out
        simp [intOf]; omega
      · have HZ := hide (show R = true from by rw [← hr.out, List.drop_eq_nil_of_le (by omega)]; rfl)
        clear hr
        go_wp2_with fail
        go_ret
        exact ⟨ret_bool HZ.out.symm, rfl⟩
  · have h1 : ¬ (l.length : Int) ≤ n := by omega
    have h2 : (0 : Int) < l.length := by omega
    have HZ := hide (show R = false from by rw [← HR.out, decide_eq_false hln]; rfl)
    clear HR
    go_enter Try.func22, Try.ntmps22
    go_wp2_with fail
    go_loop [5] (fun i => i = .int .i64 0) (fun _ => 0)
    case atStart => exact rfl
    case round =>
      subst hrel
      go_wp2_with fail
      go_ret
      exact ⟨ret_bool HZ.out.symm, rfl⟩
end Go.Proofs.Ytjniicmhndflpaa
