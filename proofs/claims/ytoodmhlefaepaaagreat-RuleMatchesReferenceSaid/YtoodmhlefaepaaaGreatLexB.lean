/-
  The reference lexer's Name, Quote and str, walked.
-/
import Derived.Test.YtoodmhlefaepaaaGreatLexA
namespace Go.Proofs.YtoodmhlefaepaaaGreat
open Go.RowKit Go.Proofs.PlLex

theorem name_parts (l : L) : name l = (l.all isWord && (match l with | [] => false | c :: _ => isLetter c) && decide (l.length ≤ 24)) := rfl
def headLetter : L → Bool
  | [] => false
  | c :: _ => isLetter c
def allWord (l : L) : Bool := l.all isWord
theorem name_eq (l : L) : name l = (allWord l && headLetter l && decide (l.length ≤ 24)) := by cases l <;> rfl
theorem size_list (s : ByteArray) : s.data.toList.length = s.size := rfl

set_option maxHeartbeats 400000 in
theorem rname_any (s : ByteArray) (w : World) (hs : s.size ≤ maxLen) :
    Calls Tryz.prog 58 #[.string s] w fun e w' => e = .returned (.bool (name s.data.toList)) ∧ w = w' := by
  unfold maxLen at hs
  obtain ⟨R, hR⟩ : ∃ R, R = name s.data.toList := ⟨_, rfl⟩
  rw [← hR]
  have HR := hide hR
  clear hR
  go_enter Tryz.func58, Tryz.ntmps58
  go_wp2
  go_loop [3] (fun i => ∃ k : Nat, k ≤ s.size ∧ i = .int .i64 k ∧ Hid (allWord (s.data.toList.drop k) = allWord s.data.toList)) (fun i => s.size - (intOf i).toNat)
  case atStart => exact ⟨0, Nat.zero_le _, rfl, rfl⟩
  case round =>
    obtain ⟨k, hk, rfl, hrel⟩ := hrel
    by_cases hlt : k < s.size
    · have h1 := hide ((congrArg allWord (drop_cons s k hlt)).symm.trans hrel.out)
      clear hrel
      cases hw : isWord s[k]
      all_goals
        have c1 := word_any s[k] w
        rw [hw] at c1
        have C1 := hide c1
        have HW := hide hw
        clear c1 hw
        go_wp2_with (go_at_call 75; refine C1.out.mono ?_; rintro e w' ⟨rfl, rfl⟩)
      · go_ret
        refine ⟨ret_bool ?_, rfl⟩
        rw [HR.out, name_eq, ← h1.out]
        simp [allWord, HW.out]
      · go_round
        case rel =>
          refine ⟨k + 1, by omega, by go_num, ?_⟩
          show _ = _
          rw [← h1.out]
          simp [allWord, HW.out]
        case measure => simp [intOf]; omega
    · have h1 : Hid (allWord s.data.toList = true) := by
        show _ = _
        rw [← hrel.out, drop_end s k hlt]; rfl
      clear hrel
      by_cases h0 : 0 < s.size
      · have hd := hide (drop_cons s 0 h0)
        by_cases h24 : s.size ≤ 24
        · have c1 := hide (letter_any s[0] w)
          have hh : Hid (R = isLetter s[0]) := by
            show _ = _
            have e := hd.out
            rw [List.drop_zero] at e
            rw [HR.out, name_eq, h1.out, size_list]
            rw [e]
            simp [headLetter, h24]
          go_wp2_with (go_at_call 74; refine c1.out.mono ?_; rintro e w' ⟨rfl, rfl⟩)
          all_goals go_ret
          all_goals exact ⟨ret_bool (by rw [hh.out]), rfl⟩
        · go_wp2_with fail
          all_goals go_ret
          refine ⟨ret_bool ?_, rfl⟩
          rw [HR.out, name_eq, size_list]
          simp [h24]
      · go_wp2_with fail
        all_goals go_ret
        refine ⟨ret_bool ?_, rfl⟩
        have : s.data.toList = [] := by have := drop_end s 0 h0; simpa using this
        rw [HR.out, this]; rfl

theorem ext_list (s : ByteArray) (a b : Nat) : (s.extract a b).data.toList = (s.data.toList.drop a).take (b - a) := by
  simp [List.extract]
theorem app_list (a b : ByteArray) : (a ++ b).data.toList = a.data.toList ++ b.data.toList := by simp
theorem str_of_list (a : ByteArray) (l : L) (h : a.data.toList = l) : a = ⟨l.toArray⟩ := by
  cases a with | mk d => simp at h; rw [← h]
theorem take_snoc (s : ByteArray) (k : Nat) (h : k < s.size) : s.data.toList.take (k + 1) = s.data.toList.take k ++ [s[k]] := by
  rw [List.take_succ_eq_append_getElem (by simpa using h)]; rfl
theorem mid_snoc (s : ByteArray) (f k : Nat) (hf : f ≤ k) (h : k < s.size) : (s.data.toList.drop f).take (k + 1 - f) = (s.data.toList.drop f).take (k - f) ++ [s[k]] := by
  rw [show k + 1 - f = (k - f) + 1 by omega, List.take_succ_eq_append_getElem (by simp; omega), List.getElem_drop]
  congr 2
  show s.data.toList[f + (k - f)]'_ = s.data.toList[k]'_
  congr 1; omega
theorem quoteB_snoc (l : L) (c : UInt8) : quoteB (l ++ [c]) = quoteB l ++ (if c == 10 then [92, 110] else if c == 34 || c == 92 then [92, c] else [c]) := by
  induction l with
  | nil => simp only [quoteB, List.nil_append]
  | cons d l ih =>
    simp only [List.cons_append, quoteB, ih]
    split
    · simp
    · split
      · simp
      · simp

set_option maxHeartbeats 1000000 in
theorem rquote_any (s : ByteArray) (w : World) (hs : s.size ≤ 1000000) :
    Calls Tryz.prog 39 #[.string s] w fun e w' => e = .returned (.string ⟨(quote s.data.toList).toArray⟩) ∧ w = w' := by
  obtain ⟨R, hR⟩ : ∃ R : ByteArray, R = ⟨(quote s.data.toList).toArray⟩ := ⟨_, rfl⟩
  rw [← hR]
  have HR := hide hR
  clear hR
  go_enter Tryz.func39, Tryz.ntmps39
  go_wp2
  go_loop [3, 4, 5] (fun o f i => ∃ (q : ByteArray) (a k : Nat), a ≤ k ∧ k ≤ s.size ∧ q.size + (k - a) ≤ 2 * k + 1 ∧ o = .string q ∧ f = .int .i64 a ∧ i = .int .i64 k ∧
      Hid (q.data.toList ++ (s.data.toList.drop a).take (k - a) = 34 :: quoteB (s.data.toList.take k))) (fun _ _ i => s.size - (intOf i).toNat)
  case atStart => exact ⟨_, 0, 0, Nat.le_refl _, Nat.zero_le _, by decide, rfl, rfl, rfl, rfl⟩
  case round =>
    obtain ⟨q, a, k, hak, hk, hq, rfl, rfl, rfl, hrel⟩ := hrel
    by_cases hlt : k < s.size
    · have htk := hide (take_snoc s k hlt)
      have hmk := hide (mid_snoc s a k hak hlt)
      have q1 := hide (u8_eq s[k] 10)
      have q2 := hide (u8_eq s[k] 34)
      have q3 := hide (u8_eq s[k] 92)
      have hx : (s.extract a k).size = k - a := by rw [ByteArray.size_extract]; omega
      have HX := hide hx
      clear hx
      cases h1 : (s[k] == 10)
      · have H1 := hide h1
        have t1 : ((s[k].toNat : Int) == 10) = false := q1.out.trans h1
        clear h1
        cases h2 : (s[k] == 34 || s[k] == 92)
        · have H2 := hide h2
          have t2 : ((s[k].toNat : Int) == 34) = false := by rw [Bool.or_eq_false_iff] at h2; exact q2.out.trans h2.1
          have t3 : ((s[k].toNat : Int) == 92) = false := by rw [Bool.or_eq_false_iff] at h2; exact q3.out.trans h2.2
          clear h2
          go_wp2
          go_round
          case rel =>
            refine ⟨q, a, k + 1, by omega, by omega, by omega, rfl, rfl, by go_num, ?_⟩
            show _ = _
            rw [hmk.out, htk.out, quoteB_snoc, H1.out, H2.out, ← List.append_assoc, hrel.out]
            rfl
          case measure => simp [intOf]; omega
        · have H2 := hide h2
          have hor : s[k] = 34 ∨ s[k] = 92 := by simpa using h2
          clear h2
          have fin : ∀ o : ByteArray, o = q ++ s.extract a k ++ ⟨#[92]⟩ → o.size + (k + 1 - k) ≤ 2 * (k + 1) + 1 ∧ Hid (o.data.toList ++ (s.data.toList.drop k).take (k + 1 - k) = 34 :: quoteB (s.data.toList.take (k + 1))) := by
            rintro o rfl
            refine ⟨by rw [ByteArray.size_append, ByteArray.size_append, HX.out, show (ByteArray.mk #[92]).size = 1 from rfl]; omega, ?_⟩
            show _ = _
            rw [app_list, app_list, ext_list, hrel.out, htk.out, quoteB_snoc, H1.out, H2.out, mid_snoc s k k (Nat.le_refl _) hlt]
            simp
          have FIN := hide fin
          clear fin
          by_cases h34 : s[k] = 34
          · have t2 : ((s[k].toNat : Int) == 34) = true := q2.out.trans (by rw [h34]; rfl)
            clear h34 hor
            go_wp2
            go_round
            case rel => exact ⟨_, k, k + 1, by omega, by omega, (FIN.out _ rfl).1, rfl, rfl, by go_num, (FIN.out _ rfl).2⟩
            case measure => simp [intOf]; omega
          · have h92 : s[k] = 92 := hor.resolve_left h34
            have t2 : ((s[k].toNat : Int) == 34) = false := q2.out.trans (by rw [h92]; rfl)
            have t3 : ((s[k].toNat : Int) == 92) = true := q3.out.trans (by rw [h92]; rfl)
            clear h34 h92 hor
            go_wp2
            go_round
            case rel => exact ⟨_, k, k + 1, by omega, by omega, (FIN.out _ rfl).1, rfl, rfl, by go_num, (FIN.out _ rfl).2⟩
            case measure => simp [intOf]; omega
      · have H1 := hide h1
        have t1 : ((s[k].toNat : Int) == 10) = true := q1.out.trans h1
        clear h1
        have fin : ∀ o : ByteArray, o = q ++ s.extract a k ++ ⟨#[92, 110]⟩ → o.size + (k + 1 - (k + 1)) ≤ 2 * (k + 1) + 1 ∧ Hid (o.data.toList ++ (s.data.toList.drop (k + 1)).take (k + 1 - (k + 1)) = 34 :: quoteB (s.data.toList.take (k + 1))) := by
          rintro o rfl
          refine ⟨by rw [ByteArray.size_append, ByteArray.size_append, HX.out, show (ByteArray.mk #[92, 110]).size = 2 from rfl]; omega, ?_⟩
          show _ = _
          rw [app_list, app_list, ext_list, hrel.out, htk.out, quoteB_snoc, H1.out]
          simp
        have FIN := hide fin
        clear fin
        go_wp2
        go_round
        case rel => exact ⟨_, k + 1, k + 1, by omega, by omega, (FIN.out _ rfl).1, rfl, by go_num, by go_num, (FIN.out _ rfl).2⟩
        case measure => simp [intOf]; omega
    · obtain rfl : s.size = k := by omega
      go_wp2
      go_ret
      refine ⟨ret_str ?_, rfl⟩
      rw [HR.out]
      refine str_of_list _ _ ?_
      have := hrel.out
      rw [List.take_of_length_le (l := s.data.toList) (by rw [size_list]; omega)] at this
      rw [app_list, app_list, ext_list, this]
      rfl
