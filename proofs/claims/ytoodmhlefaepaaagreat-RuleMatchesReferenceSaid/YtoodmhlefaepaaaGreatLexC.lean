/-
  The reference lexer's str and next, walked.
-/
import Derived.Test.YtoodmhlefaepaaaGreatLexB
namespace Go.Proofs.YtoodmhlefaepaaaGreat
open Go.RowKit Go.Proofs.PlLex

def strEnd (a : Nat) : Option (L × Nat) → Value
  | none => .tuple #[.string ⟨#[]⟩, .int .i64 0, .bool false]
  | some (t, n) => .tuple #[.string ⟨t.toArray⟩, .int .i64 ((a + 1 + n : Nat) : Int), .bool true]
def behind (q : L) (d : Nat) (r : Option (L × Nat)) : Option (L × Nat) := r.map fun x => (q ++ x.1, x.2 + d)
theorem esc_has (c : UInt8) : hasB [92, 34, 110] c = (c == 92 || c == 34 || c == 110) := by
  simp only [hasB, List.contains_cons, List.contains_nil, Bool.or_false, Bool.or_assoc]
theorem esc_any (c : UInt8) (b : Bool) (hb : (c == 92 || c == 34 || c == 110) = b) (w : World) :
    Calls Tryz.prog 73 #[.string ⟨#[92, 34, 110]⟩, .int .u8 c.toNat] w fun e w' => e = .returned (.bool b) ∧ w = w' := by
  have := has_any ⟨#[92, 34, 110]⟩ c w (by decide)
  rw [show (ByteArray.mk #[92, 34, 110]).data.toList = [92, 34, 110] from rfl, esc_has, hb] at this
  exact this
theorem strM_cons (c : UInt8) (l : L) : strM false (c :: l) = if c == 34 then some ([], 1) else if c == 10 then none else if c == 92 then (strM true l).map (fun r => (r.1, r.2 + 1)) else (strM false l).map (fun r => (c :: r.1, r.2 + 1)) := rfl
theorem strM_esc (d : UInt8) (l : L) : strM true (d :: l) = if d == 92 || d == 34 || d == 110 then (strM false l).map (fun r => ((if d == 110 then 10 else d) :: r.1, r.2 + 1)) else none := rfl
theorem ret_val {a b : Value} (h : a = b) : Ending.returned a = .returned b := by rw [h]

set_option maxHeartbeats 1000000 in
theorem rstr_any (s : ByteArray) (a : Nat) (w : World) (hs : s.size ≤ 1000000) (ha : a < s.size) :
    Calls Tryz.prog 77 #[.string s, .int .i64 a] w fun e w' => e = .returned (strEnd a (str (s.data.toList.drop (a + 1)))) ∧ w = w' := by
  obtain ⟨R, hR⟩ : ∃ R, R = str (s.data.toList.drop (a + 1)) := ⟨_, rfl⟩
  rw [← hR]
  have HR := hide hR
  clear hR
  go_enter Tryz.func77, Tryz.ntmps77
  go_wp2
  go_loop [7, 8] (fun o i => ∃ (q : ByteArray) (k : Nat), a + 1 ≤ k ∧ k ≤ s.size ∧ q.size ≤ k ∧ o = .string q ∧ i = .int .i64 k ∧
      Hid (R = behind q.data.toList (k - (a + 1)) (strM false (s.data.toList.drop k)))) (fun _ i => s.size - (intOf i).toNat)
  case atStart =>
    refine ⟨_, a + 1, by omega, by omega, Nat.zero_le _, rfl, by go_num, ?_⟩
    show _ = _
    rw [HR.out]
    unfold str behind
    cases strM false (s.data.toList.drop (a + 1)) <;> simp
  case round =>
    obtain ⟨q, k, hak, hk, hq, rfl, rfl, hrel⟩ := hrel
    clear HR
    by_cases hlt : k < s.size
    · have hd := hide (drop_cons s k hlt)
      have q1 := hide (u8_eq s[k] 34)
      have q2 := hide (u8_eq s[k] 10)
      have q3 := hide (u8_eq s[k] 92)
      cases h1 : (s[k] == 34)
      · have t1 : ((s[k].toNat : Int) == 34) = false := q1.out.trans h1
        have H1 := hide h1
        clear h1
        cases h2 : (s[k] == 10)
        · have t2 : ((s[k].toNat : Int) == 10) = false := q2.out.trans h2
          have H2 := hide h2
          clear h2
          cases h3 : (s[k] == 92)
          · have t3 : ((s[k].toNat : Int) != 92) = true := by show (!((s[k].toNat : Int) == ((92 : UInt8).toNat : Int))) = true; rw [q3.out, h3]; rfl
            have H3 := hide h3
            clear h3
            have hx : (s.extract k (k + 1)).size = 1 := by rw [ByteArray.size_extract]; omega
            have fin : (q ++ s.extract k (k + 1)).size ≤ k + 1 ∧ Hid (R = behind (q ++ s.extract k (k + 1)).data.toList (k + 1 - (a + 1)) (strM false (s.data.toList.drop (k + 1)))) := by
              refine ⟨by rw [ByteArray.size_append, hx]; omega, ?_⟩
              show _ = _
              rw [hrel.out, hd.out, strM_cons, H1.out, H2.out, H3.out, app_list, ext_list, mid_snoc s k k (Nat.le_refl _) hlt]
              unfold behind
              cases strM false (s.data.toList.drop (k + 1)) <;> simp
              omega
            have FIN := hide fin
            clear fin
            have HX := hide hx
            clear hx
            have hb : q.size + 1 ≤ 9223372036854775807 := by omega
            go_wp2
            go_round
            case rel => exact ⟨_, k + 1, by omega, by omega, FIN.out.1, rfl, by go_num, FIN.out.2⟩
            case measure => simp [intOf]; omega
          · have t3 : ((s[k].toNat : Int) != 92) = false := by show (!((s[k].toNat : Int) == ((92 : UInt8).toNat : Int))) = false; rw [q3.out, h3]; rfl
            have H3 := hide h3
            clear h3
            by_cases hlt2 : k + 1 < s.size
            · have hd2 := hide (drop_cons s (k + 1) hlt2)
              have q4 := hide (u8_eq s[k + 1] 110)
              cases h4 : (s[k + 1] == 92 || s[k + 1] == 34 || s[k + 1] == 110)
              · have c1 := hide (esc_any _ _ h4 w)
                have H4 := hide h4
                clear h4
                go_wp2_with (go_at_call 73; refine c1.out.mono ?_; rintro e w' ⟨rfl, rfl⟩)
                go_ret3
                refine ⟨ret_val ?_, rfl⟩
                rw [hrel.out, hd.out, strM_cons, H1.out, H2.out, H3.out, hd2.out, strM_esc, H4.out]
                rfl
              · have c1 := hide (esc_any _ _ h4 w)
                have H4 := hide h4
                clear h4
                cases h5 : (s[k + 1] == 110)
                · have t5 : ((s[k + 1].toNat : Int) == 110) = false := q4.out.trans h5
                  have H5 := hide h5
                  clear h5
                  have hx : (s.extract (k + 1) (k + 1 + 1)).size = 1 := by rw [ByteArray.size_extract]; omega
                  have fin : (q ++ s.extract (k + 1) (k + 1 + 1)).size ≤ k + 2 ∧ Hid (R = behind (q ++ s.extract (k + 1) (k + 1 + 1)).data.toList (k + 2 - (a + 1)) (strM false (s.data.toList.drop (k + 2)))) := by
                    refine ⟨by rw [ByteArray.size_append, hx]; omega, ?_⟩
                    show _ = _
                    rw [hrel.out, hd.out, strM_cons, H1.out, H2.out, H3.out, hd2.out, strM_esc, H4.out, H5.out, app_list, ext_list, mid_snoc s (k + 1) (k + 1) (Nat.le_refl _) hlt2]
                    unfold behind
                    cases strM false (s.data.toList.drop (k + 2)) <;> simp
                    omega
                  have FIN := hide fin
                  clear fin
                  clear hx
                  have hb : q.size + 1 ≤ 9223372036854775807 := by omega
                  go_wp2_with (go_at_call 73; refine c1.out.mono ?_; rintro e w' ⟨rfl, rfl⟩)
                  go_round
                  case rel => exact ⟨_, k + 2, by omega, by omega, FIN.out.1, rfl, by go_num, FIN.out.2⟩
                  case measure => simp [intOf]; omega
                · have t5 : ((s[k + 1].toNat : Int) == 110) = true := q4.out.trans h5
                  have H5 := hide h5
                  clear h5
                  have fin : (q ++ ⟨#[10]⟩).size ≤ k + 2 ∧ Hid (R = behind (q ++ ⟨#[10]⟩).data.toList (k + 2 - (a + 1)) (strM false (s.data.toList.drop (k + 2)))) := by
                    refine ⟨by rw [ByteArray.size_append, show (ByteArray.mk #[10]).size = 1 from rfl]; omega, ?_⟩
                    show _ = _
                    rw [hrel.out, hd.out, strM_cons, H1.out, H2.out, H3.out, hd2.out, strM_esc, H4.out, H5.out, app_list]
                    unfold behind
                    cases strM false (s.data.toList.drop (k + 2)) <;> simp
                    omega
                  have FIN := hide fin
                  clear fin
                  have hb : q.size + 1 ≤ 9223372036854775807 := by omega
                  go_wp2_with (go_at_call 73; refine c1.out.mono ?_; rintro e w' ⟨rfl, rfl⟩)
                  go_round
                  case rel => exact ⟨_, k + 2, by omega, by omega, FIN.out.1, rfl, by go_num, FIN.out.2⟩
                  case measure => simp [intOf]; omega
            · go_wp2_with fail
              go_ret3
              refine ⟨ret_val ?_, rfl⟩
              rw [hrel.out, hd.out, strM_cons, H1.out, H2.out, H3.out, drop_end s (k + 1) hlt2]
              rfl
        · have t2 : ((s[k].toNat : Int) == 10) = true := q2.out.trans h2
          have H2 := hide h2
          clear h2
          go_wp2_with fail
          go_ret3
          refine ⟨ret_val ?_, rfl⟩
          rw [hrel.out, hd.out, strM_cons, H1.out, H2.out]
          rfl
      · have t1 : ((s[k].toNat : Int) == 34) = true := q1.out.trans h1
        have H1 := hide h1
        clear h1
        go_wp2_with fail
        go_ret3
        refine ⟨ret_val ?_, rfl⟩
        rw [hrel.out, hd.out, strM_cons, H1.out]
        simp [behind, strEnd]
        omega
    · go_wp2_with fail
      go_ret3
      refine ⟨ret_val ?_, rfl⟩
      rw [hrel.out, drop_end s k hlt]
      rfl
