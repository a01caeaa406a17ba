/-
  The reference lexer's small functions, walked: each returns what the plain function on lists of bytes says.
-/
import Derived.Test.YtoodmhlefaepaaaGreatRows
import Derived.Test.YtoodmhlefaepaaaGreatPlain
import Derived.WalkKit
import Derived.WalkSpells
import Derived.WalkLawsBesides
namespace Go.Proofs.YtoodmhlefaepaaaGreat
open Go.RowKit Go.Proofs.PlLex

theorem hide {p : Prop} (h : p) : Hid p := h
theorem ret_bool {a b : Bool} (h : a = b) : Ending.returned (.bool a) = .returned (.bool b) := by rw [h]
theorem ret_int {k : IntKind} {a b : Int} (h : a = b) : Ending.returned (.int k a) = .returned (.int k b) := by rw [h]
theorem ret_str {a b : ByteArray} (h : a = b) : Ending.returned (.string a) = .returned (.string b) := by rw [h]
theorem drop_cons (s : ByteArray) (k : Nat) (h : k < s.size) : s.data.toList.drop k = s[k] :: s.data.toList.drop (k + 1) := by
  rw [List.drop_eq_getElem_cons (by simpa using h)]; rfl
theorem drop_end (s : ByteArray) (k : Nat) (h : ¬ k < s.size) : s.data.toList.drop k = [] := by
  rw [List.drop_eq_nil_iff]; simp; exact Nat.le_of_not_lt h
theorem u8_eq (a b : UInt8) : ((a.toNat : Int) == (b.toNat : Int)) = (a == b) := by
  rw [Bool.eq_iff_iff, beq_iff_eq, beq_iff_eq, ← UInt8.toNat_inj]; omega
theorem u8_lt (a : UInt8) : (a.toNat : Int) < 256 := by have := a.toNat_lt; omega

/-- Does a list have a byte? Behind a name of its own. -/
def hasB (l : L) (c : UInt8) : Bool := l.contains c
theorem hasB_cons (x : UInt8) (l : L) (c : UInt8) : hasB (x :: l) c = (x == c || hasB l c) := by
  simp only [hasB, List.contains_cons]
  rw [show (c == x) = (x == c) from by rw [Bool.eq_iff_iff, beq_iff_eq, beq_iff_eq]; exact eq_comm]

theorem isDigit_int (c : UInt8) : decide (48 ≤ (c.toNat : Int) ∧ (c.toNat : Int) ≤ 57) = isDigit c := by
  rw [Bool.eq_iff_iff]; simp [isDigit, UInt8.le_iff_toNat_le]; omega
theorem isLetter_int (c : UInt8) : decide ((97 ≤ (c.toNat : Int) ∧ (c.toNat : Int) ≤ 122) ∨ (65 ≤ (c.toNat : Int) ∧ (c.toNat : Int) ≤ 90)) = isLetter c := by
  rw [Bool.eq_iff_iff]; simp [isLetter, UInt8.le_iff_toNat_le]; omega

set_option maxHeartbeats 400000 in
theorem digit_any (c : UInt8) (w : World) :
    Calls Tryz.prog 76 #[.int .u8 c.toNat] w fun e w' => e = .returned (.bool (isDigit c)) ∧ w = w' := by
  go_enter Tryz.func76, Tryz.ntmps76
  go_wp2
  all_goals go_ret
  all_goals exact ⟨ret_bool (by rw [← isDigit_int]; rw [Bool.eq_iff_iff]; simp; omega), rfl⟩

set_option maxHeartbeats 400000 in
theorem letter_any (c : UInt8) (w : World) :
    Calls Tryz.prog 74 #[.int .u8 c.toNat] w fun e w' => e = .returned (.bool (isLetter c)) ∧ w = w' := by
  go_enter Tryz.func74, Tryz.ntmps74
  go_wp2
  all_goals go_ret
  all_goals exact ⟨ret_bool (by rw [← isLetter_int]; rw [Bool.eq_iff_iff]; simp; omega), rfl⟩

set_option maxHeartbeats 400000 in
theorem word_any (c : UInt8) (w : World) :
    Calls Tryz.prog 75 #[.int .u8 c.toNat] w fun e w' => e = .returned (.bool (isWord c)) ∧ w = w' := by
  have h95 : ((c.toNat : Int) == 95) = (c == 95) := u8_eq c 95
  have e : isWord c = (isLetter c || isDigit c || c == 95) := rfl
  have E := hide e; clear e
  cases h1 : isLetter c <;> cases h2 : isDigit c
  all_goals
    have H1 := hide h1; have H2 := hide h2
    have c1 := letter_any c w; have c2 := digit_any c w
    rw [h1] at c1; rw [h2] at c2
    have C1 := hide c1; have C2 := hide c2
    have H9 := hide h95
    clear h1 h2 c1 c2
    go_enter Tryz.func75, Tryz.ntmps75
    go_wp2_with (first | (go_at_call 74; refine C1.out.mono ?_; rintro e w' ⟨rfl, rfl⟩) | (go_at_call 76; refine C2.out.mono ?_; rintro e w' ⟨rfl, rfl⟩))
    all_goals go_ret
    all_goals exact ⟨ret_bool (by rw [E.out, H1.out, H2.out]; simp), rfl⟩

set_option maxHeartbeats 400000 in
theorem has_any (s : ByteArray) (c : UInt8) (w : World) (hs : s.size ≤ maxLen) :
    Calls Tryz.prog 73 #[.string s, .int .u8 c.toNat] w fun e w' => e = .returned (.bool (hasB s.data.toList c)) ∧ w = w' := by
  unfold maxLen at hs
  go_enter Tryz.func73, Tryz.ntmps73
  go_wp2
  go_loop [5] (fun i => ∃ k : Nat, k ≤ s.size ∧ i = .int .i64 k ∧ Hid (hasB (s.data.toList.drop k) c = hasB s.data.toList c)) (fun i => s.size - (intOf i).toNat)
  case atStart => exact ⟨0, Nat.zero_le _, rfl, rfl⟩
  case round =>
    obtain ⟨k, hk, rfl, hrel⟩ := hrel
    by_cases hlt : k < s.size
    · have h1 := hide ((congrArg (hasB · c) (drop_cons s k hlt)).symm.trans hrel.out)
      have h2 := hide (u8_eq s[k] c)
      clear hrel
      go_wp2
      · have ht : ((s[k].toNat : Int) == (c.toNat : Int)) = true := by assumption
        go_ret
        refine ⟨ret_bool ?_, rfl⟩
        rw [← h1.out]
        show true = hasB (s[k] :: _) c
        rw [hasB_cons, ← h2.out, ht]; rfl
      · have ht : ((s[k].toNat : Int) == (c.toNat : Int)) = false := by assumption
        go_round
        case rel =>
          refine ⟨k + 1, by omega, by go_num, ?_⟩
          show hasB (List.drop (k + 1) s.data.toList) c = hasB s.data.toList c
          rw [← h1.out]
          show _ = hasB (s[k] :: _) c
          rw [hasB_cons, ← h2.out, ht]; rfl
        case measure => simp [intOf]; omega
    · go_wp2
      go_ret
      refine ⟨ret_bool ?_, rfl⟩
      rw [← hrel.out, drop_end s k hlt]; rfl

theorem blank_has (c : UInt8) : hasB [32, 9, 10] c = isBlank c := by
  simp only [hasB, isBlank, List.contains_cons, List.contains_nil, Bool.or_false, Bool.or_assoc]

theorem blank_any (c : UInt8) (b : Bool) (hb : isBlank c = b) (w : World) :
    Calls Tryz.prog 73 #[.string ⟨#[32, 9, 10]⟩, .int .u8 c.toNat] w fun e w' => e = .returned (.bool b) ∧ w = w' := by
  have := has_any ⟨#[32, 9, 10]⟩ c w (by decide)
  rw [show (ByteArray.mk #[32, 9, 10]).data.toList = [32, 9, 10] from rfl, blank_has, hb] at this
  exact this

theorem gapF_blank (c : UInt8) (l : L) (hb : isBlank c = true) : gapF false (c :: l) = gapF false l + 1 := by simp [gapF, hb]
theorem gapF_hash (c : UInt8) (l : L) (hb : isBlank c = false) (hc : (c == 35) = true) : gapF false (c :: l) = gapF true (c :: l) := by
  have : c = 35 := by simpa using hc
  subst this
  simp [gapF, hb]
theorem gapF_other (c : UInt8) (l : L) (hb : isBlank c = false) (hc : (c == 35) = false) : gapF false (c :: l) = 0 := by simp only [gapF, hb, hc]; rfl
theorem gapF_in (c : UInt8) (l : L) (hc : (c == 10) = false) : gapF true (c :: l) = gapF true l + 1 := by simp only [gapF, hc]; rfl
theorem gapF_out (c : UInt8) (l : L) (hc : (c == 10) = true) : gapF true (c :: l) = gapF false (c :: l) := by
  have : c = 10 := by simpa using hc
  subst this
  simp [gapF, isBlank]

set_option maxHeartbeats 1000000 in
theorem gap_any (s : ByteArray) (a : Nat) (w : World) (hs : s.size ≤ maxLen) (ha : a ≤ s.size) :
    Calls Tryz.prog 47 #[.string s, .int .i64 a] w fun e w' => e = .returned (.int .i64 (a + gapF false (s.data.toList.drop a) : Nat)) ∧ w = w' := by
  unfold maxLen at hs
  obtain ⟨T, hT⟩ : ∃ T, T = a + gapF false (s.data.toList.drop a) := ⟨_, rfl⟩
  rw [← hT]
  have HT := hide hT.symm
  clear hT
  go_enter Tryz.func47, Tryz.ntmps47
  go_wp2
  go_loop [1] (fun i => ∃ k : Nat, k ≤ s.size ∧ i = .int .i64 k ∧ Hid (k + gapF false (s.data.toList.drop k) = T)) (fun i => s.size - (intOf i).toNat)
  case atStart => exact ⟨a, ha, rfl, HT⟩
  case round =>
    clear HT
    obtain ⟨k, hk, rfl, hrel⟩ := hrel
    by_cases hlt : k < s.size
    · have hd := hide (drop_cons s k hlt)
      have hq := hide (u8_eq s[k] 35)
      cases hb : isBlank s[k]
      · have Hb := hide hb
        have c1 := hide (blank_any s[k] false hb w)
        clear hb
        cases hc : (s[k] == 35)
        · have Hc := hide hc
          have ht : ((s[k].toNat : Int) == 35) = false := hq.out.trans hc
          clear hc
          go_wp2_with (go_at_call 73; refine c1.out.mono ?_; rintro e w' ⟨rfl, rfl⟩)
          go_ret
          refine ⟨ret_int ?_, rfl⟩
          have := hrel.out
          rw [hd.out, gapF_other _ _ Hb.out Hc.out] at this
          omega
        · have Hc := hide hc
          have ht : ((s[k].toNat : Int) == 35) = true := hq.out.trans hc
          clear hc
          have hstart : Hid (k + gapF true (s.data.toList.drop k) = T) := by
            show _ = _
            have := hrel.out
            rw [hd.out, gapF_hash _ _ Hb.out Hc.out] at this
            rw [hd.out]
            exact this
          go_wp2_with (go_at_call 73; refine c1.out.mono ?_; rintro e w' ⟨rfl, rfl⟩)
          clear ht c1
          go_loop [1] (fun i => ∃ j : Nat, k ≤ j ∧ j ≤ s.size ∧ i = .int .i64 j ∧ Hid (j + gapF true (s.data.toList.drop j) = T)) (fun i => s.size - (intOf i).toNat)
          case atStart => exact ⟨k, by omega, by omega, rfl, hstart⟩
          case round =>
            obtain ⟨j, hkj, hj, rfl, hr2⟩ := hrel
            by_cases hlt2 : j < s.size
            · have hd2 := hide (drop_cons s j hlt2)
              have hq2 := hide (u8_eq s[j] 10)
              cases hn : (s[j] == 10)
              · have Hn := hide hn
                have ht : ((s[j].toNat : Int) != 10) = true := by show (!((s[j].toNat : Int) == ((10 : UInt8).toNat : Int))) = true; rw [hq2.out, hn]; rfl
                clear hn
                go_wp2
                go_round
                case rel =>
                  refine ⟨j + 1, by omega, by omega, by go_num, ?_⟩
                  show _ = _
                  have := hr2.out
                  rw [hd2.out, gapF_in _ _ Hn.out] at this
                  omega
                case measure => simp [intOf]; omega
              · have Hn := hide hn
                have ht : ((s[j].toNat : Int) != 10) = false := by show (!((s[j].toNat : Int) == ((10 : UInt8).toNat : Int))) = false; rw [hq2.out, hn]; rfl
                clear hn
                have hne : k < j := by
                  rcases Nat.lt_or_ge k j with h | h
                  · exact h
                  · exfalso
                    have e : k = j := by omega
                    subst e
                    have h1 := Hn.out
                    have h2 := Hc.out
                    rw [beq_iff_eq] at h1 h2
                    rw [h1] at h2
                    cases h2
                go_wp2
                go_round
                case rel =>
                  refine ⟨j, by omega, by go_num, ?_⟩
                  show _ = _
                  have := hr2.out
                  rw [hd2.out, gapF_out _ _ Hn.out] at this
                  rw [hd2.out]
                  exact this
                case measure => simp [intOf]; omega
            · go_wp2
              go_round
              case rel =>
                refine ⟨j, by omega, by go_num, ?_⟩
                show _ = _
                have := hr2.out
                rw [drop_end s j hlt2] at this ⊢
                exact this
              case measure => simp [intOf]; omega
      · have Hb := hide hb
        have c1 := hide (blank_any s[k] true hb w)
        clear hb
        go_wp2_with (go_at_call 73; refine c1.out.mono ?_; rintro e w' ⟨rfl, rfl⟩)
        go_round
        case rel =>
          refine ⟨k + 1, by omega, by go_num, ?_⟩
          show _ = _
          have := hrel.out
          rw [hd.out, gapF_blank _ _ Hb.out] at this
          omega
        case measure => simp [intOf]; omega
    · go_wp2
      go_ret
      refine ⟨ret_int ?_, rfl⟩
      have := hrel.out
      rw [drop_end s k hlt] at this
      simp only [gapF] at this
      omega
