/-
  The reference lexer's next, walked.
-/
import Derived.Test.YtoodmhlefaepaaaGreatLexC
namespace Go.Proofs.YtoodmhlefaepaaaGreat
open Go.RowKit Go.Proofs.PlLex

def nextEnd (a : Nat) : Except Nat (Nat × L × Nat) → Value
  | .error e => .tuple #[.agg #[.int .i64 0, .string ⟨#[]⟩, .int .i64 0], .int .i64 0, .int .i64 (e : Int)]
  | .ok (k, t, n) => .tuple #[.agg #[.int .i64 (k : Int), .string ⟨t.toArray⟩, .int .i64 (a : Int)], .int .i64 ((a + n : Nat) : Int), .int .i64 0]
def twl (p : UInt8 → Bool) (l : L) : Nat := (l.takeWhile p).length
theorem twl_yes (p : UInt8 → Bool) (c : UInt8) (l : L) (h : p c = true) : twl p (c :: l) = twl p l + 1 := by simp [twl, h]
theorem twl_no (p : UInt8 → Bool) (c : UInt8) (l : L) (h : p c = false) : twl p (c :: l) = 0 := by simp [twl, h]
theorem twl_le (p : UInt8 → Bool) (l : L) : twl p l ≤ l.length := (List.takeWhile_sublist p).length_le
theorem take_twl (p : UInt8 → Bool) (l : L) : l.take (twl p l) = l.takeWhile p := by
  induction l with
  | nil => rfl
  | cons c l ih =>
    cases h : p c
    · simp [twl, h]
    · rw [twl_yes p c l h]; simp [h, ih]
theorem drop_twl (p : UInt8 → Bool) (l : L) : l.drop (twl p l) = l.dropWhile p := by
  induction l with
  | nil => rfl
  | cons c l ih =>
    cases h : p c
    · simp [twl, h]
    · rw [twl_yes p c l h]; simp [h, ih]
theorem word_text (s : ByteArray) (a n : Nat) (ha : a < s.size) (p : UInt8 → Bool) (hn : n = twl p (s.data.toList.drop (a + 1))) : s.extract a (a + 1 + n) = ⟨(s[a] :: (s.data.toList.drop (a + 1)).takeWhile p).toArray⟩ := by
  refine str_of_list _ _ ?_
  rw [ext_list, drop_cons s a ha, show a + 1 + n - a = n + 1 by omega, List.take_succ_cons, hn, take_twl]
theorem next_letter (c : UInt8) (l : L) (h : isLetter c = true) : nextT c l = if 24 < twl isWord l + 1 then .error 2 else .ok (1, c :: l.takeWhile isWord, twl isWord l + 1) := by
  simp only [nextT, h, if_true, twl, List.length_cons]; rfl
theorem next_digit (c : UInt8) (l : L) (h0 : isLetter c = false) (h : isDigit c = true) : nextT c l = if 7 < twl isDigit l + 1 || headWord (l.dropWhile isDigit) then .error 4 else .ok (2, c :: l.takeWhile isDigit, twl isDigit l + 1) := by
  simp only [nextT, h0, h, if_true, twl, List.length_cons]; rfl

set_option maxHeartbeats 1000000 in
theorem rnext_letter (s : ByteArray) (a : Nat) (w : World) (hs : s.size ≤ 1000000) (ha : a < s.size) (hl : isLetter s[a] = true) :
    Calls Tryz.prog 48 #[.string s, .int .i64 a] w fun e w' => e = .returned (nextEnd a (nextT s[a] (s.data.toList.drop (a + 1)))) ∧ Below w.heap.size w w' := by
  obtain ⟨R, hR⟩ : ∃ R, R = nextEnd a (nextT s[a] (s.data.toList.drop (a + 1))) := ⟨_, rfl⟩
  rw [← hR]
  rw [next_letter _ _ hl] at hR
  have HR := hide hR
  clear hR
  have c1 : ∀ w, Calls Tryz.prog 74 #[.int .u8 s[a].toNat] w fun e w' => e = .returned (.bool true) ∧ w = w' := fun w => by
    have := letter_any s[a] w
    rwa [hl] at this
  have C1 := hide c1
  clear c1 hl
  obtain ⟨N, hN⟩ : ∃ N, N = twl isWord (s.data.toList.drop (a + 1)) := ⟨_, rfl⟩
  rw [← hN] at HR
  have hNle : a + 1 + N ≤ s.size := by
    have := twl_le isWord (s.data.toList.drop (a + 1))
    rw [← hN, List.length_drop, size_list] at this
    omega
  have htx := hide (word_text s a N ha isWord hN)
  have HN := hide hN
  clear hN
  go_enter Tryz.func48, Tryz.ntmps48
  go_wp2_with (go_at_call 74; refine (C1.out _).mono ?_; rintro e w' ⟨rfl, rfl⟩)
  go_loop [7] (fun i => ∃ j : Nat, a + 1 ≤ j ∧ j ≤ s.size ∧ i = .int .i64 j ∧ Hid (j + twl isWord (s.data.toList.drop j) = a + 1 + N)) (fun i => s.size - (intOf i).toNat)
  case atStart => exact ⟨a + 1, by omega, by omega, by go_num, by show _ = _; rw [HN.out]⟩
  case round =>
    obtain ⟨j, haj, hj, rfl, hrel⟩ := hrel
    have stop : j = a + 1 + N → True := fun _ => trivial
    clear stop
    by_cases hlt : j < s.size
    · have hd := hide (drop_cons s j hlt)
      cases hw : isWord s[j]
      · have c2 : ∀ w, Calls Tryz.prog 75 #[.int .u8 s[j].toNat] w fun e w' => e = .returned (.bool false) ∧ w = w' := fun w => by
          have := word_any s[j] w
          rwa [hw] at this
        have C2 := hide c2
        clear c2
        obtain rfl : j = a + 1 + N := by
          have := hrel.out
          rw [hd.out, twl_no _ _ _ hw] at this
          omega
        clear hw hrel hd
        by_cases h24 : 24 < N + 1
        · go_wp2_with (go_at_call 75; refine (C2.out _).mono ?_; rintro e w' ⟨rfl, rfl⟩)
          refine bodyPost_ret (v := R) (by rw [HR.out, if_pos h24]; simp [results, Tryz.results48, go_sem, nextEnd]) rfl ⟨rfl, ?_⟩
          exact ((Below.refl _ _).alloc (Nat.le_refl _) _)
        · go_wp2_with (go_at_call 75; refine (C2.out _).mono ?_; rintro e w' ⟨rfl, rfl⟩)
          refine bodyPost_ret (v := R) (by rw [HR.out, if_neg h24]; simp [results, Tryz.results48, go_sem, nextEnd, htx.out]; omega) rfl ⟨rfl, ?_⟩
          exact ((Below.refl _ _).alloc (Nat.le_refl _) _)
      · have c2 : ∀ w, Calls Tryz.prog 75 #[.int .u8 s[j].toNat] w fun e w' => e = .returned (.bool true) ∧ w = w' := fun w => by
          have := word_any s[j] w
          rwa [hw] at this
        have C2 := hide c2
        clear c2
        have hn := hide (show j + 1 + twl isWord (s.data.toList.drop (j + 1)) = a + 1 + N from by
          have := hrel.out
          rw [hd.out, twl_yes _ _ _ hw] at this
          omega)
        clear hw hrel hd
        go_wp2_with (go_at_call 75; refine (C2.out _).mono ?_; rintro e w' ⟨rfl, rfl⟩)
        go_round
        case rel => exact ⟨j + 1, by omega, by omega, by go_num, hn⟩
        case measure => simp [intOf]; omega
    · obtain rfl : j = a + 1 + N := by
        have := hrel.out
        rw [drop_end s j hlt] at this
        exact this
      clear hrel
      by_cases h24 : 24 < N + 1
      · go_wp2_with fail
        refine bodyPost_ret (v := R) (by rw [HR.out, if_pos h24]; simp [results, Tryz.results48, go_sem, nextEnd]) rfl ⟨rfl, ?_⟩
        exact ((Below.refl _ _).alloc (Nat.le_refl _) _)
      · go_wp2_with fail
        refine bodyPost_ret (v := R) (by rw [HR.out, if_neg h24]; simp [results, Tryz.results48, go_sem, nextEnd, htx.out]; omega) rfl ⟨rfl, ?_⟩
        exact ((Below.refl _ _).alloc (Nat.le_refl _) _)

theorem headWord_cons (c : UInt8) (l : L) : headWord (c :: l) = isWord c := rfl

set_option maxHeartbeats 2000000 in
theorem rnext_digit (s : ByteArray) (a : Nat) (w : World) (hs : s.size ≤ 1000000) (ha : a < s.size) (hl0 : isLetter s[a] = false) (hl : isDigit s[a] = true) :
    Calls Tryz.prog 48 #[.string s, .int .i64 a] w fun e w' => e = .returned (nextEnd a (nextT s[a] (s.data.toList.drop (a + 1)))) ∧ Below w.heap.size w w' := by
  obtain ⟨R, hR⟩ : ∃ R, R = nextEnd a (nextT s[a] (s.data.toList.drop (a + 1))) := ⟨_, rfl⟩
  rw [← hR]
  rw [next_digit _ _ hl0 hl] at hR
  have c0 : ∀ w, Calls Tryz.prog 74 #[.int .u8 s[a].toNat] w fun e w' => e = .returned (.bool false) ∧ w = w' := fun w => by
    have := letter_any s[a] w
    rwa [hl0] at this
  have C0 := hide c0
  have c1 : ∀ w, Calls Tryz.prog 76 #[.int .u8 s[a].toNat] w fun e w' => e = .returned (.bool true) ∧ w = w' := fun w => by
    have := digit_any s[a] w
    rwa [hl] at this
  have C1 := hide c1
  clear c0 c1 hl hl0
  obtain ⟨N, hN⟩ : ∃ N, N = twl isDigit (s.data.toList.drop (a + 1)) := ⟨_, rfl⟩
  have hdw : (s.data.toList.drop (a + 1)).dropWhile isDigit = s.data.toList.drop (a + 1 + N) := by
    rw [← drop_twl, ← hN, List.drop_drop]
  rw [← hN, hdw] at hR
  clear hdw
  have HR := hide hR
  clear hR
  have hNle : a + 1 + N ≤ s.size := by
    have := twl_le isDigit (s.data.toList.drop (a + 1))
    rw [← hN, List.length_drop, size_list] at this
    omega
  have htx := hide (word_text s a N ha isDigit hN)
  have HN := hide hN
  clear hN
  have hend : ¬ 7 < N + 1 → headWord (s.data.toList.drop (a + 1 + N)) = false → R = .tuple #[.agg #[.int .i64 2, .string (s.extract a (a + 1 + N)), .int .i64 (a : Int)], .int .i64 (a + 1 + N : Int), .int .i64 0] := by
    intro h1 h2
    rw [HR.out, htx.out, h2]
    have : ¬ (decide (7 < N + 1) || false) = true := by simp; omega
    rw [if_neg this]
    simp only [nextEnd]
    rw [show ((a + (N + 1) : Nat) : Int) = (a : Int) + 1 + N from by omega]
    rfl
  have HE := hide hend
  clear hend
  have herr : 7 < N + 1 ∨ headWord (s.data.toList.drop (a + 1 + N)) = true → R = .tuple #[.agg #[.int .i64 0, .string ⟨#[]⟩, .int .i64 0], .int .i64 0, .int .i64 4] := by
    intro h1
    rw [HR.out]
    have : (decide (7 < N + 1) || headWord (s.data.toList.drop (a + 1 + N))) = true := by simpa using h1
    rw [if_pos this]
    rfl
  have HF := hide herr
  clear herr
  go_enter Tryz.func48, Tryz.ntmps48
  go_wp2_with (first | (go_at_call 74; refine (C0.out _).mono ?_; rintro e w' ⟨rfl, rfl⟩) | (go_at_call 76; refine (C1.out _).mono ?_; rintro e w' ⟨rfl, rfl⟩))
  go_loop [7] (fun i => ∃ j : Nat, a + 1 ≤ j ∧ j ≤ s.size ∧ i = .int .i64 j ∧ Hid (j + twl isDigit (s.data.toList.drop j) = a + 1 + N)) (fun i => s.size - (intOf i).toNat)
  case atStart => exact ⟨a + 1, by omega, by omega, by go_num, by show _ = _; rw [HN.out]⟩
  case round =>
    obtain ⟨j, haj, hj, rfl, hrel⟩ := hrel
    by_cases hlt : j < s.size
    · have hd := hide (drop_cons s j hlt)
      cases hw : isDigit s[j]
      · have c2 : ∀ w, Calls Tryz.prog 76 #[.int .u8 s[j].toNat] w fun e w' => e = .returned (.bool false) ∧ w = w' := fun w => by
          have := digit_any s[j] w
          rwa [hw] at this
        have C2 := hide c2
        clear c2
        obtain rfl : j = a + 1 + N := by
          have := hrel.out
          rw [hd.out, twl_no _ _ _ hw] at this
          omega
        clear hw hrel
        by_cases h7 : 7 < N + 1
        · have HR := hide (HF.out (.inl h7))
          clear HF HE
          go_wp2_with (go_at_call 76; refine (C2.out _).mono ?_; rintro e w' ⟨rfl, rfl⟩)
          refine bodyPost_ret (v := R) (by rw [HR.out]; simp [results, Tryz.results48, go_sem]) rfl ⟨rfl, ?_⟩
          exact ((Below.refl _ _).alloc (Nat.le_refl _) _)
        · cases hw : isWord s[a + 1 + N]
          · have HR := hide (HE.out h7 (by rw [hd.out, headWord_cons, hw]))
            clear HF HE
            have c3 : ∀ w, Calls Tryz.prog 75 #[.int .u8 s[a + 1 + N].toNat] w fun e w' => e = .returned (.bool false) ∧ w = w' := fun w => by
              have := word_any s[a + 1 + N] w
              rwa [hw] at this
            have C3 := hide c3
            clear c3 hw
            go_wp2_with (first | (go_at_call 76; refine (C2.out _).mono ?_; rintro e w' ⟨rfl, rfl⟩) | (go_at_call 75; refine (C3.out _).mono ?_; rintro e w' ⟨rfl, rfl⟩))
            refine bodyPost_ret (v := R) (by rw [HR.out]; simp [results, Tryz.results48, go_sem]) rfl ⟨rfl, ?_⟩
            exact ((Below.refl _ _).alloc (Nat.le_refl _) _)
          · have HR := hide (HF.out (.inr (by rw [hd.out, headWord_cons, hw])))
            clear HF HE
            have c3 : ∀ w, Calls Tryz.prog 75 #[.int .u8 s[a + 1 + N].toNat] w fun e w' => e = .returned (.bool true) ∧ w = w' := fun w => by
              have := word_any s[a + 1 + N] w
              rwa [hw] at this
            have C3 := hide c3
            clear c3 hw
            go_wp2_with (first | (go_at_call 76; refine (C2.out _).mono ?_; rintro e w' ⟨rfl, rfl⟩) | (go_at_call 75; refine (C3.out _).mono ?_; rintro e w' ⟨rfl, rfl⟩))
            refine bodyPost_ret (v := R) (by rw [HR.out]; simp [results, Tryz.results48, go_sem]) rfl ⟨rfl, ?_⟩
            exact ((Below.refl _ _).alloc (Nat.le_refl _) _)
      · have c2 : ∀ w, Calls Tryz.prog 76 #[.int .u8 s[j].toNat] w fun e w' => e = .returned (.bool true) ∧ w = w' := fun w => by
          have := digit_any s[j] w
          rwa [hw] at this
        have C2 := hide c2
        clear c2
        have hn := hide (show j + 1 + twl isDigit (s.data.toList.drop (j + 1)) = a + 1 + N from by
          have := hrel.out
          rw [hd.out, twl_yes _ _ _ hw] at this
          omega)
        clear hw hrel hd
        go_wp2_with (go_at_call 76; refine (C2.out _).mono ?_; rintro e w' ⟨rfl, rfl⟩)
        go_round
        case rel => exact ⟨j + 1, by omega, by omega, by go_num, hn⟩
        case measure => simp [intOf]; omega
    · obtain rfl : j = a + 1 + N := by
        have := hrel.out
        rw [drop_end s j hlt] at this
        exact this
      clear hrel
      by_cases h7 : 7 < N + 1
      · have HR := hide (HF.out (.inl h7))
        clear HF HE
        go_wp2_with fail
        refine bodyPost_ret (v := R) (by rw [HR.out]; simp [results, Tryz.results48, go_sem]) rfl ⟨rfl, ?_⟩
        exact ((Below.refl _ _).alloc (Nat.le_refl _) _)
      · have HR := hide (HE.out h7 (by rw [drop_end s _ hlt]; rfl))
        clear HF HE
        go_wp2_with fail
        refine bodyPost_ret (v := R) (by rw [HR.out]; simp [results, Tryz.results48, go_sem]) rfl ⟨rfl, ?_⟩
        exact ((Below.refl _ _).alloc (Nat.le_refl _) _)

theorem sym_has (c : UInt8) : hasB [59, 44, 46, 58, 40, 41, 123, 125, 91, 93, 61, 60, 62, 47, 45] c = isSym c := rfl
theorem sym_any (c : UInt8) (b : Bool) (hb : isSym c = b) (w : World) :
    Calls Tryz.prog 73 #[.string ⟨#[59, 44, 46, 58, 40, 41, 123, 125, 91, 93, 61, 60, 62, 47, 45]⟩, .int .u8 c.toNat] w fun e w' => e = .returned (.bool b) ∧ w = w' := by
  have := has_any ⟨#[59, 44, 46, 58, 40, 41, 123, 125, 91, 93, 61, 60, 62, 47, 45]⟩ c w (by decide)
  rw [show (ByteArray.mk #[59, 44, 46, 58, 40, 41, 123, 125, 91, 93, 61, 60, 62, 47, 45]).data.toList = [59, 44, 46, 58, 40, 41, 123, 125, 91, 93, 61, 60, 62, 47, 45] from rfl, sym_has, hb] at this
  exact this
theorem letter_is (c : UInt8) (b : Bool) (hl : isLetter c = b) (w : World) : Calls Tryz.prog 74 #[.int .u8 c.toNat] w fun e w' => e = .returned (.bool b) ∧ w = w' := by
  have := letter_any c w
  rwa [hl] at this
theorem digit_is (c : UInt8) (b : Bool) (hl : isDigit c = b) (w : World) : Calls Tryz.prog 76 #[.int .u8 c.toNat] w fun e w' => e = .returned (.bool b) ∧ w = w' := by
  have := digit_any c w
  rwa [hl] at this
theorem next_rest (c : UInt8) (l : L) (h0 : isLetter c = false) (h1 : isDigit c = false) : nextT c l = if c == 34 then (match str l with | none => .error 3 | some (s, n) => .ok (3, s, n + 1)) else if isSym c then .ok (4, [c], 1) else .error 3 := by
  simp only [nextT, h0, h1]; rfl

set_option maxHeartbeats 1000000 in
theorem rnext_rest (s : ByteArray) (a : Nat) (w : World) (hs : s.size ≤ 1000000) (ha : a < s.size) (hl0 : isLetter s[a] = false) (hl1 : isDigit s[a] = false) :
    Calls Tryz.prog 48 #[.string s, .int .i64 a] w fun e w' => e = .returned (nextEnd a (nextT s[a] (s.data.toList.drop (a + 1)))) ∧ Below w.heap.size w w' := by
  obtain ⟨R, hR⟩ : ∃ R, R = nextEnd a (nextT s[a] (s.data.toList.drop (a + 1))) := ⟨_, rfl⟩
  rw [← hR]
  rw [next_rest _ _ hl0 hl1] at hR
  have HR := hide hR
  clear hR
  have C0 := hide (letter_is _ _ hl0)
  have C1 := hide (digit_is _ _ hl1)
  clear hl1 hl0
  have q1 := hide (u8_eq s[a] 34)
  cases h1 : (s[a] == 34)
  · have t1 : ((s[a].toNat : Int) == 34) = false := q1.out.trans h1
    have H1 := hide h1
    clear h1
    cases h2 : isSym s[a]
    · have C2 := hide (sym_any _ _ h2)
      have H2 := hide h2
      clear h2
      go_enter Tryz.func48, Tryz.ntmps48
      go_wp2_with (first | (go_at_call 74; refine (C0.out _).mono ?_; rintro e w' ⟨rfl, rfl⟩) | (go_at_call 76; refine (C1.out _).mono ?_; rintro e w' ⟨rfl, rfl⟩) | (go_at_call 73; refine (C2.out _).mono ?_; rintro e w' ⟨rfl, rfl⟩))
      refine bodyPost_ret (v := R) (by rw [HR.out, H1.out, H2.out]; simp [results, Tryz.results48, go_sem, nextEnd]) rfl ⟨rfl, ?_⟩
      exact ((Below.refl _ _).alloc (Nat.le_refl _) _)
    · have C2 := hide (sym_any _ _ h2)
      have H2 := hide h2
      clear h2
      have hx : s.extract a (a + 1) = ⟨#[s[a]]⟩ := by
        refine str_of_list _ _ ?_
        rw [ext_list, drop_cons s a ha, show a + 1 - a = 1 by omega]
        rfl
      have HX := hide hx
      clear hx
      go_enter Tryz.func48, Tryz.ntmps48
      go_wp2_with (first | (go_at_call 74; refine (C0.out _).mono ?_; rintro e w' ⟨rfl, rfl⟩) | (go_at_call 76; refine (C1.out _).mono ?_; rintro e w' ⟨rfl, rfl⟩) | (go_at_call 73; refine (C2.out _).mono ?_; rintro e w' ⟨rfl, rfl⟩))
      refine bodyPost_ret (v := R) (by rw [HR.out, H1.out, H2.out]; simp [results, Tryz.results48, go_sem, nextEnd, HX.out]) rfl ⟨rfl, ?_⟩
      exact ((Below.refl _ _).alloc (Nat.le_refl _) _)
  · have t1 : ((s[a].toNat : Int) == 34) = true := q1.out.trans h1
    have H1 := hide h1
    clear h1
    have c2 := fun w => rstr_any s a w hs ha
    cases hstr : str (s.data.toList.drop (a + 1)) with
    | none =>
      have HS := hide hstr
      rw [hstr] at c2
      have C2 := hide c2
      clear c2 hstr
      go_enter Tryz.func48, Tryz.ntmps48
      go_wp2_with (first | (go_at_call 74; refine (C0.out _).mono ?_; rintro e w' ⟨rfl, rfl⟩) | (go_at_call 76; refine (C1.out _).mono ?_; rintro e w' ⟨rfl, rfl⟩) | (go_at_call 77; refine (C2.out _).mono ?_; rintro e w' ⟨rfl, rfl⟩; simp only [strEnd]))
      refine bodyPost_ret (v := R) (by rw [HR.out, H1.out, HS.out]; simp [results, Tryz.results48, go_sem, nextEnd]) rfl ⟨rfl, ?_⟩
      exact ((Below.refl _ _).alloc (Nat.le_refl _) _)
    | some x =>
      obtain ⟨t, n⟩ := x
      have HS := hide hstr
      rw [hstr] at c2
      have C2 := hide c2
      clear c2 hstr
      go_enter Tryz.func48, Tryz.ntmps48
      go_wp2_with (first | (go_at_call 74; refine (C0.out _).mono ?_; rintro e w' ⟨rfl, rfl⟩) | (go_at_call 76; refine (C1.out _).mono ?_; rintro e w' ⟨rfl, rfl⟩) | (go_at_call 77; refine (C2.out _).mono ?_; rintro e w' ⟨rfl, rfl⟩; simp only [strEnd]))
      refine bodyPost_ret (v := R) (by rw [HR.out, H1.out, HS.out]; simp [results, Tryz.results48, go_sem, nextEnd]; omega) rfl ⟨rfl, ?_⟩
      exact ((Below.refl _ _).alloc (Nat.le_refl _) _)

theorem rnext_any (s : ByteArray) (a : Nat) (w : World) (hs : s.size ≤ 1000000) (ha : a < s.size) :
    Calls Tryz.prog 48 #[.string s, .int .i64 a] w fun e w' => e = .returned (nextEnd a (nextT s[a] (s.data.toList.drop (a + 1)))) ∧ Below w.heap.size w w' := by
  cases hl : isLetter s[a]
  · cases hd : isDigit s[a]
    · exact rnext_rest s a w hs ha hl hd
    · exact rnext_digit s a w hs ha hl hd
  · exact rnext_letter s a w hs ha hl
