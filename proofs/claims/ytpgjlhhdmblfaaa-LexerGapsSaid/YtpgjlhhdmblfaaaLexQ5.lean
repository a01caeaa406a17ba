/-
  LexerBeginnings, walked: it returns true.
-/
import Derived.Test.YtpgjlhhdmblfaaaLexP
namespace Go.Proofs.Ytpgjlhhdmblfaaa
open Go.RowKit Go.Proofs.PlLex

theorem lex_ok (l : L) (h : l.length ≤ 5000) (hs : (scan 0 0 l).2 = none) : lex l = ((scan 0 0 l).1, 0, 0) := by
  rw [lex_small l h, hs]
theorem lex_bad (l : L) (h : l.length ≤ 5000) (e n : Nat) (hs : (scan 0 0 l).2 = some (e, n)) : lex l = ([], e, (n : Int)) := by
  rw [lex_small l h, hs]

set_option maxRecDepth 100000 in
set_option maxHeartbeats 4000000 in
theorem law5_walk (s : ByteArray) (_ : s.size ≤ maxLen) (w : World) : Calls Try.prog 7 #[.string s] w fun e w' => e = .returned (.bool true) ∧ Below w.heap.size w w' := by
  by_cases h1 : s.size ≤ 3000
  · cases hx : (scan 0 0 s.data.toList).2 with
    | none =>
      have HL := hide (lexS s _ 0 0 (lex_ok _ (by rw [size_list]; omega) hx) (by omega))
      clear hx
      go_enter Try.func7, Try.ntmps7
      go_wp2_with fail
      refine (head_any _).mono ?_
      rintro _ w1 ⟨rfl, b1⟩
      go_wp2_with fail
      refine (HL.out _).mono ?_
      rintro _ w2 ⟨A2, c2, rfl, t2, b2⟩
      clear t2
      go_wp2_with fail
      go_ret
      exact ⟨rfl, bto b1 b2⟩
    | some x =>
      obtain ⟨er, n⟩ := x
      have hl := lex_bad _ (by rw [size_list]; omega) _ _ hx
      obtain ⟨he, _, hn⟩ := scan_error 0 _ _ _ hx
      rw [Nat.zero_add, size_list] at hn
      obtain ⟨hb1, hb2⟩ := scan_beginning 0 _ _ _ hx
      rw [Nat.sub_zero] at hb1 hb2
      have hl1 : lex (s.extract 0 n).data.toList = ((scan 0 0 (s.data.toList.take n)).1, 0, 0) := by
        rw [ext_list, List.drop_zero, Nat.sub_zero]
        exact lex_ok _ (by rw [List.length_take, size_list]; omega) hb1
      have hl2 : lex (s.extract n s.size).data.toList = ([], er, ((0 : Nat) : Int)) := by
        rw [ext_list, List.take_of_length_le (by rw [List.length_drop, size_list]; omega)]
        exact lex_bad _ (by rw [List.length_drop, size_list]; omega) er 0 (hb2 0)
      have HL := hide (lexS s _ _ _ hl (by omega))
      have HB := hide (lexS _ _ _ _ hl1 (by simp; omega))
      have HE := hide (lexS _ _ _ _ hl2 (by simp; omega))
      have e0 : ((er : Int) != 0) = true := by rw [bne_iff_ne]; omega
      have e1 : ((er : Int) == 0) = false := by rw [beq_eq_false_iff_ne]; omega
      have e2 : ((er : Int) == er) = true := by simp
      have i0 : (0 : Int) ≤ n := by omega
      have i1 : (n : Int) < s.size := by omega
      have i2 : (n : Int) ≤ s.size := by omega
      clear hx hl hl1 hl2 hb1 hb2 he
      go_enter Try.func7, Try.ntmps7
      go_wp2_with fail
      refine (head_any _).mono ?_
      rintro _ w1 ⟨rfl, b1⟩
      go_wp2_with fail
      refine (HL.out _).mono ?_
      rintro _ w2 ⟨A2, c2, rfl, t2, b2⟩
      clear t2
      go_wp2_with fail
      refine (HB.out _).mono ?_
      rintro _ w3 ⟨A3, c3, rfl, t3, b3⟩
      clear t3
      go_wp2_with fail
      refine (HE.out _).mono ?_
      rintro _ w4 ⟨A4, c4, rfl, t4, b4⟩
      clear t4
      go_wp2_with fail
      go_ret
      exact ⟨rfl, bto (bto (bto b1 b2) b3) b4⟩
  · go_enter Try.func7, Try.ntmps7
    go_wp2_with fail
    refine (head_any _).mono ?_
    rintro _ w1 ⟨rfl, b1⟩
    go_wp2_with fail
    go_ret
    exact ⟨rfl, b1⟩
