/-
  LexerAgain, walked: it returns true.
-/
import Derived.Test.YtpgjlhhdmblfaaaLexQ5
namespace Go.Proofs.Ytpgjlhhdmblfaaa
open Go.RowKit Go.Proofs.PlLex

theorem alike_strip (a b : List Tok) (h : strip a = strip b) : alikeL a b = true := by
  induction a generalizing b with
  | nil => cases b with
    | nil => rfl
    | cons u b => cases h
  | cons t a ih => cases b with
    | nil => cases h
    | cons u b =>
      simp only [strip, List.map_cons, List.cons.injEq, Prod.mk.injEq] at h
      simp only [alikeL, alikeTok, h.1.1, h.1.2, ih b h.2, beq_self_eq_true, Bool.and_true]

set_option maxRecDepth 100000 in
set_option maxHeartbeats 4000000 in
theorem law3_walk (s : ByteArray) (_ : s.size ≤ maxLen) (w : World) : Calls Try.prog 5 #[.string s] w fun e w' => e = .returned (.bool true) ∧ Below w.heap.size w w' := by
  by_cases h1 : s.size ≤ 2000
  · cases hx : (scan 0 0 s.data.toList).2 with
    | some x =>
      obtain ⟨er, n⟩ := x
      have hl := lex_bad _ (by rw [size_list]; omega) _ _ hx
      have he := (scan_error 0 _ _ _ hx).1
      have HL := hide (lexS s _ _ _ hl (by omega))
      have e0 : ((er : Int) != 0) = true := by rw [bne_iff_ne]; omega
      clear hx hl he
      go_enter Try.func5, Try.ntmps5
      go_wp2_with fail
      refine (head_any _).mono ?_
      rintro _ w1 ⟨rfl, b1⟩
      go_wp2_with fail
      refine (HL.out _).mono ?_
      rintro _ w2 ⟨A2, c2, rfl, t2, b2⟩
      clear t2
      go_wp2_with fail
      go_ret
      exact ⟨rfl, bto b1 b2⟩
    | none =>
      have hl := lex_ok _ (by rw [size_list]; omega) hx
      have hsz := scan_sizes 0 s.data.toList
      obtain ⟨ts, hts⟩ : ∃ ts, (scan 0 0 s.data.toList).1 = ts := ⟨_, rfl⟩
      rw [hts] at hl hsz
      rw [size_list] at hsz
      obtain ⟨hz1, hz2, hz3⟩ := hsz
      obtain ⟨hw1, hw2⟩ := scan_written 0 ts hz3
      have hwl := writtenAll_len ts
      have hj := lex_ok (writtenAll ts) (by omega) hw2
      have hal := alike_strip _ _ hw1.symm
      obtain ⟨us, hus⟩ : ∃ us, (scan 0 0 (writtenAll ts)).1 = us := ⟨_, rfl⟩
      rw [hus] at hj hal
      have HL := hide (lexS s _ _ _ hl (by omega))
      have HJ := hide (lexS ⟨(writtenAll ts).toArray⟩ us 0 0 hj (by show (writtenAll ts).toArray.size ≤ 1000000; simp; omega))
      have HW := hide (fun v w h => writtenAll_any v ts w h (by omega))
      have HA := hide hal
      clear hx hl hts hz1 hz2 hz3 hw1 hw2 hwl hj hal hus
      go_enter Try.func5, Try.ntmps5
      go_wp2_with fail
      refine (head_any _).mono ?_
      rintro _ w1 ⟨rfl, b1⟩
      go_wp2_with fail
      refine (HL.out _).mono ?_
      rintro _ w2 ⟨A2, c2, rfl, t2, b2⟩
      have T2 := hide t2
      clear t2
      go_wp2_with fail
      refine (HW.out _ _ T2.out).mono ?_
      rintro _ w3 ⟨rfl, b3⟩
      go_wp2_with fail
      refine (HJ.out _).mono ?_
      rintro _ w4 ⟨A4, c4, rfl, t4, b4⟩
      have T4 := hide t4
      clear t4
      go_wp2_with fail
      refine (alike_any _ _ _ _ _ ((T2.out.below b3).below b4) T4.out).mono ?_
      rintro _ w5 ⟨rfl, b5⟩
      rw [HA.out]
      go_wp2_with fail
      go_ret
      exact ⟨rfl, bto (bto (bto (bto b1 b2) b3) b4) b5⟩
  · go_enter Try.func5, Try.ntmps5
    go_wp2_with fail
    refine (head_any _).mono ?_
    rintro _ w1 ⟨rfl, b1⟩
    go_wp2_with fail
    go_ret
    exact ⟨rfl, b1⟩
