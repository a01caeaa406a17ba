/-
  LexerMatchesReference, walked: it returns true.
-/
import Derived.Test.YtpgjlhhdmblfaaaLexP
namespace Go.Proofs.Ytpgjlhhdmblfaaa
open Go.RowKit Go.Proofs.PlLex

theorem sameL_self (a : List Tok) : sameL 0 a a = true := by
  induction a with
  | nil => rfl
  | cons t a ih => simp only [sameL, ih, sameTok, Int.add_zero, tokEq_self, Bool.and_true]

set_option maxRecDepth 100000 in
set_option maxHeartbeats 4000000 in
theorem law1_walk (s : ByteArray) (_ : s.size ≤ maxLen) (w : World) : Calls Try.prog 3 #[.string s] w fun e w' => e = .returned (.bool true) ∧ Below w.heap.size w w' := by
  by_cases h1 : s.size ≤ 21000
  · obtain ⟨ts, er, n, hl⟩ := ltrip s.data.toList
    have HL := hide (lexS s ts er n hl (by omega))
    have HR := hide (rlexS s ts er n hl (by omega))
    have HP := hide (fun w => pname_any s w (by unfold maxLen; omega))
    have HQ := hide (fun w => rname_any s w (by unfold maxLen; omega))
    have HU := hide (fun w => pquote_any s w (by omega))
    have HV := hide (fun w => rquote_any s w (by omega))
    obtain ⟨nm, hnm⟩ : ∃ nm, name s.data.toList = nm := ⟨_, rfl⟩
    obtain ⟨qt, hqt⟩ : ∃ qt, (ByteArray.mk (quote s.data.toList).toArray) = qt := ⟨_, rfl⟩
    rw [hnm] at HP HQ
    rw [hqt] at HU HV
    clear hl hnm hqt
    have e1 : ((er : Int) != er) = false := by simp
    have e2 : (n != n) = false := by simp
    have e3 : (nm != nm) = false := by simp
    have e4 : (qt.toList == qt.toList) = true := by simp
    go_enter Try.func3, Try.ntmps3
    go_wp2_with fail
    refine (head_any _).mono ?_
    rintro _ w1 ⟨rfl, b1⟩
    go_wp2_with fail
    refine (HL.out _).mono ?_
    rintro _ w2 ⟨A2, c2, rfl, t2, b2⟩
    have T2 := hide t2
    clear t2
    go_wp2_with fail
    refine (HR.out _).mono ?_
    rintro _ w3 ⟨A3, c3, rfl, t3, b3⟩
    have T3 := hide t3
    clear t3
    go_wp2_with fail
    refine (same_any _ _ _ _ 0 _ (by decide) (by decide) (T2.out.below b3) T3.out).mono ?_
    rintro _ w4 ⟨rfl, b4⟩
    rw [sameL_self]
    go_wp2_with fail
    refine (HP.out _).mono ?_
    rintro _ w5 ⟨rfl, b5⟩
    go_wp2_with fail
    refine (HQ.out _).mono ?_
    rintro _ _ ⟨rfl, rfl⟩
    have hb := bto (bto (bto (bto b1 b2) b3) b4) b5
    by_cases h3 : s.size ≤ 3000
    · go_wp2_with fail
      refine (HU.out _).mono ?_
      rintro _ w6 ⟨rfl, b6⟩
      go_wp2_with fail
      refine (HV.out _).mono ?_
      rintro _ _ ⟨rfl, rfl⟩
      go_wp2_with fail
      go_ret
      exact ⟨rfl, bto hb b6⟩
    · go_wp2_with fail
      go_ret
      exact ⟨rfl, hb⟩
  · go_enter Try.func3, Try.ntmps3
    go_wp2_with fail
    refine (head_any _).mono ?_
    rintro _ w1 ⟨rfl, b1⟩
    go_wp2_with fail
    go_ret
    exact ⟨rfl, b1⟩
