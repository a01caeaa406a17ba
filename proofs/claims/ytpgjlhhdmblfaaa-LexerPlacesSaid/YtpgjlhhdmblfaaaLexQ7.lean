/-
  LexerQuotes, walked: it returns true.
-/
import Derived.Test.YtpgjlhhdmblfaaaLexQ5
namespace Go.Proofs.Ytpgjlhhdmblfaaa
open Go.RowKit Go.Proofs.PlLex

theorem lexT (s : ByteArray) (ts : List Tok) (t : Tok) (h : lex s.data.toList = (t :: ts, 0, 0)) (hs : s.size ≤ 1000000) (w : World) : Calls Try.prog 12 #[.string s] w fun e w' =>
    ∃ g o c, e = .returned (.tuple #[.slice (some ⟨g, o, none⟩) (ts.length + 1) c, .int .i64 0, .int .i64 0]) ∧ g < w'.heap.size ∧ TokAt w' g o (t :: ts) ∧ Below w.heap.size w w' :=
  (lexR s w hs).mono fun e w' ⟨v, h1, h2, h3⟩ => by
    rw [h] at h1 h2
    rcases h2.2 with ⟨h4, _⟩ | ⟨g, o, c, rfl, hg, ht⟩
    · cases h4
    · exact ⟨g, o, c, h1, hg, ht, h3⟩
theorem bytes_eta (s : ByteArray) : (ByteArray.mk s.data.toList.toArray) = s := by cases s; simp
theorem bytes_beq (a b : ByteArray) : (a.toList == b.toList) = decide (a.data.toList = b.data.toList) := by
  rw [ByteArray.toList_eq, ByteArray.toList_eq, Bool.eq_iff_iff, beq_iff_eq, decide_eq_true_iff]

set_option maxRecDepth 100000 in
set_option maxHeartbeats 4000000 in
theorem law7_walk (s u : ByteArray) (_ : s.size ≤ maxLen) (_ : u.size ≤ maxLen) (w : World) : Calls Try.prog 9 #[.string s, .string u] w fun e w' => e = .returned (.bool true) ∧ Below w.heap.size w w' := by
  by_cases h1 : s.size ≤ 2000
  · by_cases h2 : u.size ≤ 2000
    · have hq : (quote s.data.toList).length ≤ 4002 := by
        have := quoteB_len2 s.data.toList
        rw [size_list] at this
        simp only [quote, List.length_cons, List.length_append, List.length_nil]
        omega
      have hone := scan_one 3 s.data.toList (.inr (.inr (.inl rfl))) 0
      have hj : lex (quote s.data.toList) = ([⟨3, s.data.toList, 0⟩], 0, 0) := by
        rw [lex_ok (quote s.data.toList) (by omega) (by rw [show quote s.data.toList = wr 3 s.data.toList from rfl, hone]), show quote s.data.toList = wr 3 s.data.toList from rfl, hone]
      have hb : (((ByteArray.mk (quote s.data.toList).toArray).toList == (ByteArray.mk (quote u.data.toList).toArray).toList) == (s.toList == u.toList)) = true := by
        rw [bytes_beq, bytes_beq, beq_iff_eq]
        congr 1
        show ((quote s.data.toList).toArray.toList = (quote u.data.toList).toArray.toList) = _
        rw [List.toList_toArray, List.toList_toArray]
        exact propext ⟨quote_inj _ _, fun h => by rw [h]⟩
      have HU := hide (fun w => pquote_any s w (by omega))
      have HV := hide (fun w => pquote_any u w (by omega))
      have HJ := hide (lexT ⟨(quote s.data.toList).toArray⟩ [] ⟨3, s.data.toList, 0⟩ hj (by show (quote s.data.toList).toArray.size ≤ 1000000; simp; omega))
      have e1 := tokEq_self 3 0 s
      obtain ⟨qs, hqs⟩ : ∃ qs, (ByteArray.mk (quote s.data.toList).toArray) = qs := ⟨_, rfl⟩
      obtain ⟨qu, hqu⟩ : ∃ qu, (ByteArray.mk (quote u.data.toList).toArray) = qu := ⟨_, rfl⟩
      rw [hqs] at HU HJ hb
      rw [hqu] at HV hb
      clear hq hone hj hqs hqu
      go_enter Try.func9, Try.ntmps9
      go_wp2_with fail
      refine (head_any _).mono ?_
      rintro _ w1 ⟨rfl, b1⟩
      go_wp2_with fail
      refine (HU.out _).mono ?_
      rintro _ w2 ⟨rfl, b2⟩
      go_wp2_with fail
      refine (HJ.out _).mono ?_
      rintro _ w3 ⟨g, o, c, rfl, hg, ht, b3⟩
      obtain ⟨p1, p2, p3, _⟩ := ht 0 _ rfl
      simp only [Nat.zero_mul, Nat.add_zero] at p1 p2 p3
      rw [bytes_eta] at p2
      clear ht
      go_wp2_with fail
      refine (HV.out _).mono ?_
      rintro _ w4 ⟨rfl, b4⟩
      go_wp2_with fail
      go_ret
      exact ⟨rfl, bto (bto (bto b1 b2) b3) b4⟩
    · go_enter Try.func9, Try.ntmps9
      go_wp2_with fail
      refine (head_any _).mono ?_
      rintro _ w1 ⟨rfl, b1⟩
      go_wp2_with fail
      go_ret
      exact ⟨rfl, b1⟩
  · go_enter Try.func9, Try.ntmps9
    go_wp2_with fail
    refine (head_any _).mono ?_
    rintro _ w1 ⟨rfl, b1⟩
    go_wp2_with fail
    go_ret
    exact ⟨rfl, b1⟩
