/-
  LexerParts, walked: it returns true.
-/
import Derived.Test.YtpgjlhhdmblfaaaLexQ5
import Derived.Test.YtpgjlhhdmblfaaaLexQ1
namespace Go.Proofs.Ytpgjlhhdmblfaaa
open Go.RowKit Go.Proofs.PlLex

theorem sameL_shift (d : Nat) (a : List Tok) : sameL (d : Int) a (shift d a) = true := by
  induction a with
  | nil => rfl
  | cons t a ih =>
    show (sameTok d t ⟨t.kind, t.text, t.off + d⟩ && sameL d a (shift d a)) = true
    rw [ih]
    have e : ((t.off + d : Nat) : Int) = (t.off : Int) + d := by omega
    simp only [sameTok, e, tokEq_self, Bool.and_true]

/-- As 'TokS', with the memory named. -/
theorem lexO (s : ByteArray) (ts : List Tok) (er : Nat) (n : Int) (h : lex s.data.toList = (ts, er, n)) (hs : s.size ≤ 1000000) (w : World) : Calls Try.prog 12 #[.string s] w fun e w' =>
    ∃ v, e = .returned (.tuple #[v, .int .i64 (er : Int), .int .i64 n]) ∧ ((ts = [] ∧ v = .slice none 0 0) ∨ ∃ g c, v = .slice (some ⟨g, 0, none⟩) ts.length c ∧ ts.length ≤ c ∧ c ≤ maxLen ∧ g < w'.heap.size ∧ TokAt w' g 0 ts) ∧ Below w.heap.size w w' :=
  (lex_any s w hs).mono fun e w' ⟨v, h1, h2, h3⟩ => by
    have h4 := lex_offs s.data.toList
    rw [h] at h1 h2 h4
    refine ⟨v, h1, ?_, h3⟩
    have h5 := h2.tokS (by have := h4.1; omega) h4.2
    rcases h2.2 with ⟨hv, h0⟩ | ⟨g, cap, cur, hv, _, _, hc1, hc2, _⟩
    · exact .inl ⟨List.eq_nil_of_length_eq_zero h0, hv⟩
    · subst hv
      rcases h5.2 with ⟨h0, A, c, h6⟩ | ⟨g', o, c, h6, h7, h8⟩
      · subst h0
        refine .inr ⟨g, cap, rfl, hc1, hc2, ?_, fun i t hi => by cases hi⟩
        rename_i hh _
        exact (Array.getElem?_eq_some_iff.1 hh).1
      · cases h6
        exact .inr ⟨g, cap, rfl, hc1, hc2, h7, h8⟩

theorem join_list (a b : ByteArray) : (a ++ ByteArray.mk #[10] ++ b).data.toList = a.data.toList ++ 10 :: b.data.toList := by
  rw [app_list, app_list, List.append_assoc]; rfl
theorem TokAt.take {w : World} {g : Nat} {a b : List Tok} (h : TokAt w g 0 (a ++ b)) : TokAt w g 0 a := by
  intro i t ht
  exact h i t (by rw [List.getElem?_append_left (List.getElem?_eq_some_iff.1 ht).1]; exact ht)
theorem TokAt.drop {w : World} {g o : Nat} {a b : List Tok} (h : TokAt w g 0 (a ++ b)) (ho : o = a.length * 3) : TokAt w g o b := by
  intro i t ht
  have := h (a.length + i) t (by rw [List.getElem?_append_right (by omega)]; simpa using ht)
  rw [show 0 + (a.length + i) * 3 = o + i * 3 by omega] at this
  exact this

set_option maxRecDepth 100000 in
set_option maxHeartbeats 4000000 in
theorem law4_walk (s u : ByteArray) (_ : s.size ≤ maxLen) (_ : u.size ≤ maxLen) (w : World) : Calls Try.prog 6 #[.string s, .string u] w fun e w' => e = .returned (.bool true) ∧ Below w.heap.size w w' := by
  by_cases h1 : s.size ≤ 1500
  · by_cases h2 : u.size ≤ 1500
    · have hsz : (s ++ ByteArray.mk #[10] ++ u).size ≤ 3001 := by
        rw [ByteArray.size_append, ByteArray.size_append]; show s.size + 1 + u.size ≤ 3001; omega
      have hjl := join_list s u
      have hll : (s.data.toList ++ 10 :: u.data.toList).length ≤ 5000 := by
        rw [← hjl, size_list]; omega
      cases hx : (scan 0 0 s.data.toList).2 with
      | some x =>
        obtain ⟨er, n⟩ := x
        have hl := lex_bad _ (by rw [size_list]; omega) _ _ hx
        have he := (scan_error 0 _ _ _ hx).1
        obtain ⟨⟨eg, k⟩, hy⟩ := Option.ne_none_iff_exists'.1 (scan_parts_err 0 s.data.toList u.data.toList (by rw [hx]; simp))
        have heg := (scan_error 0 _ _ _ hy).1
        have hj := lex_bad _ hll _ _ hy
        rw [← hjl] at hj
        obtain ⟨tb, fb, nb, hb⟩ := ltrip u.data.toList
        have HL := hide (lexS s _ _ _ hl (by omega))
        have HB := hide (lexS u _ _ _ hb (by omega))
        have HJ := hide (lexS _ _ _ _ hj (by omega))
        have e0 : ((er : Int) != 0) = true := by rw [bne_iff_ne]; omega
        have e1 : ((eg : Int) != 0) = true := by rw [bne_iff_ne]; omega
        clear hx hl hy hj hb hjl hll he heg
        go_enter Try.func6, Try.ntmps6
        go_wp2_with fail
        refine (head_any _).mono ?_
        rintro _ w1 ⟨rfl, b1⟩
        go_wp2_with fail
        refine (HL.out _).mono ?_
        rintro _ w2 ⟨A2, c2, rfl, t2, b2⟩
        clear t2
        go_wp2_with fail
        refine (HB.out _).mono ?_
        rintro _ w3 ⟨A3, c3, rfl, t3, b3⟩
        clear t3
        go_wp2_with fail
        refine (HJ.out _).mono ?_
        rintro _ w4 ⟨A4, c4, rfl, t4, b4⟩
        clear t4
        go_wp2_with fail
        go_ret
        exact ⟨rfl, bto (bto (bto b1 b2) b3) b4⟩
      | none =>
        have hl := lex_ok _ (by rw [size_list]; omega) hx
        have hp := scan_parts 0 _ u.data.toList hx
        rw [show 0 + s.data.toList.length + 1 = 0 + (s.size + 1) by rw [size_list]; omega, scan_shift] at hp
        have HL := hide (lexS s _ _ _ hl (by omega))
        cases hy : (scan 0 0 u.data.toList).2 with
        | some y =>
          obtain ⟨er, n⟩ := y
          have hb := lex_bad _ (by rw [size_list]; omega) _ _ hy
          have he := (scan_error 0 _ _ _ hy).1
          rw [hy] at hp
          have hj := lex_bad _ hll er (n + (s.size + 1)) (by rw [hp]; rfl)
          rw [← hjl] at hj
          have HB := hide (lexS u _ _ _ hb (by omega))
          have HJ := hide (lexS _ _ _ _ hj (by omega))
          have e0 : ((er : Int) != 0) = true := by rw [bne_iff_ne]; omega
          have e1 : ((er : Int) == er) = true := by simp
          have hn : n ≤ 1500 := by have := (scan_error 0 _ _ _ hy).2.2; rw [size_list] at this; omega
          have e2 : ((n : Int) + ((s.size : Int) + 1) == (n : Int) + s.size + 1) = true := by rw [beq_iff_eq]; omega
          clear hx hl hp hy hb hj hjl hll he
          go_enter Try.func6, Try.ntmps6
          go_wp2_with fail
          refine (head_any _).mono ?_
          rintro _ w1 ⟨rfl, b1⟩
          go_wp2_with fail
          refine (HL.out _).mono ?_
          rintro _ w2 ⟨A2, c2, rfl, t2, b2⟩
          clear t2
          go_wp2_with fail
          refine (HB.out _).mono ?_
          rintro _ w3 ⟨A3, c3, rfl, t3, b3⟩
          clear t3
          go_wp2_with fail
          refine (HJ.out _).mono ?_
          rintro _ w4 ⟨A4, c4, rfl, t4, b4⟩
          clear t4
          go_wp2_with fail
          go_ret
          exact ⟨rfl, bto (bto (bto b1 b2) b3) b4⟩
        | none =>
          have hb := lex_ok _ (by rw [size_list]; omega) hy
          rw [hy] at hp
          have hj := lex_ok _ hll (by rw [hp]; rfl)
          rw [hp, ← hjl] at hj
          have HB := hide (lexS u _ _ _ hb (by omega))
          have HJ := hide (lexO _ _ _ _ hj (by omega))
          obtain ⟨ta, hta⟩ : ∃ ta, (scan 0 0 s.data.toList).1 = ta := ⟨_, rfl⟩
          obtain ⟨tb, htb⟩ : ∃ tb, (scan 0 0 u.data.toList).1 = tb := ⟨_, rfl⟩
          have hna : ta.length ≤ 1500 := by have := scan_sizes 0 s.data.toList; rw [hta, size_list] at this; omega
          have hnb : tb.length ≤ 1500 := by have := scan_sizes 0 u.data.toList; rw [htb, size_list] at this; omega
          rw [hta] at HL HJ
          rw [htb] at HB HJ
          simp only at HJ
          have hns : (ta ++ shift (s.size + 1) tb).length = ta.length + tb.length := by simp [shift]
          clear hx hl hp hy hb hj hjl hll hta htb
          obtain ⟨N, hN⟩ : ∃ N, N = ta.length := ⟨_, rfl⟩
          obtain ⟨M, hM⟩ : ∃ M, M = tb.length := ⟨_, rfl⟩
          have HN := hide hN
          have HM := hide hM
          rw [← hN] at HL hna
          rw [← hM] at HB hnb
          clear hN hM
          go_enter Try.func6, Try.ntmps6
          go_wp2_with fail
          refine (head_any _).mono ?_
          rintro _ w1 ⟨rfl, b1⟩
          go_wp2_with fail
          refine (HL.out _).mono ?_
          rintro _ w2 ⟨A2, c2, rfl, t2, b2⟩
          have T2 := hide t2
          clear t2
          go_wp2_with fail
          refine (HB.out _).mono ?_
          rintro _ w3 ⟨A3, c3, rfl, t3, b3⟩
          have T3 := hide t3
          clear t3
          go_wp2_with fail
          refine (HJ.out _).mono ?_
          rintro _ w4 ⟨v4, rfl, t4, b4⟩
          have T4 := hide t4
          rw [hns, ← HN.out, ← HM.out] at t4
          rcases t4 with ⟨h0, rfl⟩ | ⟨g, c, rfl, hc1, hc2, hg, hta⟩
          · obtain ⟨rfl, h0'⟩ : ta = [] ∧ shift (s.size + 1) tb = [] := List.append_eq_nil_iff.1 h0
            obtain rfl : tb = [] := by simpa [shift] using h0'
            obtain rfl : N = 0 := HN.out
            obtain rfl : M = 0 := HM.out
            have q1 := T2.out.below (bto b3 b4)
            have q2 := T3.out.below b4
            clear T2 T3 T4 HN HM HL HB HJ
            go_wp2_with fail
            refine (same_any _ _ [] [] 0 _ (by decide) (by decide) q1 ⟨by decide, .inl ⟨rfl, _, _, rfl⟩⟩).mono ?_
            rintro _ w5 ⟨rfl, b5⟩
            go_wp2_with fail
            refine (same_any _ _ [] [] _ _ (by omega) (by omega) (q2.below b5) ⟨by decide, .inl ⟨rfl, _, _, rfl⟩⟩).mono ?_
            rintro _ w6 ⟨rfl, b6⟩
            go_wp2_with fail
            go_ret
            exact ⟨rfl, bto (bto (bto (bto (bto b1 b2) b3) b4) b5) b6⟩
          · have q1 := T2.out.below (bto b3 b4)
            have q2 := T3.out.below b4
            have q3 := TokAt.take hta
            have q4 := TokAt.drop hta (o := N * 3) (by rw [HN.out])
            have e3 : ((N : Int) + M == (N : Int) + M) = true := by simp
            have Q1 := hide q1
            have Q2 := hide q2
            have Q3 := hide q3
            have Q4 := hide q4
            clear T2 T3 T4 HL HB HJ q1 q2 q3 q4 hta
            have i1 : (0 : Int) ≤ N := by omega
            have i2 : (N : Int) ≤ c := by omega
            have i3 : (N : Int) ≤ N + M := by omega
            have i4 : (N : Int) + M ≤ c := by omega
            go_wp2_with fail
            refine (same_any _ _ ta ta 0 _ (by decide) (by decide) Q1.out ⟨by rw [← HN.out]; omega, .inr ⟨g, 0, c, by rw [← HN.out], hg, Q3.out⟩⟩).mono ?_
            rintro _ w5 ⟨rfl, b5⟩
            rw [sameL_self]
            have hsl : (shift (s.size + 1) tb).length = tb.length := by simp [shift]
            have HSL := hide hsl
            clear hsl
            by_cases hcN : c = N
            · have hM0 : M = 0 := by omega
              subst hM0
              subst hcN
              obtain rfl : tb = [] := List.eq_nil_of_length_eq_zero HM.out.symm
              have q2 := Q2.out.below b5
              clear HM HSL Q1 Q2 Q3 Q4 e3 hns i1 i2 i3 i4 hc1
              go_wp2_with fail
              refine (same_any _ _ [] [] _ _ (by omega) (by omega) q2 ⟨by decide, .inl ⟨rfl, _, _, rfl⟩⟩).mono ?_
              rintro _ w6 ⟨rfl, b6⟩
              go_wp2_with fail
              go_ret
              exact ⟨rfl, bto (bto (bto (bto (bto b1 b2) b3) b4) b5) b6⟩
            · go_wp2_with fail
              refine (same_any _ _ tb (shift (s.size + 1) tb) _ _ (by omega) (by omega) (Q2.out.below b5) ⟨by rw [HSL.out, ← HM.out]; omega, .inr ⟨g, N * 3, c - N, by rw [HSL.out, ← HM.out], Nat.lt_of_lt_of_le hg b5.size, Q4.out.below hg b5⟩⟩).mono ?_
              rintro _ w6 ⟨rfl, b6⟩
              rw [show ((s.size : Int) + 1) = ((s.size + 1 : Nat) : Int) by omega, sameL_shift]
              go_wp2_with fail
              go_ret
              exact ⟨rfl, bto (bto (bto (bto (bto b1 b2) b3) b4) b5) b6⟩
    · go_enter Try.func6, Try.ntmps6
      go_wp2_with fail
      refine (head_any _).mono ?_
      rintro _ w1 ⟨rfl, b1⟩
      go_wp2_with fail
      go_ret
      exact ⟨rfl, b1⟩
  · go_enter Try.func6, Try.ntmps6
    go_wp2_with fail
    refine (head_any _).mono ?_
    rintro _ w1 ⟨rfl, b1⟩
    go_wp2_with fail
    go_ret
    exact ⟨rfl, b1⟩
