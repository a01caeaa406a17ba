/-
  LexerPlaces, walked: it returns true.
-/
import Derived.Test.YtpgjlhhdmblfaaaLexQ7
namespace Go.Proofs.Ytpgjlhhdmblfaaa
open Go.RowKit Go.Proofs.PlLex

theorem places_nil (text : L) (e : Nat) (h : places text e [] = true) : gaps (text.drop e) = true := h
theorem places_cons (text : L) (e : Nat) (t : Tok) (ts : List Tok) (h : places text e (t :: ts) = true) :
    e ≤ t.off ∧ (PlLex.wr t.kind t.text).length ≠ 0 ∧ t.off + (PlLex.wr t.kind t.text).length ≤ text.length ∧ (text.drop t.off).take (PlLex.wr t.kind t.text).length = PlLex.wr t.kind t.text ∧
      gaps ((text.drop e).take (t.off - e)) = true ∧ places text (t.off + (PlLex.wr t.kind t.text).length) ts = true := by
  unfold places at h
  split at h
  · cases h
  · rename_i hc
    simp only [Bool.or_eq_true, decide_eq_true_eq, beq_iff_eq, bne_iff_ne, Bool.not_eq_true', not_or, Nat.not_lt, ne_eq, Decidable.not_not] at hc
    obtain ⟨⟨⟨⟨h1, h2⟩, h3⟩, h4⟩, h5⟩ := hc
    exact ⟨h1, h2, h3, h4, by simpa using h5, h⟩

/-- The round's facts, with no program in sight. -/
theorem places_round (s : ByteArray) (e : Nat) (t : Tok) (ts : List Tok) (h : places s.data.toList e (t :: ts) = true) :
    ∃ (x : ByteArray), x = ⟨(PlLex.wr t.kind t.text).toArray⟩ ∧ e ≤ t.off ∧ x.size ≠ 0 ∧ t.off + x.size ≤ s.size ∧ s.extract t.off (t.off + x.size) = x ∧ gaps (s.extract e t.off).data.toList = true ∧ places s.data.toList (t.off + x.size) ts = true := by
  obtain ⟨h1, h2, h3, h4, h5, h6⟩ := places_cons _ _ _ _ h
  have hsz : (ByteArray.mk (PlLex.wr t.kind t.text).toArray).size = (PlLex.wr t.kind t.text).length := by show (PlLex.wr t.kind t.text).toArray.size = _; simp
  refine ⟨_, rfl, h1, by rw [hsz]; exact h2, by rw [hsz]; exact h3, ?_, ?_, by rw [hsz]; exact h6⟩
  · refine str_of_list _ _ ?_
    rw [ext_list, hsz, Nat.add_sub_cancel_left]; exact h4
  · rw [ext_list]; exact h5

set_option maxRecDepth 100000 in
set_option maxHeartbeats 4000000 in
theorem law2_walk (s : ByteArray) (_ : s.size ≤ maxLen) (w : World) : Calls Try.prog 4 #[.string s] w fun e w' => e = .returned (.bool true) ∧ Below w.heap.size w w' := by
  by_cases h1 : s.size ≤ 3000
  · cases hx : (scan 0 0 s.data.toList).2 with
    | some x =>
      obtain ⟨er, n⟩ := x
      have hl := lex_bad _ (by rw [size_list]; omega) _ _ hx
      have he := scan_error 0 _ _ _ hx
      rw [size_list] at he
      obtain ⟨he, _, hn⟩ := he
      have HL := hide (lexS s _ _ _ hl (by omega))
      have e0 : ((er : Int) != 0) = true := by rw [bne_iff_ne]; omega
      have hn2 : n < s.size := by omega
      clear hx hl he hn
      go_enter Try.func4, Try.ntmps4
      go_wp2_with fail
      refine (head_any _).mono ?_
      rintro _ w1 ⟨rfl, b1⟩
      go_wp2_with fail
      refine (HL.out _).mono ?_
      rintro _ w2 ⟨A2, c2, rfl, t2, b2⟩
      clear t2
      go_wp2_with fail
      go_ret
      exact ⟨rfl, bto b1 b2⟩
    | none =>
      have hl := lex_ok _ (by rw [size_list]; omega) hx
      have hpl := places_scan 0 s.data.toList [] rfl hx
      rw [List.nil_append] at hpl
      have hsz := scan_sizes 0 s.data.toList
      rw [size_list] at hsz
      obtain ⟨ts, hts⟩ : ∃ ts, (scan 0 0 s.data.toList).1 = ts := ⟨_, rfl⟩
      rw [hts] at hl hpl hsz
      obtain ⟨hz1, hz2, hz3⟩ := hsz
      have hwl : ∀ t ∈ ts, t.text.length ≤ 3000 := fun t ht => by
        have := wlen_mem ts t ht
        have := wr_len t.kind t.text
        omega
      have HWL := hide hwl
      have HPL := hide hpl
      obtain ⟨n, hn⟩ : ∃ n, n = ts.length := ⟨_, rfl⟩
      have hn1 : n ≤ ts.length := by omega
      have hn2 : ts.length ≤ n := by omega
      have hn3 : n ≤ 3000 := by omega
      have HL := hide (lexS s _ _ _ hl (by omega))
      rw [← hn] at HL
      clear hx hl hpl hz1 hz2 hz3 hts hwl
      have HN := hide hn
      clear hn
      go_enter Try.func4, Try.ntmps4
      go_wp2_with fail
      refine (head_any _).mono ?_
      rintro _ w1 ⟨rfl, b1⟩
      go_wp2_with fail
      refine (HL.out _).mono ?_
      rintro _ w2 ⟨A2, c2, rfl, t2, b2⟩
      have hto : n = 0 ∨ ∃ g o, A2 = some ⟨g, o, none⟩ ∧ g < w2.heap.size ∧ TokAt w2 g o ts := by
        rcases t2.2 with ⟨h0, _⟩ | ⟨g, o, c, hv, hg, ht⟩
        · left; rw [HN.out, h0]; rfl
        · right; cases hv; exact ⟨g, o, rfl, hg, ht⟩
      have HTO := hide hto
      have HB2 := hide (bto b1 b2)
      clear t2 hto b1 b2
      go_wp2_with fail
      go_loopw [7, 8] (fun e i wr => ∃ (k a : Nat), k ≤ n ∧ i = .int .i64 k ∧ e = .int .i64 a ∧ a ≤ s.size ∧ Below w2.heap.size w2 wr ∧ Hid (places s.data.toList a (ts.drop k) = true)) (fun _ i _ => n - (intOf i).toNat)
      case atStart => exact ⟨0, 0, Nat.zero_le _, rfl, rfl, Nat.zero_le _, Below.refl _ _, HPL.out⟩
      case round =>
        obtain ⟨k, a, hk, rfl, rfl, ha, hb, hrel⟩ := hrel
        by_cases hlt : k < n
        · have hka : k < ts.length := by omega
          obtain ⟨g, o, rfl, hg, ht⟩ := HTO.out.resolve_left (by omega)
          obtain ⟨k1, k2, k3, k4⟩ := (ht.below hg hb) k ts[k] (List.getElem?_eq_getElem hka)
          have hr := hrel.out
          rw [drop_tok ts k hka] at hr
          obtain ⟨x, hx, r1, r2, r3, r4, r5, r6⟩ := places_round s a ts[k] _ hr
          have HR6 := hide r6
          have hq := HWL.out ts[k] (List.getElem_mem hka)
          have HG := hide (fun w => gaps_any (s.extract a ts[k].off) w (by rw [ByteArray.size_extract]; unfold maxLen; omega))
          rw [r5] at HG
          generalize ts[k] = t at *
          have b1 : (0 : Int) ≤ k := by omega
          have b2 : (k : Int) < n := by omega
          clear r5 r6 hr hrel HTO ht
          have r4' : (s.extract t.off (t.off + x.size)).toList = x.toList := by rw [r4]
          have r2' : ((x.size : Int) == 0) = false := by rw [beq_eq_false_iff_ne]; omega
          have c1 : (a : Int) ≤ t.off := by omega
          have c2' : (t.off : Int) ≤ t.off + x.size := by omega
          have c3 : (t.off : Int) + x.size ≤ s.size := by omega
          by_cases h3 : t.kind = 3
          · have h3' : ((t.kind : Int) == 3) = true := by rw [beq_iff_eq]; omega
            have hx2 : x = ⟨(quote t.text).toArray⟩ := by rw [hx]; simp [PlLex.wr, h3]
            have HQ := hide (fun w => pquote_any ⟨t.text.toArray⟩ w (by show t.text.toArray.size ≤ _; simp; omega))
            change Hid (∀ w, Calls _ _ _ w fun e w' => e = .returned (.string ⟨(quote t.text).toArray⟩) ∧ _) at HQ
            rw [← hx2] at HQ
            clear hx hx2 h3
            go_wp2_with fail
            refine (HQ.out _).mono ?_
            rintro _ w3 ⟨rfl, b3⟩
            go_wp2_with fail
            refine (HG.out _).mono ?_
            rintro _ _ ⟨rfl, rfl⟩
            go_wp2_with fail
            refine ⟨⟨k + 1, t.off + x.size, by omega, by go_num, by go_num, by omega, bto hb b3, HR6.out⟩, ?_⟩
            simp [intOf]; omega
          · have h3' : ((t.kind : Int) == 3) = false := by rw [beq_eq_false_iff_ne]; omega
            have hx2 : ⟨t.text.toArray⟩ = x := by rw [hx]; simp [PlLex.wr, h3]
            rw [hx2] at k2
            clear hx hx2 h3
            go_wp2_with fail
            refine (HG.out _).mono ?_
            rintro _ _ ⟨rfl, rfl⟩
            go_wp2_with fail
            refine ⟨⟨k + 1, t.off + x.size, by omega, by go_num, by go_num, by omega, hb, HR6.out⟩, ?_⟩
            simp [intOf]; omega
        · have hr := hrel.out
          rw [List.drop_eq_nil_of_le (by omega)] at hr
          have hr2 := places_nil _ _ hr
          have HG := hide (fun w => gaps_any (s.extract a s.size) w (by rw [ByteArray.size_extract]; unfold maxLen; omega))
          rw [show gaps (s.extract a s.size).data.toList = true by rw [ext_list, List.take_of_length_le (by rw [List.length_drop, size_list]; omega)]; exact hr2] at HG
          clear hr hr2 hrel
          go_wp2_with fail
          refine (HG.out _).mono ?_
          rintro _ _ ⟨rfl, rfl⟩
          go_wp2_with fail
          go_ret
          exact ⟨rfl, bto HB2.out hb⟩
  · go_enter Try.func4, Try.ntmps4
    go_wp2_with fail
    refine (head_any _).mono ?_
    rintro _ w1 ⟨rfl, b1⟩
    go_wp2_with fail
    go_ret
    exact ⟨rfl, b1⟩
