/-
  LexerGaps, walked: it returns true.
-/
import Derived.Test.YtpgjlhhdmblfaaaLexQ3
import Derived.Deep.RegionWith
namespace Go.Proofs.Ytpgjlhhdmblfaaa
open Go.RowKit Go.Proofs.PlLex

theorem bcell {W w1 : World} (hb : Below W.heap.size W w1) : (∀ b o, b < W.heap.size → w1.cell? ⟨b, o, none⟩ = W.cell? ⟨b, o, none⟩) ∧ (∀ b o, b < W.heap.size → w1.frozen? ⟨b, o, none⟩ = W.frozen? ⟨b, o, none⟩) :=
  ⟨fun b o h => hb.cell (p := ⟨b, o, none⟩) h, fun b o h => hb.frozen (p := ⟨b, o, none⟩) h⟩

theorem gapsJoin (s b : ByteArray) (mid : Nat) (hm : mid ≤ s.size) :
    (b ++ ByteArray.mk #[10] ++ s.extract 0 mid ++ (b ++ ByteArray.mk #[10]) ++ s.extract mid s.size ++ ByteArray.mk #[10] ++ b).data.toList =
      ((b.data.toList ++ [10]) ++ s.data.toList.take mid) ++ (b.data.toList ++ [10]) ++ s.data.toList.drop mid ++ [10] ++ b.data.toList := by
  rw [app_list, app_list, app_list, app_list, app_list, app_list, ext_list, ext_list, List.drop_zero, Nat.sub_zero, List.take_of_length_le (l := s.data.toList.drop mid) (by rw [List.length_drop, size_list]; omega)]

/-- The joined text has the same tokens apart from offsets. -/
theorem gapsLaw (s b : ByteArray) (mid : Nat) (hs : s.size ≤ 1500) (hb : b.size ≤ 300) (hm : mid ≤ s.size) (hg : gaps b.data.toList = true) (h : (scan 0 0 s.data.toList).2 = none)
    (hmid : ((scan 0 0 s.data.toList).1 = [] ∧ mid = 0) ∨ ∃ (j : Nat) (t : Tok), (scan 0 0 s.data.toList).1[j]? = some t ∧ mid = t.off + (PlLex.wr t.kind t.text).length) :
    ∃ us, lex (b ++ ByteArray.mk #[10] ++ s.extract 0 mid ++ (b ++ ByteArray.mk #[10]) ++ s.extract mid s.size ++ ByteArray.mk #[10] ++ b).data.toList = (us, 0, 0) ∧ alikeL (scan 0 0 s.data.toList).1 us = true ∧
      (b ++ ByteArray.mk #[10] ++ s.extract 0 mid ++ (b ++ ByteArray.mk #[10]) ++ s.extract mid s.size ++ ByteArray.mk #[10] ++ b).size ≤ 2500 := by
  obtain ⟨e1, e2⟩ := gaps_law s.data.toList b.data.toList hg h mid hmid
  have hj := gapsJoin s b mid hm
  have hl : (b ++ ByteArray.mk #[10] ++ s.extract 0 mid ++ (b ++ ByteArray.mk #[10]) ++ s.extract mid s.size ++ ByteArray.mk #[10] ++ b).size ≤ 2500 := by
    rw [← size_list, hj]
    simp only [List.length_append, List.length_take, List.length_drop, size_list, List.length_cons, List.length_nil]
    omega
  refine ⟨_, ?_, alike_strip _ _ e1.symm, hl⟩
  rw [← size_list] at hl
  rw [hj] at hl ⊢
  exact lex_ok _ (by omega) e2

theorem gaps_mid (s : ByteArray) (j : Nat) (t : Tok) (h : (scan 0 0 s.data.toList).2 = none) (ht : (scan 0 0 s.data.toList).1[j]? = some t) : t.off + (PlLex.wr t.kind t.text).length ≤ s.size := by
  have := (scan_cut 0 s.data.toList h j t ht [] (fun k _ c m e => by cases e)).2.1
  rw [size_list] at this
  omega

set_option maxRecDepth 100000 in
set_option maxHeartbeats 4000000 in
theorem law6_walk (s b : ByteArray) (m : Int) (_ : s.size ≤ maxLen) (hbm : b.size ≤ maxLen) (wm : (Lit.int .u16 m).wf = true) (w : World) : Calls Try.prog 8 #[.string s, .string b, .int .u16 m] w fun e w' => e = .returned (.bool true) ∧ Below w.heap.size w w' := by
  have hm : 0 ≤ m ∧ m < 65536 := by
    have : IntKind.min .u16 ≤ m ∧ m ≤ IntKind.max .u16 := by simpa [Lit.wf] using wm
    simp [IntKind.min, IntKind.max, IntKind.signed, IntKind.bits] at this; omega
  obtain ⟨hm0, hm1⟩ := hm
  clear wm
  by_cases h1 : s.size ≤ 1500
  · by_cases h2 : b.size ≤ 300
    · cases hg : gaps b.data.toList with
      | false =>
        have HG := hide (fun w => gaps_any b w hbm)
        rw [hg] at HG
        clear hg
        go_enter Try.func8, Try.ntmps8
        go_wp2_with fail
        refine (head_any _).mono ?_
        rintro _ w1 ⟨rfl, b1⟩
        go_wp2_with fail
        refine (HG.out _).mono ?_
        rintro _ _ ⟨rfl, rfl⟩
        go_wp2_with fail
        go_ret
        exact ⟨rfl, b1⟩
      | true =>
        have HG := hide (fun w => gaps_any b w hbm)
        rw [hg] at HG
        cases hx : (scan 0 0 s.data.toList).2 with
        | some x =>
          obtain ⟨er, n⟩ := x
          have hl := lex_bad _ (by rw [size_list]; omega) _ _ hx
          have he := (scan_error 0 _ _ _ hx).1
          have HL := hide (lexS s _ _ _ hl (by omega))
          have e0 : ((er : Int) != 0) = true := by rw [bne_iff_ne]; omega
          clear hx hl he hg
          go_enter Try.func8, Try.ntmps8
          go_wp2_with fail
          refine (head_any _).mono ?_
          rintro _ w1 ⟨rfl, b1⟩
          go_wp2_with fail
          refine (HG.out _).mono ?_
          rintro _ _ ⟨rfl, rfl⟩
          go_wp2_with fail
          refine (HL.out _).mono ?_
          rintro _ w2 ⟨A2, c2, rfl, t2, b2⟩
          clear t2
          go_wp2_with fail
          go_ret
          exact ⟨rfl, bto b1 b2⟩
        | none =>
          have hl := lex_ok _ (by rw [size_list]; omega) hx
          have hlaw := fun mid hm hmid => gapsLaw s b mid h1 h2 hm hg hx hmid
          have hmd := fun j t ht => gaps_mid s j t hx ht
          obtain ⟨ts, hts⟩ : ∃ ts, (scan 0 0 s.data.toList).1 = ts := ⟨_, rfl⟩
          have hsz := scan_sizes 0 s.data.toList
          rw [size_list] at hsz
          rw [hts] at hl hlaw hmd hsz
          have hnn : ts.length ≤ 1500 := by omega
          have HWL : Hid (∀ t ∈ ts, t.text.length ≤ 3000) := by
            intro t ht
            have := wlen_mem ts t ht
            have := wr_len t.kind t.text
            omega
          have HL := hide (lexS s _ _ _ hl (by omega))
          clear hx hl hg hts hsz
          by_cases hn : ts.length = 0
          · obtain rfl : ts = [] := List.eq_nil_of_length_eq_zero hn
            obtain ⟨us, hj, hal, hjs⟩ := hlaw 0 (Nat.zero_le _) (.inl ⟨rfl, rfl⟩)
            have e : (b ++ ByteArray.mk #[10] ++ s.extract 0 0 ++ (b ++ ByteArray.mk #[10]) ++ s.extract 0 s.size ++ ByteArray.mk #[10] ++ b) = (b ++ ByteArray.mk #[10] ++ (b ++ ByteArray.mk #[10]) ++ s ++ ByteArray.mk #[10] ++ b) := by simp
            rw [e] at hj hjs
            have HJ := hide (lexS _ us 0 0 hj (by omega))
            have HA := hide hal
            clear hlaw hmd hn hj hal HWL hjs e
            go_enter Try.func8, Try.ntmps8
            go_wp2_with fail
            refine (head_any _).mono ?_
            rintro _ w1 ⟨rfl, b1⟩
            go_wp2_with fail
            refine (HG.out _).mono ?_
            rintro _ _ ⟨rfl, rfl⟩
            go_wp2_with fail
            refine (HL.out _).mono ?_
            rintro _ w2 ⟨A2, c2, rfl, t2, b2⟩
            have T2 := hide t2
            have HB := hide (bto b1 b2)
            clear t2 b1 b2
            go_wp2_with fail
            go_region_with (go_at_call 12; (with_reducible refine (HJ.out _).mono ?_); rintro _ w3 ⟨A3, c3, rfl, t3, b3⟩; have T3 := hide t3; clear t3)
            all_goals
              go_wp2_with fail
              refine (alike_any _ _ _ _ _ ((T2.out.below (Below.refl _ _).drew).below b3) T3.out).mono ?_
              rintro _ w4 ⟨rfl, b4⟩
              rw [HA.out]
              go_wp2_with fail
              go_ret
              exact ⟨rfl, bto (bto HB.out.drew b3) b4⟩
          · obtain ⟨N, hN⟩ : ∃ N, ts.length = N := ⟨_, rfl⟩
            obtain ⟨m, rfl⟩ : ∃ m' : Nat, m = m' := ⟨m.toNat, by omega⟩
            obtain ⟨j, hj⟩ : ∃ j, m % N = j := ⟨_, rfl⟩
            have hjN : j < N := by rw [← hj]; exact Nat.mod_lt _ (by omega)
            have hjt : j < ts.length := by omega
            obtain ⟨t, ht⟩ : ∃ t, ts[j]? = some t := ⟨_, List.getElem?_eq_getElem hjt⟩
            have hmid := hmd j t ht
            obtain ⟨us, hj2, hal, hjs⟩ := hlaw _ hmid (.inr ⟨j, t, ht, rfl⟩)
            have hwr := HWL.out t (List.mem_of_getElem? ht)
            have HW := hide (fun w => written_any t w (by omega))
            have hxs : (ByteArray.mk (PlLex.wr t.kind t.text).toArray).size = (PlLex.wr t.kind t.text).length := by show (PlLex.wr t.kind t.text).toArray.size = _; simp
            rw [← hxs] at hmid hj2 hjs
            obtain ⟨x, hx⟩ : ∃ x, ByteArray.mk (PlLex.wr t.kind t.text).toArray = x := ⟨_, rfl⟩
            rw [hx] at hmid hj2 hjs HW
            have HJ := hide (lexS _ us 0 0 hj2 (by omega))
            have HA := hide hal
            have HT := hide ht
            rw [hN] at HL
            have hjm : ((m : Int) % (N : Int)) = (j : Int) := by rw [← hj]; omega
            have hm2 : m ≤ 1000000 := by omega
            clear hm0 hm1
            have hN0 : (N : Int) ≠ 0 := by omega
            have hN1 : (0 : Int) < N := by omega
            have hj0 : (0 : Int) ≤ j := by omega
            have hj1 : (j : Int) < N := by omega
            have hN2 : N ≤ 1500 := by omega
            have HN := hide hN
            clear hlaw hmd hn hj hal HWL hjs ht hwr hxs hx hj2 hN hjt hnn
            go_enter Try.func8, Try.ntmps8
            go_wp2_with fail
            refine (head_any _).mono ?_
            rintro _ w1 ⟨rfl, b1⟩
            go_wp2_with fail
            refine (HG.out _).mono ?_
            rintro _ _ ⟨rfl, rfl⟩
            go_wp2_with fail
            refine (HL.out _).mono ?_
            rintro _ w2 ⟨A2, c2, rfl, t2, b2⟩
            obtain ⟨g, o, rfl, hg, hta⟩ : ∃ g o, A2 = some ⟨g, o, none⟩ ∧ g < w2.heap.size ∧ TokAt w2 g o ts := by
              rcases t2.2 with ⟨h0, _⟩ | ⟨g, o, c, hv, hg, ht⟩
              · exfalso; have := HN.out; rw [h0] at this; simp at this; omega
              · cases hv; exact ⟨g, o, rfl, hg, ht⟩
            obtain ⟨k1, k2, k3, k4⟩ := hta j t HT.out
            have T2 := hide t2
            have HB := hide (bto b1 b2)
            clear t2 b1 b2 hta
            go_wp2_with fail
            have hwrap : IntKind.i64.wrap ((t.off : Int) + x.size) = t.off + x.size := IntWalk.i64_in _ (by omega)
            go_region_with (go_at_call 22; (with_reducible refine (HW.out _).mono ?_); rintro _ w3 ⟨rfl, b3⟩; obtain ⟨hc3, hf3⟩ := bcell b3)
            all_goals
              have B3 := hide (bto (((Below.refl _ w2).alloc (Nat.le_refl _) _).drew) b3)
              clear hwrap hc3 hf3 b3
              go_wp2_with fail
              go_region_with (go_at_call 12; (with_reducible refine (HJ.out _).mono ?_); rintro _ w4 ⟨A4, c4, rfl, t4, b4⟩; have T4 := hide t4; clear t4)
              all_goals
                go_wp2_with fail
                refine (alike_any _ _ _ _ _ (((T2.out.below B3.out).below (Below.refl _ _).drew).below b4) T4.out).mono ?_
                rintro _ w5 ⟨rfl, b5⟩
                rw [HA.out]
                go_wp2_with fail
                go_ret
                exact ⟨rfl, bto (bto (bto HB.out B3.out).drew b4) b5⟩
    · go_enter Try.func8, Try.ntmps8
      go_wp2_with fail
      refine (head_any _).mono ?_
      rintro _ w1 ⟨rfl, b1⟩
      go_wp2_with fail
      go_ret
      exact ⟨rfl, b1⟩
  · go_enter Try.func8, Try.ntmps8
    go_wp2_with fail
    refine (head_any _).mono ?_
    rintro _ w1 ⟨rfl, b1⟩
    go_wp2_with fail
    go_ret
    exact ⟨rfl, b1⟩
