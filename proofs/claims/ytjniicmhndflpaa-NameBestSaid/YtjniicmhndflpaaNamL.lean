/-
  name.Missing, at the two objects of the law's example.
-/
import Derived.Test.YtjniicmhndflpaaNamK
namespace Go.Proofs.Ytjniicmhndflpaa
open Go.RowKit Go.Proofs.PlLex Go.Proofs.PlName

theorem contains_any (L : List ByteArray) (s : ByteArray) (v : Value) (w : World) (hv : StS w v L) (hl : L.length ≤ 100000) :
    Calls Try.prog 32 #[v, .string s] w fun e w' => e = .returned (.bool (Go.Lib.containsS L s)) ∧ w = w' := by
  obtain ⟨A, c, rfl, _, h⟩ := hv
  by_cases h0 : L = []
  · subst h0
    exact (Try.slices_Contains_string_empty A c s w).mono (fun e w' h => ⟨h.1, h.2.symm⟩)
  · obtain ⟨g, o, rfl, _, hp⟩ := h.resolve_left h0
    refine (Try.slices_Contains_string g o L.length c L s w (Nat.le_refl _) (by omega) (fun j hj => ?_)).mono (fun e w' h => ⟨by rw [h.1, List.take_length], h.2.symm⟩)
    rw [hp j _ (List.getElem?_eq_getElem hj), List.getD_eq_getElem?_getD, List.getElem?_eq_getElem hj]
    rfl
/-- Is one of the languages not among one's own? -/
def lacksB (own L : List ByteArray) : Bool := L.any (fun s => !Go.Lib.containsS own s)
theorem missing1_any (own : List ByteArray) (s : ByteArray) (b : Nat) (v : Value) (w : World) (hb : w.cell? ⟨b, 0, none⟩ = some v) (hv : StS w v own) (hl : own.length ≤ 100000) :
    Calls Try.prog 31 #[.string s, .pointer (some ⟨b, 0, none⟩)] w fun e w' => e = .returned (.bool (!Go.Lib.containsS own s)) ∧ w = w' := by
  have HI := hide (contains_any own s v w hv hl)
  obtain ⟨A, c, rfl, _⟩ := hv
  go_enter Try.func31, Try.ntmps31
  go_wp2_with fail
  refine (HI.out).mono ?_
  rintro _ w2 ⟨rfl, hw⟩
  obtain rfl : w = w2 := hw
  go_wp2_with fail
  go_ret
  exact ⟨rfl, rfl⟩
set_option maxRecDepth 100000 in
set_option maxHeartbeats 4000000 in
theorem indexf_any (own L : List ByteArray) (b : Nat) (v vl : Value) (w : World) (hb : w.cell? ⟨b, 0, none⟩ = some v) (hv : StS w v own) (hl : own.length ≤ 100000) (hvl : StS w vl L) (hL : L.length ≤ 100000) :
    Calls Try.prog 41 #[vl, .func (.func 31) #[] #[.pointer (some ⟨b, 0, none⟩)]] w fun e w' => ∃ i : Int, e = .returned (.int .i64 i) ∧ decide (0 ≤ i) = lacksB own L ∧ w = w' := by
  obtain ⟨R, hR⟩ : ∃ R, lacksB own L = R := ⟨_, rfl⟩
  rw [hR]
  have HR := hide hR
  have HM := hide (fun s => missing1_any own s b v w hb hv hl)
  obtain ⟨A, c, rfl, _, hA⟩ := hvl
  have HA := hide hA
  clear hA hR
  go_enter Try.func41, Try.ntmps41
  go_wp2_with fail
  go_loop [8] (fun i => ∃ k : Nat, k ≤ L.length ∧ i = .int .i64 k ∧ Hid (lacksB own (L.drop k) = R)) (fun i => L.length - (intOf i).toNat)
  case atStart => exact ⟨0, Nat.zero_le _, rfl, HR⟩
  case round =>
    obtain ⟨k, hk, rfl, hr⟩ := hrel
    by_cases hlt : k < L.length
    · obtain ⟨g, o, rfl, hg, hp⟩ := HA.out.resolve_left (by rintro rfl; simp at hlt)
      have c1 := hp k _ (List.getElem?_eq_getElem hlt)
      have hr2 := hr.out
      unfold lacksB at hr2
      rw [drop_st L k hlt, List.any_cons] at hr2
      generalize L[k] = x at *
      have k0 : (0 : Int) ≤ k := by omega
      have k1 : (k : Int) < L.length := by omega
      have HL := hide hlt
      have HM2 := hide (show L.length - (k + 1) < L.length - k from by omega)
      clear hr hlt hp
      have HX := hide (HM.out x)
      obtain ⟨q, hq⟩ : ∃ q, (!Go.Lib.containsS own x) = q := ⟨_, rfl⟩
      rw [hq] at hr2 HX
      have HR2 := hide hr2
      clear hq hr2
      cases q with
      | true =>
        have HR3 := hide (show R = true from by rw [← HR2.out]; rfl)
        go_wp2_with fail
        refine (HX.out).mono ?_
        rintro _ w2 ⟨rfl, hw⟩
        obtain rfl : w = w2 := hw
        go_wp2_with fail
        go_ret
        exact ⟨_, rfl, by rw [HR3.out, decide_eq_true k0], rfl⟩
      | false =>
        have HR3 := hide (show lacksB own (L.drop (k + 1)) = R from by rw [← HR2.out]; rfl)
        go_wp2_with fail
        refine (HX.out).mono ?_
        rintro _ w2 ⟨rfl, hw⟩
        obtain rfl : w = w2 := hw
        go_wp2_with fail
        refine ⟨⟨k + 1, HL.out, by go_num, HR3⟩, ?_⟩
        have := HM2.out
        simp [intOf]; omega
    · have hz : R = false := by rw [← hr.out, List.drop_eq_nil_of_le (by omega)]; rfl
      have HZ := hide hz
      clear hr hz
      go_wp2_with fail
      go_ret
      exact ⟨_, rfl, by rw [HZ.out]; rfl, rfl⟩
set_option maxRecDepth 100000 in
set_option maxHeartbeats 4000000 in
theorem containsf_any (own L : List ByteArray) (b : Nat) (v vl : Value) (w : World) (hb : w.cell? ⟨b, 0, none⟩ = some v) (hv : StS w v own) (hl : own.length ≤ 100000) (hvl : StS w vl L) (hL : L.length ≤ 100000) :
    Calls Try.prog 30 #[vl, .func (.func 31) #[] #[.pointer (some ⟨b, 0, none⟩)]] w fun e w' => e = .returned (.bool (lacksB own L)) ∧ w = w' := by
  have HI := hide (indexf_any own L b v vl w hb hv hl hvl hL)
  obtain ⟨A, c, rfl, _⟩ := hvl
  clear hb hv
  go_enter Try.func30, Try.ntmps30
  go_wp2_with fail
  refine (HI.out).mono ?_
  rintro _ w2 ⟨i, rfl, hi, hw⟩
  obtain rfl : w = w2 := hw
  have HI2 := hide hi
  clear hi
  go_wp2_with fail
  go_ret
  exact ⟨ret_bool HI2.out, rfl⟩

set_option maxRecDepth 100000 in
set_option maxHeartbeats 8000000 in
theorem missing_two (g : Nat) (tv vl : Value) (l : List Tg) (L : List ByteArray) (lk : Bool) (w : World) (h2 : Two g tv w) (ht : TgS w tv l) (hvl : StS w vl L) (hL : L.length ≤ 100000) (hv : tagsB l = true) (hl : l.length ≤ 100000) (hs : ∀ t ∈ l, t.k.size ≤ 100000 ∧ t.v.size ≤ 100000)
    (hn : namesL l ≠ []) (hlk : lacksB ((namesL l).map langO) L = lk) :
    Calls Try.prog 18 #[.agg #[.slice (some ⟨g, 0, none⟩) 2 2], vl] w fun e w' => ∃ v', e = .returned v' ∧ StS w' v' (if lk then [sN] else []) ∧ Below w.heap.size w w' := by
  obtain ⟨wa, hwa⟩ : ∃ wa, w.alloc (.cells #[.slice (some ⟨g, 0, none⟩) 2 2] 29) = wa := ⟨_, rfl⟩
  have ha : Below w.heap.size w wa := by rw [← hwa]; exact (Below.refl _ _).alloc (Nat.le_refl _) _
  have hsa : wa.heap.size = w.heap.size + 1 := by rw [← hwa]; simp
  have hm : wa.heap[w.heap.size]? = some (.cells #[.slice (some ⟨g, 0, none⟩) 2 2] 29 (0, 0)) := by rw [← hwa]; exact heap_alloc_new w _
  have HAV := hide (avalid_two g tv l wa (h2.below ha) (ht.below ha) hv hl hs)
  have HT := hide ht
  have HVL := hide hvl
  have HLA := hide (fun w' hw' => languages_any l tv w' hw' hl hs)
  rw [hv] at HLA
  simp only [if_true] at HLA
  have HLE := hide (fun w' => languages_any [] (.slice none 0 0) w' ⟨none, 0, rfl, .inl rfl⟩ (by decide) (by intro t ht; cases ht))
  obtain ⟨A, c, rfl, _⟩ := ht
  obtain ⟨A2, c2, rfl, _⟩ := hvl
  have HLK := hide hlk
  have HN := hide hn
  clear hv hs hlk hn
  have dm := (blk1 hm).1
  go_enter Try.func18, Try.ntmps18
  go_wp2_with fail
  refine (HAV.out).mono ?_
  rintro _ w1 ⟨rfl, b1⟩
  have h21 := (h2.below ha).below b1
  have hm1 := blkB b1 hm
  have hb1 := bto ha b1
  obtain ⟨⟨d0, d1, d2, d3, d4, d5⟩, ⟨d6, d7, d8, d9, d10, d11⟩⟩ := h21.cells
  have dm1 := (blk1 hm1).1
  clear HAV dm hwa
  go_wp2_with fail
  refine wp_loop_rounds 3 ?_
  rw [rounds_succ]
  go_wp2_with fail
  obtain ⟨w2, hw2⟩ : ∃ w2, w1.alloc (.cells #[.string sN, .int .i64 1, .int .i64 0, .int .i64 0, .slice none 0 0, .slice A l.length c] 46) = w2 := ⟨_, rfl⟩
  rw [hw2]
  have b2 : Below w1.heap.size w1 w2 := by rw [← hw2]; exact (Below.refl _ _).alloc (Nat.le_refl _) _
  have q2 : w2.heap[w1.heap.size]? = some (.cells #[.string sN, .int .i64 1, .int .i64 0, .int .i64 0, .slice none 0 0, .slice A l.length c] 46 (0, 0)) := by rw [← hw2]; exact heap_alloc_new w1 _
  have hb2 := bto hb1 b2
  clear hw2 d0 d1 d2 d3 d4 d5 d6 d7 d8 d9 d10 d11 dm1
  refine (HLA.out w2 (HT.out.below hb2)).mono ?_
  rintro _ w3 ⟨v3, rfl, hv3, b3⟩
  obtain ⟨A3, c3, rfl, hc3, hp3⟩ := hv3
  have hv3 : StS w3 (.slice A3 ((namesL l).map langO).length c3) ((namesL l).map langO) := ⟨A3, c3, rfl, hc3, hp3⟩
  have hb3 := bto hb2 b3
  obtain ⟨w4, hw4⟩ : ∃ w4, w3.alloc (.cells #[.slice A3 ((namesL l).map langO).length c3] 31) = w4 := ⟨_, rfl⟩
  have b4 : Below w3.heap.size w3 w4 := by rw [← hw4]; exact (Below.refl _ _).alloc (Nat.le_refl _) _
  have q4 : Boxed w4 w3.heap.size 31 (.slice A3 ((namesL l).map langO).length c3) := by rw [← hw4]; exact Boxed.new w3 _ _
  have hb4 := bto hb3 b4
  have HCF := hide (containsf_any ((namesL l).map langO) L w3.heap.size _ (.slice A2 L.length c2) w4 q4.cell (hv3.below b4) (by rw [List.length_map]; exact Nat.le_trans (names_len l) hl) (HVL.out.below hb4) hL)
  rw [HLK.out] at HCF
  obtain ⟨m, hmm⟩ : ∃ m, ((namesL l).map langO).length = m := ⟨_, rfl⟩
  have hm0 : 0 < m := by rw [← hmm, List.length_map]; exact List.length_pos_iff.2 HN.out
  rw [hmm] at hw4 q4 ⊢
  have hm00 : (0 : Int) < m := by omega
  have f3 := q4.cell
  clear hp3 hc3 hv3 HLA
  have HB4 := hide hb4
  have e0 := cell_of_row w4 _ 0 _ _ _ (blkB (bto b3 b4) q2)
  have HDM := hide (blkB (bto (bto b2 b3) b4) hm1)
  have dm4 := (blk1 (blkB (bto (bto b2 b3) b4) hm1)).1
  obtain ⟨⟨d0, d1, d2, d3, d4, d5⟩, ⟨d6, d7, d8, d9, d10, d11⟩⟩ := (h21.below (bto (bto b2 b3) b4)).cells
  cases lk with
  | false =>
    go_wp2_with fail
    refine (HCF.out).mono ?_
    rintro _ w5 ⟨rfl, hw5⟩
    obtain rfl : w4 = w5 := hw5
    clear HCF hw4
    go_wp2_with fail
    rw [rounds_succ]
    go_wp2_with fail
    obtain ⟨w6, hw6⟩ : ∃ w6, w4.alloc (.cells #[.string sO, .int .i64 1, .int .i64 0, .int .i64 0, .slice none 0 0, .slice none 0 0] 46) = w6 := ⟨_, rfl⟩
    rw [hw6]
    have b6 : Below w4.heap.size w4 w6 := by rw [← hw6]; exact (Below.refl _ _).alloc (Nat.le_refl _) _
    have q6 : w6.heap[w4.heap.size]? = some (.cells #[.string sO, .int .i64 1, .int .i64 0, .int .i64 0, .slice none 0 0, .slice none 0 0] 46 (0, 0)) := by rw [← hw6]; exact heap_alloc_new w4 _
    clear hw6 d0 d1 d2 d3 d4 d5 d6 d7 d8 d9 d10 d11 dm4 e0
    refine (HLE.out w6).mono ?_
    rintro _ w7 ⟨v7, rfl, hv7, b7⟩
    obtain ⟨A7, c7, rfl, hc7, hp7⟩ := hv7
    have hv7 : StS w7 (.slice A7 0 c7) [] := ⟨A7, c7, rfl, Nat.zero_le _, .inl rfl⟩
    obtain ⟨w8, hw8⟩ : ∃ w8, w7.alloc (.cells #[.slice A7 0 c7] 31) = w8 := ⟨_, rfl⟩
    have b8 : Below w7.heap.size w7 w8 := by rw [← hw8]; exact (Below.refl _ _).alloc (Nat.le_refl _) _
    have q8 : Boxed w8 w7.heap.size 31 (.slice A7 0 c7) := by rw [← hw8]; exact Boxed.new w7 _ _
    have b68 := bto (bto b6 b7) b8
    have HB8 := hide (bto HB4.out b68)
    have HX := hide (containsf_any [] L w7.heap.size _ (.slice A2 L.length c2) w8 q8.cell (hv7.below b8) (by decide) (HVL.out.below HB8.out) hL)
    have hln : (if tagsB [] then (namesL []).map langO else ([] : List ByteArray)).length = 0 := rfl
    rw [hln]
    clear hln
    generalize lacksB [] L = X at *
    have f7 := q8.cell
    have dm8 := (blk1 (blkB b68 HDM.out)).1
    clear hp7 hc7 hv7 HLE
    go_wp2_with fail
    refine (HX.out).mono ?_
    rintro _ w5 ⟨rfl, hw5⟩
    obtain rfl : w8 = w5 := hw5
    have HB68 := hide b68
    clear HX hw8 b68 b6 b7 b8
    go_wp2_with fail
    rw [rounds_succ]
    go_wp2_with fail
    go_ret
    exact ⟨_, rfl, ⟨none, 0, rfl, Nat.le_refl _, .inl rfl⟩, HB8.out⟩
  | true =>
    obtain ⟨i0, hi, hz0, hz1, hz2⟩ := info_parts info_str
    have HI := hide hi; have HZ0 := hide hz0; have HZ1 := hide hz1; have HZ2 := hide hz2
    clear hi hz0 hz1 hz2
    go_wp2_with fail
    refine (HCF.out).mono ?_
    rintro _ w5 ⟨rfl, hw5⟩
    obtain rfl : w4 = w5 := hw5
    clear HCF hw4
    go_wp2_with (at_builtin; go_must (refine wpList_append_own _ rfl (.tmp 32) (.tmp 35) 31 rfl w.heap.size 9 i0 (.string ⟨#[]⟩) 1 16 Try.underlying31 HI.out HZ0.out HZ1.out HZ2.out rfl (by decide) (.slice none 0 0) 0 [] rfl (World.ownsRow_nil _ _ _ _) ⟨w4.heap.size, 0, none⟩ 1 1 [.string sN] rfl rfl (newB_cells w4 _ _) (one_str _) (by decide) (by decide) (HB4.out.alloc HB4.out.size _).size ?_))
    intro v' w9 hown' hgrow _
    obtain ⟨g9, cap9, rfl⟩ := ownsRow_succ hown'
    have b9 : Below w4.heap.size w4 w9 := ((Below.refl _ _).alloc (Nat.le_refl _) _).grown hgrow (by simp) (fun b hb => by cases hb)
    have hb9 := bto HB4.out b9
    have HS9 := hide (st_of_own (r := [sN]) hown')
    have dm9 := (blk1 (blkB b9 HDM.out)).1
    have HDM := hide (blkB b9 HDM.out)
    have h29 := (h21.below (bto (bto b2 b3) b4)).below b9
    clear d0 d1 d2 d3 d4 d5 d6 d7 d8 d9 d10 d11 dm4 e0 hown' hgrow
    obtain ⟨⟨d0, d1, d2, d3, d4, d5⟩, ⟨d6, d7, d8, d9, d10, d11⟩⟩ := h29.cells
    have dm4 := dm9
    have e0 := dm9
    clear dm9
    go_wp2_with fail
    rw [rounds_succ]
    go_wp2_with fail
    obtain ⟨w6, hw6⟩ : ∃ w6, w9.alloc (.cells #[.string sO, .int .i64 1, .int .i64 0, .int .i64 0, .slice none 0 0, .slice none 0 0] 46) = w6 := ⟨_, rfl⟩
    rw [hw6]
    have b6 : Below w9.heap.size w9 w6 := by rw [← hw6]; exact (Below.refl _ _).alloc (Nat.le_refl _) _
    have q6 : w6.heap[w9.heap.size]? = some (.cells #[.string sO, .int .i64 1, .int .i64 0, .int .i64 0, .slice none 0 0, .slice none 0 0] 46 (0, 0)) := by rw [← hw6]; exact heap_alloc_new w9 _
    clear hw6 d0 d1 d2 d3 d4 d5 d6 d7 d8 d9 d10 d11 dm4 e0
    refine (HLE.out w6).mono ?_
    rintro _ w7 ⟨v7, rfl, hv7, b7⟩
    obtain ⟨A7, c7, rfl, hc7, hp7⟩ := hv7
    have hv7 : StS w7 (.slice A7 0 c7) [] := ⟨A7, c7, rfl, Nat.zero_le _, .inl rfl⟩
    obtain ⟨w8, hw8⟩ : ∃ w8, w7.alloc (.cells #[.slice A7 0 c7] 31) = w8 := ⟨_, rfl⟩
    have b8 : Below w7.heap.size w7 w8 := by rw [← hw8]; exact (Below.refl _ _).alloc (Nat.le_refl _) _
    have q8 : Boxed w8 w7.heap.size 31 (.slice A7 0 c7) := by rw [← hw8]; exact Boxed.new w7 _ _
    have b68 := bto (bto b6 b7) b8
    have HB8 := hide (bto hb9 b68)
    have HX := hide (containsf_any [] L w7.heap.size _ (.slice A2 L.length c2) w8 q8.cell (hv7.below b8) (by decide) (HVL.out.below HB8.out) hL)
    have hln : (if tagsB [] then (namesL []).map langO else ([] : List ByteArray)).length = 0 := rfl
    rw [hln]
    clear hln
    generalize lacksB [] L = X at *
    have f7 := q8.cell
    have dm8 := (blk1 (blkB b68 HDM.out)).1
    clear hp7 hc7 hv7 HLE
    go_wp2_with fail
    refine (HX.out).mono ?_
    rintro _ w5 ⟨rfl, hw5⟩
    obtain rfl : w8 = w5 := hw5
    have HB68 := hide b68
    clear HX hw8 b68 b6 b7 b8
    go_wp2_with fail
    rw [rounds_succ]
    go_wp2_with fail
    go_ret
    exact ⟨_, rfl, HS9.out.below HB68.out, HB8.out⟩
end Go.Proofs.Ytjniicmhndflpaa
