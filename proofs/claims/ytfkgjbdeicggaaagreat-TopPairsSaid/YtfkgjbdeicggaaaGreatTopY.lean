/-
  The index, walked: New, Put.
-/
import Derived.Test.YtfkgjbdeicggaaaGreatTopQ
import Derived.Test.YtfkgjbdeicggaaaGreatTopP
import Derived.BigRegion
namespace Go.Proofs.YtfkgjbdeicggaaaGreat
open Go.RowKit Go.Proofs.PlLex Go.Proofs.PlNet Go.Proofs.PlMap Go.Proofs.PlGeom Go.Proofs.PlTop
attribute [local go_sem] Oper.semAt_some run_makeMap

theorem law_str : WideMaps.KeyLaw Tryz.prog 9 := WideMaps.string_law Tryz.underlying9
def bxV (b : Bx) : Value := .agg (bxC b)
/-- The boxes by their names. -/
def boxL (l : List (BA × Bx)) : List (BA × Value) := l.map fun x => (x.1, bxV x.2)
theorem boxL_get (l : List (BA × Bx)) (s : BA) (h : ∀ x ∈ l, x.1 ≠ s) : getL (boxL l) s = none := by
  rw [getL_none]
  rintro q hq rfl
  unfold boxL at hq
  obtain ⟨x, hx, rfl⟩ := List.mem_map.1 hq
  exact h x hx rfl
theorem boxL_put (l : List (BA × Bx)) (s : BA) (b : Bx) (h : ∀ x ∈ l, x.1 ≠ s) : putL (boxL l) s (bxV b) = boxL (l ++ [(s, b)]) := by
  unfold putL
  rw [boxL_get l s h]
  simp [boxL]
/-- An index in memory, which has not been packed. -/
structure IxU (W : World) (xa bm : Nat) (l : List (BA × Bx)) : Prop where
  box : W.heap[xa]? = some (.cells #[.map (some bm), .pointer none, .bool false] 148 (0, 0))
  map : MapS W bm (boxL l)
theorem IxU.below {W W' : World} {xa bm : Nat} {l : List (BA × Bx)} (h : IxU W xa bm l) (hb : Below W.heap.size W W') : IxU W' xa bm l := ⟨blkB hb h.box, h.map.kept (bgrow hb) (by simp)⟩
set_option maxRecDepth 100000 in
theorem new_any (w : World) : Calls Tryz.prog 20 #[] w fun e w' => ∃ xa bm, e = .returned (.pointer (some ⟨xa, 0, none⟩)) ∧ IxU w' xa bm [] ∧ Below w.heap.size w w' ∧ w.heap.size ≤ bm ∧ bm < xa := by
  go_enter Tryz.func20, Tryz.ntmps20
  go_wp2_with fail
  go_ret
  have hm : MapS (w.alloc (.map #[] 0)) w.heap.size [] := mapL_made _ w
  have h9 := heap_alloc_new (w.alloc (.map #[] 0)) (.cells #[.map (some w.heap.size), .pointer none, .bool false] 148)
  rw [World.size_alloc] at h9
  exact ⟨w.heap.size + 1, w.heap.size, rfl, ⟨h9, hm.alloc _⟩, ((Below.refl _ _).alloc (Nat.le_refl _) _).alloc (by simp) _, Nat.le_refl _, Nat.lt_succ_self _⟩
theorem zero_box (w : World) : (zeroValue 65).run Tryz.prog w = .ok (.agg #[.int .i64 0, .int .i64 0, .int .i64 0, .int .i64 0]) w := by kernel_rfl
set_option maxRecDepth 100000 in
set_option maxHeartbeats 8000000 in
theorem put_any (xa bm : Nat) (l : List (BA × Bx)) (id : BA) (b : Bx) (w : World) (h : IxU w xa bm l) (hid : ∀ x ∈ l, x.1 ≠ id) (hs : id.size ≤ 100000) (hb : okX b) (hl : l.length ≤ 1000) :
    Calls Tryz.prog 21 #[.pointer (some ⟨xa, 0, none⟩), .string id, .agg (bxC b)] w fun e w' => e = .returned (.int .i64 0) ∧ IxU w' xa bm (l ++ [(id, b)]) ∧ (∀ i, i < w.heap.size → i ≠ xa → i ≠ bm → w'.heap[i]? = w.heap[i]?) ∧ w.heap.size ≤ w'.heap.size ∧ w'.os = w.os ∧ w'.tape = w.tape ∧ w'.output = w.output := by
  obtain ⟨x0, y0, x1, y1⟩ := b
  unfold bxC
  unfold okX at hb
  simp only at hb ⊢
  obtain ⟨ha, hb2, hc, hd, he, hf⟩ := hb
  have hmx : id.size ≤ maxLen := Nat.le_trans hs (by unfold maxLen; omega)
  have k1 : ¬ x1 < x0 := by omega
  have k2 : ¬ y1 < y0 := by omega
  obtain ⟨w2, hw2⟩ : ∃ w2, (w.alloc (.cells #[.int .i64 x0, .int .i64 y0, .int .i64 x1, .int .i64 y1] 65)).alloc (.cells #[.int .i64 x0, .int .i64 y0, .int .i64 x1, .int .i64 y1] 3) = w2 := ⟨_, rfl⟩
  have h9 := heap_alloc_new (w.alloc (.cells #[.int .i64 x0, .int .i64 y0, .int .i64 x1, .int .i64 y1] 65)) (.cells #[.int .i64 x0, .int .i64 y0, .int .i64 x1, .int .i64 y1] 3)
  rw [World.size_alloc, hw2] at h9
  have HV := hide (valid_any (w.heap.size + 1) 4 [x0, y0, x1, y1] (fun n hn => by simp at hn; rcases hn with rfl | rfl | rfl | rfl <;> omega) (by simp) w2 (fun i n hi => by
    rcases i with _ | _ | _ | _ | i <;> simp at hi
    · rw [← hi]; exact cell_of_row _ _ 0 _ _ _ h9
    · rw [← hi]; exact cell_of_row _ _ 1 _ _ _ h9
    · rw [← hi]; exact cell_of_row _ _ 2 _ _ _ h9
    · rw [← hi]; exact cell_of_row _ _ 3 _ _ _ h9))
  have hbp : w2.heap[w.heap.size]? = some (.cells #[.int .i64 x0, .int .i64 y0, .int .i64 x1, .int .i64 y1] 65 (0, 0)) := by
    rw [← hw2]
    exact blkB ((Below.refl _ _).alloc (Nat.le_refl _) _) (heap_alloc_new w _)
  have HBP := hide hbp
  have e0 := cell_of_row _ _ 0 _ _ _ hbp
  have e1 := cell_of_row _ _ 1 _ _ _ hbp
  have e2 := cell_of_row _ _ 2 _ _ _ hbp
  have e3 := cell_of_row _ _ 3 _ _ _ hbp
  have hb2 : Below w.heap.size w w2 := by rw [← hw2]; exact ((Below.refl _ _).alloc (Nat.le_refl _) _).alloc (by simp) _
  have hh := h.below hb2
  obtain ⟨⟨c0, c1, c2⟩, _⟩ := blk3 hh.box
  have hlk := hh.map.look_ok Tryz.underlying145 zero_box (x := id) hmx
  rw [boxL_get l id hid] at hlk
  obtain ⟨w3, hw3⟩ : ∃ w3, w2.alloc (.cells #[.int .i64 0, .int .i64 0, .int .i64 0, .int .i64 0] 65) = w3 := ⟨_, rfl⟩
  have hb3 : Below w2.heap.size w2 w3 := by rw [← hw3]; exact (Below.refl _ _).alloc (Nat.le_refl _) _
  have hh3 := hh.below hb3
  obtain ⟨⟨g0, g1, g2⟩, g3⟩ := blk3 hh3.box
  have hln := fun ty => hh3.map.len Tryz.underlying145 ty
  have hbl : (boxL l).length = l.length := List.length_map ..
  rw [hbl] at hln
  have hbp3 := blkB hb3 HBP.out
  have HB3 := hide (bto hb2 hb3)
  have HH3 := hide hh3
  have HBP3 := hide hbp3
  have HBL := hide hbl
  have l1 : ¬ ((l.length : Nat) : Int) = 1000000 := by omega
  have l2 : (((l.length : Nat) : Int) == 1000000) = false := beq_eq_false_iff_ne.2 l1
  have HH := hide hh
  have HB2 := hide hb2
  have HW2 := hide hw2
  change (Instr.lookup 145 (.map (some bm)) (.string id) true).run _ _ = .ok (.tuple #[.agg #[.int .i64 0, .int .i64 0, .int .i64 0, .int .i64 0], .bool false]) _ at hlk
  subst hw3
  clear h9 hb2 hh h hbp hb3 hh3 hbp3 hbl
  go_enter Tryz.func21, Tryz.ntmps21
  go_wp2_with (go_at_call 69; refine HV.out.mono ?_; rintro _ _ ⟨rfl, rfl⟩)
  clear hw2 hlk hln
  have HWD := hide (HH3.out.below (below_drew _))
  have HBD := hide (blkB (below_drew _) HBP3.out)
  have HB4 := hide (bto HB3.out (below_drew _))
  refine wp_region_any (by kernel_rfl) ?_
  change wpAny _ _ _ _ _ _ _ (World.drew _)
  generalize World.drew _ = wd at *
  obtain ⟨st, w6, hme, hg6, hs6, _, hmb6, hback⟩ := HWD.out.map.entry law_str Tryz.underlying145 zero_box (by rw [HBL.out]; unfold maxLen; omega) (x := id) hmx
  rw [boxL_get l id hid] at hme
  change (Instr.mapEntry 145 (.map (some bm)) (.string id)).run _ _ = .ok (.tuple #[.agg #[.int .i64 0, .int .i64 0, .int .i64 0, .int .i64 0], .int .i64 (st : Int)]) _ at hme
  obtain ⟨w7, hst, hm7, hg7, hs7⟩ := hback w6 (bxV ⟨x0, y0, x1, y1⟩) rfl
  change (Instr.entryStore 145 (.map (some bm)) (.int .i64 (st : Int)) (.agg #[.int .i64 x0, .int .i64 y0, .int .i64 x1, .int .i64 y1])).run _ _ = .ok () _ at hst
  rw [boxL_put l id _ hid] at hm7
  have hmblk : ∃ es c, wd.heap[bm]? = some (.map es c) := map_blk HWD.out.map
  have hne1 : xa ≠ bm := fun e => by
    obtain ⟨es, c, hh⟩ := hmblk
    rw [← e, HWD.out.box] at hh
    cases hh
  have hne2 : w.heap.size ≠ bm := fun e => by
    obtain ⟨es, c, hh⟩ := hmblk
    rw [← e, HBD.out] at hh
    cases hh
  have hx6 := (hg6.block xa (lt_of_block HWD.out.box) (fun e => hne1 (Option.some.inj e))).trans HWD.out.box
  have hx7 := (hg7.block xa (lt_of_block hx6) (fun e => hne1 (Option.some.inj e))).trans hx6
  have hp6 := (hg6.block w.heap.size (lt_of_block HBD.out) (fun e => hne2 (Option.some.inj e))).trans HBD.out
  have hg67 := gby_trans hg6 hg7
  have hsx : w7.grownBy (w7.setCell ⟨xa, 2, none⟩ (.bool false)) (some xa) := ⟨rfl, rfl, rfl, by simp, fun k _ hne => Below.heap_setCell w7 ⟨xa, 2, none⟩ (.bool false) k (fun e => hne (by rw [e]))⟩
  have HFIN : Hid (IxU (w7.setCell ⟨xa, 2, none⟩ (.bool false)) xa bm (l ++ [(id, ⟨x0, y0, x1, y1⟩)]) ∧ (∀ i, i < w.heap.size → i ≠ xa → i ≠ bm → (w7.setCell ⟨xa, 2, none⟩ (.bool false)).heap[i]? = w.heap[i]?) ∧ w.heap.size ≤ (w7.setCell ⟨xa, 2, none⟩ (.bool false)).heap.size ∧ (w7.setCell ⟨xa, 2, none⟩ (.bool false)).os = w.os ∧ (w7.setCell ⟨xa, 2, none⟩ (.bool false)).tape = w.tape ∧ (w7.setCell ⟨xa, 2, none⟩ (.bool false)).output = w.output) := by
    refine hide ⟨⟨?_, hm7.kept hsx (fun e => hne1 (Option.some.inj e).symm)⟩, fun i hi h1 h2 => ?_, ?_, ?_, hg67.tape.trans HB4.out.tape, hg67.output.trans HB4.out.output⟩
    · rw [Sort.setCell_eq]
      simp [Sort.mapBlock, Array.getElem?_modify, hx7, Sort.onCells]
    · have i4 : i < wd.heap.size := Nat.lt_of_lt_of_le hi HB4.out.size
      have i7 : i < w7.heap.size := Nat.lt_of_lt_of_le i4 hg67.size
      exact ((hsx.block i i7 (fun e => h1 (Option.some.inj e))).trans (hg67.block i i4 (fun e => h2 (Option.some.inj e)))).trans (HB4.out.block i hi)
    · simp
      exact Nat.le_trans HB4.out.size hg67.size
    · exact hg67.os.trans HB4.out.os
  obtain ⟨⟨p0, p1, p2⟩, pf0, pf1, pf2⟩ := blk3 HWD.out.box
  obtain ⟨⟨r0, r1, r2⟩, rf0, rf1, rf2⟩ := blk3 hx7
  have b0 := cell_of_row _ _ 0 _ _ _ HBD.out
  have b1 := cell_of_row _ _ 1 _ _ _ HBD.out
  have b2 := cell_of_row _ _ 2 _ _ _ HBD.out
  have b3 := cell_of_row _ _ 3 _ _ _ HBD.out
  have d0 := cell_of_row _ _ 0 _ _ _ hp6
  have d1 := cell_of_row _ _ 1 _ _ _ hp6
  have d2 := cell_of_row _ _ 2 _ _ _ hp6
  have d3 := cell_of_row _ _ 3 _ _ _ hp6
  clear hback hmb6 hm7 hmblk hx6 hx7 hp6 hsx hg67 hg6 hg7 hs6 hs7 g0 g1 g2 g3 c0 c1 c2 e0 e1 e2 e3
  simp only [List.size_toArray, List.length_cons, List.length_nil, Nat.reduceAdd]
  refine wpAny_take (i := 0) (v := .pointer (some ⟨xa, 0, none⟩)) rfl (by kernel_rfl) (by kernel_rfl) (by kernel_rfl) (fun _ _ _ h => h) (.inl ⟨by kernel_rfl, fun w => rfl⟩) ?_
  refine wpAny_take (i := 1) (v := .pointer (some ⟨xa, 0, none⟩)) rfl (by kernel_rfl) (by kernel_rfl) (by kernel_rfl) (fun _ _ _ h => h) (.inl ⟨by kernel_rfl, fun w => by go_simp⟩) ?_
  refine wpAny_take (i := 2) (v := .pointer (some ⟨xa, 0, none⟩)) rfl (by kernel_rfl) (by kernel_rfl) (by kernel_rfl) (fun _ _ _ h => h) (.inl ⟨by kernel_rfl, fun w => by go_simp⟩) ?_
  refine wpAny_take (i := 4) (v := .string id) rfl (by kernel_rfl) (by kernel_rfl) (by kernel_rfl) (fun _ _ _ h => h) (.inl ⟨by kernel_rfl, fun w => rfl⟩) ?_
  refine wpAny_take (i := 5) (v := .pointer (some ⟨xa, 0, none⟩)) rfl (by kernel_rfl) (by kernel_rfl) (by kernel_rfl) (fun _ _ _ h => h) (.inl ⟨by kernel_rfl, fun w => rfl⟩) ?_
  refine wpAny_ready (rs := [3, 6]) (by kernel_rfl) (by simp) ?_
  refine AllReady.cons rfl (fun K' hK => ?_) (AllReady.cons rfl (fun K' hK => ?_) AllReady.nil)
  · rw [if_pos (by kernel_rfl)]
    go_simp
    refine hK _ _ ?_
    refine wpAny_ready (rs := [6, 7]) (by kernel_rfl) (by simp) ?_
    refine AllReady.cons rfl (fun K' hK => ?_) (AllReady.cons rfl (fun K' hK => ?_) AllReady.nil)
    · rw [if_pos (by kernel_rfl)]
      go_simp
      refine hK _ _ ?_
      refine wpAny_ready (rs := [7]) (by kernel_rfl) (by simp) ?_
      refine AllReady.cons rfl (fun K' hK => ?_) AllReady.nil
      rw [if_pos (by kernel_rfl)]
      go_simp
      refine hK _ _ ?_
      refine wpAny_take (i := 8) (v := .int .i64 (st : Int)) rfl (by kernel_rfl) (by kernel_rfl) (by kernel_rfl) (fun _ _ _ h => h) (.inl ⟨by kernel_rfl, fun w => by go_simp⟩) ?_
      refine wpAny_ready (rs := [9]) (by kernel_rfl) (by simp) ?_
      refine AllReady.cons rfl (fun K' hK => ?_) AllReady.nil
      rw [if_pos (by kernel_rfl)]
      go_simp
      refine hK _ _ ?_
      refine wpAny_take (i := 10) (v := .pointer (some ⟨xa, 0, none⟩)) rfl (by kernel_rfl) (by kernel_rfl) (by kernel_rfl) (fun _ _ _ h => h) (.inl ⟨by kernel_rfl, fun w => by go_simp⟩) ?_
      refine wpAny_take (i := 11) (v := .pointer (some ⟨xa, 2, none⟩)) rfl (by kernel_rfl) (by kernel_rfl) (by kernel_rfl) (fun _ _ _ h => h) (.inl ⟨by kernel_rfl, fun w => by go_simp⟩) ?_
      refine wpAny_ready (rs := [12]) (by kernel_rfl) (by simp) ?_
      refine AllReady.cons rfl (fun K' hK => ?_) AllReady.nil
      rw [if_pos (by kernel_rfl)]
      go_simp
      refine hK _ _ ?_
      refine wpAny_done (by kernel_rfl) ?_ _
      go_wp2_with fail
      go_ret
      exact ⟨rfl, HFIN.out⟩
    · rw [if_pos (by kernel_rfl)]
      go_simp
      refine hK _ _ ?_
      refine wpAny_take (i := 8) (v := .int .i64 (st : Int)) rfl (by kernel_rfl) (by kernel_rfl) (by kernel_rfl) (fun _ _ _ h => h) (.inl ⟨by kernel_rfl, fun w => by go_simp⟩) ?_
      refine wpAny_ready (rs := [6]) (by kernel_rfl) (by simp) ?_
      refine AllReady.cons rfl (fun K' hK => ?_) AllReady.nil
      rw [if_pos (by kernel_rfl)]
      go_simp
      refine hK _ _ ?_
      refine wpAny_ready (rs := [9]) (by kernel_rfl) (by simp) ?_
      refine AllReady.cons rfl (fun K' hK => ?_) AllReady.nil
      rw [if_pos (by kernel_rfl)]
      go_simp
      refine hK _ _ ?_
      refine wpAny_take (i := 10) (v := .pointer (some ⟨xa, 0, none⟩)) rfl (by kernel_rfl) (by kernel_rfl) (by kernel_rfl) (fun _ _ _ h => h) (.inl ⟨by kernel_rfl, fun w => by go_simp⟩) ?_
      refine wpAny_take (i := 11) (v := .pointer (some ⟨xa, 2, none⟩)) rfl (by kernel_rfl) (by kernel_rfl) (by kernel_rfl) (fun _ _ _ h => h) (.inl ⟨by kernel_rfl, fun w => by go_simp⟩) ?_
      refine wpAny_ready (rs := [12]) (by kernel_rfl) (by simp) ?_
      refine AllReady.cons rfl (fun K' hK => ?_) AllReady.nil
      rw [if_pos (by kernel_rfl)]
      go_simp
      refine hK _ _ ?_
      refine wpAny_done (by kernel_rfl) ?_ _
      go_wp2_with fail
      go_ret
      exact ⟨rfl, HFIN.out⟩
  · rw [if_pos (by kernel_rfl)]
    go_simp
    refine hK _ _ ?_
    refine wpAny_ready (rs := [3]) (by kernel_rfl) (by simp) ?_
    refine AllReady.cons rfl (fun K' hK => ?_) AllReady.nil
    rw [if_pos (by kernel_rfl)]
    go_simp
    refine hK _ _ ?_
    refine wpAny_ready (rs := [7]) (by kernel_rfl) (by simp) ?_
    refine AllReady.cons rfl (fun K' hK => ?_) AllReady.nil
    rw [if_pos (by kernel_rfl)]
    go_simp
    refine hK _ _ ?_
    refine wpAny_take (i := 8) (v := .int .i64 (st : Int)) rfl (by kernel_rfl) (by kernel_rfl) (by kernel_rfl) (fun _ _ _ h => h) (.inl ⟨by kernel_rfl, fun w => by go_simp⟩) ?_
    refine wpAny_ready (rs := [9]) (by kernel_rfl) (by simp) ?_
    refine AllReady.cons rfl (fun K' hK => ?_) AllReady.nil
    rw [if_pos (by kernel_rfl)]
    go_simp
    refine hK _ _ ?_
    refine wpAny_take (i := 10) (v := .pointer (some ⟨xa, 0, none⟩)) rfl (by kernel_rfl) (by kernel_rfl) (by kernel_rfl) (fun _ _ _ h => h) (.inl ⟨by kernel_rfl, fun w => by go_simp⟩) ?_
    refine wpAny_take (i := 11) (v := .pointer (some ⟨xa, 2, none⟩)) rfl (by kernel_rfl) (by kernel_rfl) (by kernel_rfl) (fun _ _ _ h => h) (.inl ⟨by kernel_rfl, fun w => by go_simp⟩) ?_
    refine wpAny_ready (rs := [12]) (by kernel_rfl) (by simp) ?_
    refine AllReady.cons rfl (fun K' hK => ?_) AllReady.nil
    rw [if_pos (by kernel_rfl)]
    go_simp
    refine hK _ _ ?_
    refine wpAny_done (by kernel_rfl) ?_ _
    go_wp2_with fail
    go_ret
    exact ⟨rfl, HFIN.out⟩
end Go.Proofs.YtfkgjbdeicggaaaGreat
