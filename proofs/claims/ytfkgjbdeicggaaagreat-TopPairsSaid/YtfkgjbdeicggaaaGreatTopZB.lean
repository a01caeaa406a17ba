/-
  The index, walked: In.
-/
import Derived.Test.YtfkgjbdeicggaaaGreatTopZA
namespace Go.Proofs.YtfkgjbdeicggaaaGreat
open Go.RowKit Go.Proofs.PlLex Go.Proofs.PlNet Go.Proofs.PlMap Go.Proofs.PlGeom Go.Proofs.PlTop
attribute [local go_sem] Oper.semAt_some

def strB (l : List UInt8) : BA := ⟨l.toArray⟩
theorem enc_strs (H : List BA) : (H.map (fun s => s.data.toList)).map Go.Proofs.encStr = H.map Value.string := by
  rw [List.map_map]
  exact List.map_congr_left (fun s _ => by cases s; simp [Go.Proofs.encStr])
theorem strB_map (L : List (List UInt8)) : L.map Go.Proofs.encStr = (L.map strB).map Value.string := by
  rw [List.map_map]
  rfl
theorem strB_back (H : List BA) : (H.map (fun s => s.data.toList)).map strB = H := by
  rw [List.map_map]
  conv => rhs; rw [← List.map_id H]
  exact List.map_congr_left (fun s _ => by cases s; simp [strB])
/-- A row of texts is sorted. -/
theorem sort_strs (B : Nat) (ov : Value) (H : List BA) (W : World) (h : W.ownsRow B 9 1 ov H.length (H.map .string)) (hl : H.length ≤ 1000000) :
    Calls Tryz.prog 73 #[ov] W fun e w' => e = .returned (.tuple #[]) ∧ ∃ S : List BA, S.Perm H ∧ w'.ownsRow B 9 1 ov S.length (S.map .string) ∧ W.grownBy w' ov.ownBlock := by
  by_cases h0 : H.length = 0
  · obtain rfl : H = [] := List.eq_nil_of_length_eq_zero h0
    rcases h.2 with ⟨rfl, _⟩ | ⟨g, cap, cur, rfl, _⟩
    · refine (Tryz.slices_Sort_string_none _ _ W).mono ?_
      rintro _ _ ⟨rfl, rfl⟩
      exact ⟨rfl, [], .refl _, h, World.grownBy.refl _ _⟩
    · refine (Tryz.slices_Sort_string_none _ _ W).mono ?_
      rintro _ _ ⟨rfl, rfl⟩
      exact ⟨rfl, [], .refl _, h, World.grownBy.refl _ _⟩
  · obtain ⟨g, cap, rfl, hc⟩ := row_at h (by omega)
    have hm : (H.map Value.string).length = H.length := List.length_map ..
    obtain ⟨hg, hH, hw⟩ := sort_part (enc := Go.Proofs.encStr) (o := 0) (H.map (fun s => s.data.toList)).toArray (cap := cap) (by rw [hm]; exact h) (by simp) (by
      rw [List.toList_toArray, enc_strs]
      unfold subL
      rw [List.drop_zero]
      exact List.take_of_length_le (by simp))
    have hc2 := Tryz.slices_Sort_string g 0 cap (H.map (fun s => s.data.toList)) W hH hg (by rw [List.length_map]; omega)
    rw [List.length_map] at hc2
    refine hc2.mono ?_
    rintro e w' ⟨rfl, n, os, rfl⟩
    have hp := List.mergeSort_perm (H.map (fun s => s.data.toList)) (fun x y => decide (x ≤ y))
    have hlen := hp.length_eq
    obtain ⟨h1, h2⟩ := hw (((H.map (fun s => s.data.toList)).mergeSort (fun x y => decide (x ≤ y))).toArray) n os (by simp)
    have hpm : (((H.map (fun s => s.data.toList)).mergeSort (fun x y => decide (x ≤ y))).map strB).Perm H := by
      have := hp.map strB
      rw [strB_back] at this
      exact this
    refine ⟨rfl, _, hpm, ?_, h2⟩
    have hl2 := hpm.length_eq
    rw [hm, List.toList_toArray, strB_map] at h1
    rw [hl2]
    have e1 : putS (H.map Value.string) 0 ((((H.map (fun s => s.data.toList)).mergeSort (fun x y => decide (x ≤ y))).map strB).map Value.string) = ((((H.map (fun s => s.data.toList)).mergeSort (fun x y => decide (x ≤ y))).map strB).map Value.string) := by
      unfold putS
      rw [List.take_zero, List.nil_append, List.drop_eq_nil_of_le (by rw [List.length_map, List.length_map, Nat.zero_add, List.length_map]; rw [List.length_map] at hl2; omega), List.append_nil]
    rw [e1] at h1
    exact h1
/-- An index in memory. -/
def IxR (W : World) (xa bm : Nat) (l : List (BA × Bx)) : Prop := IxU W xa bm l ∨ ∃ d g bx ls, IxAt W xa bm l d g bx ls
theorem IxR.below {W W' : World} {xa bm : Nat} {l : List (BA × Bx)} (h : IxR W xa bm l) (hb : Below W.heap.size W W') : IxR W' xa bm l := by
  rcases h with h | ⟨d, g, bx, ls, h⟩
  · exact .inl (h.below hb)
  · exact .inr ⟨d, g, bx, ls, h.below hb⟩
theorem IxR.lt {W : World} {xa bm : Nat} {l : List (BA × Bx)} (h : IxR W xa bm l) : xa < W.heap.size := by
  rcases h with h | ⟨d, g, bx, ls, h⟩
  · exact lt_of_block h.box
  · exact lt_of_block h.box
theorem tree_both (xa bm : Nat) (l : List (BA × Bx)) (w : World) (h : IxR w xa bm l) (hl0 : 1 ≤ l.length) (hl : l.length ≤ 1000) (hnd : (l.map Prod.fst).Nodup) (hok : ∀ x ∈ l, okX x.2) (hsz : ∀ x ∈ l, x.1.size ≤ 100000) :
    Calls Tryz.prog 72 #[.pointer (some ⟨xa, 0, none⟩)] w fun e w' => ∃ d g bx ls, e = .returned (.pointer (some ⟨g, 0, none⟩)) ∧ IxAt w' xa bm l d g bx ls ∧ w.grownBy w' (some xa) := by
  rcases h with h | ⟨d, g, bx, ls, h⟩
  · exact tree_any xa bm l w h hl0 hl hnd hok hsz
  · refine (tree_two xa bm l d g bx ls w h).mono ?_
    rintro e w' ⟨rfl, rfl⟩
    exact ⟨d, g, bx, ls, rfl, h, World.grownBy.refl _ _⟩
theorem own_lower {W : World} {B B' sz n : Nat} {t : TypeId} {v : Value} {xs : List Value} (h : W.ownsRow B t sz v n xs) (hb : B' ≤ B) : W.ownsRow B' t sz v n xs := by
  obtain ⟨h1, h2⟩ := h
  refine ⟨h1, ?_⟩
  rcases h2 with h2 | ⟨g, cap, cur, hv, hB, hr⟩
  · exact .inl h2
  · exact .inr ⟨g, cap, cur, hv, Nat.le_trans hb hB, hr⟩
/-- The tree has been packed, the walk begins. -/
theorem in_walk {w wd wt : World} {q : Bx} {xa bm d g : Nat} {bx : Bx} {ls : List Lf} {l : List (BA × Bx)} {Bb Bo Bw : Nat} (hxa : xa < w.heap.size) (h1 : w.heap.size ≤ Bb) (h2 : Bb < Bo) (h3 : Bo < Bw) (b1 : wd.heap[Bb]? = some (.cells (bxC q) 65 (0, 0))) (b2 : wd.heap[Bo]? = some (.cells #[.slice none 0 0] 39 (0, 0))) (b3 : wd.heap[Bw]? = some (.cells #[walkV Bb Bo Bw] 151 (0, 0))) (hat : IxAt wt xa bm l d g bx ls) (hgt : wd.grownBy wt (some xa)) :
    WkI wt q Bb Bo Bw [] wt ∧ NodeAt wt (fun b => b = Bo) d g bx ls ∧ wt.cell? ⟨Bw, 0, none⟩ = some (walkV Bb Bo Bw) := by
  have key : ∀ {b : Nat} {cs : Array Value} {t : TypeId}, w.heap.size ≤ b → wd.heap[b]? = some (.cells cs t (0, 0)) → wt.heap[b]? = some (.cells cs t (0, 0)) := fun {b cs t} hb hh => (hgt.block b (lt_of_block hh) (fun e => by have := Option.some.inj e; omega)).trans hh
  have k1 := key h1 b1
  have k2 := key (by omega) b2
  have k3 := key (by omega) b3
  refine ⟨⟨World.grownBy.refl _ _, k1, k3, ⟨_, k2, World.ownsRow_nil _ _ _ _⟩, lt_of_block k1, lt_of_block k2, lt_of_block k3, by omega, by omega⟩, ?_, cell_of_row _ _ 0 _ _ _ k3⟩
  exact (NodeAt.avoid (B := Bo) (cell_of_row wt _ 0 _ _ _ k2) (fun a e => by cases e) (fun cs f e => by rw [k2] at e; cases e) hat.node).more (fun b _ e => .inr e)
/-- The walk has ended, what it found has been sorted. -/
theorem in_end {w wd wt w9 wz : World} {q : Bx} {xa bm d g : Nat} {bx : Bx} {ls : List Lf} {l : List (BA × Bx)} {Bb Bo Bw : Nat} {ov : Value} {H S : List BA} (hxa : xa < w.heap.size) (h2 : w.heap.size ≤ Bo) (hbd : Below w.heap.size w wd) (hat : IxAt wt xa bm l d g bx ls) (hn : NodeAt wt (fun b => b = Bo) d g bx ls) (hgt : wd.grownBy wt (some xa)) (hk : WkI wt q Bb Bo Bw H w9) (ho1 : w9.heap[Bo]? = some (.cells #[ov] 39 (0, 0))) (ho2 : w9.ownsRow wt.heap.size 9 1 ov H.length (H.map .string)) (hr : wz.ownsRow wt.heap.size 9 1 ov S.length (S.map .string)) (hg : w9.grownBy wz ov.ownBlock) :
    wz.ownsRow w.heap.size 9 1 ov S.length (S.map .string) ∧ IxR wz xa bm l ∧ w.grownBy wz (some xa) ∧ wz.cell? ⟨Bo, 0, none⟩ = some ov := by
  have hsz : w.heap.size ≤ wt.heap.size := Nat.le_trans hbd.size hgt.size
  have hrow : ∀ {b : Nat}, ov.ownBlock = some b → wt.heap.size ≤ b := fun e => (own_base ho2 e).1
  have hbo := hk.lt.2.1
  refine ⟨own_lower hr hsz, .inr ⟨d, g, bx, ls, ?_, ?_, hat.perm⟩, ⟨?_, ?_, ?_, ?_, fun i hi hne => ?_⟩, ?_⟩
  · have h1 := lt_of_block hat.box
    have h3 := hk.gr.size
    exact ((hg.block xa (by omega) (fun e => by have := hrow e.symm; omega)).trans (hk.gr.block xa h1 (fun e => by have := Option.some.inj e; omega))).trans hat.box
  · have k1 := hn.more (Y := fun b => b = Bo ∨ ov.ownBlock = some b) (fun b hb hY => hY.elim id (fun e => by have := hrow e; omega))
    exact ((k1.kept hk.gr (fun r e => .inl (Option.some.inj e).symm)).kept hg (fun r e => .inr e)).more (fun b _ h => h.elim)
  · exact ((hg.os.trans hk.gr.os).trans hgt.os).trans hbd.os
  · exact ((hg.tape.trans hk.gr.tape).trans hgt.tape).trans hbd.tape
  · exact ((hg.output.trans hk.gr.output).trans hgt.output).trans hbd.output
  · exact Nat.le_trans hsz (Nat.le_trans hk.gr.size hg.size)
  · have i1 : i < wd.heap.size := Nat.lt_of_lt_of_le hi hbd.size
    have i2 : i < wt.heap.size := Nat.lt_of_lt_of_le i1 hgt.size
    have i3 : i < w9.heap.size := Nat.lt_of_lt_of_le i2 hk.gr.size
    exact (((hg.block i i3 (fun e => by have := hrow e.symm; omega)).trans (hk.gr.block i i2 (fun e => by have := Option.some.inj e; omega))).trans (hgt.block i i1 hne)).trans (hbd.block i hi)
  · exact cell_of_row _ _ 0 _ _ _ ((hg.block Bo (lt_of_block ho1) (fun e => by have := hrow e.symm; omega)).trans ho1)
set_option maxRecDepth 100000 in
set_option maxHeartbeats 8000000 in
theorem in_any (q : Bx) (hq : okX q) (xa bm : Nat) (l : List (BA × Bx)) (w : World) (h : IxR w xa bm l) (hl0 : 1 ≤ l.length) (hl : l.length ≤ 1000) (hnd : (l.map Prod.fst).Nodup) (hok : ∀ x ∈ l, okX x.2) (hsz : ∀ x ∈ l, x.1.size ≤ 100000) :
    Calls Tryz.prog 24 #[.pointer (some ⟨xa, 0, none⟩), .agg (bxC q)] w fun e w' => ∃ (v : Value) (S : List BA), e = .returned v ∧ w'.ownsRow w.heap.size 9 1 v S.length (S.map .string) ∧ S.Perm (hitL q (l.map fun x => (x.2, x.1))) ∧ IxR w' xa bm l ∧ w.grownBy w' (some xa) := by
  obtain ⟨x0, y0, x1, y1⟩ := q
  unfold bxC
  have HQ := hide hq
  unfold okX at hq
  simp only at hq ⊢
  obtain ⟨ha, hb2, hc, hd, he, hf⟩ := hq
  have k1 : ¬ x1 < x0 := by omega
  have k2 : ¬ y1 < y0 := by omega
  obtain ⟨w1, hw1⟩ : ∃ w1, w.alloc (.cells #[.int .i64 x0, .int .i64 y0, .int .i64 x1, .int .i64 y1] 65) = w1 := ⟨_, rfl⟩
  obtain ⟨w2, hw2⟩ : ∃ w2, w1.alloc (.cells #[.int .i64 x0, .int .i64 y0, .int .i64 x1, .int .i64 y1] 3) = w2 := ⟨_, rfl⟩
  have hb1 : Below w.heap.size w w1 := by rw [← hw1]; exact (Below.refl _ _).alloc (Nat.le_refl _) _
  have hb2 : Below w1.heap.size w1 w2 := by rw [← hw2]; exact (Below.refl _ _).alloc (Nat.le_refl _) _
  have hx1 : w1.heap[w.heap.size]? = some (.cells #[.int .i64 x0, .int .i64 y0, .int .i64 x1, .int .i64 y1] 65 (0, 0)) := by rw [← hw1]; exact heap_alloc_new _ _
  have hx2 : w2.heap[w1.heap.size]? = some (.cells #[.int .i64 x0, .int .i64 y0, .int .i64 x1, .int .i64 y1] 3 (0, 0)) := by rw [← hw2]; exact heap_alloc_new _ _
  have HV := hide (valid_any w1.heap.size 4 [x0, y0, x1, y1] (fun n hn => by simp at hn; rcases hn with rfl | rfl | rfl | rfl <;> omega) (by simp) w2 (fun i n hi => by
    rcases i with _ | _ | _ | _ | i <;> simp at hi
    · rw [← hi]; exact cell_of_row _ _ 0 _ _ _ hx2
    · rw [← hi]; exact cell_of_row _ _ 1 _ _ _ hx2
    · rw [← hi]; exact cell_of_row _ _ 2 _ _ _ hx2
    · rw [← hi]; exact cell_of_row _ _ 3 _ _ _ hx2))
  have e0 := cell_of_row _ _ 0 _ _ _ hx1
  have e1 := cell_of_row _ _ 1 _ _ _ hx1
  have e2 := cell_of_row _ _ 2 _ _ _ hx1
  have e3 := cell_of_row _ _ 3 _ _ _ hx1
  have hx12 := blkB hb2 hx1
  have d0 := cell_of_row _ _ 0 _ _ _ hx12
  have d1 := cell_of_row _ _ 1 _ _ _ hx12
  have d2 := cell_of_row _ _ 2 _ _ _ hx12
  have d3 := cell_of_row _ _ 3 _ _ _ hx12
  have hmf : ∀ (fn : Fn) (first cap : Array Value) (w : World), (Instr.makeFunc fn first cap).run Tryz.prog w = .ok (.func fn first cap) w := fun _ _ _ _ => rfl
  have HB := hide (bto hb1 hb2)
  have HX := hide hx12
  have HH := hide h
  clear hb1 hb2 hx1 hx2 hx12 h
  go_enter Tryz.func24, Tryz.ntmps24
  go_upto_region 6 with (go_at_call 69; refine HV.out.mono ?_; rintro _ _ ⟨rfl, rfl⟩)
  have hmx : Tryz.prog.follows .mixedOrders = true := by kernel_rfl
  have hO := heap_alloc_new w2 (.cells #[.slice none 0 0] 39)
  have hW := heap_alloc_new (w2.alloc (.cells #[.slice none 0 0] 39)) (.cells #[walkV w.heap.size w2.heap.size (w2.heap.size + 1)] 151)
  rw [World.size_alloc] at hW
  unfold walkV at hW
  have hb3 : Below w2.heap.size w2 (w2.alloc (.cells #[.slice none 0 0] 39)) := (Below.refl _ _).alloc (Nat.le_refl _) _
  have hb4 := (Below.refl _ (w2.alloc (.cells #[.slice none 0 0] 39))).alloc (Nat.le_refl _) (.cells #[.func (Fn.func 70) #[] #[.pointer (some ⟨w.heap.size, 0, none⟩), .pointer (some ⟨w2.heap.size, 0, none⟩), .pointer (some ⟨w2.heap.size + 1, 0, none⟩)]] 151)
  refine wp_region_any hmx ?_
  change wpAny _ _ _ _ _ _ _ (World.drew _)
  have hb5 := bto hb4 (below_drew _)
  have HOD := hide (blkB hb5 hO)
  have HWD := hide (blkB (below_drew _) hW)
  have HXD := hide (blkB (bto hb3 hb5) HX.out)
  have HBD := hide (bto HB.out (bto hb3 hb5))
  have HBO : Hid (w.heap.size < w2.heap.size) := hide (lt_of_block HX.out)
  have HBL := hide (Nat.le_of_lt HBO.out)
  have HXA := hide HH.out.lt
  clear hO hW hb3 hb4 hb5 e0 e1 e2 e3 d0 d1 d2 d3 hmf HV HB HX
  generalize World.drew _ = wd at *
  have HTR := hide (tree_both xa bm l wd (HH.out.below HBD.out) hl0 hl hnd hok hsz)
  have e6 := cell_of_row _ _ 0 _ _ _ HWD.out
  simp only [List.size_toArray, List.length_cons, List.length_nil, Nat.reduceAdd]
  refine wpAny_take (i := 1) (v := .pointer (some ⟨xa, 0, none⟩)) rfl (by kernel_rfl) (by kernel_rfl) (by kernel_rfl) (fun _ _ _ h => h) (.inl ⟨by kernel_rfl, fun w => rfl⟩) ?_
  refine wpAny_ready (rs := [0, 2]) (by kernel_rfl) (by simp) ?_
  refine AllReady.cons rfl (fun K' hK => ?_) (AllReady.cons rfl (fun K' hK => ?_) (AllReady.nil))
  · rw [if_pos (by kernel_rfl)]
    go_simp
    refine hK _ _ ?_
    refine wpAny_ready (rs := [2]) (by kernel_rfl) (by simp) ?_
    refine AllReady.cons rfl (fun K' hK => ?_) (AllReady.nil)
    rw [if_pos (by kernel_rfl)]
    go_simp
    go_at_call 72
    refine HTR.out.mono ?_
    rintro _ wt ⟨d, g, bx, ls, rfl, hat, hgt⟩
    obtain ⟨hk0, hn0, e7⟩ := in_walk (q := ⟨x0, y0, x1, y1⟩) HXA.out (Nat.le_refl _) HBO.out (Nat.lt_succ_self _) HXD.out HOD.out HWD.out hat hgt
    have HWA := hide (walk_any ⟨x0, y0, x1, y1⟩ w.heap.size w2.heap.size (w2.heap.size + 1) wt d g bx ls [] wt hn0 hk0 (by rw [hat.perm.length_eq, List.length_map]; simp; omega))
    have HAT := hide hat
    have HN0 := hide hn0
    have HGT := hide hgt
    unfold walkV at e7
    clear hat hn0 hgt hk0
    refine hK _ _ ?_
    refine wpAny_ready (rs := [3]) (by kernel_rfl) (by simp) ?_
    refine AllReady.cons rfl (fun K' hK => ?_) (AllReady.nil)
    rw [if_pos (by kernel_rfl)]
    go_simp
    go_at_call 70
    refine HWA.out.mono ?_
    rintro _ w9 ⟨rfl, hk9⟩
    rw [List.nil_append] at hk9
    obtain ⟨ov, ho1, ho2⟩ := hk9.out
    refine hK _ _ ?_
    refine wpAny_done (by kernel_rfl) ?_ _
    have e8 := cell_of_row _ _ 0 _ _ _ ho1
    have HSR := hide (sort_strs _ ov _ w9 ho2 (by have := hit_len ⟨x0, y0, x1, y1⟩ ls; rw [HAT.out.perm.length_eq, List.length_map] at this; omega))
    have HO1 := hide ho1
    have HO2 := hide ho2
    have HK9 := hide hk9
    clear ho1 ho2 hk9 e7 e6 HWA HTR
    go_simp
    go_wp2_with (go_at_call 73; refine HSR.out.mono ?_; rintro _ wz ⟨rfl, S, hp, hr, hg⟩; obtain ⟨z1, z2, z3, z4⟩ := in_end HXA.out HBL.out HBD.out HAT.out HN0.out HGT.out HK9.out HO1.out HO2.out hr hg; have HP := hide hp; have Z1 := hide z1; have Z2 := hide z2; have Z3 := hide z3; clear hp hr hg z1 z2 z3 e8)
    go_ret
    exact ⟨ov, S, rfl, Z1.out, HP.out.trans (by unfold hitL; exact (HAT.out.perm.filter _).map _), Z2.out, Z3.out⟩
  · rw [if_pos (by kernel_rfl)]
    go_simp
    go_at_call 72
    refine HTR.out.mono ?_
    rintro _ wt ⟨d, g, bx, ls, rfl, hat, hgt⟩
    obtain ⟨hk0, hn0, e7⟩ := in_walk (q := ⟨x0, y0, x1, y1⟩) HXA.out (Nat.le_refl _) HBO.out (Nat.lt_succ_self _) HXD.out HOD.out HWD.out hat hgt
    have HWA := hide (walk_any ⟨x0, y0, x1, y1⟩ w.heap.size w2.heap.size (w2.heap.size + 1) wt d g bx ls [] wt hn0 hk0 (by rw [hat.perm.length_eq, List.length_map]; simp; omega))
    have HAT := hide hat
    have HN0 := hide hn0
    have HGT := hide hgt
    unfold walkV at e7
    clear hat hn0 hgt hk0
    refine hK _ _ ?_
    refine wpAny_ready (rs := [0]) (by kernel_rfl) (by simp) ?_
    refine AllReady.cons rfl (fun K' hK => ?_) (AllReady.nil)
    rw [if_pos (by kernel_rfl)]
    go_simp
    refine hK _ _ ?_
    refine wpAny_ready (rs := [3]) (by kernel_rfl) (by simp) ?_
    refine AllReady.cons rfl (fun K' hK => ?_) (AllReady.nil)
    rw [if_pos (by kernel_rfl)]
    go_simp
    go_at_call 70
    refine HWA.out.mono ?_
    rintro _ w9 ⟨rfl, hk9⟩
    rw [List.nil_append] at hk9
    obtain ⟨ov, ho1, ho2⟩ := hk9.out
    refine hK _ _ ?_
    refine wpAny_done (by kernel_rfl) ?_ _
    have e8 := cell_of_row _ _ 0 _ _ _ ho1
    have HSR := hide (sort_strs _ ov _ w9 ho2 (by have := hit_len ⟨x0, y0, x1, y1⟩ ls; rw [HAT.out.perm.length_eq, List.length_map] at this; omega))
    have HO1 := hide ho1
    have HO2 := hide ho2
    have HK9 := hide hk9
    clear ho1 ho2 hk9 e7 e6 HWA HTR
    go_simp
    go_wp2_with (go_at_call 73; refine HSR.out.mono ?_; rintro _ wz ⟨rfl, S, hp, hr, hg⟩; obtain ⟨z1, z2, z3, z4⟩ := in_end HXA.out HBL.out HBD.out HAT.out HN0.out HGT.out HK9.out HO1.out HO2.out hr hg; have HP := hide hp; have Z1 := hide z1; have Z2 := hide z2; have Z3 := hide z3; clear hp hr hg z1 z2 z3 e8)
    go_ret
    exact ⟨ov, S, rfl, Z1.out, HP.out.trans (by unfold hitL; exact (HAT.out.perm.filter _).map _), Z2.out, Z3.out⟩

end Go.Proofs.YtfkgjbdeicggaaaGreat
