/-
  name.Best, walked: the name in the first of the languages that were asked for.
-/
import Derived.Test.YtjniicmhndflpaaNamH
import Derived.Laws.EntriesVeiled
import Derived.Sort.QuietIn
namespace Go.Proofs.Ytjniicmhndflpaa
open Go.RowKit Go.Proofs.PlLex Go.Proofs.PlName
attribute [local go_sem] Oper.semAt_some

theorem index_any (L : List ByteArray) (s : ByteArray) (v : Value) (w : World) (hv : StS w v L) (hl : L.length ≤ 100000) :
    Calls Try.prog 28 #[v, .string s] w fun e w' => e = .returned (.int .i64 (Go.Lib.idxOfS L s)) ∧ w = w' := by
  obtain ⟨A, c, rfl, _, h⟩ := hv
  by_cases h0 : L = []
  · subst h0
    exact (Try.slices_Index_string_empty A c s w).mono (fun e w' h => ⟨h.1, h.2.symm⟩)
  · obtain ⟨g, o, rfl, _, hp⟩ := h.resolve_left h0
    refine (Try.slices_Index_string g o L.length c L s w (Nat.le_refl _) (by omega) (fun j hj => ?_)).mono (fun e w' h => ⟨by rw [h.1, List.take_length], h.2.symm⟩)
    rw [hp j _ (List.getElem?_eq_getElem hj), List.getD_eq_getElem?_getD, List.getElem?_eq_getElem hj]
    rfl
theorem at_any (L : List ByteArray) (s : ByteArray) (b : Nat) (v : Value) (w : World) (hb : w.cell? ⟨b, 0, none⟩ = some v) (hv : StS w v L) (hl : L.length ≤ 100000) :
    Calls Try.prog 27 #[.string s, .pointer (some ⟨b, 0, none⟩)] w fun e w' => e = .returned (.int .i64 (placeS L s)) ∧ w = w' := by
  have HI := hide (index_any L s v w hv hl)
  obtain ⟨A, c, rfl, _⟩ := hv
  obtain ⟨R, hR⟩ : ∃ R, placeS L s = R := ⟨_, rfl⟩
  have hb1 := idx_lt L s
  unfold placeS at hR
  obtain ⟨X, hX⟩ : ∃ X, Go.Lib.idxOfS L s = X := ⟨_, rfl⟩
  have hpl : placeS L s = R := by unfold placeS; exact hR
  rw [hpl]
  rw [hX] at hR HI hb1
  have HR := hide hR
  clear hR hX hpl
  by_cases h0 : 0 ≤ X
  · have HZ := hide (show X = R from by rw [← HR.out, if_pos h0])
    go_enter Try.func27, Try.ntmps27
    go_wp2_with fail
    refine (HI.out).mono ?_
    rintro _ w2 ⟨rfl, hw⟩
    obtain rfl : w = w2 := hw
    go_wp2_with fail
    go_ret
    exact ⟨by rw [← HZ.out]; rfl, rfl⟩
  · by_cases he : s.toList = []
    · have HZ := hide (show (L.length : Int) = R from by rw [← HR.out, if_neg h0, if_pos he])
      have he2 : (s.toList == []) = true := by rw [he]; rfl
      go_enter Try.func27, Try.ntmps27
      go_wp2_with fail
      refine (HI.out).mono ?_
      rintro _ w2 ⟨rfl, hw⟩
      obtain rfl : w = w2 := hw
      go_wp2_with fail
      go_ret
      exact ⟨by rw [← HZ.out]; rfl, rfl⟩
    · have HZ := hide (show (L.length : Int) + 1 = R from by rw [← HR.out, if_neg h0, if_neg he])
      have he2 : (s.toList == []) = false := by rw [beq_eq_false_iff_ne]; exact he
      go_enter Try.func27, Try.ntmps27
      go_wp2_with fail
      refine (HI.out).mono ?_
      rintro _ w2 ⟨rfl, hw⟩
      obtain rfl : w = w2 := hw
      go_wp2_with fail
      go_ret
      exact ⟨by rw [← HZ.out]; first | rfl | go_num, rfl⟩

theorem box_below {W W' : World} {B : Nat} {t : TypeId} {v : Value} (h : Boxed W B t v) (hb : Below W.heap.size W W') : Boxed W' B t v := (hb.block _ h.lt).trans h
theorem blk_set2 {W : World} {b : Nat} {a0 a1 x y : Value} {t : TypeId} (h : W.heap[b]? = some (.cells #[a0, a1] t (0, 0))) : ((W.setCell ⟨b, 0, none⟩ x).setCell ⟨b, 1, none⟩ y).heap[b]? = some (.cells #[x, y] t (0, 0)) := by
  have e1 : (W.setCell ⟨b, 0, none⟩ x).heap[b]? = some (.cells #[x, a1] t (0, 0)) := by
    obtain ⟨hlt, hk⟩ := Array.getElem?_eq_some_iff.1 h
    show (W.heap.modify b _)[b]? = _
    rw [Array.getElem?_eq_getElem (by simpa using hlt), Array.getElem_modify_self, hk]
    rfl
  obtain ⟨hlt, hk⟩ := Array.getElem?_eq_some_iff.1 e1
  show ((W.setCell ⟨b, 0, none⟩ x).heap.modify b _)[b]? = _
  rw [Array.getElem?_eq_getElem (by simpa using hlt), Array.getElem_modify_self, hk]
  rfl
theorem blk_other {W : World} {B b i : Nat} {o : Obj} {v : Value} (h : W.heap[B]? = some o) (hne : B ≠ b) : (W.setCell ⟨b, i, none⟩ v).heap[B]? = some o := (Below.heap_setCell W ⟨b, i, none⟩ v B hne).trans h
theorem blk_row {X Y : World} {row : Option Nat} {B N : Nat} {cs : Array Value} {t : TypeId} {f : Nat × Nat} (h : X.heap[B]? = some (.cells cs t f)) (hg : X.grownBy Y row) (hr : ∀ r, row = some r → N ≤ r ∧ ∃ o : Obj, X.heap[r]? = some o ∧ o.isCells = false) : Y.heap[B]? = some (.cells cs t f) :=
  (hg.block B (Array.getElem?_eq_some_iff.1 h).1 (fun e => by
    obtain ⟨_, o, ho, hc⟩ := hr B e.symm
    rw [h] at ho
    cases ho
    cases hc)).trans h

/-- What the boxes hold after some of the name tags. -/
structure BsI (w : World) (L : List ByteArray) (vl : Value) (bl n0 : Nat) (bb bp ba : Nat) (pre : List Tg) (W : World) : Prop where
  size : n0 ≤ W.heap.size
  lb : Boxed W bl 31 vl
  best : W.heap[bb]? = some (.cells #[.string (bestL L pre).k, .string (bestL L pre).v] 42 (0, 0))
  place : Boxed W bp 3 (.int .i64 (bestL L pre).p)
  at' : Boxed W ba 61 (.func (.func 27) #[] #[.pointer (some ⟨bl, 0, none⟩)])
  below : Below w.heap.size w W
theorem bsI_own (w : World) (L : List ByteArray) (vl : Value) (bl n0 bb bp ba B : Nat) (hB : w.heap.size ≤ B) : OwnFrom B (BsI w L vl bl n0 bb bp ba) := by
  rintro pre X Y row h hg hr
  exact ⟨Nat.le_trans h.size hg.size, boxed_kept h.lb hg hr, blk_row h.best hg hr, boxed_kept h.place hg hr, boxed_kept h.at' hg hr, ownFrom_below (β := Unit) (Nat.le_refl _) hB () X Y row h.below hg hr⟩

set_option maxRecDepth 100000 in
set_option maxHeartbeats 4000000 in
theorem best_any (l : List Tg) (L : List ByteArray) (v vl : Value) (w : World) (hv : TgS w v l) (hvl : StS w vl L) (hl : l.length ≤ 100000) (hL : L.length ≤ 100000) (hs : ∀ t ∈ l, t.k.size ≤ 100000 ∧ t.v.size ≤ 100000) :
    Calls Try.prog 12 #[v, vl] w fun e w' => e = .returned (.tuple #[.string (bestR l L).v, .string (bestR l L).k]) ∧ Below w.heap.size w w' := by
  have HV := hide (fun w' hw' => tvalid_any l v w' hw' hl (fun t ht => ⟨Nat.le_trans (hs t ht).1 (by unfold maxLen; omega), Nat.le_trans (hs t ht).2 (by unfold maxLen; omega)⟩))
  have HS := hide hs
  have HT := hide hv
  have HVL := hide hvl
  obtain ⟨A, c, rfl, hA⟩ := hv
  obtain ⟨A2, c2, rfl, _⟩ := hvl
  unfold bestR
  clear hs hA
  obtain ⟨wo, hwo⟩ : ∃ wo, (w.alloc (.cells #[.slice A2 L.length c2] 31)).alloc (.cells #[.string ⟨#[]⟩, .string ⟨#[]⟩] 42) = wo := ⟨_, rfl⟩
  have hbo : Below w.heap.size w wo := by rw [← hwo]; exact ((Below.refl _ _).alloc (Nat.le_refl _) _).alloc (by simp) _
  have hso : wo.heap.size = w.heap.size + 2 := by rw [← hwo]; simp
  have hv0 : Boxed wo w.heap.size 31 (.slice A2 L.length c2) := by rw [← hwo]; exact (Boxed.new w _ _).alloc _
  have hb0 : wo.heap[w.heap.size + 1]? = some (.cells #[.string ⟨#[]⟩, .string ⟨#[]⟩] 42 (0, 0)) := by
    rw [← hwo]
    have := heap_alloc_new (w.alloc (.cells #[.slice A2 L.length c2] 31)) (.cells #[.string ⟨#[]⟩, .string ⟨#[]⟩] 42)
    simpa using this
  have HV1 := hide (HV.out wo (HT.out.below hbo))
  cases hval : tagsB l with
  | false =>
    rw [hval] at HV1
    clear hval HS
    go_enter Try.func12, Try.ntmps12
    go_wp2_with fail
    clear hwo
    refine (HV1.out).mono ?_
    rintro _ w1 ⟨rfl, hb⟩
    have HB := hide (bto hbo hb)
    go_wp2_with fail
    go_ret2
    exact ⟨rfl, HB.out⟩
  | true =>
    rw [hval] at HV1
    clear hval
    refine (callsIn_wide (n := 10)).1 ?_
    refine callsIn_of_wp_marks Try.func12 rfl trivial ?_ rfl
    simp only [Try.ntmps12, List.size_toArray, List.length_cons, List.length_nil, Nat.reduceAdd, Nat.reduceSub, Array.replicate_succ, Array.replicate_zero, List.push_toArray, List.append_toArray, List.nil_append, List.cons_append]
    have hf : Fence.wide.fn 10 := trivial
    have hf2 : Fence.wide.fn 26 := trivial
    have hf3 : Fence.wide.fn 27 := trivial
    gi_wp2_with (first
      | (gi_at_call 10; clear hwo; refine (callsIn_wide.2 HV1.out).mono ?_; rintro e w1 ⟨rfl, hb1⟩; have hlc : w1.cell? ⟨w.heap.size, 0, none⟩ = some (.slice A2 L.length c2) := (box_below hv0 hb1).cell)
      | (gi_at_call 26; refine (callsIn_wide.2 (names_any _ _ _ _)).mono ?_; rintro e w2 ⟨rfl, rfl⟩))
    have hn1 : Below wo.heap.size wo w1 := hb1
    have hb2 : Below w.heap.size w w1 := bto hbo hb1
    have hv1 : Boxed w1 w.heap.size 31 (.slice A2 L.length c2) := box_below hv0 hn1
    have hbb1 : w1.heap[w.heap.size + 1]? = some (.cells #[.string ⟨#[]⟩, .string ⟨#[]⟩] 42 (0, 0)) := blkB hn1 hb0
    have hs1 := hn1.size
    obtain ⟨g, hgl, htg⟩ : ∃ g, (g < w.heap.size ∨ g = w1.heap.size + 1 + 1) ∧ (l = [] ∨ ∃ o, A = some ⟨g, o, none⟩ ∧ TagsO w g o l) := by
      obtain ⟨A9, c9, hv9, h9⟩ := HT.out
      cases hv9
      rcases h9 with h | ⟨g, o, rfl, hg, hp⟩
      · exact ⟨_, .inr rfl, .inl h⟩
      · exact ⟨g, .inl hg, .inr ⟨o, rfl, hp⟩⟩
    obtain ⟨W0, hW0⟩ : ∃ W0, ((w1.alloc (.cells #[.int .i64 ((L.length : Int) + 2)] 3)).alloc (.cells #[.func (.func 27) #[] #[.pointer (some ⟨w.heap.size, 0, none⟩)]] 61)).alloc (.cells #[.slice A l.length c] 25) = W0 := ⟨_, rfl⟩
    have hsz : W0.heap.size = w1.heap.size + 3 := by rw [← hW0]; simp
    have hq : Below w1.heap.size w1 W0 := by rw [← hW0]; exact (((Below.refl _ _).alloc (Nat.le_refl _) _).alloc (by simp) _).alloc (by simp; omega) _
    have hq2 : Below w.heap.size w W0 := bto hb2 hq
    have q1 : Boxed W0 w.heap.size 31 (.slice A2 L.length c2) := box_below hv1 hq
    have q2 : W0.heap[w.heap.size + 1]? = some (.cells #[.string (bestL L []).k, .string (bestL L []).v] 42 (0, 0)) := blkB hq hbb1
    have q3 : Boxed W0 w1.heap.size 3 (.int .i64 (bestL L []).p) := by rw [← hW0]; exact ((Boxed.new w1 _ _).alloc _).alloc _
    have q4 : Boxed W0 (w1.heap.size + 1) 61 (.func (.func 27) #[] #[.pointer (some ⟨w.heap.size, 0, none⟩)]) := by
      rw [← hW0]
      have := (Boxed.new (w1.alloc (.cells #[.int .i64 ((L.length : Int) + 2)] 3)) 61 (.func (.func 27) #[] #[.pointer (some ⟨w.heap.size, 0, none⟩)])).alloc (.cells #[.slice A l.length c] 25)
      simpa using this
    have q5 : W0.heap[w1.heap.size + 1 + 1]? = some (.cells #[.slice A l.length c] 25 (0, 0)) := by
      rw [← hW0]
      have := heap_alloc_new ((w1.alloc (.cells #[.int .i64 ((L.length : Int) + 2)] 3)).alloc (.cells #[.func (.func 27) #[] #[.pointer (some ⟨w.heap.size, 0, none⟩)]] 61)) (.cells #[.slice A l.length c] 25)
      simpa using this
    have hrg : TgR (w1.heap.size + 1 + 1) g A c l W0 := ⟨cell_of_row _ _ 0 _ _ _ q5, by
      rcases htg with h | ⟨o, hA, hp⟩
      · exact .inl h
      · by_cases h0 : l = []
        · exact .inl h0
        right
        refine ⟨o, hA, hp.below ?_ hq2⟩
        exact cell_lt (hp 0 (l[0]'(List.length_pos_iff.2 h0)) (List.getElem?_eq_getElem (List.length_pos_iff.2 h0))).1⟩
    rw [hW0]
    clear hW0 hbo hv0 hb0 HV1 hb1 HT HV hn1 hv1 hbb1 hf hf2 q5 htg hlc hq hb2
    refine wpIn_rangeFunc_ownH rfl (by omega) (gf := 38) (lb := #[.pointer (some ⟨w1.heap.size + 1 + 1, 0, none⟩)]) rfl trivial (enters_of Try.func38 (by kernel_rfl) rfl)
      (names_stops 9 (by omega) (w1.heap.size + 1 + 1) g A c l hl (fun t ht => (HS.out t ht).1) W0 hrg) Kr.trans (fun W l o o' _ h1 h2 _ => Kr.putObj W l o o' h1 h2) (Below.refl _ _) (fun _ => rfl)
      (BsI w L (.slice A2 L.length c2) w.heap.size W0.heap.size (w.heap.size + 1) w1.heap.size (w1.heap.size + 1)) (fun _ _ _ => False) (bsI_own w L _ _ _ _ _ _ _ (by omega)) (fun _ _ _ _ _ h _ _ => h) ⟨Nat.le_refl _, q1, q2, q3, q4, hq2⟩
      (fun x a' W => ∃ Bx, W0.heap.size ≤ Bx ∧ W.heap[Bx]? = some (.cells #[.string x.k, .string x.v] 42 (0, 0)) ∧ a' = { tmps := #[.slice A l.length c, .slice A2 L.length c2, undef, .pointer (some ⟨w.heap.size, 0, none⟩), .string ⟨#[]⟩, .string ⟨#[]⟩, .pointer (some ⟨w.heap.size + 1, 0, none⟩), .pointer (some ⟨w1.heap.size, 0, none⟩), .pointer (some ⟨w1.heap.size + 1, 0, none⟩), .string (langO x), .pointer (some ⟨Bx, 0, none⟩), undef, .slice A l.length c, .bool true, .bool false, .slice A2 L.length c2, .int .i64 L.length, .int .i64 ((L.length : Int) + 2), .func (.func 27) #[] #[.pointer (some ⟨w.heap.size, 0, none⟩)], .slice A l.length c, .func (.func 38) #[] #[.pointer (some ⟨w1.heap.size + 1 + 1, 0, none⟩)], .string (langO x), .agg #[.string x.k, .string x.v], undef, undef, undef, undef, undef, undef, undef, undef, undef, undef, undef, undef], defers := [] })
      (fun x a' _ X Y row hs hg hr => by
        obtain ⟨Bx, e1, e2, e3⟩ := hs
        exact ⟨Bx, e1, blk_row e2 hg hr, e3⟩)
      ?assign ?body ?done ?stop
    case assign =>
      rintro l' pre x W K h hK
      unfold encN
      gi_wp2
      exact hK _ _ ((KeepsOthers.alloc _ _).from _) (Kr.below ((Below.refl _ _).alloc (Nat.le_refl _) _)) ⟨by have := h.size; simp; omega, h.lb.alloc _, blkB ((Below.refl _ _).alloc (Nat.le_refl _) _) h.best, h.place.alloc _, h.at'.alloc _, h.below.alloc h.below.size _⟩
        ⟨W.heap.size, h.size, heap_alloc_new W _, rfl⟩
    case body =>
      rintro l' pre x a' W hl' ⟨rr, hr⟩ h ⟨Bx, hBx, bX, rfl⟩ hlt
      obtain ⟨⟨g0, g1⟩, _⟩ := blk2 bX
      have c0 : W.cell? ⟨w1.heap.size, 0, none⟩ = _ := h.place.cell
      have f0 : W.frozen? ⟨w1.heap.size, 0, none⟩ = false := h.place.frozen
      have c1 : W.cell? ⟨w1.heap.size + 1, 0, none⟩ = _ := h.at'.cell
      obtain ⟨_, f1, f2⟩ := blk2 h.best
      have HAT := hide (at_any L (langO x) w.heap.size _ W h.lb.cell (HVL.out.below h.below) hL)
      have HSN := hide (bestL_snoc L pre x)
      have HH := hide h
      obtain ⟨T, hT⟩ : ∃ T, bestL L pre = T := ⟨_, rfl⟩
      rw [hT] at c0
      obtain ⟨Z, hZ⟩ : ∃ Z, placeS L (langO x) = Z := ⟨_, rfl⟩
      rw [hZ] at HAT
      have HEQ := hide (And.intro hT hZ)
      clear h hT hZ
      by_cases hzt : Z < T.p
      · gi_wp2_with (gi_at_call 27; refine (callsIn_wide.2 HAT.out).mono ?_; rintro e w7 ⟨rfl, hw7⟩; obtain rfl : W = w7 := hw7)
        obtain ⟨hT, hZ⟩ := HEQ.out
        have hnew : bestL L (pre ++ [x]) = ⟨x.k, x.v, Z⟩ := by rw [HSN.out, hT]; unfold bestF; rw [hZ, if_pos hzt]
        have hsz3 := HH.out.size
        refine ⟨(((KeepsOthers.setCell _ _ _).trans (KeepsOthers.setCell _ _ _)).trans (KeepsOthers.setCell _ _ _)).from _, ((Kr.set _ _ _ _ (by omega) (by omega)).trans (Kr.set _ _ _ _ (by omega) (by omega))).trans (Kr.set _ _ _ _ (by omega) (by omega)), by simpa using hsz3, ?_, ?_, ?_, ?_, ?_⟩
        · exact blk_other (blk_other (blk_other HH.out.lb (by omega)) (by omega)) (by omega)
        · rw [hnew]
          exact blk_other (blk_set2 HH.out.best) (by omega)
        · rw [hnew]
          exact Boxed.set _ (v := .int .i64 (bestL L pre).p) (blk_other (blk_other HH.out.place (by omega)) (by omega))
        · exact blk_other (blk_other (blk_other HH.out.at' (by omega)) (by omega)) (by omega)
        · exact ((HH.out.below.setCell (p := ⟨w.heap.size + 1, 0, none⟩) (by simp) _).setCell (p := ⟨w.heap.size + 1, 1, none⟩) (by simp) _).setCell (p := ⟨w1.heap.size, 0, none⟩) (by simp; omega) _
      · gi_wp2_with (gi_at_call 27; refine (callsIn_wide.2 HAT.out).mono ?_; rintro e w7 ⟨rfl, hw7⟩; obtain rfl : W = w7 := hw7)
        obtain ⟨hT, hZ⟩ := HEQ.out
        have hnew : bestL L (pre ++ [x]) = bestL L pre := by rw [HSN.out, hT]; unfold bestF; rw [hZ, if_neg (by omega)]
        refine ⟨(KeepsOthers.refl _).from _, Kr.below (Below.refl _ _), ?_⟩
        obtain ⟨z1, z2, z3, z4, z5, z6⟩ := HH.out
        exact ⟨z1, z2, by rw [hnew]; exact z3, by rw [hnew]; exact z4, z5, z6⟩
    case done =>
      rintro D xs W hD hS h hK
      obtain ⟨⟨g0, g1⟩, _⟩ := blk2 h.best
      have HH := hide h
      have HK := hide hK
      have HX := hide hS
      have hm : Try.prog.follows .mixedOrders = true := by kernel_rfl
      clear h hK hS
      gi_wp2
      gi_quiet (fail)
      gi_wp2
      have hk2 : (W.drewN nq).heap[D]? = _ := HK.out
      refine ⟨by simp, .inl ⟨_, _, rfl, run_takeDeferred hk2, ?_⟩⟩
      obtain rfl := HX.out
      exact ⟨.tuple #[.string (bestL L (namesL l)).v, .string (bestL L (namesL l)).k], by simp [results, Try.f12, go_sem], rfl, (below_drewN' HH.out.below nq).trans (belowK_b (w := w) (Nat.le_refl _) (W.drewN nq) D _ _ (by omega) HK.out rfl rfl)⟩
    case stop =>
      rintro D c pre W _ _ h
      exact h.elim
end Go.Proofs.Ytjniicmhndflpaa
