/-
  Valid over a list of rules; how lists of rules are compared and counted: walked.
-/
import Derived.Test.YtoodmhlefaepaaaGreatRulF
import Derived.Deep.QuietTactic
import Derived.BigQuiet
namespace Go.Proofs.YtoodmhlefaepaaaGreat
open Go.RowKit Go.Proofs.PlLex Go.Proofs.PlRule

/-- A rule as it lies in memory. -/
structure RlAt (W : World) (g o : Nat) (x : Rl) (vv : Value) : Prop where
  c0 : W.cell? ⟨g, o, none⟩ = some (.bool x.strict)
  c1 : W.cell? ⟨g, o + 1, none⟩ = some (.string x.area)
  c2 : W.cell? ⟨g, o + 2, none⟩ = some (.int .i64 x.kind)
  c3 : W.cell? ⟨g, o + 3, none⟩ = some (.string x.ik)
  c4 : W.cell? ⟨g, o + 4, none⟩ = some (.string x.iv)
  c5 : W.cell? ⟨g, o + 5, none⟩ = some (.int .i64 x.op)
  c6 : W.cell? ⟨g, o + 6, none⟩ = some (.string x.key)
  c7 : W.cell? ⟨g, o + 7, none⟩ = some vv
  vals : StS W vv x.vals
theorem RlAt.below {W W' : World} {g o : Nat} {x : Rl} {vv : Value} (h : RlAt W g o x vv) (hg : g < W.heap.size) (hb : Below W.heap.size W W') : RlAt W' g o x vv :=
  ⟨(hb.cell (p := ⟨g, _, none⟩) hg).trans h.c0, (hb.cell (p := ⟨g, _, none⟩) hg).trans h.c1, (hb.cell (p := ⟨g, _, none⟩) hg).trans h.c2, (hb.cell (p := ⟨g, _, none⟩) hg).trans h.c3, (hb.cell (p := ⟨g, _, none⟩) hg).trans h.c4, (hb.cell (p := ⟨g, _, none⟩) hg).trans h.c5, (hb.cell (p := ⟨g, _, none⟩) hg).trans h.c6, (hb.cell (p := ⟨g, _, none⟩) hg).trans h.c7, h.vals.below hb⟩
def RlO (W : World) (g o : Nat) (l : List Rl) : Prop := ∀ (i : Nat) x, l[i]? = some x → ∃ vv, RlAt W g (o + i * 8) x vv
theorem RlO.below {W W' : World} {g o : Nat} {l : List Rl} (h : RlO W g o l) (hg : g < W.heap.size) (hb : Below W.heap.size W W') : RlO W' g o l := fun i x hi => by
  obtain ⟨vv, hx⟩ := h i x hi
  exact ⟨vv, hx.below hg hb⟩
def RlS (W : World) (v : Value) (l : List Rl) : Prop := ∃ A c, v = .slice A l.length c ∧ l.length ≤ c ∧ (l = [] ∨ ∃ g o, A = some ⟨g, o, none⟩ ∧ g < W.heap.size ∧ RlO W g o l)
theorem RlS.below {W W' : World} {v : Value} {l : List Rl} (h : RlS W v l) (hb : Below W.heap.size W W') : RlS W' v l := by
  obtain ⟨A, c, hv, hc, h⟩ := h
  refine ⟨A, c, hv, hc, ?_⟩
  rcases h with h | ⟨g, o, hA, hg, hp⟩
  · exact .inl h
  · exact .inr ⟨g, o, hA, Nat.lt_of_lt_of_le hg hb.size, hp.below hg hb⟩
set_option maxRecDepth 100000 in
set_option maxHeartbeats 4000000 in
theorem rnot_any (x : Rl) (vv : Value) (w : World) (hv : StS w vv x.vals) (hz : RlZ x) : Calls Tryz.prog 29 #[vRl x vv] w fun e w' => e = .returned (.bool (!validR x)) ∧ Below w.heap.size w w' := by
  obtain ⟨A, c, rfl, _, _⟩ := id hv
  obtain ⟨wo, hwo⟩ : ∃ wo, w.alloc (.cells #[.bool x.strict, .string x.area, .int .i64 x.kind, .string x.ik, .string x.iv, .int .i64 x.op, .string x.key, .slice A x.vals.length c] 37) = wo := ⟨_, rfl⟩
  have hb0 : Below w.heap.size w wo := by rw [← hwo]; exact (Below.refl _ _).alloc (Nat.le_refl _) _
  have hr0 : RlB x (.slice A x.vals.length c) w.heap.size wo := ⟨by rw [← hwo]; exact heap_alloc_new _ _⟩
  obtain ⟨c0, c1, c2, c3, c4, c5, c6, c7⟩ := hr0.c
  have HB0 := hide hb0
  have HC := hide (valid_any x _ wo (hv.below hb0) hz)
  clear hv hz hb0 hr0
  unfold vRl at HC ⊢
  go_enter Tryz.func29, Tryz.ntmps29
  go_wp2_with fail
  refine HC.out.mono ?_
  rintro _ w2 ⟨rfl, b2⟩
  have HB2 := hide b2
  clear b2 hwo
  go_wp2_with fail
  go_ret
  exact ⟨rfl, tr_below HB0.out HB2.out⟩
def idxR : List Rl → Nat → Int
  | [], _ => -1
  | s :: l, k => if validR s then idxR l (k + 1) else k
theorem idxR_all (l : List Rl) (k : Nat) : (idxR l k = -1 ↔ l.all validR = true) ∧ (idxR l k = -1 ∨ 0 ≤ idxR l k) := by
  induction l generalizing k with
  | nil => exact ⟨⟨fun _ => rfl, fun _ => rfl⟩, .inl rfl⟩
  | cons s l ih =>
    unfold idxR
    cases h : validR s with
    | true =>
      obtain ⟨h1, h2⟩ := ih (k + 1)
      rw [if_pos rfl]
      exact ⟨by rw [h1, List.all_cons, h, Bool.true_and], h2⟩
    | false =>
      rw [if_neg (by decide)]
      exact ⟨⟨fun e => by omega, fun e => by rw [List.all_cons, h] at e; cases e⟩, .inr (by omega)⟩
set_option maxRecDepth 100000 in
set_option maxHeartbeats 4000000 in
theorem idxr_any (l : List Rl) (v : Value) (w : World) (hv : RlS w v l) (hl : l.length ≤ 1000000) (hs : ∀ s ∈ l, RlZ s) :
    Calls Tryz.prog 53 #[v, .func (Fn.func 29) #[] #[]] w fun e w' => e = .returned (.int .i64 (idxR l 0)) ∧ Below w.heap.size w w' := by
  obtain ⟨A, c, rfl, _, hA⟩ := hv
  have HA := hide hA
  have HS := hide hs
  clear hs hA
  go_enter Tryz.func53, Tryz.ntmps53
  go_wp2_with fail
  go_loopw [8] (fun i wr => ∃ k : Nat, k ≤ l.length ∧ i = .int .i64 k ∧ Hid (idxR l 0 = idxR (l.drop k) k) ∧ Hid (Below w.heap.size w wr)) (fun i _ => l.length - (intOf i).toNat)
  case atStart => exact ⟨0, Nat.zero_le _, rfl, hide rfl, Below.refl _ _⟩
  case round =>
    obtain ⟨k, hk, rfl, hx, hb⟩ := hrel
    by_cases hlt : k < l.length
    · obtain ⟨g, o, rfl, hg, hp⟩ := HA.out.resolve_left (by rintro rfl; simp at hlt)
      have hks := List.getElem?_eq_getElem hlt
      have hdr := List.drop_eq_getElem_cons hlt
      generalize l[k] = s at *
      obtain ⟨vv, hat⟩ := hp k s hks
      obtain ⟨c0, c1, c2, c3, c4, c5, c6, c7, hvals⟩ := hat.below hg hb.out
      obtain ⟨Av, cv, rfl, _, _⟩ := id hvals
      have HX := hide hx.out
      rw [hdr] at HX
      have HW := hide (rnot_any s _ wr hvals (HS.out s (List.mem_of_getElem? hks)))
      unfold vRl at HW
      have k0 : (0 : Int) ≤ k := by omega
      have k1 : (k : Int) < l.length := by omega
      have HKL := hide hlt
      have HB := hide hb.out
      have HMS := hide (show l.length - (k + 1) < l.length - k from by omega)
      clear hlt hks hdr hx hp hat hvals hb
      cases hvs : validR s with
      | true =>
        have HX2 : Hid (idxR l 0 = idxR (l.drop (k + 1)) (k + 1)) := by
          rw [HX.out, idxR, if_pos hvs]
          exact hide rfl
        rw [hvs] at HW
        clear hvs
        go_wp2_with fail
        refine HW.out.mono ?_
        rintro _ w2 ⟨rfl, b2⟩
        have HB2 := hide (tr_below HB.out b2)
        clear b2 c0 c1 c2 c3 c4 c5 c6 c7
        go_wp2_with fail
        refine ⟨⟨k + 1, HKL.out, by go_num, HX2, HB2⟩, ?_⟩
        have := HMS.out
        simp [intOf]; omega
      | false =>
        have HX2 : Hid (idxR l 0 = (k : Int)) := by
          rw [HX.out, idxR, if_neg (by rw [hvs]; decide)]
          exact hide rfl
        rw [hvs] at HW
        clear hvs
        go_wp2_with fail
        refine HW.out.mono ?_
        rintro _ w2 ⟨rfl, b2⟩
        have HB2 := hide (tr_below HB.out b2)
        clear b2 c0 c1 c2 c3 c4 c5 c6 c7
        go_wp2_with fail
        go_ret
        exact ⟨ret_i HX2.out.symm, HB2.out⟩
    · obtain rfl : k = l.length := by omega
      have HX2 : Hid (idxR l 0 = -1) := by
        rw [hx.out, List.drop_length]
        exact hide rfl
      have k1 : ¬ (l.length : Int) < l.length := by omega
      have HB := hide hb.out
      clear hx hlt hb
      go_wp2_with fail
      go_ret
      exact ⟨ret_i HX2.out.symm, HB.out⟩
set_option maxRecDepth 100000 in
set_option maxHeartbeats 4000000 in
theorem conr_any (l : List Rl) (v : Value) (w : World) (hv : RlS w v l) (hl : l.length ≤ 1000000) (hs : ∀ s ∈ l, RlZ s) :
    Calls Tryz.prog 28 #[v, .func (Fn.func 29) #[] #[]] w fun e w' => e = .returned (.bool (!l.all validR)) ∧ Below w.heap.size w w' := by
  have HX := hide (idxr_any l v w hv hl hs)
  obtain ⟨h1, h2⟩ := idxR_all l 0
  generalize idxR l 0 = i at *
  obtain ⟨A, c, rfl, _, _⟩ := hv
  cases h : l.all validR with
  | true =>
    have h3 : i = -1 := h1.2 h
    subst h3
    clear h1 h2 hs
    go_enter Tryz.func28, Tryz.ntmps28
    go_wp2_with fail
    refine HX.out.mono ?_
    rintro _ w2 ⟨rfl, b2⟩
    have HB := hide b2
    clear b2
    go_wp2_with fail
    go_ret
    exact ⟨rfl, HB.out⟩
  | false =>
    have h3 : 0 ≤ i := by
      rcases h2 with h2 | h2
      · have := h1.1 h2
        rw [h] at this; cases this
      · exact h2
    clear h1 h2 hs
    go_enter Tryz.func28, Tryz.ntmps28
    go_wp2_with fail
    refine HX.out.mono ?_
    rintro _ w2 ⟨rfl, b2⟩
    have HB := hide b2
    clear b2
    go_wp2_with fail
    go_ret
    exact ⟨rfl, HB.out⟩
set_option maxRecDepth 100000 in
set_option maxHeartbeats 4000000 in
theorem pvalid_any (l : List Rl) (v : Value) (w : World) (hv : RlS w v l) (hl : l.length ≤ 1000000) (hs : ∀ s ∈ l, RlZ s) :
    Calls Tryz.prog 11 #[v] w fun e w' => e = .returned (.bool (validL l)) ∧ Below w.heap.size w w' := by
  obtain ⟨V, hV⟩ : ∃ V, validL l = V := ⟨_, rfl⟩
  rw [hV]
  unfold validL at hV
  have HX := hide (conr_any l v w hv hl hs)
  obtain ⟨A, c, rfl, _, _⟩ := hv
  by_cases h2 : l.length ≤ 200
  · rw [decide_eq_true h2, Bool.true_and] at hV
    rw [hV] at HX
    have h3 : (l.length : Int) ≤ 200 := by omega
    clear hV hs
    go_enter Tryz.func11, Tryz.ntmps11
    go_wp2_with fail
    refine HX.out.mono ?_
    rintro _ w2 ⟨rfl, b2⟩
    have HB := hide b2
    clear b2
    go_wp2_with fail
    go_ret
    exact ⟨ret_b (by simp), HB.out⟩
  · rw [decide_eq_false h2, Bool.false_and] at hV
    have HV := hide hV
    have h3 : ¬ (l.length : Int) ≤ 200 := by omega
    clear hV hs
    go_enter Tryz.func11, Tryz.ntmps11
    go_wp2_with fail
    go_ret
    exact ⟨ret_b HV.out, Below.refl _ _⟩
end Go.Proofs.YtoodmhlefaepaaaGreat
