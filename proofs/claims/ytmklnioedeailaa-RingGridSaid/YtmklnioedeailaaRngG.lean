/-
  On which side of another ring the middles of a ring's sides are, walked.
-/
import Derived.Test.YtmklnioedeailaaRngF
namespace Go.Proofs.Ytmklnioedeailaa
open Go.RowKit Go.Proofs.PlGeom Go.Proofs.PlRing
attribute [local go_sem] Oper.semAt_some

theorem PtsO.own {X Y : World} {row : Option Nat} {g o : Nat} {r : List Pt} (h : PtsO X g o r) (hg : X.grownBy Y row) (hr : ∀ r, row = some r → ∃ o : Obj, X.heap[r]? = some o ∧ o.isCells = false) : PtsO Y g o r :=
  fun i p hp => ⟨cell_kept (h i p hp).1 hg hr, cell_kept (h i p hp).2 hg hr⟩
theorem PtsO.set {X : World} {g o b i : Nat} {r : List Pt} (h : PtsO X g o r) (v : Value) (hb : g ≠ b) : PtsO (X.setCell ⟨b, i, none⟩ v) g o r :=
  fun k p hp => ⟨(World.cell?_setCell_other X ⟨b, i, none⟩ _ v (fun e => by cases e; exact hb rfl)).trans (h k p hp).1, (World.cell?_setCell_other X ⟨b, i, none⟩ _ v (fun e => by cases e; exact hb rfl)).trans (h k p hp).2⟩

theorem blk3 {w : World} {g : Nat} {a b c : Value} {t : TypeId} (h : w.heap[g]? = some (.cells #[a, b, c] t (0, 0))) : (w.cell? ⟨g, 0, none⟩ = some a ∧ w.cell? ⟨g, 1, none⟩ = some b ∧ w.cell? ⟨g, 2, none⟩ = some c) ∧ (w.frozen? ⟨g, 0, none⟩ = false ∧ w.frozen? ⟨g, 1, none⟩ = false ∧ w.frozen? ⟨g, 2, none⟩ = false) :=
  ⟨⟨cell_of_row w g 0 _ t _ h, cell_of_row w g 1 _ t _ h, cell_of_row w g 2 _ t _ h⟩, frozen_of_row w g 0 _ t h, frozen_of_row w g 1 _ t h, frozen_of_row w g 2 _ t h⟩
theorem blk3_set {w : World} {g : Nat} {a b c : Value} {t : TypeId} (h : w.heap[g]? = some (.cells #[a, b, c] t (0, 0))) (i : Nat) (u : Value) : (w.setCell ⟨g, i, none⟩ u).heap[g]? = some (.cells (#[a, b, c].setIfInBounds i u) t (0, 0)) := by
  simp [World.setCell, Array.getElem?_modify, h]

/-- The counts so far, the doubled ring, and what lay there before. -/
structure MiB (w : World) (S1 gb ob cb : Nat) (r s : List Pt) (n0 : Nat) (W : World) : Prop where
  size : n0 ≤ W.heap.size
  res : W.heap[w.heap.size]? = some (.cells #[.int .i64 0, .int .i64 0, .int .i64 0] 49 (0, 0))
  big : Boxed W S1 22 (.slice (some ⟨gb, ob, none⟩) s.length cb)
  pts : PtsO W gb ob (dblR s)
  below : Below w.heap.size w W
structure MiI (w : World) (S1 gb ob cb : Nat) (r s : List Pt) (n0 : Nat) (pre : List Sd) (W : World) : Prop where
  b : MiB w S1 gb ob cb r s n0 W
  out : W.heap[w.heap.size + 1]? = some (.cells #[.int .i64 (cntL (dblR s) 1 (pre.map Sd.v)), .int .i64 (cntL (dblR s) 0 (pre.map Sd.v)), .int .i64 (cntL (dblR s) (-1) (pre.map Sd.v))] 49 (0, 0))
theorem MiB.own {w : World} {S1 gb ob cb : Nat} {r s : List Pt} {n0 B : Nat} (hB : w.heap.size ≤ B) : OwnFrom B (fun (_ : Unit) W => MiB w S1 gb ob cb r s n0 W) := fun _ X Y row h hg hr =>
  ⟨Nat.le_trans h.size hg.size, blk_own h.res hg (fun r e => (hr r e).2), blk_own h.big hg (fun r e => (hr r e).2), h.pts.own hg (fun r e => (hr r e).2), ownFrom_below (β := Unit) (Nat.le_refl _) hB () X Y row h.below hg hr⟩
theorem MiI.own {w : World} {S1 gb ob cb : Nat} {r s : List Pt} {n0 B : Nat} (hB : w.heap.size ≤ B) : OwnFrom B (MiI w S1 gb ob cb r s n0) := fun _ X Y row h hg hr =>
  ⟨MiB.own hB () X Y row h.b hg hr, blk_own h.out hg (fun r e => (hr r e).2)⟩
theorem MiB.lift {w : World} {S1 gb ob cb : Nat} {r s : List Pt} {n0 : Nat} {W W' : World} (h : MiB w S1 gb ob cb r s n0 W) (hgb : gb < n0) (hb : Below W.heap.size W W') : MiB w S1 gb ob cb r s n0 W' :=
  ⟨Nat.le_trans h.size hb.size, blkB hb h.res, blkB hb h.big, h.pts.below (Nat.lt_of_lt_of_le hgb h.size) hb, bto h.below hb⟩
theorem MiI.lift {w : World} {S1 gb ob cb : Nat} {r s : List Pt} {n0 : Nat} {pre : List Sd} {W W' : World} (h : MiI w S1 gb ob cb r s n0 pre W) (hgb : gb < n0) (hb : Below W.heap.size W W') : MiI w S1 gb ob cb r s n0 pre W' :=
  ⟨h.b.lift hgb hb, blkB hb h.out⟩

set_option maxRecDepth 100000 in
set_option maxHeartbeats 8000000 in
theorem middles_any (r s : List Pt) (v v2 : Value) (w : World) (hv : SlP w v r) (hv2 : SlP w v2 s) (hreg : regB r = true) (hreg2 : regB s = true) :
    Calls Try.prog 35 #[v, v2] w fun e w' => e = .returned (.agg #[.int .i64 (cnt r s 1), .int .i64 (cnt r s 0), .int .i64 (cnt r s (-1))]) ∧ Below w.heap.size w w' := by
  obtain ⟨hfine, h3⟩ := regB_fine r hreg
  obtain ⟨_, h32⟩ := regB_fine s hreg2
  have hbfine := dbl_fine s hreg2
  obtain ⟨wa, hwa⟩ : ∃ wa, (w.alloc (.cells #[.int .i64 0, .int .i64 0, .int .i64 0] 49)).alloc (.cells #[.int .i64 0, .int .i64 0, .int .i64 0] 49) = wa := ⟨_, rfl⟩
  have ba : Below w.heap.size w wa := by rw [← hwa]; exact ((Below.refl _ w).alloc (Nat.le_refl _) _).alloc (by simp) _
  have hsa : wa.heap.size = w.heap.size + 2 := by rw [← hwa]; simp
  have a1 : wa.heap[w.heap.size]? = some (.cells #[.int .i64 0, .int .i64 0, .int .i64 0] 49 (0, 0)) := by rw [← hwa]; exact blkO _ (blkN _ _ _ rfl)
  have a2 : wa.heap[w.heap.size + 1]? = some (.cells #[.int .i64 0, .int .i64 0, .int .i64 0] 49 (0, 0)) := by rw [← hwa]; exact blkN _ _ _ (by simp)
  have HM := hide (mapped_any s v2 wa (hv2.below ba) hreg2)
  obtain ⟨A, c, rfl, hA⟩ := hv
  obtain ⟨g, o, rfl, hg, hp⟩ := hA.resolve_left (by rintro rfl; simp at h3)
  obtain ⟨A2, c2, rfl, hA2⟩ := hv2
  obtain ⟨g2, o2, rfl, _, _⟩ := hA2.resolve_left (by rintro rfl; simp at h32)
  have HP := hide hp
  have HF := hide hfine
  have HBF := hide hbfine
  clear hA hA2 hp hfine hbfine hreg hreg2
  refine (callsIn_wide (n := 20)).1 ?_
  refine callsIn_of_wp_marks Try.func35 rfl trivial ?_ rfl
  simp only [Try.ntmps35, List.size_toArray, List.length_cons, List.length_nil, Nat.reduceAdd, Nat.reduceSub, Array.replicate_succ, Array.replicate_zero, List.push_toArray, List.append_toArray, List.nil_append, List.cons_append]
  gi_wp2_with (first
    | ((try refine ⟨trivial, ?_⟩); gi_at_call 55; refine (callsIn_wide.2 HM.out).mono ?_; rintro e w1 ⟨Ab, cb, rfl, hm⟩)
    | ((try refine ⟨trivial, ?_⟩); gi_at_call 27; refine (callsIn_wide.2 (sides_any _ _ _ _ rfl _)).mono ?_; rintro e w2 ⟨rfl, rfl⟩))
  clear HM
  have few := HF.out.few
  obtain ⟨gb, rfl, hcells⟩ := own_some hm.own (by omega)
  have hpb : PtsO w1 gb 0 (dblR s) := by
    intro i p hp
    rw [List.take_length] at hcells
    obtain ⟨e1, e2⟩ := cellsP_get _ i p hp
    rw [Nat.zero_add]
    exact ⟨hcells _ _ e1, hcells _ _ e2⟩
  have hgb1 : w.heap.size + 2 ≤ gb := by rw [← hsa]; exact (hm.own.lt gb rfl).1
  have hgb2 : gb < w1.heap.size := (hm.own.lt gb rfl).2
  have hb1 := hm.below
  have hsz1 := hb1.size
  obtain ⟨W0, hW0⟩ : ∃ W0, (w1.alloc (.cells #[.slice (some ⟨gb, 0, none⟩) s.length cb] 22)).alloc (.cells #[.slice (some ⟨g, o, none⟩) r.length c] 22) = W0 := ⟨_, rfl⟩
  have hbW : Below w1.heap.size w1 W0 := by rw [← hW0]; exact ((Below.refl _ _).alloc (Nat.le_refl _) _).alloc (by simp) _
  have hsz0 : W0.heap.size = w1.heap.size + 2 := by rw [← hW0]; simp
  have q1 : MiI w w1.heap.size gb 0 cb r s W0.heap.size [] W0 := by
    refine ⟨⟨Nat.le_refl _, blkB hbW (blkB hb1 a1), ?_, hpb.below hgb2 hbW, (ba.trans (hb1.mono (by omega))).trans (hbW.mono (by omega))⟩, blkB hbW (blkB hb1 a2)⟩
    rw [← hW0]
    exact (Boxed.new w1 _ _).alloc _
  have q4 : W0.heap[w1.heap.size + 1]? = some (.cells #[.slice (some ⟨g, o, none⟩) r.length c] 22 (0, 0)) := by rw [← hW0]; exact blkN _ _ _ (by simp)
  have hrg : Rg (w1.heap.size + 1) g o c r W0 := ⟨cell_of_row _ _ 0 _ _ _ q4, HP.out.below hg q1.b.below⟩
  rw [hW0]
  have HWA := hide hwa
  clear hW0 q4 hwa a1 a2 hm hcells
  refine wpIn_rangeFunc_ownH rfl (by omega) (gf := 45) (lb := #[.pointer (some ⟨w1.heap.size + 1, 0, none⟩)]) rfl trivial (enters_of Try.func45 (by kernel_rfl) rfl)
    (sides_stops 19 (by omega) (w1.heap.size + 1) g o c r HF.out (by omega) W0 hrg) Kr.trans (fun W l o o' _ h1 h2 _ => Kr.putObj W l o o' h1 h2) (Below.refl _ _) (fun _ => rfl)
    (MiI w w1.heap.size gb 0 cb r s W0.heap.size) (fun _ _ _ => False) (MiI.own (by omega)) (fun _ _ _ _ _ h _ _ => h) q1
    (fun x a' W => ∃ Bx, W0.heap.size ≤ Bx ∧ SgBox W Bx x.s ∧ a' = { tmps := #[.slice (some ⟨g, o, none⟩) r.length c, .slice (some ⟨g2, o2, none⟩) s.length c2, undef, undef, .pointer (some ⟨w.heap.size, 0, none⟩), .pointer (some ⟨w.heap.size + 1, 0, none⟩), .pointer (some ⟨w1.heap.size, 0, none⟩), undef, .pointer (some ⟨Bx, 0, none⟩), .slice (some ⟨g2, o2, none⟩) s.length c2, .slice (some ⟨gb, 0, none⟩) s.length cb, .slice (some ⟨g, o, none⟩) r.length c, .func (.func 45) #[] #[.pointer (some ⟨w1.heap.size + 1, 0, none⟩)], .int .i64 x.i, .agg #[.int .i64 x.s.a.x, .int .i64 x.s.a.y, .int .i64 x.s.b.x, .int .i64 x.s.b.y], undef, undef, undef, undef, undef, undef, undef, undef, undef, undef, undef, undef, undef, undef, undef, undef, undef, undef, undef, undef, undef, undef, undef], defers := [] })
    (fun x a' _ X Y row hs hg hr => by
      obtain ⟨Bx, e1, e2, e3⟩ := hs
      exact ⟨Bx, e1, blk_own e2 hg (fun r e => (hr r e).2), e3⟩)
    ?assign ?body ?done ?stop
  case assign =>
    rintro l pre x W K h hK
    unfold encS
    have hbb : Below W.heap.size W (W.alloc (.cells #[.int .i64 x.s.a.x, .int .i64 x.s.a.y, .int .i64 x.s.b.x, .int .i64 x.s.b.y] 36)) := (Below.refl _ _).alloc (Nat.le_refl _) _
    have HBB := hide hbb
    clear hbb
    gi_wp2
    exact hK _ _ ((keepsOthers_below HBB.out).from _) (Kr.below HBB.out) (h.lift (by omega) HBB.out) ⟨W.heap.size, h.b.size, blkN _ _ _ rfl, rfl⟩
  case body =>
    rintro l pre x a' W hl ⟨rr, hr⟩ h ⟨Bx, hBx, bX, rfl⟩ hlt
    obtain ⟨⟨d1, d2, d3, d4⟩, _⟩ := blk4 bX
    have dbg := h.b.big.cell
    have hdl : (dblR s).length = s.length := by simp [dblR]
    obtain ⟨⟨a1, a2, a3, a4⟩, ⟨b1, b2, b3, b4⟩⟩ := And.intro x.ha x.hb
    have HL := hide (locate_any (dblR s) (.slice (some ⟨gb, 0, none⟩) s.length cb) (x.s.a.x + x.s.b.x) (x.s.a.y + x.s.b.y) W ⟨_, cb, by rw [hdl], .inr ⟨gb, 0, rfl, by have := h.b.size; omega, h.b.pts⟩⟩ HBF.out (by omega) ⟨by simp only; omega, by simp only; omega, by simp only; omega, by simp only; omega⟩)
    have hmid : (⟨x.s.a.x + x.s.b.x, x.s.a.y + x.s.b.y⟩ : Pt) = midP x.s := rfl
    rw [hmid] at HL
    obtain ⟨p1, p2⟩ := cntL_bd (dblR s) 1 (pre.map Sd.v)
    obtain ⟨p3, p4⟩ := cntL_bd (dblR s) 0 (pre.map Sd.v)
    obtain ⟨p5, p6⟩ := cntL_bd (dblR s) (-1) (pre.map Sd.v)
    rw [List.length_map] at p2 p4 p6
    have hn : ∀ v, cntL (dblR s) v ((pre ++ [x]).map Sd.v) = cntL (dblR s) v (pre.map Sd.v) + if locate (dblR s) (midP x.s) = v then 1 else 0 := by
      intro v; rw [List.map_append, cntL_app]; simp [cntL, Sd.v]
    have hcs := locate_cases (dblR s) (midP x.s)
    obtain ⟨m, hm⟩ : ∃ m, locate (dblR s) (midP x.s) = m := ⟨_, rfl⟩
    rw [hm] at HL hcs
    simp only [hm] at hn
    have HN1 := hide (hn 1)
    have HN2 := hide (hn 0)
    have HN3 := hide (hn (-1))
    have HO := hide h.out
    have HH := hide h
    have hbn := h.b.below.size
    generalize cntL (dblR s) 1 (pre.map Sd.v) = n1 at *
    generalize cntL (dblR s) 0 (pre.map Sd.v) = n2 at *
    generalize cntL (dblR s) (-1) (pre.map Sd.v) = n3 at *
    clear hn hm hmid h hdl
    rcases hcs with rfl | rfl | rfl
    all_goals
      gi_wp2_with ((try refine ⟨trivial, ?_⟩); gi_at_call 32; refine (CallsIn.inRound l (callsIn_wide.2 HL.out)).mono ?_; rintro e w5 ⟨rfl, hb5⟩; have HB5 := hide hb5; obtain ⟨⟨k1, k2, k3⟩, ⟨f1, f2, f3⟩⟩ := blk3 (blkB hb5 HO.out); clear hb5)
      have hq := HH.out.lift (by omega) HB5.out
      have hk := blkB HB5.out HO.out
      refine ⟨((keepsOthers_below HB5.out).trans (KeepsOthers.setCell _ _ _)).from _, (Kr.below HB5.out).trans (Kr.set _ _ _ _ (by omega) (by omega)), ⟨⟨by have := hq.b.size; simp; omega, blkS _ _ hq.b.res (by omega), blkS _ _ hq.b.big (by omega), hq.b.pts.set _ (by omega), hq.b.below.setCell (by simp) _⟩, ?_⟩⟩
      rw [HN1.out, HN2.out, HN3.out]
      first
        | (have e := blk3_set hk 0 (.int .i64 (n1 + 1)); simp at e ⊢; exact e)
        | (have e := blk3_set hk 1 (.int .i64 (n2 + 1)); simp at e ⊢; exact e)
        | (have e := blk3_set hk 2 (.int .i64 (n3 + 1)); simp at e ⊢; exact e)
  case done =>
    rintro D xs W hD hS h hK
    obtain ⟨⟨k1, k2, k3⟩, ⟨f1, f2, f3⟩⟩ := blk3 h.out
    obtain ⟨⟨q1, q2, q3⟩, ⟨z1, z2, z3⟩⟩ := blk3 h.b.res
    rw [hS] at k1 k2 k3
    have hc : cnt r s 1 = cntL (dblR s) 1 (sidesL r) ∧ cnt r s 0 = cntL (dblR s) 0 (sidesL r) ∧ cnt r s (-1) = cntL (dblR s) (-1) (sidesL r) := ⟨rfl, rfl, rfl⟩
    have HC := hide hc
    have HH := hide h
    generalize cntL (dblR s) 1 (sidesL r) = n1 at *
    generalize cntL (dblR s) 0 (sidesL r) = n2 at *
    generalize cntL (dblR s) (-1) (sidesL r) = n3 at *
    obtain ⟨W3, hW3⟩ : ∃ W3, ((W.setCell ⟨w.heap.size, 0, none⟩ (.int .i64 n1)).setCell ⟨w.heap.size, 1, none⟩ (.int .i64 n2)).setCell ⟨w.heap.size, 2, none⟩ (.int .i64 n3) = W3 := ⟨_, rfl⟩
    have hbel : Below w.heap.size w W3 := by rw [← hW3]; exact ((h.b.below.setCell (p := ⟨w.heap.size, 0, none⟩) (by simp) _).setCell (p := ⟨w.heap.size, 1, none⟩) (by simp) _).setCell (p := ⟨w.heap.size, 2, none⟩) (by simp) _
    have hK' : W3.heap[D]? = some (.deferred (some [])) := by rw [← hW3]; exact (((KeepsOthers.setCell W ⟨w.heap.size, 0, none⟩ (.int .i64 n1)).trans (KeepsOthers.setCell _ ⟨w.heap.size, 1, none⟩ (.int .i64 n2))).trans (KeepsOthers.setCell _ ⟨w.heap.size, 2, none⟩ (.int .i64 n3))).same D _ hK rfl
    have hr3 : W3.heap[w.heap.size]? = some (.cells #[.int .i64 n1, .int .i64 n2, .int .i64 n3] 49 (0, 0)) := by
      rw [← hW3]
      have e := blk3_set (blk3_set (blk3_set h.b.res 0 (.int .i64 n1)) 1 (.int .i64 n2)) 2 (.int .i64 n3)
      simp at e
      exact e
    have hg3 := grownBy_putObj' W3 D (.deferred none)
    have hrr : ∀ r, some D = some r → ∃ o : Obj, W3.heap[r]? = some o ∧ o.isCells = false := fun r e => by cases e; exact ⟨_, hK', rfl⟩
    obtain ⟨⟨e1, e2, e3⟩, _⟩ := blk3 hr3
    have g1 := cell_kept e1 hg3 hrr
    have g2 := cell_kept e2 hg3 hrr
    have g3 := cell_kept e3 hg3 hrr
    have HK := hide hK'
    have HB := hide hbel
    have HW := hide hW3
    clear h hK hS hc hK' hbel hW3 hg3 hrr hr3 e1 e2 e3
    gi_wp2
    rw [HW.out]
    refine ⟨by simp, .inl ⟨_, _, rfl, run_takeDeferred HK.out, ?_⟩⟩
    refine ⟨.agg #[.int .i64 n1, .int .i64 n2, .int .i64 n3], ?_, by rw [HC.out.1, HC.out.2.1, HC.out.2.2], HB.out.trans (belowK_b (w := w) (Nat.le_refl _) W3 D _ _ (by omega) HK.out rfl rfl)⟩
    simp [results, Try.f35, go_sem, g1, g2, g3]
  case stop =>
    rintro D cd pre W _ _ h
    exact h.elim
end Go.Proofs.Ytmklnioedeailaa
