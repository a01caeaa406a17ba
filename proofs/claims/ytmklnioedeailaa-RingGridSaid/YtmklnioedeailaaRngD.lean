/-
  On which side of a ring a point is, walked.
-/
import Derived.Test.YtmklnioedeailaaRngC
import Derived.Test.YtmklnioedeailaaRPlain3
namespace Go.Proofs.Ytmklnioedeailaa
open Go.RowKit Go.Proofs.PlGeom Go.Proofs.PlRing
attribute [local go_sem] Oper.semAt_some

set_option maxHeartbeats 1000000 in
theorem turn_any (ax ay bx bY cx cy : Int) (ha : fineP ⟨ax, ay⟩) (hb : fineP ⟨bx, bY⟩) (hc : wideP ⟨cx, cy⟩) (w : World) :
    Calls Try.prog 51 #[.agg #[.int .i64 ax, .int .i64 ay], .agg #[.int .i64 bx, .int .i64 bY], .agg #[.int .i64 cx, .int .i64 cy]] w fun e w' => e = .returned (.int .i64 (turnP ⟨ax, ay⟩ ⟨bx, bY⟩ ⟨cx, cy⟩)) ∧ Below w.heap.size w w' := by
  obtain ⟨R, hR⟩ : ∃ R, R = turnP ⟨ax, ay⟩ ⟨bx, bY⟩ ⟨cx, cy⟩ := ⟨_, rfl⟩
  rw [← hR]
  simp only [turnP] at hR
  have HR := hide hR
  clear hR
  obtain ⟨a1, a2, a3, a4⟩ := ha
  obtain ⟨b1, b2, b3, b4⟩ := hb
  obtain ⟨c1, c2, c3, c4⟩ := hc
  simp only at a1 a2 a3 a4 b1 b2 b3 b4 c1 c2 c3 c4
  obtain ⟨m1, m2⟩ := prod_bd 12582912 (bx - ax) (cy - bY) (by omega) (by omega) (by omega) (by omega)
  obtain ⟨m3, m4⟩ := prod_bd 12582912 (bY - ay) (cx - bx) (by omega) (by omega) (by omega) (by omega)
  go_enter Try.func51, Try.ntmps51
  go_wp2
  go_ret
  exact ⟨ret_int HR.out.symm, (((Below.refl _ _).alloc (Nat.le_refl _) _).alloc (by simp) _).alloc (by simp; omega) _⟩

set_option maxHeartbeats 1000000 in
theorem between_any (a n b : Int) (w : World) : Calls Try.prog 52 #[.int .i64 a, .int .i64 n, .int .i64 b] w fun e w' => e = .returned (.bool (btwB a n b)) ∧ w = w' := by
  obtain ⟨R, hR⟩ : ∃ R, R = btwB a n b := ⟨_, rfl⟩
  rw [← hR]
  have HR := hide hR
  clear hR
  go_enter Try.func52, Try.ntmps52
  go_wp2
  all_goals
    go_ret
    exact ⟨ret_bool (by rw [HR.out]; unfold btwB; rw [Bool.eq_iff_iff]; simp only [Bool.and_eq_true, decide_eq_true_eq, Bool.false_eq_true, false_iff]; omega), rfl⟩

/-- The point and the count so far in their boxes. -/
structure LoI (w : World) (px py : Int) (n0 : Nat) (pre : List Sd) (W : World) : Prop where
  size : n0 ≤ W.heap.size
  p : W.heap[w.heap.size]? = some (.cells #[.int .i64 px, .int .i64 py] 24 (0, 0))
  res : Boxed W (w.heap.size + 1) 3 (.int .i64 0)
  wind : Boxed W (w.heap.size + 2) 3 (.int .i64 (windL ⟨px, py⟩ (pre.map Sd.v)))
  no : hitL ⟨px, py⟩ (pre.map Sd.v) = false
  below : Below w.heap.size w W
structure LoX (w : World) (px py : Int) (cd : Code) (pre : List Sd) (W : World) : Prop where
  ret : cd = .ret
  res : Boxed W (w.heap.size + 1) 3 (.int .i64 0)
  yes : hitL ⟨px, py⟩ (pre.map Sd.v) = true
  below : Below w.heap.size w W
theorem loI_own (w : World) (px py : Int) (n0 B : Nat) (hB : w.heap.size ≤ B) : OwnFrom B (LoI w px py n0) := fun _ X Y row h hg hr =>
  ⟨Nat.le_trans h.size hg.size, blk_own h.p hg (fun r e => (hr r e).2), blk_own h.res hg (fun r e => (hr r e).2), blk_own h.wind hg (fun r e => (hr r e).2), h.no, ownFrom_below (β := Unit) (Nat.le_refl _) hB () X Y row h.below hg hr⟩
theorem loX_own (w : World) (px py : Int) (B : Nat) (hB : w.heap.size ≤ B) (cd : Code) : OwnFrom B (LoX w px py cd) := fun _ X Y row h hg hr =>
  ⟨h.ret, blk_own h.res hg (fun r e => (hr r e).2), h.yes, ownFrom_below (β := Unit) (Nat.le_refl _) hB () X Y row h.below hg hr⟩

set_option maxRecDepth 100000 in
set_option maxHeartbeats 4000000 in
theorem locate_any (r : List Pt) (v : Value) (px py : Int) (w : World) (hv : SlP w v r) (hfine : Fine r) (h3 : 1 ≤ r.length) (hp : wideP ⟨px, py⟩) :
    Calls Try.prog 32 #[v, .agg #[.int .i64 px, .int .i64 py]] w fun e w' => e = .returned (.int .i64 (locate r ⟨px, py⟩)) ∧ Below w.heap.size w w' := by
  obtain ⟨A, c, rfl, hA⟩ := hv
  obtain ⟨g, o, rfl, hg, hpt⟩ := hA.resolve_left (by rintro rfl; simp at h3)
  have HP := hide hpt
  have HF := hide hfine
  clear hA hpt hfine
  refine (callsIn_wide (n := 10)).1 ?_
  refine callsIn_of_wp_marks Try.func32 rfl trivial ?_ rfl
  simp only [Try.ntmps32, List.size_toArray, List.length_cons, List.length_nil, Nat.reduceAdd, Nat.reduceSub, Array.replicate_succ, Array.replicate_zero, List.push_toArray, List.append_toArray, List.nil_append, List.cons_append]
  have hf2 : Fence.wide.fn 27 := trivial
  gi_wp2_with (gi_at_call 27; refine (callsIn_wide.2 (sides_any _ _ _ _ rfl _)).mono ?_; rintro e w2 ⟨rfl, rfl⟩)
  obtain ⟨W0, hW0⟩ : ∃ W0, (((w.alloc (.cells #[.int .i64 px, .int .i64 py] 24)).alloc (.cells #[.int .i64 0] 3)).alloc (.cells #[.int .i64 0] 3)).alloc (.cells #[.slice (some ⟨g, o, none⟩) r.length c] 22) = W0 := ⟨_, rfl⟩
  have hsz : W0.heap.size = w.heap.size + 4 := by rw [← hW0]; simp
  have hb0 : Below w.heap.size w W0 := by rw [← hW0]; exact ((((Below.refl _ w).alloc (Nat.le_refl _) _).alloc (by simp) _).alloc (by simp; omega) _).alloc (by simp; omega) _
  have q0 : W0.heap[w.heap.size]? = some (.cells #[.int .i64 px, .int .i64 py] 24 (0, 0)) := by rw [← hW0]; exact blkO _ (blkO _ (blkO _ (blkN _ _ _ rfl)))
  have q1 : Boxed W0 (w.heap.size + 1) 3 (.int .i64 0) := by rw [← hW0]; exact blkO _ (blkO _ (blkN _ _ _ (by simp)))
  have q2 : Boxed W0 (w.heap.size + 2) 3 (.int .i64 0) := by rw [← hW0]; exact blkO _ (blkN _ _ _ (by simp))
  have q3 : W0.heap[w.heap.size + 3]? = some (.cells #[.slice (some ⟨g, o, none⟩) r.length c] 22 (0, 0)) := by rw [← hW0]; exact blkN _ _ _ (by simp)
  have hrg : Rg (w.heap.size + 3) g o c r W0 := ⟨cell_of_row _ _ 0 _ _ _ q3, HP.out.below hg hb0⟩
  have e1 : w.heap.size + 1 + 1 + 1 = w.heap.size + 3 := by omega
  try simp only [e1]
  rw [hW0]
  clear hW0 q3 hf2
  refine wpIn_rangeFunc_ownH rfl (by omega) (gf := 45) (lb := #[.pointer (some ⟨w.heap.size + 3, 0, none⟩)]) rfl trivial (enters_of Try.func45 (by kernel_rfl) rfl)
    (sides_stops 9 (by omega) (w.heap.size + 3) g o c r HF.out h3 W0 hrg) Kr.trans (fun W l o o' _ h1 h2 _ => Kr.putObj W l o o' h1 h2) (Below.refl _ _) (fun _ => rfl)
    (LoI w px py W0.heap.size) (LoX w px py) (loI_own w px py _ _ (by omega)) (fun cd => loX_own w px py _ (by omega) cd) ⟨Nat.le_refl _, q0, q1, q2, rfl, hb0⟩
    (fun x a' W => ∃ Bx, W0.heap.size ≤ Bx ∧ SgBox W Bx x.s ∧ a' = { tmps := #[.slice (some ⟨g, o, none⟩) r.length c, .agg #[.int .i64 px, .int .i64 py], undef, .pointer (some ⟨w.heap.size, 0, none⟩), .pointer (some ⟨w.heap.size + 1, 0, none⟩), .pointer (some ⟨w.heap.size + 1 + 1, 0, none⟩), undef, .pointer (some ⟨Bx, 0, none⟩), undef, .slice (some ⟨g, o, none⟩) r.length c, .func (.func 45) #[] #[.pointer (some ⟨w.heap.size + 3, 0, none⟩)], .int .i64 x.i, .agg #[.int .i64 x.s.a.x, .int .i64 x.s.a.y, .int .i64 x.s.b.x, .int .i64 x.s.b.y], undef, undef, undef, undef, undef, undef, undef, undef, undef, undef, undef, undef, undef, undef, undef, undef, undef, undef, undef, undef, undef, undef, undef, undef, undef, undef, undef, undef, undef, undef, undef, undef, undef, undef, undef, undef, undef, undef, undef, undef, undef, undef, undef, undef, undef, undef, undef, undef, undef, undef, undef, undef, undef, undef, undef, undef, undef, undef, undef, undef, undef, undef, undef, undef, undef, undef, undef, undef, undef, undef, undef, undef, undef, undef, undef], defers := [] })
    (fun x a' _ X Y row hs hg hr => by
      obtain ⟨Bx, e1, e2, e3⟩ := hs
      exact ⟨Bx, e1, blk_own e2 hg (fun r e => (hr r e).2), e3⟩)
    ?assign ?body ?done ?stop
  case assign =>
    rintro l pre x W K h hK
    unfold encS
    gi_wp2
    exact hK _ _ ((KeepsOthers.alloc _ _).from _) (Kr.below ((Below.refl _ _).alloc (Nat.le_refl _) _)) ⟨by have := h.size; simp; omega, blkO _ h.p, h.res.alloc _, h.wind.alloc _, h.no, h.below.alloc h.below.size _⟩
      ⟨W.heap.size, h.size, blkN _ _ _ rfl, rfl⟩
  case body =>
    rintro l pre x a' W hl ⟨rr, hr⟩ h ⟨Bx, hBx, bX, rfl⟩ hlt
    obtain ⟨⟨c1, c2, c3, c4⟩, _⟩ := blk4 bX
    obtain ⟨⟨d1, d2⟩, _⟩ := blk2 h.p
    have HT := hide (turn_any x.s.a.x x.s.a.y x.s.b.x x.s.b.y px py x.ha x.hb hp)
    have HB1 := hide (between_any x.s.a.x px x.s.b.x)
    have HB2 := hide (between_any x.s.a.y py x.s.b.y)
    have hst : (⟨x.s.a.x, x.s.a.y⟩ : Pt) = x.s.a := rfl
    have hst2 : (⟨x.s.b.x, x.s.b.y⟩ : Pt) = x.s.b := rfl
    rw [hst, hst2] at HT
    clear hst hst2
    obtain ⟨T, hT⟩ : ∃ T, turnP x.s.a x.s.b ⟨px, py⟩ = T := ⟨_, rfl⟩
    obtain ⟨u1, hu1⟩ : ∃ u, btwB x.s.a.x px x.s.b.x = u := ⟨_, rfl⟩
    obtain ⟨u2, hu2⟩ : ∃ u, btwB x.s.a.y py x.s.b.y = u := ⟨_, rfl⟩
    rw [hT] at HT
    rw [hu1] at HB1
    rw [hu2] at HB2
    have few := HF.out.few
    obtain ⟨s1, s2⟩ := windL_bd ⟨px, py⟩ (pre.map Sd.v)
    rw [List.length_map] at s1 s2
    have hwind : windL ⟨px, py⟩ ((pre ++ [x]).map Sd.v) = windL ⟨px, py⟩ (pre.map Sd.v) + windS x.s ⟨px, py⟩ := by rw [List.map_append, windL_app]; simp [windL, Sd.v]
    have hhit : hitL ⟨px, py⟩ ((pre ++ [x]).map Sd.v) = (T == 0 && u1 && u2) := by
      rw [List.map_append, hitL_app, h.no, ← hT, ← hu1, ← hu2]; simp [hitL, Sd.v, hitB]
    have hwS : windS x.s ⟨px, py⟩ = if (x.s.a.y ≤ py ∧ py < x.s.b.y ∧ 0 < T) then 1 else if (py < x.s.a.y ∧ x.s.b.y ≤ py ∧ T < 0) then -1 else 0 := by
      unfold windS upB downB; rw [hT]; simp only [Bool.and_eq_true, decide_eq_true_eq, and_assoc]
    have hgo : ∀ W', KeepsFrom W0.heap.size W W' → Kr (w.heap.size + 3) g W W' → LoI w px py W0.heap.size (pre ++ [x]) W' → ownPostG W0.heap.size (Kr (w.heap.size + 3) g) (LoI w px py W0.heap.size) (LoX w px py) (pre ++ [x]) W .normal { tmps := #[], defers := [] } W' := fun W' a b c => ⟨a, b, c⟩
    have HW := hide hwind
    have HH := hide hhit
    have HS := hide hwS
    have HZ := hide h.wind
    have HL := hide h
    have HBX := hide bX
    generalize windL ⟨px, py⟩ (pre.map Sd.v) = Z at *
    clear hT hu1 hu2 hwind hhit hwS h bX hgo
    have hf3 : Fence.wide.fn 51 := trivial
    have hf4 : Fence.wide.fn 52 := trivial
    have hd : 1 ≤ 10 - 1 - 1 := by omega
    by_cases hT0 : T = 0
    · subst hT0
      cases u1 with
      | true =>
        cases u2 with
        | true =>
          gi_wp2_with (first
            | (gi_at_call 51; refine (CallsIn.inRound l (callsIn_wide.2 (HT.out _))).mono ?_; rintro e w5 ⟨rfl, hb5⟩; have HB5 := hide hb5; have bX5 := blkB hb5 HBX.out; obtain ⟨⟨g1, g2, g3, g4⟩, _⟩ := blk4 bX5; obtain ⟨⟨g5, g6⟩, _⟩ := blk2 (blkB hb5 HL.out.p); have q1 : Boxed w5 (w.heap.size + 1) 3 (.int .i64 0) := blkB hb5 HL.out.res; have q2 : Boxed w5 (w.heap.size + 2) 3 (.int .i64 Z) := blkB hb5 HZ.out; have r1 : w5.cell? ⟨w.heap.size + 1, 0, none⟩ = _ := q1.cell; have r2 : w5.cell? ⟨w.heap.size + 1 + 1, 0, none⟩ = _ := q2.cell; have r3 : w5.frozen? ⟨w.heap.size + 1, 0, none⟩ = false := q1.frozen; have r4 : w5.frozen? ⟨w.heap.size + 1 + 1, 0, none⟩ = false := q2.frozen; clear hb5 bX5 q1 q2)
            | (gi_at_call 52; refine (CallsIn.inRound l (callsIn_wide.2 (HB1.out _))).mono ?_; rintro _ _ ⟨rfl, rfl⟩; clear HB1)
            | (gi_at_call 52; refine (CallsIn.inRound l (callsIn_wide.2 (HB2.out _))).mono ?_; rintro _ _ ⟨rfl, rfl⟩; clear HB2))
          refine ⟨((keepsOthers_below HB5.out).trans (KeepsOthers.setCell _ _ _)).from _, ⟨rfl, Boxed.set _ (blkB HB5.out HL.out.res), by rw [HH.out]; rfl, (HL.out.below.trans (HB5.out.mono HL.out.below.size)).setCell (by simp) _⟩⟩
        | false =>
          gi_wp2_with (first
            | (gi_at_call 51; refine (CallsIn.inRound l (callsIn_wide.2 (HT.out _))).mono ?_; rintro e w5 ⟨rfl, hb5⟩; have HB5 := hide hb5; have bX5 := blkB hb5 HBX.out; obtain ⟨⟨g1, g2, g3, g4⟩, _⟩ := blk4 bX5; obtain ⟨⟨g5, g6⟩, _⟩ := blk2 (blkB hb5 HL.out.p); have q1 : Boxed w5 (w.heap.size + 1) 3 (.int .i64 0) := blkB hb5 HL.out.res; have q2 : Boxed w5 (w.heap.size + 2) 3 (.int .i64 Z) := blkB hb5 HZ.out; have r1 : w5.cell? ⟨w.heap.size + 1, 0, none⟩ = _ := q1.cell; have r2 : w5.cell? ⟨w.heap.size + 1 + 1, 0, none⟩ = _ := q2.cell; have r3 : w5.frozen? ⟨w.heap.size + 1, 0, none⟩ = false := q1.frozen; have r4 : w5.frozen? ⟨w.heap.size + 1 + 1, 0, none⟩ = false := q2.frozen; clear hb5 bX5 q1 q2)
            | (gi_at_call 52; refine (CallsIn.inRound l (callsIn_wide.2 (HB1.out _))).mono ?_; rintro _ _ ⟨rfl, rfl⟩; clear HB1)
            | (gi_at_call 52; refine (CallsIn.inRound l (callsIn_wide.2 (HB2.out _))).mono ?_; rintro _ _ ⟨rfl, rfl⟩; clear HB2))
          all_goals
            refine ⟨(keepsOthers_below HB5.out).from _, Kr.below HB5.out, ⟨(by have := HL.out.size; have := HB5.out.size; omega), blkB HB5.out HL.out.p, blkB HB5.out HL.out.res, ?_, ?_, HL.out.below.trans (HB5.out.mono HL.out.below.size)⟩⟩
            · rw [HW.out, HS.out, if_neg (by omega), if_neg (by omega), Int.add_zero]; exact blkB HB5.out HZ.out
            · rw [HH.out]; simp
      | false =>
        gi_wp2_with (first
          | (gi_at_call 51; refine (CallsIn.inRound l (callsIn_wide.2 (HT.out _))).mono ?_; rintro e w5 ⟨rfl, hb5⟩; have HB5 := hide hb5; have bX5 := blkB hb5 HBX.out; obtain ⟨⟨g1, g2, g3, g4⟩, _⟩ := blk4 bX5; obtain ⟨⟨g5, g6⟩, _⟩ := blk2 (blkB hb5 HL.out.p); have q1 : Boxed w5 (w.heap.size + 1) 3 (.int .i64 0) := blkB hb5 HL.out.res; have q2 : Boxed w5 (w.heap.size + 2) 3 (.int .i64 Z) := blkB hb5 HZ.out; have r1 : w5.cell? ⟨w.heap.size + 1, 0, none⟩ = _ := q1.cell; have r2 : w5.cell? ⟨w.heap.size + 1 + 1, 0, none⟩ = _ := q2.cell; have r3 : w5.frozen? ⟨w.heap.size + 1, 0, none⟩ = false := q1.frozen; have r4 : w5.frozen? ⟨w.heap.size + 1 + 1, 0, none⟩ = false := q2.frozen; clear hb5 bX5 q1 q2)
          | (gi_at_call 52; refine (CallsIn.inRound l (callsIn_wide.2 (HB1.out _))).mono ?_; rintro _ _ ⟨rfl, rfl⟩; clear HB1))
        all_goals
          refine ⟨(keepsOthers_below HB5.out).from _, Kr.below HB5.out, ⟨(by have := HL.out.size; have := HB5.out.size; omega), blkB HB5.out HL.out.p, blkB HB5.out HL.out.res, ?_, ?_, HL.out.below.trans (HB5.out.mono HL.out.below.size)⟩⟩
          · rw [HW.out, HS.out, if_neg (by omega), if_neg (by omega), Int.add_zero]; exact blkB HB5.out HZ.out
          · rw [HH.out]; simp
    · have hT1 : (T == 0) = false := by simpa using hT0
      gi_wp2_with (gi_at_call 51; refine (CallsIn.inRound l (callsIn_wide.2 (HT.out _))).mono ?_; rintro e w5 ⟨rfl, hb5⟩; have HB5 := hide hb5; have bX5 := blkB hb5 HBX.out; obtain ⟨⟨g1, g2, g3, g4⟩, _⟩ := blk4 bX5; obtain ⟨⟨g5, g6⟩, _⟩ := blk2 (blkB hb5 HL.out.p); have q1 : Boxed w5 (w.heap.size + 1) 3 (.int .i64 0) := blkB hb5 HL.out.res; have q2 : Boxed w5 (w.heap.size + 2) 3 (.int .i64 Z) := blkB hb5 HZ.out; have r1 : w5.cell? ⟨w.heap.size + 1, 0, none⟩ = _ := q1.cell; have r2 : w5.cell? ⟨w.heap.size + 1 + 1, 0, none⟩ = _ := q2.cell; have r3 : w5.frozen? ⟨w.heap.size + 1, 0, none⟩ = false := q1.frozen; have r4 : w5.frozen? ⟨w.heap.size + 1 + 1, 0, none⟩ = false := q2.frozen; clear hb5 bX5 q1 q2)
      all_goals first
      |
        (refine ⟨(keepsOthers_below HB5.out).from _, Kr.below HB5.out, ⟨(by have := HL.out.size; have := HB5.out.size; omega), blkB HB5.out HL.out.p, blkB HB5.out HL.out.res, ?_, ?_, HL.out.below.trans (HB5.out.mono HL.out.below.size)⟩⟩
         · rw [HW.out, HS.out, if_neg (by omega), if_neg (by omega), Int.add_zero]; exact blkB HB5.out HZ.out
         · rw [HH.out]; simp [hT0])
      |
        (refine ⟨((keepsOthers_below HB5.out).trans (KeepsOthers.setCell _ _ _)).from _, Kr.trans (Kr.below HB5.out) (Kr.set _ _ _ _ (by omega) (by omega)), ⟨(by have := HL.out.size; have := HB5.out.size; simp; omega), blkS _ _ (blkB HB5.out HL.out.p) (by omega), blkS _ _ (blkB HB5.out HL.out.res) (by omega), ?_, ?_, (HL.out.below.trans (HB5.out.mono HL.out.below.size)).setCell (by simp; omega) _⟩⟩
         · rw [HW.out, HS.out, if_pos (by omega)]; exact Boxed.set _ (show Boxed w5 (w.heap.size + 1 + 1) 3 (.int .i64 Z) from blkB HB5.out HZ.out)
         · rw [HH.out]; simp [hT0])
      |
        (refine ⟨((keepsOthers_below HB5.out).trans (KeepsOthers.setCell _ _ _)).from _, Kr.trans (Kr.below HB5.out) (Kr.set _ _ _ _ (by omega) (by omega)), ⟨(by have := HL.out.size; have := HB5.out.size; simp; omega), blkS _ _ (blkB HB5.out HL.out.p) (by omega), blkS _ _ (blkB HB5.out HL.out.res) (by omega), ?_, ?_, (HL.out.below.trans (HB5.out.mono HL.out.below.size)).setCell (by simp; omega) _⟩⟩
         · rw [HW.out, HS.out, if_neg (by omega), if_pos (by omega)]; exact Boxed.set _ (show Boxed w5 (w.heap.size + 1 + 1) 3 (.int .i64 Z) from blkB HB5.out HZ.out)
         · rw [HH.out]; simp [hT0])
  case done =>
    rintro D xs W hD hS h hK
    have c0 : W.cell? ⟨w.heap.size + 1 + 1, 0, none⟩ = _ := h.wind.cell
    have r3 : W.frozen? ⟨w.heap.size + 1, 0, none⟩ = false := h.res.frozen
    have r1 : W.cell? ⟨w.heap.size + 1, 0, none⟩ = _ := h.res.cell
    have hno := h.no
    rw [hS] at c0 hno
    have hloc : locate r ⟨px, py⟩ = if windL ⟨px, py⟩ (sidesL r) = 0 then -1 else 1 := by unfold locate locateL; rw [hno]; rfl
    have HH := hide h
    have HK := hide hK
    generalize windL ⟨px, py⟩ (sidesL r) = Z at *
    clear h hK hno hS
    by_cases hz : Z = 0
    · subst hz
      rw [if_pos rfl] at hloc
      have HR := hide hloc
      clear hloc
      have hK' := (KeepsOthers.setCell W ⟨w.heap.size + 1, 0, none⟩ (.int .i64 (-1))).same D _ HK.out rfl
      have B0 : Boxed (W.setCell ⟨w.heap.size + 1, 0, none⟩ (.int .i64 (-1))) (w.heap.size + 1) 3 (.int .i64 (-1)) := HH.out.res.set _
      have d0 := cell_kept B0.cell (grownBy_putObj' _ D (.deferred none)) (fun r e => by cases e; exact ⟨_, hK', rfl⟩)
      have hbel := HH.out.below.setCell (p := ⟨w.heap.size + 1, 0, none⟩) (by simp) (.int .i64 (-1))
      gi_wp2
      refine ⟨by simp, .inl ⟨_, _, rfl, run_takeDeferred hK', ?_⟩⟩
      refine ⟨.int .i64 (-1), ?_, by rw [HR.out], hbel.trans (belowK_b (w := w) (Nat.le_refl _) _ D _ _ (by omega) hK' rfl rfl)⟩
      simp [results, Try.f32, go_sem, d0]
    · rw [if_neg hz] at hloc
      have hz1 : (Z == 0) = false := by simpa using hz
      have HR := hide hloc
      clear hloc
      have hK' := (KeepsOthers.setCell W ⟨w.heap.size + 1, 0, none⟩ (.int .i64 (1))).same D _ HK.out rfl
      have B0 : Boxed (W.setCell ⟨w.heap.size + 1, 0, none⟩ (.int .i64 (1))) (w.heap.size + 1) 3 (.int .i64 (1)) := HH.out.res.set _
      have d0 := cell_kept B0.cell (grownBy_putObj' _ D (.deferred none)) (fun r e => by cases e; exact ⟨_, hK', rfl⟩)
      have hbel := HH.out.below.setCell (p := ⟨w.heap.size + 1, 0, none⟩) (by simp) (.int .i64 (1))
      gi_wp2
      refine ⟨by simp, .inl ⟨_, _, rfl, run_takeDeferred hK', ?_⟩⟩
      refine ⟨.int .i64 (1), ?_, by rw [HR.out], hbel.trans (belowK_b (w := w) (Nat.le_refl _) _ D _ _ (by omega) hK' rfl rfl)⟩
      simp [results, Try.f32, go_sem, d0]
  case stop =>
    rintro D cd pre W hD hS h hK
    obtain ⟨rfl, hres, hyes, hbel⟩ := h
    have hloc : locate r ⟨px, py⟩ = 0 := by unfold locate locateL; rw [hitL_prefix _ _ _ hS hyes]; rfl
    have HR := hide hloc
    have d0 := cell_kept hres.cell (grownBy_putObj' _ D (.deferred none)) (fun r e => by cases e; exact ⟨_, hK, rfl⟩)
    have HK := hide hK
    clear hloc hyes hS
    gi_wp2
    refine ⟨by simp, .inl ⟨_, _, rfl, run_takeDeferred HK.out, ?_⟩⟩
    refine ⟨.int .i64 0, ?_, by rw [HR.out], hbel.trans (belowK_b (w := w) (Nat.le_refl _) _ D _ _ (by omega) HK.out rfl rfl)⟩
    simp [results, Try.f32, go_sem, d0]
end Go.Proofs.Ytmklnioedeailaa
