/-
  Compare, sorted, Distance of the geometry, walked.
-/
import Derived.Test.YtfkgjbdeicggaaaGreatGeoB
import Derived.OneCell
namespace Go.Proofs.YtfkgjbdeicggaaaGreat
open Go.RowKit Go.Proofs.PlGeom

theorem blk2 {w : World} {g : Nat} {a b : Value} {t : TypeId} (h : w.heap[g]? = some (.cells #[a, b] t (0, 0))) : (w.cell? ⟨g, 0, none⟩ = some a ∧ w.cell? ⟨g, 1, none⟩ = some b) ∧ (w.frozen? ⟨g, 0, none⟩ = false ∧ w.frozen? ⟨g, 1, none⟩ = false) :=
  ⟨⟨cell_of_row w g 0 _ t _ h, cell_of_row w g 1 _ t _ h⟩, frozen_of_row w g 0 _ t h, frozen_of_row w g 1 _ t h⟩
theorem blk4 {w : World} {g : Nat} {a b c d : Value} {t : TypeId} (h : w.heap[g]? = some (.cells #[a, b, c, d] t (0, 0))) : (w.cell? ⟨g, 0, none⟩ = some a ∧ w.cell? ⟨g, 1, none⟩ = some b ∧ w.cell? ⟨g, 2, none⟩ = some c ∧ w.cell? ⟨g, 3, none⟩ = some d) ∧
    (w.frozen? ⟨g, 0, none⟩ = false ∧ w.frozen? ⟨g, 1, none⟩ = false ∧ w.frozen? ⟨g, 2, none⟩ = false ∧ w.frozen? ⟨g, 3, none⟩ = false) :=
  ⟨⟨cell_of_row w g 0 _ t _ h, cell_of_row w g 1 _ t _ h, cell_of_row w g 2 _ t _ h, cell_of_row w g 3 _ t _ h⟩, frozen_of_row w g 0 _ t h, frozen_of_row w g 1 _ t h, frozen_of_row w g 2 _ t h, frozen_of_row w g 3 _ t h⟩
theorem blkB {w w' : World} {g : Nat} {o : Obj} (hb : Below w.heap.size w w') (h : w.heap[g]? = some o) : w'.heap[g]? = some o := (hb.block g (lt_of_block h)).trans h
theorem blkO {w : World} {g : Nat} {o : Obj} (x : Obj) (h : w.heap[g]? = some o) : (w.alloc x).heap[g]? = some o := (heap_alloc_old w x (lt_of_block h)).trans h
theorem blkN (w : World) (o : Obj) (g : Nat) (hg : w.heap.size = g) : (w.alloc o).heap[g]? = some o := by subst hg; exact heap_alloc_new w o

def PrsAt (w : World) (g : Nat) (ps : List (Int × Int)) : Prop := PtsAt w g (ps.map fun p => ⟨p.1, p.2⟩)
theorem drop_pr (ts : List (Int × Int)) (k : Nat) (h : k < ts.length) : ts.drop k = ts[k] :: ts.drop (k + 1) := List.drop_eq_getElem_cons h

set_option maxHeartbeats 1000000 in
theorem first_any (g c : Nat) (ps : List (Int × Int)) (w : World) (hn : ps.length ≤ 1000) (hg : g < w.heap.size) (h : PrsAt w g ps) :
    Calls Tryz.prog 189 #[.slice (some ⟨g, 0, none⟩) ps.length c] w fun e w' => e = .returned (.int .i64 (firstL ps)) ∧ Below w.heap.size w w' := by
  obtain ⟨R, hR⟩ : ∃ R, R = firstL ps := ⟨_, rfl⟩
  rw [← hR]
  have HR := hide hR
  have H1 := hide h
  clear h hR
  obtain ⟨n, hnn⟩ : ∃ n, n = ps.length := ⟨_, rfl⟩
  rw [← hnn]
  have hn1 : n ≤ ps.length := by omega
  have hn2 : ps.length ≤ n := by omega
  clear hnn
  go_enter Tryz.func189, Tryz.ntmps189
  go_wp2
  go_loopw [8] (fun i wr => ∃ k : Nat, k ≤ n ∧ i = .int .i64 k ∧ Below w.heap.size w wr ∧ Hid (firstL (ps.drop k) = R)) (fun i _ => n - (intOf i).toNat)
  case atStart => exact ⟨0, Nat.zero_le _, rfl, Below.refl _ _, HR.out.symm⟩
  case round =>
    obtain ⟨k, hk, rfl, hb, hrel⟩ := hrel
    by_cases hlt : k < n
    · have hka : k < ps.length := by omega
      have HA := hide (drop_pr ps k hka)
      obtain ⟨k1, k2⟩ := (PtsAt.below H1.out hg hb) k ⟨ps[k].1, ps[k].2⟩ (by simp [List.getElem?_eq_getElem hka])
      generalize ps[k] = p at *
      have HS : Hid (firstL (p :: ps.drop (k + 1)) = R) := by
        have := hrel.out
        rw [HA.out] at this
        exact this
      clear hka HA hrel
      obtain ⟨a, b⟩ := p
      simp only at k1 k2
      have b1 : (0 : Int) ≤ k := by omega
      have b2 : (k : Int) < n := by omega
      have HC := hide (cmp_any a b)
      obtain ⟨cc, hcc⟩ : ∃ cc, cc = cmpI a b := ⟨_, rfl⟩
      rw [← hcc] at HC
      have HCC := hide hcc
      clear hcc
      by_cases h0 : cc = 0
      · subst h0
        have hs2 : firstL (ps.drop (k + 1)) = R := by
          have := HS.out
          rw [firstL, if_neg (by simp [← HCC.out])] at this
          exact this
        have HS2 := hide hs2
        clear hs2
        go_wp2_with fail
        refine (HC.out _).mono ?_
        rintro _ _ ⟨rfl, rfl⟩
        go_wp2_with fail
        refine ⟨⟨k + 1, by omega, by go_num, hb.alloc hb.size _, HS2.out⟩, ?_⟩
        simp [intOf]; omega
      · have hs2 : cc = R := by
          have := HS.out
          rw [firstL, if_pos (by simp only; rw [← HCC.out]; exact h0), ← HCC.out] at this
          exact this
        have HS2 := hide hs2
        have h1 : (cc != 0) = true := by rw [bne_iff_ne]; exact h0
        clear hs2 h0
        go_wp2_with fail
        refine (HC.out _).mono ?_
        rintro _ _ ⟨rfl, rfl⟩
        go_wp2_with fail
        go_ret
        exact ⟨ret_int HS2.out, hb.alloc hb.size _⟩
    · have hr : R = 0 := by rw [← hrel.out, List.drop_eq_nil_of_le (by omega)]; rfl
      have HR2 := hide hr
      clear hr hrel
      go_wp2_with fail
      go_ret
      exact ⟨ret_int HR2.out.symm, hb⟩

theorem first2 (a b c d : Int) (w : World) (t : TypeId) (g k : Nat) (hg : w.heap.size = g) :
    Calls Tryz.prog 189 #[.slice (some ⟨g, 0, none⟩) 2 k] (w.alloc (.cells #[.int .i64 a, .int .i64 b, .int .i64 c, .int .i64 d] t)) fun e w' => e = .returned (.int .i64 (cmpP ⟨a, c⟩ ⟨b, d⟩)) ∧ Below w.heap.size w w' := by
  subst hg
  refine (first_any w.heap.size k [(a, b), (c, d)] _ (by simp) (by simp) (nearL_pts w t [⟨a, b⟩, ⟨c, d⟩] [.int .i64 a, .int .i64 b, .int .i64 c, .int .i64 d] rfl)).mono ?_
  rintro e w' ⟨rfl, hb⟩
  rw [firstL_two]
  exact ⟨rfl, bto ((Below.refl _ _).alloc (Nat.le_refl _) _) hb⟩

set_option maxHeartbeats 1000000 in
theorem compare_any (ax ay bx bY : Int) (w : World) :
    Calls Tryz.prog 125 #[.agg #[.int .i64 ax, .int .i64 ay], .agg #[.int .i64 bx, .int .i64 bY]] w fun e w' => e = .returned (.int .i64 (cmpP ⟨ax, ay⟩ ⟨bx, bY⟩)) ∧ Below w.heap.size w w' := by
  have HF := hide (first2 ax bx ay bY)
  go_enter Tryz.func125, Tryz.ntmps125
  go_wp2_with fail
  refine (HF.out _ _ _ _ (by simp)).mono ?_
  rintro _ w1 ⟨rfl, b1⟩
  go_wp2_with fail
  go_ret
  exact ⟨rfl, bto (((Below.refl _ _).alloc (Nat.le_refl _) _).alloc (by simp) _) b1⟩

set_option maxHeartbeats 1000000 in
theorem sorted_any (ax ay bx bY : Int) (w : World) :
    Calls Tryz.prog 75 #[.agg #[.int .i64 ax, .int .i64 ay, .int .i64 bx, .int .i64 bY]] w fun e w' => e = .returned (vS (sortS ⟨⟨ax, ay⟩, ⟨bx, bY⟩⟩)) ∧ Below w.heap.size w w' := by
  have HC := hide (compare_any ax ay bx bY)
  obtain ⟨cc, hcc⟩ : ∃ cc, cc = cmpP ⟨ax, ay⟩ ⟨bx, bY⟩ := ⟨_, rfl⟩
  rw [← hcc] at HC
  by_cases h0 : 0 < cc
  · have hs : vS (sortS ⟨⟨ax, ay⟩, ⟨bx, bY⟩⟩) = .agg #[.int .i64 bx, .int .i64 bY, .int .i64 ax, .int .i64 ay] := by
      simp only [sortS, ← hcc, h0, if_true, vS]
    rw [hs]
    clear hs hcc
    go_enter Tryz.func75, Tryz.ntmps75
    go_wp2_with fail
    refine (HC.out _).mono ?_
    rintro _ w1 ⟨rfl, b1⟩
    obtain ⟨⟨q1, q2, q3, q4⟩, p1, p2, p3, p4⟩ := blk4 (blkB b1 (blkO _ (heap_alloc_new w _)))
    obtain ⟨⟨r1, r2, r3, r4⟩, s1, s2, s3, s4⟩ := blk4 (show w1.heap[w.heap.size + 1]? = some (Obj.cells #[.int .i64 0, .int .i64 0, .int .i64 0, .int .i64 0] 68 (0, 0)) from blkB b1 (blkN _ _ _ (by simp)))
    have hz := b1.size
    simp only [World.size_alloc] at hz
    have hz0 : w.heap.size < w1.heap.size := by omega
    have hz1 : w.heap.size + 1 < w1.heap.size := by omega
    clear hz
    go_wp2_with fail
    have hB := bto (((Below.refl _ w).alloc (Nat.le_refl _) _).alloc (by simp) _) b1
    exact bodyPost_ret (v := .agg #[.int .i64 bx, .int .i64 bY, .int .i64 ax, .int .i64 ay]) (by simp [results, Tryz.results75, go_sem, r1, r2, r3, r4]) rfl
      ⟨rfl, (((((((hB.setCell (by simp) _).setCell (by simp) _).setCell (by simp) _).setCell (by simp) _).setCell (by simp) _).setCell (by simp) _).setCell (by simp) _).setCell (by simp) _⟩
  · have hs : vS (sortS ⟨⟨ax, ay⟩, ⟨bx, bY⟩⟩) = .agg #[.int .i64 ax, .int .i64 ay, .int .i64 bx, .int .i64 bY] := by
      simp only [sortS, ← hcc, h0, if_false, vS]
    rw [hs]
    clear hs hcc
    go_enter Tryz.func75, Tryz.ntmps75
    go_wp2_with fail
    refine (HC.out _).mono ?_
    rintro _ w1 ⟨rfl, b1⟩
    obtain ⟨⟨q1, q2, q3, q4⟩, p1, p2, p3, p4⟩ := blk4 (blkB b1 (blkO _ (heap_alloc_new w _)))
    obtain ⟨⟨r1, r2, r3, r4⟩, s1, s2, s3, s4⟩ := blk4 (show w1.heap[w.heap.size + 1]? = some (Obj.cells #[.int .i64 0, .int .i64 0, .int .i64 0, .int .i64 0] 68 (0, 0)) from blkB b1 (blkN _ _ _ (by simp)))
    have hz := b1.size
    simp only [World.size_alloc] at hz
    have hz0 : w.heap.size < w1.heap.size := by omega
    have hz1 : w.heap.size + 1 < w1.heap.size := by omega
    clear hz
    go_wp2_with fail
    have hB := bto (((Below.refl _ w).alloc (Nat.le_refl _) _).alloc (by simp) _) b1
    exact bodyPost_ret (v := .agg #[.int .i64 ax, .int .i64 ay, .int .i64 bx, .int .i64 bY]) (by simp [results, Tryz.results75, go_sem, r1, r2, r3, r4]) rfl
      ⟨rfl, (((hB.setCell (by simp) _).setCell (by simp) _).setCell (by simp) _).setCell (by simp) _⟩

/-! Equality of points and of segments. -/
def ptEq (a b c d : Int) : Bool := a == c && b == d
theorem ptEq_iff (p q : Pt) : ptEq p.x p.y q.x q.y = decide (p = q) := by
  obtain ⟨a, b⟩ := p
  obtain ⟨c, d⟩ := q
  rw [Bool.eq_iff_iff]; simp [ptEq]
@[go_sem ↓] theorem eqPt (a b c d : Int) (w : World) :
    (Op.equalIn 10000 44 (.agg #[.int .i64 a, .int .i64 b]) (.agg #[.int .i64 c, .int .i64 d])).run Tryz.prog w = .ok (ptEq a b c d) w := by
  have u3 := Tryz.underlying3
  have a3 := Tryz.isAgg3
  have z3 := Tryz.sizeOf3
  have hS : Tryz.prog.underlying 44 = some (.struct (Tryz.prog.fieldsOf 44)) := by kernel_rfl
  have hp : Tryz.prog.stoodInHeld 44 = false := by kernel_rfl
  rw [show (10000 : Nat) = 9999 + 1 from rfl, run_equalIn_agg w 9999 44 _ _ hS hp]
  simp only [Program.fieldsOf, Tryz.underlying44]
  go_simp
  unfold ptEq
  by_cases h1 : a = c <;> by_cases h2 : b = d <;> simp [h1, h2]
theorem eqPt9 (a b c d : Int) (w : World) :
    (Op.equalIn 9999 44 (.agg #[.int .i64 a, .int .i64 b]) (.agg #[.int .i64 c, .int .i64 d])).run Tryz.prog w = .ok (ptEq a b c d) w := by
  have u3 := Tryz.underlying3
  have a3 := Tryz.isAgg3
  have z3 := Tryz.sizeOf3
  have hS : Tryz.prog.underlying 44 = some (.struct (Tryz.prog.fieldsOf 44)) := by kernel_rfl
  have hp : Tryz.prog.stoodInHeld 44 = false := by kernel_rfl
  rw [show (9999 : Nat) = 9998 + 1 from rfl, run_equalIn_agg w 9998 44 _ _ hS hp]
  simp only [Program.fieldsOf, Tryz.underlying44]
  go_simp
  unfold ptEq
  by_cases h1 : a = c <;> by_cases h2 : b = d <;> simp [h1, h2]
@[go_sem] theorem guardPt (op : BinOp) (x y : Operand) (xs ys : Array Value) (w : World) : (eqGuard op 44 x y (.agg xs) (.agg ys)).run Tryz.prog w = .ok () w :=
  run_eqGuard_agg w op 44 x y xs ys (by kernel_rfl)
def sgEq (a b c d e f g h : Int) : Bool := ptEq a b e f && ptEq c d g h
theorem sgEq_iff (s t : Sg) : sgEq s.a.x s.a.y s.b.x s.b.y t.a.x t.a.y t.b.x t.b.y = decide (s = t) := by
  obtain ⟨⟨a, b⟩, ⟨c, d⟩⟩ := s
  obtain ⟨⟨e, f⟩, ⟨g, h⟩⟩ := t
  rw [Bool.eq_iff_iff]; simp [sgEq, ptEq]
@[go_sem ↓] theorem eqSg (a b c d e f g h : Int) (w : World) :
    (Op.equalIn 10000 68 (.agg #[.int .i64 a, .int .i64 b, .int .i64 c, .int .i64 d]) (.agg #[.int .i64 e, .int .i64 f, .int .i64 g, .int .i64 h])).run Tryz.prog w = .ok (sgEq a b c d e f g h) w := by
  have a3 := Tryz.isAgg44
  have z3 := Tryz.sizeOf44
  have hS : Tryz.prog.underlying 68 = some (.struct (Tryz.prog.fieldsOf 68)) := by kernel_rfl
  have hp : Tryz.prog.stoodInHeld 68 = false := by kernel_rfl
  have E := eqPt9
  rw [show (10000 : Nat) = 9999 + 1 from rfl, run_equalIn_agg w 9999 68 _ _ hS hp]
  simp only [Program.fieldsOf, Tryz.underlying68]
  go_simp
  unfold sgEq
  cases ptEq a b e f <;> cases ptEq c d g h <;> simp
@[go_sem] theorem guardSg (op : BinOp) (x y : Operand) (xs ys : Array Value) (w : World) : (eqGuard op 68 x y (.agg xs) (.agg ys)).run Tryz.prog w = .ok () w :=
  run_eqGuard_agg w op 68 x y xs ys (by kernel_rfl)
