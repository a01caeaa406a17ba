/-
  Orient, Compare, sorted, Distance of the geometry, walked.
-/
import Derived.Test.YtfkgjbdeicggaaaGreatGeoA
namespace Go.Proofs.YtfkgjbdeicggaaaGreat
open Go.RowKit Go.Proofs.PlGeom

theorem nearL_pts (w : World) (t : TypeId) (ps : List Pt) (l : List Value) (hl : l = (ps.map fun p => [Value.int .i64 p.x, Value.int .i64 p.y]).flatten) : PtsAt (w.alloc (.cells l.toArray t)) w.heap.size ps := by
  subst hl
  intro i p hp
  have key : ∀ (ps : List Pt) (i : Nat) (p : Pt), ps[i]? = some p → ((ps.map fun p => [Value.int .i64 p.x, Value.int .i64 p.y]).flatten)[i * 2]? = some (.int .i64 p.x) ∧ ((ps.map fun p => [Value.int .i64 p.x, Value.int .i64 p.y]).flatten)[i * 2 + 1]? = some (.int .i64 p.y) := by
    intro ps
    induction ps with
    | nil => intro i p h; simp at h
    | cons q ps ih =>
      intro i p h
      cases i with
      | zero => simp at h; subst h; simp
      | succ i =>
        simp only [List.getElem?_cons_succ] at h
        have := ih i p h
        simp only [List.map_cons, List.flatten_cons, List.cons_append, List.nil_append]
        rw [show (i + 1) * 2 = i * 2 + 1 + 1 by omega]
        simpa using this
  obtain ⟨h1, h2⟩ := key ps i p hp
  exact ⟨by rw [cell_of_row _ w.heap.size (i * 2) _ t (0, 0) (heap_alloc_new w _)]; simpa using h1, by rw [cell_of_row _ w.heap.size (i * 2 + 1) _ t (0, 0) (heap_alloc_new w _)]; simpa using h2⟩

/-- near, at a slice that has just been made. -/
theorem near_new (ps : List Pt) (l : List Value) (t : TypeId) (w : World) (g c : Nat) (hg : w.heap.size = g) (hl : l = (ps.map fun p => [Value.int .i64 p.x, Value.int .i64 p.y]).flatten) (hn : ps.length ≤ 1000) (b : Bool) (hb : nearL ps = b) :
    Calls Tryz.prog 74 #[.slice (some ⟨g, 0, none⟩) ps.length c] (w.alloc (.cells l.toArray t)) fun e w' => e = .returned (.bool b) ∧ Below w.heap.size w w' := by
  subst hb hg
  refine (near_any w.heap.size c ps _ hn (by simp) (nearL_pts w t ps l hl)).mono ?_
  rintro e w' ⟨rfl, hb⟩
  exact ⟨rfl, bto ((Below.refl _ _).alloc (Nat.le_refl _) _) hb⟩
theorem near2 (ax ay bx bY : Int) (b : Bool) (hb : nearL [⟨ax, ay⟩, ⟨bx, bY⟩] = b) (w : World) (t : TypeId) (g c : Nat) (hg : w.heap.size = g) :
    Calls Tryz.prog 74 #[.slice (some ⟨g, 0, none⟩) 2 c] (w.alloc (.cells #[.int .i64 ax, .int .i64 ay, .int .i64 bx, .int .i64 bY] t)) fun e w' => e = .returned (.bool b) ∧ Below w.heap.size w w' :=
  near_new [⟨ax, ay⟩, ⟨bx, bY⟩] [.int .i64 ax, .int .i64 ay, .int .i64 bx, .int .i64 bY] t w g c hg rfl (by simp) b hb
theorem near3 (ax ay bx bY cx cy : Int) (b : Bool) (hb : nearL [⟨ax, ay⟩, ⟨bx, bY⟩, ⟨cx, cy⟩] = b) (w : World) (t : TypeId) (g c : Nat) (hg : w.heap.size = g) :
    Calls Tryz.prog 74 #[.slice (some ⟨g, 0, none⟩) 3 c] (w.alloc (.cells #[.int .i64 ax, .int .i64 ay, .int .i64 bx, .int .i64 bY, .int .i64 cx, .int .i64 cy] t)) fun e w' => e = .returned (.bool b) ∧ Below w.heap.size w w' :=
  near_new [⟨ax, ay⟩, ⟨bx, bY⟩, ⟨cx, cy⟩] [.int .i64 ax, .int .i64 ay, .int .i64 bx, .int .i64 bY, .int .i64 cx, .int .i64 cy] t w g c hg rfl (by simp) b hb
theorem near4 (ax ay bx bY cx cy dx dy : Int) (b : Bool) (hb : nearL [⟨ax, ay⟩, ⟨bx, bY⟩, ⟨cx, cy⟩, ⟨dx, dy⟩] = b) (w : World) (t : TypeId) (g c : Nat) (hg : w.heap.size = g) :
    Calls Tryz.prog 74 #[.slice (some ⟨g, 0, none⟩) 4 c] (w.alloc (.cells #[.int .i64 ax, .int .i64 ay, .int .i64 bx, .int .i64 bY, .int .i64 cx, .int .i64 cy, .int .i64 dx, .int .i64 dy] t)) fun e w' => e = .returned (.bool b) ∧ Below w.heap.size w w' :=
  near_new [⟨ax, ay⟩, ⟨bx, bY⟩, ⟨cx, cy⟩, ⟨dx, dy⟩] [.int .i64 ax, .int .i64 ay, .int .i64 bx, .int .i64 bY, .int .i64 cx, .int .i64 cy, .int .i64 dx, .int .i64 dy] t w g c hg rfl (by simp) b hb

set_option maxHeartbeats 1000000 in
theorem orient_any (ax ay bx bY cx cy : Int) (w : World) :
    Calls Tryz.prog 76 #[.agg #[.int .i64 ax, .int .i64 ay], .agg #[.int .i64 bx, .int .i64 bY], .agg #[.int .i64 cx, .int .i64 cy]] w fun e w' => e = .returned (.int .i64 (orient ⟨ax, ay⟩ ⟨bx, bY⟩ ⟨cx, cy⟩)) ∧ Below w.heap.size w w' := by
  obtain ⟨R, hR⟩ : ∃ R, R = orient ⟨ax, ay⟩ ⟨bx, bY⟩ ⟨cx, cy⟩ := ⟨_, rfl⟩
  rw [← hR]
  have HR := hide hR
  clear hR
  cases hn : nearL [⟨ax, ay⟩, ⟨bx, bY⟩, ⟨cx, cy⟩] with
  | false =>
    have HN := hide (near3 ax ay bx bY cx cy false hn)
    have hr : R = 0 := by rw [HR.out, orient, hn]; rfl
    have HR2 := hide hr
    clear hn hr HR
    go_enter Tryz.func76, Tryz.ntmps76
    go_wp2_with fail
    refine (HN.out _ _ _ _ (by simp)).mono ?_
    rintro _ w1 ⟨rfl, b1⟩
    go_wp2_with fail
    go_ret
    exact ⟨ret_int HR2.out.symm, bto ((((Below.refl _ _).alloc (Nat.le_refl _) _).alloc (by simp) _).alloc (by simp; omega) _) b1⟩
  | true =>
    have HN := hide (near3 ax ay bx bY cx cy true hn)
    have hr : R = cmpI ((bx - ax) * (cy - ay) - (bY - ay) * (cx - ax)) 0 := by rw [HR.out, orient, hn]; rfl
    have HR2 := hide hr
    simp only [nearL, Bool.and_true, Bool.and_eq_true, nearB_iff] at hn
    obtain ⟨⟨a1, a2, a3, a4⟩, ⟨c1, c2, c3, c4⟩, d1, d2, d3, d4⟩ := hn
    obtain ⟨m1, m2⟩ := prod_near (bx - ax) (cy - ay) (by omega) (by omega) (by omega) (by omega)
    obtain ⟨m3, m4⟩ := prod_near (bY - ay) (cx - ax) (by omega) (by omega) (by omega) (by omega)
    have HX := hide (fun w => cross_any (bx - ax) (bY - ay) (cx - ax) (cy - ay) w (by omega) (by omega) (by omega) (by omega))
    have HT1 := hide (fun w => to_any ax ay bx bY w (by omega) (by omega) (by omega) (by omega))
    have HT2 := hide (fun w => to_any ax ay cx cy w (by omega) (by omega) (by omega) (by omega))
    clear hr HR
    go_enter Tryz.func76, Tryz.ntmps76
    go_wp2_with fail
    refine (HN.out _ _ _ _ (by simp)).mono ?_
    rintro _ w1 ⟨rfl, b1⟩
    obtain ⟨q1, q2⟩ := bcell b1
    go_wp2_with fail
    refine (HT1.out _).mono ?_
    rintro _ w2 ⟨rfl, b2⟩
    obtain ⟨q3, q4⟩ := bcell b2
    have hz := b1.size
    simp only [World.size_alloc] at hz
    have hz0 : w.heap.size < w1.heap.size := by omega
    have hz1 : w.heap.size + 1 < w1.heap.size := by omega
    have hz2 : w.heap.size + 1 + 1 < w1.heap.size := by omega
    clear hz
    go_wp2_with fail
    refine (HT2.out _).mono ?_
    rintro _ w3 ⟨rfl, b3⟩
    go_wp2_with fail
    refine (HX.out _).mono ?_
    rintro _ w4 ⟨rfl, b4⟩
    go_wp2_with fail
    refine (cmp_any _ _ _).mono ?_
    rintro _ _ ⟨rfl, rfl⟩
    go_wp2_with fail
    go_ret
    exact ⟨ret_int HR2.out.symm, bto (bto (bto (bto ((((Below.refl _ _).alloc (Nat.le_refl _) _).alloc (by simp) _).alloc (by simp; omega) _) b1) b2) b3) b4⟩
