/-
  Roots and distances, walked (texts of the seat of geom, what this seat has of them).
-/
import Derived.Test.YtpiocaomlifljaaRows
import Derived.Test.YtpiocaomlifljaaPlain5
import Derived.WalkKit
import Derived.WalkSpells
import Derived.WalkLawsBesides
import Derived.Below
import Derived.OneCell
import Derived.Deep.DeepCutAuto
import Derived.RegionTactic
import Derived.BigRegion
import Derived.Laws.Bits64b
import Derived.Laws.BitsLemmas
import Derived.Deep.QuietTactic
import Derived.BigQuiet
namespace Go.Proofs.Ytpiocaomlifljaa.G
open Go.RowKit Go.Proofs.PlGeom

theorem hide {p : Prop} (h : p) : Hid p := h
theorem ret_bool {a b : Bool} (h : a = b) : Ending.returned (.bool a) = .returned (.bool b) := by rw [h]
theorem ret_int {k : IntKind} {a b : Int} (h : a = b) : Ending.returned (.int k a) = .returned (.int k b) := by rw [h]
theorem bto {a b c : World} (h : Below a.heap.size a b) (k : Below b.heap.size b c) : Below a.heap.size a c := h.trans (k.mono h.size)
theorem bcell {W w1 : World} (hb : Below W.heap.size W w1) : (∀ b o, b < W.heap.size → w1.cell? ⟨b, o, none⟩ = W.cell? ⟨b, o, none⟩) ∧ (∀ b o, b < W.heap.size → w1.frozen? ⟨b, o, none⟩ = W.frozen? ⟨b, o, none⟩) :=
  ⟨fun b o h => hb.cell (p := ⟨b, o, none⟩) h, fun b o h => hb.frozen (p := ⟨b, o, none⟩) h⟩

def vP (p : Pt) : Value := .agg #[.int .i64 p.x, .int .i64 p.y]
def vS (s : Sg) : Value := .agg #[.int .i64 s.a.x, .int .i64 s.a.y, .int .i64 s.b.x, .int .i64 s.b.y]

set_option maxHeartbeats 400000 in
theorem to_any (a b c d : Int) (w : World) (h1 : -1000000000000000000 ≤ c - a) (h2 : c - a ≤ 1000000000000000000) (h3 : -1000000000000000000 ≤ d - b) (h4 : d - b ≤ 1000000000000000000) :
    Calls Try.prog 77 #[.agg #[.int .i64 a, .int .i64 b], .agg #[.int .i64 c, .int .i64 d]] w fun e w' => e = .returned (.agg #[.int .i64 (c - a), .int .i64 (d - b)]) ∧ Below w.heap.size w w' := by
  go_enter Try.func77, Try.ntmps77
  go_wp2
  exact bodyPost_ret (v := .agg #[.int .i64 (c - a), .int .i64 (d - b)]) (by simp [results, Try.results77, go_sem]) rfl ⟨rfl, (((Below.refl _ _).alloc (Nat.le_refl _) _).alloc (by simp) _).alloc (by simp; omega) _⟩

set_option maxHeartbeats 400000 in
theorem dot_any (a b c d : Int) (w : World) (h1 : -1000000000000000000 ≤ a * c) (h2 : a * c ≤ 1000000000000000000) (h3 : -1000000000000000000 ≤ b * d) (h4 : b * d ≤ 1000000000000000000) :
    Calls Try.prog 78 #[.agg #[.int .i64 a, .int .i64 b], .agg #[.int .i64 c, .int .i64 d]] w fun e w' => e = .returned (.int .i64 (a * c + b * d)) ∧ Below w.heap.size w w' := by
  go_enter Try.func78, Try.ntmps78
  go_wp2
  go_ret
  exact ⟨rfl, ((Below.refl _ _).alloc (Nat.le_refl _) _).alloc (by simp) _⟩

/-- A slice of points, as it lies in memory. -/
def PtsAt (w : World) (g : Nat) (ps : List Pt) : Prop :=
  ∀ i p, ps[i]? = some p → w.cell? ⟨g, i * 2, none⟩ = some (.int .i64 p.x) ∧ w.cell? ⟨g, i * 2 + 1, none⟩ = some (.int .i64 p.y)
theorem PtsAt.below {w w' : World} {g : Nat} {ps : List Pt} (h : PtsAt w g ps) (hg : g < w.heap.size) (hb : Below w.heap.size w w') : PtsAt w' g ps := by
  intro i p hp
  obtain ⟨h1, h2⟩ := h i p hp
  exact ⟨(hb.cell (p := ⟨g, _, none⟩) hg).trans h1, (hb.cell (p := ⟨g, _, none⟩) hg).trans h2⟩
theorem drop_pt (ts : List Pt) (k : Nat) (h : k < ts.length) : ts.drop k = ts[k] :: ts.drop (k + 1) := List.drop_eq_getElem_cons h

set_option maxHeartbeats 1000000 in
theorem near_any (g c : Nat) (ps : List Pt) (w : World) (hn : ps.length ≤ 1000) (hg : g < w.heap.size) (h : PtsAt w g ps) :
    Calls Try.prog 76 #[.slice (some ⟨g, 0, none⟩) ps.length c] w fun e w' => e = .returned (.bool (nearL ps)) ∧ Below w.heap.size w w' := by
  obtain ⟨R, hR⟩ : ∃ R, R = nearL ps := ⟨_, rfl⟩
  rw [← hR]
  have HR := hide hR
  have H1 := hide h
  clear h hR
  obtain ⟨n, hnn⟩ : ∃ n, n = ps.length := ⟨_, rfl⟩
  rw [← hnn]
  have hn1 : n ≤ ps.length := by omega
  have hn2 : ps.length ≤ n := by omega
  clear hnn
  go_enter Try.func76, Try.ntmps76
  go_wp2
  go_loopw [7] (fun i wr => ∃ k : Nat, k ≤ n ∧ i = .int .i64 k ∧ Below w.heap.size w wr ∧ Hid (nearL (ps.drop k) = R)) (fun i _ => n - (intOf i).toNat)
  case atStart => exact ⟨0, Nat.zero_le _, rfl, Below.refl _ _, HR.out.symm⟩
  case round =>
    obtain ⟨k, hk, rfl, hb, hrel⟩ := hrel
    by_cases hlt : k < n
    · have hka : k < ps.length := by omega
      have HA := hide (drop_pt ps k hka)
      obtain ⟨k1, k2⟩ := (H1.out.below hg hb) k ps[k] (List.getElem?_eq_getElem hka)
      generalize ps[k] = p at *
      have HS : Hid ((nearB p && nearL (ps.drop (k + 1))) = R) := by
        have := hrel.out
        rw [HA.out] at this
        exact this
      clear hka HA hrel
      obtain ⟨px, py⟩ := p
      simp only at k1 k2
      have b1 : (0 : Int) ≤ k := by omega
      have b2 : (k : Int) < n := by omega
      cases hp : nearB ⟨px, py⟩ with
      | true =>
        obtain ⟨p1, p2, p3, p4⟩ := (nearB_iff _).1 hp
        simp only at p1 p2 p3 p4
        have m1 : decide (2097152 < max px py) = false := by simp; omega
        have m2 : decide (min px py < -2097152) = false := by simp; omega
        rw [hp] at HS
        clear hp
        go_wp2
        all_goals
          go_roundw
          case rel => exact ⟨k + 1, by omega, by go_num, hb.alloc hb.size _, HS.out⟩
          case measure => simp [intOf]; omega
      | false =>
        have HP : Hid (¬ (-2097152 ≤ px ∧ px ≤ 2097152 ∧ -2097152 ≤ py ∧ py ≤ 2097152)) := by
          intro h
          rw [(nearB_iff ⟨px, py⟩).2 h] at hp
          cases hp
        rw [hp] at HS
        clear hp
        go_wp2
        all_goals first
          | (go_ret; exact ⟨ret_bool HS.out, hb.alloc hb.size _⟩)
          | (exfalso; have := HP.out; omega)
    · have hr : R = true := by rw [← hrel.out, List.drop_eq_nil_of_le (by omega)]; rfl
      have HR2 := hide hr
      clear hr hrel
      go_wp2
      go_ret
      exact ⟨ret_bool HR2.out.symm, hb⟩

theorem nearL_pts (w : World) (t : TypeId) (ps : List Pt) (l : List Value) (hl : l = (ps.map fun p => [Value.int .i64 p.x, Value.int .i64 p.y]).flatten) : PtsAt (w.alloc (.cells l.toArray t)) w.heap.size ps := by
  subst hl
  intro i p hp
  have key : ∀ (ps : List Pt) (i : Nat) (p : Pt), ps[i]? = some p → ((ps.map fun p => [Value.int .i64 p.x, Value.int .i64 p.y]).flatten)[i * 2]? = some (.int .i64 p.x) ∧ ((ps.map fun p => [Value.int .i64 p.x, Value.int .i64 p.y]).flatten)[i * 2 + 1]? = some (.int .i64 p.y) := by
    intro ps
    induction ps with
    | nil => intro i p h; simp at h
    | cons q ps ih =>
      intro i p h
      cases i with
      | zero => simp at h; subst h; simp
      | succ i =>
        simp only [List.getElem?_cons_succ] at h
        have := ih i p h
        simp only [List.map_cons, List.flatten_cons, List.cons_append, List.nil_append]
        rw [show (i + 1) * 2 = i * 2 + 1 + 1 by omega]
        simpa using this
  obtain ⟨h1, h2⟩ := key ps i p hp
  exact ⟨by rw [cell_of_row _ w.heap.size (i * 2) _ t (0, 0) (heap_alloc_new w _)]; simpa using h1, by rw [cell_of_row _ w.heap.size (i * 2 + 1) _ t (0, 0) (heap_alloc_new w _)]; simpa using h2⟩

/-- near, at a slice that has just been made. -/
theorem near_new (ps : List Pt) (l : List Value) (t : TypeId) (w : World) (g c : Nat) (hg : w.heap.size = g) (hl : l = (ps.map fun p => [Value.int .i64 p.x, Value.int .i64 p.y]).flatten) (hn : ps.length ≤ 1000) (b : Bool) (hb : nearL ps = b) :
    Calls Try.prog 76 #[.slice (some ⟨g, 0, none⟩) ps.length c] (w.alloc (.cells l.toArray t)) fun e w' => e = .returned (.bool b) ∧ Below w.heap.size w w' := by
  subst hb hg
  refine (near_any w.heap.size c ps _ hn (by simp) (nearL_pts w t ps l hl)).mono ?_
  rintro e w' ⟨rfl, hb⟩
  exact ⟨rfl, bto ((Below.refl _ _).alloc (Nat.le_refl _) _) hb⟩
theorem near2 (ax ay bx bY : Int) (b : Bool) (hb : nearL [⟨ax, ay⟩, ⟨bx, bY⟩] = b) (w : World) (t : TypeId) (g c : Nat) (hg : w.heap.size = g) :
    Calls Try.prog 76 #[.slice (some ⟨g, 0, none⟩) 2 c] (w.alloc (.cells #[.int .i64 ax, .int .i64 ay, .int .i64 bx, .int .i64 bY] t)) fun e w' => e = .returned (.bool b) ∧ Below w.heap.size w w' :=
  near_new [⟨ax, ay⟩, ⟨bx, bY⟩] [.int .i64 ax, .int .i64 ay, .int .i64 bx, .int .i64 bY] t w g c hg rfl (by simp) b hb
theorem near3 (ax ay bx bY cx cy : Int) (b : Bool) (hb : nearL [⟨ax, ay⟩, ⟨bx, bY⟩, ⟨cx, cy⟩] = b) (w : World) (t : TypeId) (g c : Nat) (hg : w.heap.size = g) :
    Calls Try.prog 76 #[.slice (some ⟨g, 0, none⟩) 3 c] (w.alloc (.cells #[.int .i64 ax, .int .i64 ay, .int .i64 bx, .int .i64 bY, .int .i64 cx, .int .i64 cy] t)) fun e w' => e = .returned (.bool b) ∧ Below w.heap.size w w' :=
  near_new [⟨ax, ay⟩, ⟨bx, bY⟩, ⟨cx, cy⟩] [.int .i64 ax, .int .i64 ay, .int .i64 bx, .int .i64 bY, .int .i64 cx, .int .i64 cy] t w g c hg rfl (by simp) b hb
theorem near4 (ax ay bx bY cx cy dx dy : Int) (b : Bool) (hb : nearL [⟨ax, ay⟩, ⟨bx, bY⟩, ⟨cx, cy⟩, ⟨dx, dy⟩] = b) (w : World) (t : TypeId) (g c : Nat) (hg : w.heap.size = g) :
    Calls Try.prog 76 #[.slice (some ⟨g, 0, none⟩) 4 c] (w.alloc (.cells #[.int .i64 ax, .int .i64 ay, .int .i64 bx, .int .i64 bY, .int .i64 cx, .int .i64 cy, .int .i64 dx, .int .i64 dy] t)) fun e w' => e = .returned (.bool b) ∧ Below w.heap.size w w' :=
  near_new [⟨ax, ay⟩, ⟨bx, bY⟩, ⟨cx, cy⟩, ⟨dx, dy⟩] [.int .i64 ax, .int .i64 ay, .int .i64 bx, .int .i64 bY, .int .i64 cx, .int .i64 cy, .int .i64 dx, .int .i64 dy] t w g c hg rfl (by simp) b hb

theorem blk2 {w : World} {g : Nat} {a b : Value} {t : TypeId} (h : w.heap[g]? = some (.cells #[a, b] t (0, 0))) : (w.cell? ⟨g, 0, none⟩ = some a ∧ w.cell? ⟨g, 1, none⟩ = some b) ∧ (w.frozen? ⟨g, 0, none⟩ = false ∧ w.frozen? ⟨g, 1, none⟩ = false) :=
  ⟨⟨cell_of_row w g 0 _ t _ h, cell_of_row w g 1 _ t _ h⟩, frozen_of_row w g 0 _ t h, frozen_of_row w g 1 _ t h⟩
theorem blk4 {w : World} {g : Nat} {a b c d : Value} {t : TypeId} (h : w.heap[g]? = some (.cells #[a, b, c, d] t (0, 0))) : (w.cell? ⟨g, 0, none⟩ = some a ∧ w.cell? ⟨g, 1, none⟩ = some b ∧ w.cell? ⟨g, 2, none⟩ = some c ∧ w.cell? ⟨g, 3, none⟩ = some d) ∧
    (w.frozen? ⟨g, 0, none⟩ = false ∧ w.frozen? ⟨g, 1, none⟩ = false ∧ w.frozen? ⟨g, 2, none⟩ = false ∧ w.frozen? ⟨g, 3, none⟩ = false) :=
  ⟨⟨cell_of_row w g 0 _ t _ h, cell_of_row w g 1 _ t _ h, cell_of_row w g 2 _ t _ h, cell_of_row w g 3 _ t _ h⟩, frozen_of_row w g 0 _ t h, frozen_of_row w g 1 _ t h, frozen_of_row w g 2 _ t h, frozen_of_row w g 3 _ t h⟩
theorem blkB {w w' : World} {g : Nat} {o : Obj} (hb : Below w.heap.size w w') (h : w.heap[g]? = some o) : w'.heap[g]? = some o := (hb.block g (lt_of_block h)).trans h
theorem blkO {w : World} {g : Nat} {o : Obj} (x : Obj) (h : w.heap[g]? = some o) : (w.alloc x).heap[g]? = some o := (heap_alloc_old w x (lt_of_block h)).trans h
theorem blkN (w : World) (o : Obj) (g : Nat) (hg : w.heap.size = g) : (w.alloc o).heap[g]? = some o := by subst hg; exact heap_alloc_new w o

def PrsAt (w : World) (g : Nat) (ps : List (Int × Int)) : Prop := PtsAt w g (ps.map fun p => ⟨p.1, p.2⟩)
theorem drop_pr (ts : List (Int × Int)) (k : Nat) (h : k < ts.length) : ts.drop k = ts[k] :: ts.drop (k + 1) := List.drop_eq_getElem_cons h

set_option maxHeartbeats 1000000 in
theorem distance_any (ax ay bx bY : Int) (w : World) :
    Calls Try.prog 63 #[.agg #[.int .i64 ax, .int .i64 ay], .agg #[.int .i64 bx, .int .i64 bY]] w fun e w' => e = .returned (.int .i64 (dist ⟨ax, ay⟩ ⟨bx, bY⟩)) ∧ Below w.heap.size w w' := by
  obtain ⟨R, hR⟩ : ∃ R, R = dist ⟨ax, ay⟩ ⟨bx, bY⟩ := ⟨_, rfl⟩
  rw [← hR]
  cases hn : nearL [⟨ax, ay⟩, ⟨bx, bY⟩] with
  | false =>
    have HN := hide (near2 ax ay bx bY false hn)
    have hr : R = 0 := by rw [hR, dist, hn]; rfl
    have HR2 := hide hr
    clear hn hr hR
    go_enter Try.func63, Try.ntmps63
    go_wp2_with fail
    refine (HN.out _ _ _ _ (by simp)).mono ?_
    rintro _ w1 ⟨rfl, b1⟩
    go_wp2_with fail
    go_ret
    exact ⟨ret_int HR2.out.symm, bto (((Below.refl _ _).alloc (Nat.le_refl _) _).alloc (by simp) _) b1⟩
  | true =>
    have HN := hide (near2 ax ay bx bY true hn)
    have hr : R = (bx - ax) * (bx - ax) + (bY - ay) * (bY - ay) := by rw [hR, dist, hn]; rfl
    have HR2 := hide hr
    simp only [nearL, Bool.and_true, Bool.and_eq_true, nearB_iff] at hn
    obtain ⟨⟨a1, a2, a3, a4⟩, c1, c2, c3, c4⟩ := hn
    obtain ⟨m1, m2⟩ := prod_near (bx - ax) (bx - ax) (by omega) (by omega) (by omega) (by omega)
    obtain ⟨m3, m4⟩ := prod_near (bY - ay) (bY - ay) (by omega) (by omega) (by omega) (by omega)
    have HX := hide (fun w => dot_any (bx - ax) (bY - ay) (bx - ax) (bY - ay) w (by omega) (by omega) (by omega) (by omega))
    have HT1 := hide (fun w => to_any ax ay bx bY w (by omega) (by omega) (by omega) (by omega))
    clear hr hR
    go_enter Try.func63, Try.ntmps63
    go_wp2_with fail
    refine (HN.out _ _ _ _ (by simp)).mono ?_
    rintro _ w1 ⟨rfl, b1⟩
    obtain ⟨q1, q2⟩ := bcell b1
    go_wp2_with fail
    refine (HT1.out _).mono ?_
    rintro _ w2 ⟨rfl, b2⟩
    go_wp2_with fail
    refine (HX.out _).mono ?_
    rintro _ w3 ⟨rfl, b3⟩
    go_wp2_with fail
    go_ret
    exact ⟨ret_int HR2.out.symm, bto (bto (bto (((Below.refl _ _).alloc (Nat.le_refl _) _).alloc (by simp) _) b1 |>.trans (b2.mono (bto (((Below.refl _ w).alloc (Nat.le_refl _) _).alloc (by simp) _) b1).size)) ((Below.refl _ _).alloc (Nat.le_refl _) _)) b3⟩

/-! Equality of points and of segments. -/
def ptEq (a b c d : Int) : Bool := a == c && b == d
theorem ptEq_iff (p q : Pt) : ptEq p.x p.y q.x q.y = decide (p = q) := by
  obtain ⟨a, b⟩ := p
  obtain ⟨c, d⟩ := q
  rw [Bool.eq_iff_iff]; simp [ptEq]
@[go_sem ↓] theorem eqPt (a b c d : Int) (w : World) :
    (Op.equalIn 10000 38 (.agg #[.int .i64 a, .int .i64 b]) (.agg #[.int .i64 c, .int .i64 d])).run Try.prog w = .ok (ptEq a b c d) w := by
  have u3 := Try.underlying3
  have a3 := Try.isAgg3
  have z3 := Try.sizeOf3
  have hS : Try.prog.underlying 38 = some (.struct (Try.prog.fieldsOf 38)) := by kernel_rfl
  have hp : Try.prog.stoodInHeld 38 = false := by kernel_rfl
  rw [show (10000 : Nat) = 9999 + 1 from rfl, run_equalIn_agg w 9999 38 _ _ hS hp]
  simp only [Program.fieldsOf, Try.underlying38]
  go_simp
  unfold ptEq
  by_cases h1 : a = c <;> by_cases h2 : b = d <;> simp [h1, h2]
theorem eqPt9 (a b c d : Int) (w : World) :
    (Op.equalIn 9999 38 (.agg #[.int .i64 a, .int .i64 b]) (.agg #[.int .i64 c, .int .i64 d])).run Try.prog w = .ok (ptEq a b c d) w := by
  have u3 := Try.underlying3
  have a3 := Try.isAgg3
  have z3 := Try.sizeOf3
  have hS : Try.prog.underlying 38 = some (.struct (Try.prog.fieldsOf 38)) := by kernel_rfl
  have hp : Try.prog.stoodInHeld 38 = false := by kernel_rfl
  rw [show (9999 : Nat) = 9998 + 1 from rfl, run_equalIn_agg w 9998 38 _ _ hS hp]
  simp only [Program.fieldsOf, Try.underlying38]
  go_simp
  unfold ptEq
  by_cases h1 : a = c <;> by_cases h2 : b = d <;> simp [h1, h2]
@[go_sem] theorem guardPt (op : BinOp) (x y : Operand) (xs ys : Array Value) (w : World) : (eqGuard op 38 x y (.agg xs) (.agg ys)).run Try.prog w = .ok () w :=
  run_eqGuard_agg w op 38 x y xs ys (by kernel_rfl)
def sgEq (a b c d e f g h : Int) : Bool := ptEq a b e f && ptEq c d g h
theorem sgEq_iff (s t : Sg) : sgEq s.a.x s.a.y s.b.x s.b.y t.a.x t.a.y t.b.x t.b.y = decide (s = t) := by
  obtain ⟨⟨a, b⟩, ⟨c, d⟩⟩ := s
  obtain ⟨⟨e, f⟩, ⟨g, h⟩⟩ := t
  rw [Bool.eq_iff_iff]; simp [sgEq, ptEq]

theorem blkS {w : World} {g h : Nat} {o : Obj} (i : Nat) (u : Value) (hk : w.heap[g]? = some o) (hne : g ≠ h) : (w.setCell ⟨h, i, none⟩ u).heap[g]? = some o := (Below.heap_setCell w ⟨h, i, none⟩ u g hne).trans hk
theorem set2 {w : World} {g : Nat} {a b : Value} {t : TypeId} (h : w.heap[g]? = some (.cells #[a, b] t (0, 0))) (u v : Value) : ((w.setCell ⟨g, 0, none⟩ u).setCell ⟨g, 1, none⟩ v).heap[g]? = some (.cells #[u, v] t (0, 0)) := by
  have hlt := lt_of_block h
  have h' : w.heap[g] = .cells #[a, b] t (0, 0) := by simpa [Array.getElem?_eq_getElem hlt] using h
  have e1 : (w.setCell ⟨g, 0, none⟩ u).heap[g]? = some (.cells #[u, b] t (0, 0)) := by
    show (w.heap.modify g _)[g]? = _
    rw [Array.getElem?_eq_getElem (by simpa using hlt), Array.getElem_modify_self, h']
    rfl
  generalize w.setCell ⟨g, 0, none⟩ u = w2 at e1
  have hlt2 := lt_of_block e1
  have h2' : w2.heap[g] = .cells #[u, b] t (0, 0) := by simpa [Array.getElem?_eq_getElem hlt2] using e1
  show (w2.heap.modify g _)[g]? = _
  rw [Array.getElem?_eq_getElem (by simpa using hlt2), Array.getElem_modify_self, h2']
  rfl

theorem vint {k : IntKind} {a b : Int} (h : a = b) : Value.int k a = Value.int k b := by rw [h]
theorem or_low (a d j : Nat) (hd : d < 2 ^ j) : a * 2 ^ j ||| d = a * 2 ^ j + d := by
  rw [← Nat.shiftLeft_eq]
  exact (Nat.shiftLeft_add_eq_or_of_lt hd a).symm
theorem bor (a d j : Nat) (hd : d < 2 ^ j) (ha : a * 2 ^ j + d < 18446744073709551616) : bits .or .u64 ((a * 2 ^ j : Nat) : Int) (d : Int) = ((a * 2 ^ j + d : Nat) : Int) := by
  rw [bits_or_u64_nat _ _ (by omega) (by omega), or_low a d j hd]
theorem band3 (n : Nat) (hn : n < 9223372036854775808) : bits .and .u64 (n : Int) 3 = ((n % 4 : Nat) : Int) := by
  have h := bits_mask .u64 63 (by decide) (fun n h0 h1 => by rw [IntKind.wrap_u64]; omega) 2 (by decide) (n : Int) (by omega) (by omega)
  rw [show ((2 : Int) ^ 2 - 1) = 3 from rfl, show ((2 : Int) ^ 2) = 4 from rfl] at h
  rw [h]; omega

set_option maxHeartbeats 1000000 in
theorem root_neg (n : Int) (h : n < 0) (w : World) : Calls Try.prog 62 #[.int .i64 n] w fun e w' => e = .returned (.int .i64 0) ∧ w = w' := by
  go_enter Try.func62, Try.ntmps62
  go_wp2
  go_ret
  exact ⟨rfl, rfl⟩

set_option maxHeartbeats 1000000 in
theorem root_any (n : Nat) (h : n < 9223372036854775808) (w : World) : Calls Try.prog 62 #[.int .i64 n] w fun e w' => e = .returned (.int .i64 (isq n)) ∧ w = w' := by
  have h0 : (0 : Int) ≤ n := by omega
  have HT : Hid (∀ k ≤ 32, (rt n k).1 < 4294967296 ∧ (rt n k).2 ≤ 2 * (rt n k).1) := fun k hk => rt_bd n (by omega) k hk
  obtain ⟨R, hR⟩ : ∃ R, R = isq n := ⟨_, rfl⟩
  rw [← hR]
  have HR := hide hR
  clear hR
  go_enter Try.func62, Try.ntmps62
  go_wp2
  go_loop [3, 4, 9] (fun r q i => ∃ (k : Nat) (a b : Nat), k ≤ 32 ∧ r = .int .u64 a ∧ q = .int .u64 b ∧ i = .int .i64 k ∧ Hid (rt n k = (a, b))) (fun _ _ i => 32 - (intOf i).toNat)
  case atStart => exact ⟨0, 0, 0, by omega, rfl, rfl, rfl, rfl⟩
  case round =>
    obtain ⟨k, a, b, hk, rfl, rfl, rfl, hrel⟩ := hrel
    have hbd := HT.out k hk
    rw [hrel.out] at hbd
    obtain ⟨ha, hb⟩ := hbd
    simp only at ha hb
    by_cases hlt : k < 32
    · obtain ⟨D, hD⟩ : ∃ D, D = n / 2 ^ (62 - 2 * k) := ⟨_, rfl⟩
      have hDn : D ≤ n := by rw [hD]; exact Nat.div_le_self _ _
      have hDi : ((n : Int) / 2 ^ (62 - 2 * k)) = (D : Int) := by rw [hD]; push_cast; rfl
      obtain ⟨d, hd⟩ : ∃ d, d = D % 4 := ⟨_, rfl⟩
      have hd4 : d < 4 := by omega
      have e1 : bits .and .u64 (D : Int) 3 = (d : Int) := by rw [band3 D (by omega), hd]
      have e2 : bits .or .u64 ((b : Int) * 4) (d : Int) = (b : Int) * 4 + d := by
        have := bor b d 2 (by omega) (by omega)
        push_cast at this
        exact this
      have e3 : bits .or .u64 ((a : Int) * 2 * 2) 1 = (a : Int) * 4 + 1 := by
        have := bor a 1 2 (by omega) (by omega)
        push_cast at this
        rw [show (a : Int) * 2 * 2 = (a : Int) * 4 by omega]
        exact this
      have e4 : bits .or .u64 ((a : Int) * 2) 1 = (a : Int) * 2 + 1 := by
        have := bor a 1 1 (by omega) (by omega)
        push_cast at this
        exact this
      have hstep : rt n (k + 1) = if a * 4 + 1 ≤ b * 4 + d then (a * 2 + 1, b * 4 + d - (a * 4 + 1)) else (a * 2, b * 4 + d) := by
        rw [rt, hrel.out]; simp only [← hD, ← hd]
      have HS := hide hstep
      clear hstep hD hd hrel
      by_cases ht : a * 4 + 1 ≤ b * 4 + d
      · have hs2 := HS.out
        rw [if_pos ht] at hs2
        have HS2 := hide hs2
        have ht' : (a : Int) * 4 + 1 ≤ b * 4 + d := by omega
        clear hs2 HS
        go_wp2
        refine ⟨⟨k + 1, a * 2 + 1, b * 4 + d - (a * 4 + 1), by omega, vint (by omega), vint (by omega), by go_num, HS2.out⟩, ?_⟩
        simp [intOf]; omega
      · have hs2 := HS.out
        rw [if_neg ht] at hs2
        have HS2 := hide hs2
        have ht' : ¬ ((a : Int) * 4 + 1 ≤ b * 4 + d) := by omega
        clear hs2 HS
        go_wp2
        refine ⟨⟨k + 1, a * 2, b * 4 + d, by omega, vint (by omega), vint (by omega), by go_num, HS2.out⟩, ?_⟩
        simp [intOf]; omega
    · obtain rfl : k = 32 := by omega
      have hr : R = a := by rw [HR.out, isq, hrel.out]
      have HR2 := hide hr
      clear hr hrel
      go_wp2
      go_ret
      exact ⟨ret_int (by rw [HR2.out]), rfl⟩

theorem below_drewN {B : Nat} {a w : World} (h : Below B a w) (n : Nat) : Below B a (w.drewN n) := ⟨h.os, h.tape, h.output, h.size, h.block⟩
set_option maxHeartbeats 400000 in
theorem is_any (px py : Int) (w : World) : Calls Try.prog 79 #[.agg #[.int .i64 px, .int .i64 py]] w fun e w' => e = .returned (.bool (nearB ⟨px, py⟩)) ∧ Below w.heap.size w w' := by
  obtain ⟨R, hR⟩ : ∃ R, R = nearB ⟨px, py⟩ := ⟨_, rfl⟩
  rw [← hR]
  have HR := hide hR
  clear hR
  go_enter Try.func79, Try.ntmps79
  go_wp2
  all_goals
    go_ret
    exact ⟨ret_bool (by rw [HR.out]; unfold nearB; first | exact (decide_eq_false (by simp only; omega)).symm | (rw [Bool.eq_iff_iff]; simp only [decide_eq_true_eq]; omega)), (Below.refl _ _).alloc (Nat.le_refl _) _⟩

theorem new2 (w : World) (o1 o2 : Obj) : (w.alloc o1 |>.alloc o2).heap[w.heap.size]? = some o1 ∧ (w.alloc o1 |>.alloc o2).heap[w.heap.size + 1]? = some o2 ∧ Below w.heap.size w (w.alloc o1 |>.alloc o2) :=
  ⟨blkO _ (blkN _ _ _ rfl), blkN _ _ _ (by simp), ((Below.refl _ _).alloc (Nat.le_refl _) _).alloc (by simp) _⟩
theorem new3 (w : World) (o1 o2 o3 : Obj) : (w.alloc o1 |>.alloc o2 |>.alloc o3).heap[w.heap.size]? = some o1 ∧ (w.alloc o1 |>.alloc o2 |>.alloc o3).heap[w.heap.size + 1]? = some o2 ∧ (w.alloc o1 |>.alloc o2 |>.alloc o3).heap[w.heap.size + 2]? = some o3 ∧ Below w.heap.size w (w.alloc o1 |>.alloc o2 |>.alloc o3) :=
  ⟨blkO _ (blkO _ (blkN _ _ _ rfl)), blkO _ (blkN _ _ _ (by simp)), blkN _ _ _ (by simp), (((Below.refl _ _).alloc (Nat.le_refl _) _).alloc (by simp) _).alloc (by simp; omega) _⟩

set_option maxHeartbeats 1000000 in
theorem rdist_any (ax ay bx bY : Int) (w : World) : Calls Try.prog 65 #[.agg #[.int .i64 ax, .int .i64 ay], .agg #[.int .i64 bx, .int .i64 bY]] w fun e w' => e = .returned (.int .i64 (dist ⟨ax, ay⟩ ⟨bx, bY⟩)) ∧ Below w.heap.size w w' := by
  obtain ⟨R, hR⟩ : ∃ R, R = dist ⟨ax, ay⟩ ⟨bx, bY⟩ := ⟨_, rfl⟩
  rw [← hR]
  have HA := hide (is_any ax ay)
  have HB := hide (is_any bx bY)
  cases p : nearB ⟨ax, ay⟩ with
  | false =>
    have hr : R = 0 := by rw [hR]; simp [dist, nearL, p]
    have HR2 := hide hr
    rw [p] at HA
    clear hr hR p HB
    go_enter Try.func65, Try.ntmps65
    go_wp2_with fail
    refine (HA.out _).mono ?_
    rintro _ w1 ⟨rfl, b1⟩
    go_wp2_with fail
    go_ret
    exact ⟨ret_int HR2.out.symm, bto (new2 w _ _).2.2 b1⟩
  | true =>
    cases q : nearB ⟨bx, bY⟩ with
    | false =>
      have hr : R = 0 := by rw [hR]; simp [dist, nearL, q]
      have HR2 := hide hr
      rw [p] at HA
      rw [q] at HB
      clear hr hR p q
      go_enter Try.func65, Try.ntmps65
      go_wp2_with fail
      refine (HA.out _).mono ?_
      rintro _ w1 ⟨rfl, b1⟩
      obtain ⟨⟨d1, d2⟩, _⟩ := blk2 (blkB b1 (new2 w _ _).2.1)
      go_wp2_with fail
      refine (HB.out _).mono ?_
      rintro _ w2 ⟨rfl, b2⟩
      go_wp2_with fail
      go_ret
      exact ⟨ret_int HR2.out.symm, bto (bto (new2 w _ _).2.2 b1) b2⟩
    | true =>
      have hr : R = (ax - bx) * (ax - bx) + (ay - bY) * (ay - bY) := by rw [hR]; simp only [dist, nearL, p, q, Bool.and_true, if_true]; grind
      have HR2 := hide hr
      rw [p] at HA
      rw [q] at HB
      rw [nearB_iff] at p q
      obtain ⟨a1, a2, a3, a4⟩ := p
      obtain ⟨c1, c2, c3, c4⟩ := q
      simp only at a1 a2 a3 a4 c1 c2 c3 c4
      obtain ⟨m1, m2⟩ := prod_near (ax - bx) (ax - bx) (by omega) (by omega) (by omega) (by omega)
      obtain ⟨m3, m4⟩ := prod_near (ay - bY) (ay - bY) (by omega) (by omega) (by omega) (by omega)
      clear hr hR
      go_enter Try.func65, Try.ntmps65
      go_wp2_with fail
      refine (HA.out _).mono ?_
      rintro _ w1 ⟨rfl, b1⟩
      have A1 := blkB b1 (new2 w _ _).1
      have B1 := blkB b1 (new2 w _ _).2.1
      obtain ⟨⟨d1, d2⟩, _⟩ := blk2 B1
      go_wp2_with fail
      refine (HB.out _).mono ?_
      rintro _ w2 ⟨rfl, b2⟩
      clear d1 d2
      obtain ⟨⟨d1, d2⟩, _⟩ := blk2 (blkB b2 A1)
      obtain ⟨⟨d3, d4⟩, _⟩ := blk2 (blkB b2 B1)
      clear A1 B1
      go_wp2_with fail
      go_ret
      exact ⟨ret_int HR2.out.symm, bto (bto (new2 w _ _).2.2 b1) b2⟩

theorem onR_out {A B C D : Prop} [Decidable A] [Decidable B] [Decidable C] [Decidable D] (e : Bool) (h : ¬ (A ∧ B ∧ C ∧ D)) : (decide A && decide B && decide C && decide D && e) = false := by
  cases e
  · simp
  · simp only [Bool.and_true, Bool.and_eq_false_iff, decide_eq_false_iff_not]
    by_cases a : A
    · by_cases b : B
      · by_cases c : C
        · by_cases d : D
          · exact absurd ⟨a, b, c, d⟩ h
          · exact .inr d
        · exact .inl (.inr c)
      · exact .inl (.inl (.inr b))
    · exact .inl (.inl (.inl a))

theorem sq_le_iff (R n : Nat) (h1 : R * R ≤ n) (h2 : n < (R + 1) * (R + 1)) (x : Nat) : x * x ≤ n ↔ x ≤ R := by
  constructor
  · intro h
    rcases Nat.lt_or_ge R x with g | g
    · have := Nat.mul_le_mul (show R + 1 ≤ x from g) (show R + 1 ≤ x from g); omega
    · exact g
  · intro h
    exact Nat.le_trans (Nat.mul_le_mul h h) h1

set_option maxHeartbeats 1000000 in
/-- The root by bits, for a number R with 'x * x ≤ n' exactly for the x up to R. -/
theorem rroot_core (n : Int) (R : Nat) (hR : R ≤ 3037000499) (h0 : ∀ x : Nat, 1 ≤ x → x ≤ 3037000499 → (((x : Int) * x ≤ n) ↔ x ≤ R)) (w : World) :
    Calls Try.prog 64 #[.int .i64 n] w fun e w' => e = .returned (.int .i64 R) ∧ w = w' := by
  have H0 := hide h0
  clear h0
  go_enter Try.func64, Try.ntmps64
  go_wp2
  go_loop [3, 4] (fun o i => ∃ x : Int, -1 ≤ x ∧ x ≤ 31 ∧ i = .int .i64 x ∧ ∃ q : Nat, q ≤ R ∧ o = .int .i64 q ∧ Hid (q = R / 2 ^ (x + 1).toNat * 2 ^ (x + 1).toNat)) (fun _ i => (intOf i + 1).toNat)
  case atStart => exact ⟨31, by omega, by omega, rfl, 0, by omega, rfl, by show 0 = R / 2 ^ 32 * 2 ^ 32; omega⟩
  case round =>
    obtain ⟨x, hx0, hx1, rfl, q, hq, rfl, hrel⟩ := hrel
    by_cases hlt : 0 ≤ x
    · obtain ⟨t, rfl⟩ : ∃ t : Nat, x = t := ⟨x.toNat, by omega⟩
      have hrel' := hrel.out
      rw [show ((t : Int) + 1).toNat = t + 1 by omega] at hrel'
      obtain ⟨B, hB⟩ : ∃ B, B = 2 ^ t := ⟨_, rfl⟩
      have hB1 : 1 ≤ B := by rw [hB]; exact Nat.one_le_two_pow
      have hB2 : B ≤ 2147483648 := by rw [hB]; exact Nat.pow_le_pow_right (by decide) (show t ≤ 31 by omega)
      have eB : (2 : Int) ^ t = (B : Int) := by rw [hB]; push_cast; rfl
      have hstep : (q + B ≤ R → q + B = R / 2 ^ t * 2 ^ t) ∧ (¬ q + B ≤ R → q = R / 2 ^ t * 2 ^ t) := by
        rw [Nat.pow_succ, ← hB] at hrel'
        rw [← hB]
        have e : R / (B * 2) = R / B / 2 := (Nat.div_div_eq_div_mul R B 2).symm
        rw [e] at hrel'
        have h1 := Nat.div_add_mod R B
        have h2 := Nat.mod_lt R (show 0 < B by omega)
        generalize R / B = d at *
        generalize R % B = m at *
        have h3 : d / 2 * (B * 2) = d / 2 * 2 * B := by grind
        rw [h3] at hrel'
        rcases (by omega : d % 2 = 0 ∨ d % 2 = 1) with g | g
        · have e1 : d / 2 * 2 = d := by omega
          rw [e1] at hrel'
          rw [Nat.mul_comm] at h1
          constructor <;> intro k <;> omega
        · have e1 : d / 2 * 2 = d - 1 := by omega
          rw [e1, Nat.sub_mul, Nat.one_mul] at hrel'
          have : B ≤ d * B := Nat.le_mul_of_pos_left B (by omega)
          rw [Nat.mul_comm] at h1
          constructor <;> intro k <;> omega
      have HS := hide hstep
      have hn0 := H0.out (q + B) (by omega)
      have hqB : q + B ≤ 8000000000 := by omega
      clear hstep hrel hrel' hB
      by_cases g1 : q + B ≤ 3037000499
      · have hn1 := hn0 g1
        have hp : ((q + B : Nat) : Int) * ((q + B : Nat) : Int) ≤ 9223372030926249001 := by
          have := Nat.mul_le_mul g1 g1
          have e : ((q + B : Nat) : Int) * ((q + B : Nat) : Int) = (((q + B) * (q + B) : Nat) : Int) := by push_cast; rfl
          omega
        rw [Int.natCast_add] at hp hn1
        have hp0 : 0 ≤ ((q : Int) + B) * ((q : Int) + B) := Int.mul_nonneg (by omega) (by omega)
        clear hn0
        by_cases g2 : q + B ≤ R
        · have z := hn1.2 g2
          have HF := hide (HS.out.1 g2)
          clear hn1 HS
          go_wp2
          refine ⟨⟨(t : Int) - 1, by omega, by omega, rfl, q + B, g2, by go_num, ?_⟩, ?_⟩
          · rw [show ((t : Int) - 1 + 1).toNat = t by omega]; exact HF
          · simp [intOf]
        · have z : ¬ (((q : Int) + B) * ((q : Int) + B) ≤ n) := fun h => g2 (hn1.1 h)
          have HF := hide (HS.out.2 g2)
          clear hn1 HS
          go_wp2
          refine ⟨⟨(t : Int) - 1, by omega, by omega, rfl, q, hq, rfl, ?_⟩, ?_⟩
          · rw [show ((t : Int) - 1 + 1).toNat = t by omega]; exact HF
          · simp [intOf]
      · have HF := hide (HS.out.2 (by omega))
        clear HS hn0
        go_wp2
        refine ⟨⟨(t : Int) - 1, by omega, by omega, rfl, q, hq, rfl, ?_⟩, ?_⟩
        · rw [show ((t : Int) - 1 + 1).toNat = t by omega]; exact HF
        · simp [intOf]
    · obtain rfl : x = -1 := by omega
      have hr := hrel.out
      rw [show ((-1 : Int) + 1).toNat = 0 from rfl] at hr
      simp only [Nat.pow_zero, Nat.div_one, Nat.mul_one] at hr
      subst hr
      clear hrel
      go_wp2
      go_ret
      exact ⟨rfl, rfl⟩
theorem rroot_neg (n : Int) (h : n < 0) (w : World) : Calls Try.prog 64 #[.int .i64 n] w fun e w' => e = .returned (.int .i64 0) ∧ w = w' :=
  rroot_core n 0 (by decide) (fun x h1 _ => ⟨fun g => by have : (0 : Int) ≤ (x : Int) * x := Int.mul_nonneg (by omega) (by omega); omega, fun g => by omega⟩) w
theorem rroot_any (n : Nat) (h : n < 9223372036854775808) (w : World) : Calls Try.prog 64 #[.int .i64 n] w fun e w' => e = .returned (.int .i64 (isq n)) ∧ w = w' := by
  obtain ⟨h1, h2⟩ := isq_spec n (by omega)
  refine rroot_core n (isq n) ?_ (fun x _ _ => ?_) w
  · rcases Nat.lt_or_ge 3037000499 (isq n) with g | g
    · have := Nat.mul_le_mul (show 3037000500 ≤ isq n from g) (show 3037000500 ≤ isq n from g); omega
    · exact g
  · rw [← sq_le_iff (isq n) n h1 h2 x]
    have e : (x : Int) * x = ((x * x : Nat) : Int) := by push_cast; rfl
    rw [e]; omega
end Go.Proofs.Ytpiocaomlifljaa.G
