/-
  The sweep's small functions, walked.
-/
import Derived.Test.YtfkgjbdeicggaaaGreatGeoA
import Derived.Test.YtfkgjbdeicggaaaGreatPlainAll
import Derived.Deep.DeepCutAuto
import Derived.Deep.CutBlock
import Derived.Deep.RegionHeld3
import Derived.Deep.AppendLies
import Derived.Deep.RegionLaw
import Derived.Sort.Grow
import Derived.LoopN
import Derived.Deep.Draws
namespace Go.Proofs.YtfkgjbdeicggaaaGreat
open Go.RowKit Go.Proofs.PlGeom Go.Proofs.PlTop

/-- The world has grown by draws and blocks of its own alone. -/
def Grows (w w' : World) : Prop := ∃ q os, w' = Sort.grow (w.drewN q) os
theorem Grows.refl (w : World) : Grows w w := ⟨0, #[], by simp [World.drewN]⟩
theorem Grows.trans {a b c : World} (h : Grows a b) (k : Grows b c) : Grows a c := by
  obtain ⟨q, os, rfl⟩ := h
  obtain ⟨q', os', rfl⟩ := k
  refine ⟨q + q', os ++ os', ?_⟩
  simp [Sort.grow, World.drewN, Nat.add_assoc]
theorem Grows.alloc {a b : World} (h : Grows a b) (o : Obj) : Grows a (b.alloc o) := h.trans ⟨0, #[o], by rw [Sort.alloc_eq_grow]; simp [World.drewN]⟩
theorem Grows.drew {a b : World} (h : Grows a b) : Grows a b.drew := h.trans ⟨1, #[], by rw [Sort.grow_empty]; rfl⟩
theorem Grows.drewN {a b : World} (h : Grows a b) (n : Nat) : Grows a (b.drewN n) := h.trans ⟨n, #[], by simp⟩
theorem Grows.below {a b : World} (h : Grows a b) : Below a.heap.size a b := by
  obtain ⟨q, os, rfl⟩ := h
  exact ⟨rfl, rfl, rfl, by simp [Sort.grow, World.drewN], fun k hk => by simp [Sort.grow, World.drewN, Array.getElem?_append, hk]⟩
set_option maxRecDepth 100000 in
set_option maxHeartbeats 4000000 in
theorem or_two (g c : Nat) (a b : Int) (w : World) (h0 : w.cell? ⟨g, 0, none⟩ = some (.int .i64 a)) (h1 : w.cell? ⟨g, 1, none⟩ = some (.int .i64 b)) :
    Calls Tryz.prog 62 #[.slice (some ⟨g, 0, none⟩) 2 c] w fun e w' => e = .returned (.int .i64 (if a = 0 then b else a)) ∧ w = w' := by
  by_cases ha : a = 0
  · rw [if_pos ha]
    subst ha
    by_cases hb : b = 0
    · subst hb
      go_enter Tryz.func62, Tryz.ntmps62
      go_wp2_with fail
      refine wp_loop_rounds 3 ?_
      rw [rounds_succ]
      go_wp2_with fail
      rw [rounds_succ]
      go_wp2_with fail
      rw [rounds_succ]
      go_wp2_with fail
      go_ret
      exact ⟨rfl, rfl⟩
    · have e1 : (b == 0) = false := beq_eq_false_iff_ne.2 hb
      have e2 : (b != 0) = true := by rw [bne, e1]; rfl
      go_enter Tryz.func62, Tryz.ntmps62
      go_wp2_with fail
      refine wp_loop_rounds 3 ?_
      rw [rounds_succ]
      go_wp2_with fail
      rw [rounds_succ]
      go_wp2_with fail
      go_ret
      exact ⟨rfl, rfl⟩
  · have e1 : (a == 0) = false := beq_eq_false_iff_ne.2 ha
    have e2 : (a != 0) = true := by rw [bne, e1]; rfl
    rw [if_neg ha]
    go_enter Tryz.func62, Tryz.ntmps62
    go_wp2_with fail
    refine wp_loop_rounds 3 ?_
    rw [rounds_succ]
    go_wp2_with fail
    go_ret
    exact ⟨rfl, rfl⟩
theorem or_at (g c : Nat) (a b R : Int) (hR : R = if a = 0 then b else a) (w : World) (h0 : w.cell? ⟨g, 0, none⟩ = some (.int .i64 a)) (h1 : w.cell? ⟨g, 1, none⟩ = some (.int .i64 b)) :
    Calls Tryz.prog 62 #[.slice (some ⟨g, 0, none⟩) 2 c] w fun e w' => e = .returned (.int .i64 R) ∧ w = w' := by
  rw [hR]
  exact or_two g c a b w h0 h1
theorem or_new (a b R : Int) (hR : R = if a = 0 then b else a) (W : World) : Calls Tryz.prog 62 #[.slice (some ⟨W.heap.size, 0, none⟩) 2 2] (W.alloc (.cells #[.int .i64 a, .int .i64 b] 3)).drew fun e w' => e = .returned (.int .i64 R) ∧ (W.alloc (.cells #[.int .i64 a, .int .i64 b] 3)).drew = w' := by
  rw [hR]
  exact or_two _ 2 a b _ (cell_of_row (W.alloc (.cells #[.int .i64 a, .int .i64 b] 3)) _ 0 _ _ _ (heap_alloc_new _ _)) (cell_of_row (W.alloc (.cells #[.int .i64 a, .int .i64 b] 3)) _ 1 _ _ _ (heap_alloc_new _ _))
set_option maxRecDepth 100000 in
set_option maxHeartbeats 4000000 in
theorem bounds_any (a b : Int) (w : World) : Calls Tryz.prog 59 #[.int .i64 a, .int .i64 b] w fun e w' => e = .returned (.agg #[.int .i64 (min a b), .int .i64 (max a b)]) ∧ Grows w w' := by
  rcases Int.lt_trichotomy b a with h | rfl | h
  · rw [show min a b = b by omega, show max a b = a by omega]
    have h2 : ¬ a < b := by omega
    have h3 : ¬ a ≤ b := by omega
    have h4 : b ≤ a := by omega
    go_enter Tryz.func59, Tryz.ntmps59
    go_wp2_with fail
    refine bodyPost_ret (v := .agg #[.int .i64 b, .int .i64 a]) ?_ rfl ⟨rfl, (Grows.refl _).alloc _⟩
    simp [results, Tryz.results59, go_sem]
  · rw [show min b b = b by omega, show max b b = b by omega]
    go_enter Tryz.func59, Tryz.ntmps59
    go_wp2_with fail
    refine bodyPost_ret (v := .agg #[.int .i64 b, .int .i64 b]) ?_ rfl ⟨rfl, (Grows.refl _).alloc _⟩
    simp [results, Tryz.results59, go_sem]
  · rw [show min a b = a by omega, show max a b = b by omega]
    have h2 : ¬ b < a := by omega
    have h3 : ¬ b ≤ a := by omega
    have h4 : a ≤ b := by omega
    go_enter Tryz.func59, Tryz.ntmps59
    go_wp2_with fail
    refine bodyPost_ret (v := .agg #[.int .i64 a, .int .i64 b]) ?_ rfl ⟨rfl, (Grows.refl _).alloc _⟩
    simp [results, Tryz.results59, go_sem]
set_option maxRecDepth 100000 in
set_option maxHeartbeats 4000000 in
theorem bmeets_any (a b c d : Int) (w : World) : Calls Tryz.prog 66 #[.agg #[.int .i64 a, .int .i64 b], .agg #[.int .i64 c, .int .i64 d]] w fun e w' => e = .returned (.bool (decide (a ≤ d) && decide (c ≤ b))) ∧ Grows w w' := by
  by_cases h1 : a ≤ d
  · by_cases h2 : c ≤ b
    · have d2 : decide (c ≤ b) = true := decide_eq_true h2
      have d1 : decide (a ≤ d) = true := decide_eq_true h1
      rw [d1, d2]
      go_enter Tryz.func66, Tryz.ntmps66
      go_wp2_with fail
      go_ret
      exact ⟨rfl, ((Grows.refl _).alloc _).alloc _⟩
    · have d2 : decide (c ≤ b) = false := decide_eq_false h2
      have d1 : decide (a ≤ d) = true := decide_eq_true h1
      rw [d1, d2]
      go_enter Tryz.func66, Tryz.ntmps66
      go_wp2_with fail
      go_ret
      exact ⟨rfl, ((Grows.refl _).alloc _).alloc _⟩
  · have d1 : decide (a ≤ d) = false := decide_eq_false h1
    rw [d1]
    go_enter Tryz.func66, Tryz.ntmps66
    go_wp2_with fail
    go_ret
    exact ⟨rfl, ((Grows.refl _).alloc _).alloc _⟩
/-- The cells of an item. -/
def encI (i : It) : List Value := [.int .i64 (i.ix : Int), .int .i64 i.s.a.x, .int .i64 i.s.a.y, .int .i64 i.s.b.x, .int .i64 i.s.b.y, .int .i64 i.xl, .int .i64 i.xh, .int .i64 i.yl, .int .i64 i.yh]
/-- How the items are compared. -/
def cfI (x y : It) : Int := if cmpI x.xl y.xl = 0 then (x.ix : Int) - y.ix else cmpI x.xl y.xl
theorem blk9 {w : World} {g : Nat} {a b c d e f p q r : Value} {t : TypeId} (h : w.heap[g]? = some (.cells #[a, b, c, d, e, f, p, q, r] t (0, 0))) :
    w.cell? ⟨g, 0, none⟩ = some a ∧ w.cell? ⟨g, 1, none⟩ = some b ∧ w.cell? ⟨g, 2, none⟩ = some c ∧ w.cell? ⟨g, 3, none⟩ = some d ∧ w.cell? ⟨g, 4, none⟩ = some e ∧ w.cell? ⟨g, 5, none⟩ = some f ∧ w.cell? ⟨g, 6, none⟩ = some p ∧ w.cell? ⟨g, 7, none⟩ = some q ∧ w.cell? ⟨g, 8, none⟩ = some r :=
  ⟨cell_of_row w g 0 _ t _ h, cell_of_row w g 1 _ t _ h, cell_of_row w g 2 _ t _ h, cell_of_row w g 3 _ t _ h, cell_of_row w g 4 _ t _ h, cell_of_row w g 5 _ t _ h, cell_of_row w g 6 _ t _ h, cell_of_row w g 7 _ t _ h, cell_of_row w g 8 _ t _ h⟩
/-- Two items in their boxes. -/
structure TwI (w : World) (x y : It) (W : World) : Prop where
  grows : Grows w W
  bx : W.heap[w.heap.size]? = some (.cells (encI x).toArray 135 (0, 0))
  bY : W.heap[w.heap.size + 1]? = some (.cells (encI y).toArray 135 (0, 0))
theorem TwI.more {w : World} {x y : It} {W W' : World} (h : TwI w x y W) (hg : Grows W W') : TwI w x y W' := by
  have key : ∀ {i : Nat} {o : Obj}, W.heap[i]? = some o → W'.heap[i]? = some o := fun {i o} hi => (hg.below.block i (Array.getElem?_eq_some_iff.1 hi).1).trans hi
  exact ⟨h.grows.trans hg, key h.bx, key h.bY⟩
theorem TwI.cells {w : World} {x y : It} {W : World} (h : TwI w x y W) : (W.cell? ⟨w.heap.size, 5, none⟩ = some (.int .i64 x.xl) ∧ W.cell? ⟨w.heap.size, 0, none⟩ = some (.int .i64 (x.ix : Int))) ∧ (W.cell? ⟨w.heap.size + 1, 5, none⟩ = some (.int .i64 y.xl) ∧ W.cell? ⟨w.heap.size + 1, 0, none⟩ = some (.int .i64 (y.ix : Int))) := by
  obtain ⟨a0, _, _, _, _, a5, _⟩ := blk9 h.bx
  obtain ⟨b0, _, _, _, _, b5, _⟩ := blk9 h.bY
  exact ⟨⟨a5, a0⟩, b5, b0⟩
set_option maxRecDepth 100000 in
set_option maxHeartbeats 8000000 in
theorem less_items (x y : It) (w : World) (hx : x.ix ≤ 1000000) (hy : y.ix ≤ 1000000) : Calls Tryz.prog 61 #[.agg (encI x).toArray, .agg (encI y).toArray] w fun e w' => e = .returned (.int .i64 (cfI x y)) ∧ Grows w w' := by
  have HTW : Hid (TwI w x y ((w.alloc (.cells (encI x).toArray 135)).alloc (.cells (encI y).toArray 135))) := by
    refine hide ⟨((Grows.refl _).alloc _).alloc _, ?_, ?_⟩
    · exact (((Below.refl _ (w.alloc (.cells (encI x).toArray 135))).alloc (Nat.le_refl _) (.cells (encI y).toArray 135)).block _ (by simp)).trans (heap_alloc_new _ _)
    · have h9 := heap_alloc_new (w.alloc (.cells (encI x).toArray 135)) (.cells (encI y).toArray 135)
      rw [World.size_alloc] at h9
      exact h9
  have HC := hide (fun W => cmp_any x.xl y.xl W)
  have HCF : Hid (cfI x y = if cmpI x.xl y.xl = 0 then (x.ix : Int) - y.ix else cmpI x.xl y.xl) := hide rfl
  unfold encI at HTW ⊢
  go_enter Tryz.func61, Tryz.ntmps61
  go_upto_region 1 with (fail)
  generalize (w.alloc _).alloc _ = w2 at *
  have HTD := hide (HTW.out.more (Grows.refl _).drew)
  have hwr : IntKind.i64.wrap ((x.ix : Int) - (y.ix : Int)) = (x.ix : Int) - (y.ix : Int) := by simp [IntKind.wrap, IntKind.bits, IntKind.signed]; omega
  have HT2 := HTW
  clear HTW
  obtain ⟨xl, hxl⟩ : ∃ xl, x.xl = xl := ⟨_, rfl⟩
  obtain ⟨yl, hyl⟩ : ∃ yl, y.xl = yl := ⟨_, rfl⟩
  rw [hxl, hyl] at HC HCF
  have key : ∀ W, TwI w x y W → ((W.cell? ⟨w.heap.size, 5, none⟩ = some (.int .i64 xl) ∧ W.cell? ⟨w.heap.size, 0, none⟩ = some (.int .i64 (x.ix : Int))) ∧ (W.cell? ⟨w.heap.size + 1, 5, none⟩ = some (.int .i64 yl) ∧ W.cell? ⟨w.heap.size + 1, 0, none⟩ = some (.int .i64 (y.ix : Int)))) := fun W h => by have := h.cells; rw [hxl, hyl] at this; exact this
  have KEY := hide key
  clear hxl hyl key
  go_region_held3 (fun w' => TwI w x y w' ∧ ((w'.cell? ⟨w.heap.size, 5, none⟩ = some (.int .i64 xl) ∧ w'.cell? ⟨w.heap.size, 0, none⟩ = some (.int .i64 (x.ix : Int))) ∧ (w'.cell? ⟨w.heap.size + 1, 5, none⟩ = some (.int .i64 yl) ∧ w'.cell? ⟨w.heap.size + 1, 0, none⟩ = some (.int .i64 (y.ix : Int)))))
    (first | exact ⟨HTD.out, KEY.out _ HTD.out⟩ | exact ⟨HT2.out.more (((Grows.refl _).alloc _).drew), KEY.out _ (HT2.out.more (((Grows.refl _).alloc _).drew))⟩ | exact ⟨TwI.more (And.left (by assumption)) ((Grows.refl _).alloc _), KEY.out _ (TwI.more (And.left (by assumption)) ((Grows.refl _).alloc _))⟩)
    (first
      | (go_at_call 63; (refine (HC.out _).mono ?_); rintro _ _ ⟨rfl, rfl⟩)
      | (go_at_call 62; (refine (or_new (cmpI xl yl) ((x.ix : Int) - y.ix) _ HCF.out _).mono ?_); rintro _ _ ⟨rfl, rfl⟩))
  all_goals
    have HT := And.left (by assumption)
    have HG := hide HT.grows
    clear HT
    go_wp2_with fail
    go_ret
    exact ⟨rfl, HG.out⟩
/-- The cells of a meeting. -/
def encM (m : Mt) : List Value := [.int .i64 (m.a : Int), .int .i64 (m.b : Int), .int .i64 m.kind]
/-- How meetings are compared. -/
def cfM (x y : Mt) : Int := if (x.a : Int) - y.a = 0 then (x.b : Int) - y.b else (x.a : Int) - y.a
set_option maxRecDepth 100000 in
set_option maxHeartbeats 8000000 in
theorem less_meets (x y : Mt) (w : World) (hx : x.a ≤ 1000000 ∧ x.b ≤ 1000000) (hy : y.a ≤ 1000000 ∧ y.b ≤ 1000000) : Calls Tryz.prog 68 #[.agg (encM x).toArray, .agg (encM y).toArray] w fun e w' => e = .returned (.int .i64 (cfM x y)) ∧ Grows w w' := by
  have HCF : Hid (cfM x y = if (x.a : Int) - y.a = 0 then (x.b : Int) - y.b else (x.a : Int) - y.a) := hide rfl
  have hw1 : IntKind.i64.wrap ((x.a : Int) - (y.a : Int)) = (x.a : Int) - (y.a : Int) := by simp [IntKind.wrap, IntKind.bits, IntKind.signed]; omega
  have hw2 : IntKind.i64.wrap ((x.b : Int) - (y.b : Int)) = (x.b : Int) - (y.b : Int) := by simp [IntKind.wrap, IntKind.bits, IntKind.signed]; omega
  have HG : Hid (Grows w (((w.alloc (.cells (encM x).toArray 73)).alloc (.cells (encM y).toArray 73)).alloc (.cells #[.int .i64 ((x.a : Int) - y.a), .int .i64 ((x.b : Int) - y.b)] 3))) := hide ((((Grows.refl _).alloc _).alloc _).alloc _)
  have h9 := heap_alloc_new ((w.alloc (.cells (encM x).toArray 73)).alloc (.cells (encM y).toArray 73)) (.cells #[.int .i64 ((x.a : Int) - y.a), .int .i64 ((x.b : Int) - y.b)] 3)
  rw [World.size_alloc, World.size_alloc] at h9
  have HO := hide (or_at (w.heap.size + 1 + 1) 2 _ _ _ HCF.out _ (cell_of_row _ _ 0 _ _ _ h9) (cell_of_row _ _ 1 _ _ _ h9))
  clear h9
  unfold encM at HG HO ⊢
  go_enter Tryz.func68, Tryz.ntmps68
  go_wp2_with fail
  refine HO.out.mono ?_
  rintro _ _ ⟨rfl, rfl⟩
  clear HO
  go_wp2_with fail
  go_ret
  exact ⟨rfl, HG.out⟩
set_option maxRecDepth 100000 in
set_option maxHeartbeats 8000000 in
/-- The closure that says which items end before the next one begins: the next one lies in block g. -/
theorem ends_item (g : Nat) (a b : It) (w : World) (hg : w.heap[g]? = some (.cells (encI a).toArray 135 (0, 0))) : Calls Tryz.prog 65 #[.agg (encI b).toArray, .pointer (some ⟨g, 0, none⟩)] w fun e w' => e = .returned (.bool (decide (b.xh < a.xl))) ∧ Grows w w' := by
  have hlt : g < w.heap.size := (Array.getElem?_eq_some_iff.1 hg).1
  have h1 : (w.alloc (.cells (encI b).toArray 135)).heap[g]? = some (.cells (encI a).toArray 135 (0, 0)) := (((Below.refl _ w).alloc (Nat.le_refl _) (.cells (encI b).toArray 135)).block g hlt).trans hg
  have h2 := heap_alloc_new w (.cells (encI b).toArray 135)
  obtain ⟨_, _, _, _, _, c5, _⟩ := blk9 h1
  obtain ⟨_, _, _, _, _, _, d6, _⟩ := blk9 h2
  have HG : Hid (Grows w (w.alloc (.cells (encI b).toArray 135))) := hide ((Grows.refl _).alloc _)
  clear h1 h2 hg
  unfold encI at HG c5 d6 ⊢
  go_enter Tryz.func65, Tryz.ntmps65
  go_wp2_with fail
  go_ret
  exact ⟨rfl, HG.out⟩
end Go.Proofs.YtfkgjbdeicggaaaGreat
