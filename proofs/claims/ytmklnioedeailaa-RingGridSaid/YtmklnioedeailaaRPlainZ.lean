/-
  The plain laws of layer 4 (ring): twice the area in the opposite order, with another first corner, and of a simple ring (RingAreas). No program in sight.
-/
import Derived.Test.YtmklnioedeailaaRPlainY
namespace Go.Proofs.PlRing
open Go.Proofs.PlGeom

theorem sumS_perm {a b : List Sg} (h : a.Perm b) : sumS a = sumS b := by
  induction h with
  | nil => rfl
  | cons x _ ih => simp only [sumS, ih]
  | swap x y l => simp only [sumS]; omega
  | trans _ _ h1 h2 => exact h1.trans h2
theorem sumS_back (l : List Sg) : sumS (l.map backS) = -sumS l := by
  induction l with
  | nil => rfl
  | cons x l ih =>
    have : termS (backS x) = -termS x := by unfold termS backS; simp only; grind
    simp only [List.map_cons, sumS, ih, this]; omega
theorem twice_sd (r : List Pt) : twice r = if regB r then sumS (sd r) else 0 := by unfold twice; rw [sumT_sd, sd_sides]
/-- The opposite order turns the sign. -/
theorem twice_rev (r : List Pt) : twice r.reverse = -twice r := by
  rw [twice_sd, twice_sd, regB_perm (List.reverse_perm r), sd_rev, sumS_back, sumS_perm ((perm_turn _ 1).trans (List.reverse_perm _))]
  split <;> omega
/-- Another first corner changes nothing. -/
theorem twice_turn (r : List Pt) (k : Nat) (hk : k ≤ r.length) : twice (turnR r k) = twice r := by
  rw [twice_sd, twice_sd, regB_perm (show (turnR r k).Perm r from perm_turn r k), sd_turn r k hk, sumS_perm (perm_turn _ k)]
theorem twice_turnQ (r : List Pt) (b : Nat) : twice (turnR r (b % r.length)) = twice r := by
  by_cases h : r.length = 0
  · have : r = [] := List.eq_nil_of_length_eq_zero h
    subst this
    simp [turnR]
  · exact twice_turn r _ (Nat.le_of_lt (Nat.mod_lt _ (by omega)))
/-- Twice the area, as a sum over indices. -/
theorem sumS_sm (r : List Pt) : sumS (sd r) = sm (fun j => ((cor r j).x + (cor r (j + 1)).x) * ((cor r (j + 1)).y - (cor r j).y)) 0 r.length := by
  have key : ∀ (f : Nat → Sg) (i n : Nat), sumS ((List.range' i n).map f) = sm (fun j => termS (f j)) i n := by
    intro f i n
    induction n generalizing i with
    | zero => rfl
    | succ n ih => rw [List.range'_succ, List.map_cons, sumS, ih, sm_succ]
  unfold sd
  rw [List.range_eq_range', key]
  refine sm_congr _ _ _ _ fun k _ hk => ?_
  have hk2 : k < r.length := by omega
  have e := cor_side r k
  rw [Nat.mod_eq_of_lt hk2] at e
  rw [e]
  rfl
/-- A SIMPLE RING HAS AN AREA, with the sign of its order. -/
theorem simple_area (r : List Pt) (h : simple r = true) : (wl (cor r) r.length 0 = 1 ∧ 0 < twice r) ∨ (wl (cor r) r.length 0 = 0 ∧ twice r < 0) := by
  have hp := ((simple_iff r).1 h).poly
  rw [twice_sd, if_pos (simple_reg r h), sumS_sm]
  have ha := area_sign hp
  rcases wl_01 hp with e | e
  · exact .inr ⟨e, ha.2 e⟩
  · exact .inl ⟨e, ha.1 e⟩
theorem twice_ne (r : List Pt) (h : simple r = true) : twice r ≠ 0 := by
  have := simple_area r h; omega
theorem sumS_bd (l : List (Nat × Sg)) (h : ∀ x ∈ l, nearB x.2.a = true ∧ nearB x.2.b = true) : -((l.length : Int) * 70368744177664) ≤ sumT l ∧ sumT l ≤ (l.length : Int) * 70368744177664 := by
  induction l with
  | nil => simp [sumT]
  | cons x l ih =>
    have g := ih (fun y hy => h y (List.mem_cons_of_mem _ hy))
    obtain ⟨h1, h2⟩ := h x List.mem_cons_self
    obtain ⟨a1, a2, a3, a4⟩ := fine_near _ h1
    obtain ⟨b1, b2, b3, b4⟩ := fine_near _ h2
    have := prod_bd 8388608 (x.2.a.x + x.2.b.x) (x.2.b.y - x.2.a.y) (by omega) (by omega) (by omega) (by omega)
    simp only [sumT, List.length_cons, term]
    push_cast
    omega
theorem twice_bd (r : List Pt) (h : r.length ≤ 40) : -2814749767106560 ≤ twice r ∧ twice r ≤ 2814749767106560 := by
  unfold twice
  by_cases hg : regB r = true
  · rw [if_pos hg]
    have hn := nearL_mem r ((regB_iff r).1 hg).2.2
    have hm : ∀ x ∈ sidesL r, nearB x.2.a = true ∧ nearB x.2.b = true := by
      intro x hx
      unfold sidesL at hx
      obtain ⟨i, hi, rfl⟩ := List.mem_map.1 hx
      have hi2 := List.mem_range.1 hi
      have hz : 0 < r.length := by omega
      have g : ∀ k, k < r.length → nearB (at0 r k) = true := fun k hk => hn _ (List.mem_of_getElem? (at0_some r k hk))
      exact ⟨g _ hi2, g _ (Nat.mod_lt _ hz)⟩
    have := sumS_bd (sidesL r) hm
    have hl : (sidesL r).length = r.length := by rw [← sd_len r, ← sd_sides]; simp
    rw [hl] at this
    omega
  · rw [if_neg hg]; omega
end Go.Proofs.PlRing
