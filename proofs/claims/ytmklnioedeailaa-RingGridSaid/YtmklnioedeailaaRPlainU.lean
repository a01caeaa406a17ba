/-
  The plain law of layer 4 (ring): A SIMPLE RING WINDS AROUND A POINT AT MOST ONCE, and always the same way. No program in sight.
-/
import Derived.Test.YtmklnioedeailaaRPlainQ
namespace Go.Proofs.PlRing
open Go.Proofs.PlGeom

theorem per_mod {P : Nat → Pt} {n : Nat} (h : Poly P n) (j : Nat) : P (j % n) = P j ∧ P (j % n + 1) = P (j + 1) := by
  have key : ∀ k, P (j % n + k * n) = P (j % n) ∧ P (j % n + 1 + k * n) = P (j % n + 1) := by
    intro k
    induction k with
    | zero => simp
    | succ k ih =>
      have e : ∀ a, a + (k + 1) * n = a + k * n + n := fun a => by rw [Nat.add_mul]; omega
      rw [e, e, h.per, h.per]
      exact ih
  have := key (j / n)
  have e : j % n + j / n * n = j := by rw [Nat.mul_comm]; exact Nat.mod_add_div j n
  rw [show j % n + 1 + j / n * n = (j % n + j / n * n) + 1 from by omega, e] at this
  exact ⟨this.1.symm, this.2.symm⟩
theorem dyp_all {P : Nat → Pt} {n : Nat} (h : Poly P n) (j : Nat) (hj : (P (j + 1)).y - (P j).y ≠ 0) : ((P (j + 1)).y - (P j).y) ∣ ((dyp P n).natAbs : Int) := by
  have hn : 0 < n := by have := h.three; omega
  obtain ⟨a, b⟩ := per_mod h j
  have := dyp_dvd P n (j % n) (Nat.mod_lt _ hn) (by rw [a, b]; exact hj)
  rw [a, b] at this
  exact Int.dvd_natAbs.2 this
theorem dyp_pos (P : Nat → Pt) (n : Nat) : (0 : Int) < ((dyp P n).natAbs : Int) := by
  have := dyp_ne P n
  omega
theorem wnd_lift {P : Nat → Pt} {n : Nat} {D m : Int} (hD : 0 < D) (hm : 2 ≤ m) (hB : ∀ i, (P (i + 1)).x - (P i).x < m ∧ -m < (P (i + 1)).x - (P i).x) (p : Pt) (ho : ∀ i, offS (P i) (P (i + 1)) p) :
    wnd (fun i => sc (D * m) (P i)) n (lift D m p) = wnd P n p := by
  unfold wnd
  exact sm_congr _ _ _ _ fun k _ _ => chi_lift hD _ _ p hm (hB k).1 (hB k).2 (ho k)
/-- AROUND A POINT OFF A SIMPLE RING the winding number is 0, or what the number on the left of the ring says. -/
theorem jordan {P : Nat → Pt} {n : Nat} (h : Poly P n) (m : Int) (hm : 2 ≤ m) (hB : ∀ i, (P (i + 1)).x - (P i).x < m ∧ -m < (P (i + 1)).x - (P i).x) (p : Pt) (ho : ∀ i, offS (P i) (P (i + 1)) p) :
    wnd P n p = 0 ∨ wnd P n p = wl P n 0 ∨ wnd P n p = wl P n 0 - 1 := by
  have hD := dyp_pos P n
  have hdm : 0 < ((dyp P n).natAbs : Int) * m := Int.mul_pos hD (by omega)
  have hl := level_lift h ((dyp P n).natAbs : Int) m p.y hD hm (fun j hj => dyp_all h j hj)
  have := wnd_level (poly_sc h hdm) hl (((dyp P n).natAbs : Int) * (m * p.x))
  rw [wl_sc hdm] at this
  have e := wnd_lift (n := n) hD hm hB p ho
  unfold lift at e
  rw [e] at this
  exact this
/-- A closed polygon is not all on one level. -/
theorem not_level {P : Nat → Pt} {n : Nat} (h : Poly P n) : ∃ j, j < n ∧ (P j).y ≠ (P (j + 1)).y := by
  have hn := h.three
  by_cases hq : ∃ j, j < n ∧ (P j).y ≠ (P (j + 1)).y
  · exact hq
  · exfalso
    have hall : ∀ j, (P j).y = (P (j + 1)).y := by
      intro j
      obtain ⟨a, b⟩ := per_mod h j
      rw [← a, ← b]
      by_cases e : (P (j % n)).y = (P (j % n + 1)).y
      · exact e
      · exact (hq ⟨j % n, Nat.mod_lt _ (by omega), e⟩).elim
    have step : ∀ i, ((P i).x < (P (i + 1)).x ∧ (P (i + 1)).x < (P (i + 2)).x) ∨ ((P (i + 1)).x < (P i).x ∧ (P (i + 2)).x < (P (i + 1)).x) := by
      intro i
      have h1 := hall i
      have h2 : (P (i + 1)).y = (P (i + 2)).y := hall (i + 1)
      have hc : cross (P i) (P (i + 1)) (P (i + 2)) = 0 := by unfold cross; rw [← h2, ← h1]; grind
      have := (h.cor i).str hc
      omega
    rcases step 0 with s0 | s0
    · have up : ∀ i, (P i).x < (P (i + 1)).x := by
        intro i
        induction i with
        | zero => exact s0.1
        | succ i ih => rcases step i with s | s
                       · exact s.2
                       · omega
      have far : ∀ i, (P 0).x + i ≤ (P i).x := by
        intro i
        induction i with
        | zero => simp
        | succ i ih => have := up i; omega
      have := far n
      rw [show n = 0 + n from by omega, h.per] at this
      omega
    · have up : ∀ i, (P (i + 1)).x < (P i).x := by
        intro i
        induction i with
        | zero => exact s0.1
        | succ i ih => rcases step i with s | s
                       · omega
                       · exact s.2
      have far : ∀ i, (P i).x + i ≤ (P 0).x := by
        intro i
        induction i with
        | zero => simp
        | succ i ih => have := up i; omega
      have := far n
      rw [show n = 0 + n from by omega, h.per] at this
      omega
/-- The number on the left of a simple ring is 0 or 1. -/
theorem wl_01 {P : Nat → Pt} {n : Nat} (h : Poly P n) : wl P n 0 = 0 ∨ wl P n 0 = 1 := by
  obtain ⟨j, hj, hne⟩ := not_level h
  have hD := dyp_pos P n
  have hdm : 0 < ((dyp P n).natAbs : Int) * 2 := by omega
  obtain ⟨y, hy⟩ : ∃ y : Int, ((P j).y ≤ y ∧ y + 1 ≤ (P (j + 1)).y) ∨ ((P (j + 1)).y ≤ y ∧ y + 1 ≤ (P j).y) := by
    rcases Int.lt_or_gt_of_ne hne with g | g
    · exact ⟨(P j).y, by omega⟩
    · exact ⟨(P (j + 1)).y, by omega⟩
  have hl := level_lift h ((dyp P n).natAbs : Int) 2 y hD (by omega) (fun j hj => dyp_all h j hj)
  have := wl_level (poly_sc h hdm) hl ⟨j, hj, ?_⟩
  · rw [wl_sc hdm] at this
    exact this
  · unfold cros
    simp only [sc]
    generalize ((dyp P n).natAbs : Int) = D at *
    have k1 := lt_mul hD (2 * (P j).y) (2 * y + 1)
    have k2 := lt_mul hD (2 * y + 1) (2 * (P (j + 1)).y)
    have k3 := lt_mul hD (2 * (P (j + 1)).y) (2 * y + 1)
    have k4 := lt_mul hD (2 * y + 1) (2 * (P j).y)
    rw [Int.mul_assoc, Int.mul_assoc]
    omega
theorem jordan_one {P : Nat → Pt} {n : Nat} (h : Poly P n) (m : Int) (hm : 2 ≤ m) (hB : ∀ i, (P (i + 1)).x - (P i).x < m ∧ -m < (P (i + 1)).x - (P i).x) (p : Pt) (ho : ∀ i, offS (P i) (P (i + 1)) p) :
    -1 ≤ wnd P n p ∧ wnd P n p ≤ 1 := by
  have h1 := jordan h m hm hB p ho
  have h2 := wl_01 h
  omega
end Go.Proofs.PlRing
