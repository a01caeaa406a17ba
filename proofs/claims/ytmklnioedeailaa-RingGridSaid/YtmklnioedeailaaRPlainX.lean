/-
  The plain laws of layer 4 (ring): the area of a simple ring has the sign of its winding number, and is not 0. No program in sight.
-/
import Derived.Test.YtmklnioedeailaaRPlainW
import Derived.Test.YtmklnioedeailaaRPlain9
namespace Go.Proofs.PlRing
open Go.Proofs.PlGeom

theorem sm_add (f g : Nat → Int) (i n : Nat) : sm (fun k => f k + g k) i n = sm f i n + sm g i n := by
  induction n generalizing i with
  | zero => rfl
  | succ n ih => rw [sm_succ, sm_succ, sm_succ, ih]; omega
theorem sm_mulr (f : Nat → Int) (c : Int) (i n : Nat) : sm (fun k => f k * c) i n = sm f i n * c := by
  induction n generalizing i with
  | zero => simp [sm]
  | succ n ih => rw [sm_succ, sm_succ, ih, Int.add_mul]
theorem sm_comm (f : Nat → Nat → Int) (i n j m : Nat) : sm (fun a => sm (fun b => f a b) j m) i n = sm (fun b => sm (fun a => f a b) i n) j m := by
  induction n generalizing i with
  | zero => simp only [sm]; exact (sm_zero _ _ _ fun _ _ _ => rfl).symm
  | succ n ih =>
    rw [sm_succ, ih]
    have : sm (fun b => sm (fun a => f a b) i (n + 1)) j m = sm (fun b => f i b + sm (fun a => f a b) (i + 1) n) j m := rfl
    rw [this, sm_add]
theorem sm_nonneg (f : Nat → Int) (i n : Nat) (h : ∀ k, i ≤ k → k < i + n → 0 ≤ f k) : 0 ≤ sm f i n ∧ ∀ k, i ≤ k → k < i + n → f k ≤ sm f i n := by
  induction n generalizing i with
  | zero => exact ⟨Int.le_refl _, fun k h1 h2 => by omega⟩
  | succ n ih =>
    obtain ⟨g1, g2⟩ := ih (i + 1) (fun k h1 h2 => h k (by omega) (by omega))
    have h0 := h i (by omega) (by omega)
    rw [sm_succ]
    refine ⟨by omega, fun k h1 h2 => ?_⟩
    by_cases e : k = i
    · subst e; omega
    · have := g2 k (by omega) (by omega); omega

/-- A sum of odd numbers over a piece of a range. -/
theorem sm_odd (B : Int) (N : Nat) (lo hi c e : Int) (h1 : lo ≤ hi) (h2 : -B ≤ lo) (h3 : hi + B ≤ N) :
    sm (fun t => if lo ≤ (t : Int) - B ∧ (t : Int) - B < hi then c + e * (2 * ((t : Int) - B - lo) + 1) else 0) 0 N = c * (hi - lo) + e * ((hi - lo) * (hi - lo)) := by
  have key : ∀ n : Nat, sm (fun t => if lo ≤ (t : Int) - B ∧ (t : Int) - B < hi then c + e * (2 * ((t : Int) - B - lo) + 1) else 0) 0 n =
      if (n : Int) - B ≤ lo then 0 else if (n : Int) - B ≤ hi then c * ((n : Int) - B - lo) + e * (((n : Int) - B - lo) * ((n : Int) - B - lo)) else c * (hi - lo) + e * ((hi - lo) * (hi - lo)) := by
    intro n
    induction n with
    | zero => rw [if_pos (by omega)]; rfl
    | succ n ih =>
      rw [sm_last, ih]
      have e0 : ((n + 1 : Nat) : Int) = (n : Int) + 1 := by push_cast; rfl
      rw [e0, Nat.zero_add]
      obtain ⟨u, hu⟩ : ∃ u, (n : Int) - B = u := ⟨_, rfl⟩
      have hu2 : (n : Int) + 1 - B = u + 1 := by omega
      rw [hu, hu2]
      by_cases g1 : u < lo
      · rw [if_pos (by omega), if_neg (by omega), if_pos (by omega)]; rfl
      · by_cases g2 : u < hi
        · have hA : (if lo ≤ u ∧ u < hi then c + e * (2 * (u - lo) + 1) else 0) = c + e * (2 * (u - lo) + 1) := if_pos ⟨by omega, g2⟩
          rw [hA, if_neg (by omega : ¬ u + 1 ≤ lo), if_pos (by omega : u + 1 ≤ hi)]
          by_cases g3 : u ≤ lo
          · have : u = lo := by omega
            rw [if_pos g3, this]
            grind
          · rw [if_neg g3, if_pos (by omega : u ≤ hi)]
            grind
        · rw [if_neg (by omega : ¬ (lo ≤ u ∧ u < hi)), if_neg (by omega : ¬ u + 1 ≤ lo), if_neg (by omega : ¬ u + 1 ≤ hi)]
          by_cases g3 : u ≤ lo
          · have : hi = lo := by omega
            rw [if_pos g3, this]
            simp
          · rw [if_neg g3]
            by_cases g4 : u ≤ hi
            · have : u = hi := by omega
              rw [if_pos g4, this]; omega
            · rw [if_neg g4]; omega
  rw [key N]
  by_cases g : (N : Int) - B ≤ lo
  · have : hi = lo := by omega
    rw [if_pos g, this]; simp
  · rw [if_neg g]
    by_cases g2 : (N : Int) - B ≤ hi
    · have : (N : Int) - B = hi := by omega
      rw [if_pos g2, this]
    · rw [if_neg g2]

/-- What a side adds along a level: where it crosses, up or down. -/
def lev (P : Nat → Pt) (X : Nat → Int) (y : Int) (j : Nat) : Int := if (P j).y < y ∧ y < (P (j + 1)).y then X j else if (P (j + 1)).y < y ∧ y < (P j).y then -X j else 0
/-- TWICE THE AREA UNDER A SIDE is the sum of its crossings with the half heights. -/
theorem side_area (P : Nat → Pt) (D B : Int) (N : Nat) (j : Nat) (hD : 0 < D) (hdiv : (P (j + 1)).y - (P j).y ≠ 0 → ((P (j + 1)).y - (P j).y) ∣ D) (b1 : -B ≤ (P j).y) (b2 : -B ≤ (P (j + 1)).y) (b3 : (P j).y + B ≤ N) (b4 : (P (j + 1)).y + B ≤ N) :
    sm (fun t => lev (fun i => sc (D * 2) (P i)) (xat P D 2 ((t : Int) - B)) (D * (2 * ((t : Int) - B) + 1)) j) 0 N = D * (((P j).x + (P (j + 1)).x) * ((P (j + 1)).y - (P j).y)) := by
  have key : ∀ v h : Int, (D * 2 * v < D * (2 * h + 1) ↔ v ≤ h) ∧ (D * (2 * h + 1) < D * 2 * v ↔ h < v) := by
    intro v h
    rw [Int.mul_assoc]
    have g1 := lt_mul hD (2 * v) (2 * h + 1)
    have g2 := lt_mul hD (2 * h + 1) (2 * v)
    omega
  unfold lev xat
  simp only [sc, key]
  generalize (P j).x = ax at *
  generalize (P (j + 1)).x = bx at *
  generalize (P j).y = ay at *
  generalize (P (j + 1)).y = yb at *
  rcases Int.lt_trichotomy ay yb with g | g | g
  · obtain ⟨E, hE⟩ := hdiv (by omega)
    have hq : D / (yb - ay) = E := by rw [hE]; exact Int.mul_ediv_cancel_left _ (by omega)
    have := sm_odd B N ay yb (D * 2 * ax) ((bx - ax) * E) (by omega) b1 b4
    rw [sm_congr _ (fun t => if ay ≤ (t : Int) - B ∧ (t : Int) - B < yb then D * 2 * ax + (bx - ax) * E * (2 * ((t : Int) - B - ay) + 1) else 0) 0 N (fun t _ _ => by
      rw [hq]
      by_cases g1 : ay ≤ (t : Int) - B ∧ (t : Int) - B < yb
      · rw [if_pos g1, if_pos g1]
      · rw [if_neg g1, if_neg g1, if_neg (by omega)]), this, hE]
    grind
  · subst g
    rw [Int.sub_self, Int.mul_zero, Int.mul_zero]
    exact sm_zero _ _ _ fun t _ _ => by rw [if_neg (by omega), if_neg (by omega)]
  · obtain ⟨E, hE⟩ := hdiv (by omega)
    have hq : D / (yb - ay) = E := by rw [hE]; exact Int.mul_ediv_cancel_left _ (by omega)
    have := sm_odd B N yb ay (-(D * 2 * ax) + 2 * ((bx - ax) * E) * (ay - yb)) (-((bx - ax) * E)) (by omega) b2 b3
    rw [sm_congr _ (fun t => if yb ≤ (t : Int) - B ∧ (t : Int) - B < ay then -(D * 2 * ax) + 2 * ((bx - ax) * E) * (ay - yb) + -((bx - ax) * E) * (2 * ((t : Int) - B - yb) + 1) else 0) 0 N (fun t _ _ => by
      rw [hq]
      by_cases g1 : yb ≤ (t : Int) - B ∧ (t : Int) - B < ay
      · rw [if_neg (by omega), if_pos g1, if_pos g1]; grind
      · rw [if_neg g1, if_neg (by omega), if_neg g1]), this, hE]
    grind
end Go.Proofs.PlRing
