/-
  The plain laws of layer 4 (ring): the area of a simple ring has the sign of its winding number, and is not 0. No program in sight.
-/
import Derived.Test.YtmklnioedeailaaRPlainX
namespace Go.Proofs.PlRing
open Go.Proofs.PlGeom

/-- The least place of a half line, counted. -/
theorem sm_step (M X e : Int) (h : 0 ≤ X + M) (n : Nat) : sm (fun t => if (t : Int) - M < X then e else 0) 0 n = if (n : Int) ≤ X + M then e * n else e * (X + M) := by
  induction n with
  | zero => rw [if_pos (by omega)]; simp [sm]
  | succ n ih =>
    have e0 : ((n + 1 : Nat) : Int) = (n : Int) + 1 := by push_cast; rfl
    rw [sm_last, ih, Nat.zero_add, e0]
    by_cases g : (n : Int) + 1 ≤ X + M
    · rw [if_pos (by omega : (n : Int) ≤ X + M), if_pos (by omega : (n : Int) - M < X), if_pos g]; grind
    · rw [if_neg (by omega : ¬ (n : Int) - M < X), if_neg g]
      by_cases g2 : (n : Int) ≤ X + M
      · have : (n : Int) = X + M := by omega
        rw [if_pos g2, this]; omega
      · rw [if_neg g2]; omega
/-- The way in which a side crosses a level. -/
def dir (P : Nat → Pt) (y : Int) (j : Nat) : Int := if (P j).y < y ∧ y < (P (j + 1)).y then 1 else if (P (j + 1)).y < y ∧ y < (P j).y then -1 else 0
theorem dir_sum (P : Nat → Pt) (y : Int) (h : ∀ i, (P i).y ≠ y) (i m : Nat) : sm (dir P y) i m = (if y < (P (i + m)).y then 1 else 0) - (if y < (P i).y then 1 else 0) := by
  induction m with
  | zero => simp [sm]
  | succ m ih =>
    rw [sm_last, ih, show i + (m + 1) = i + m + 1 from by omega]
    have h1 := h (i + m)
    have h2 := h (i + m + 1)
    unfold dir
    generalize (P (i + m)).y = a at *
    generalize (P (i + m + 1)).y = b at *
    generalize (P i).y = c at *
    by_cases g1 : y < a <;> by_cases g2 : y < b <;> simp only [g1, g2, if_true, if_false, and_true, and_false] <;> (repeat' split) <;> omega
/-- A LEVEL'S CROSSINGS, added with their ways, are the winding numbers of its places. -/
theorem level_sum {P : Nat → Pt} {n : Nat} (h : Poly P n) {y : Int} {X : Nat → Int} (hl : Level P n y X) (M : Nat) (hM : ∀ j, j < n → -(M : Int) ≤ X j ∧ X j ≤ M) :
    sm (lev P X y) 0 n = sm (fun t => wnd P n ⟨(t : Int) - M, y⟩) 0 (2 * M) := by
  unfold wnd
  rw [sm_comm (fun t j => chi (P j) (P (j + 1)) ⟨((t : Nat) : Int) - M, y⟩)]
  have key : ∀ j, 0 ≤ j → j < 0 + n → (fun j => sm (fun t : Nat => chi (P j) (P (j + 1)) ⟨(t : Int) - M, y⟩) 0 (2 * M)) j = (fun j => lev P X y j + dir P y j * M) j := fun j _ hj => by
    obtain ⟨m1, m2⟩ := hM j (by omega)
    show sm (fun t : Nat => chi (P j) (P (j + 1)) ⟨(t : Int) - M, y⟩) 0 (2 * M) = lev P X y j + dir P y j * M
    by_cases hc : cros P y j
    · rw [sm_congr (fun t : Nat => chi (P j) (P (j + 1)) ⟨(t : Int) - M, y⟩) (fun t : Nat => if (t : Int) - M < X j then (if (P j).y < y then 1 else -1) else 0) 0 (2 * M) (fun t _ _ => by
        rw [chi_cros hl j]
        by_cases g : (t : Int) - M < X j
        · rw [if_pos ⟨hc, g⟩, if_pos g]
        · rw [if_neg (fun hh => g hh.2), if_neg g]), sm_step M (X j) _ (by omega)]
      have e0 : ((2 * M : Nat) : Int) = 2 * (M : Int) := by push_cast; rfl
      have e1 : (if ((2 * M : Nat) : Int) ≤ X j + M then (if (P j).y < y then (1 : Int) else -1) * ((2 * M : Nat) : Int) else (if (P j).y < y then (1 : Int) else -1) * (X j + M)) = (if (P j).y < y then (1 : Int) else -1) * (X j + M) := by
        by_cases g : ((2 * M : Nat) : Int) ≤ X j + M
        · rw [if_pos g, e0]
          have : X j = M := by omega
          rw [this, show (2 : Int) * M = M + M from by omega]
        · rw [if_neg g]
      rw [e1]
      unfold lev dir
      unfold cros at hc
      rcases hc with ⟨g1, g2⟩ | ⟨g1, g2⟩
      · rw [if_pos g1, if_pos ⟨g1, g2⟩, if_pos ⟨g1, g2⟩]; omega
      · rw [if_neg (by omega : ¬ (P j).y < y), if_neg (by omega : ¬ ((P j).y < y ∧ y < (P (j + 1)).y)), if_pos ⟨g1, g2⟩, if_neg (by omega : ¬ ((P j).y < y ∧ y < (P (j + 1)).y)), if_pos ⟨g1, g2⟩]; omega
    · rw [sm_zero (fun t : Nat => chi (P j) (P (j + 1)) ⟨(t : Int) - M, y⟩) 0 (2 * M) (fun t _ _ => by rw [chi_cros hl j, if_neg (fun hh => hc hh.1)])]
      unfold lev dir
      unfold cros at hc
      rw [if_neg (by omega : ¬ ((P j).y < y ∧ y < (P (j + 1)).y)), if_neg (by omega : ¬ ((P (j + 1)).y < y ∧ y < (P j).y)), if_neg (by omega : ¬ ((P j).y < y ∧ y < (P (j + 1)).y)), if_neg (by omega : ¬ ((P (j + 1)).y < y ∧ y < (P j).y))]
      omega
  have hd := dir_sum P y hl.off 0 n
  rw [h.per] at hd
  rw [sm_congr _ _ 0 n key, sm_add, sm_mulr, hd, Int.sub_self]
  omega
theorem sm_neg (f : Nat → Int) (i n : Nat) : sm (fun k => -f k) i n = -sm f i n := by
  induction n generalizing i with
  | zero => rfl
  | succ n ih => rw [sm_succ, sm_succ, ih]; omega
/-- Some number bounds all of some. -/
theorem bounded (X : Nat → Int) (n : Nat) : ∃ M : Nat, ∀ j, j < n → -(M : Int) ≤ X j ∧ X j ≤ M := by
  induction n with
  | zero => exact ⟨0, fun j hj => by omega⟩
  | succ n ih =>
    obtain ⟨M, hM⟩ := ih
    refine ⟨M + (X n).natAbs, fun j hj => ?_⟩
    by_cases e : j = n
    · subst e; omega
    · have := hM j (by omega); omega
/-- The sum along a level has the sign that the number on the left says, and is 0 only where the ring is not crossed. -/
theorem level_sign {P : Nat → Pt} {n : Nat} (h : Poly P n) {y : Int} {X : Nat → Int} (hl : Level P n y X) :
    (wl P n 0 = 1 → 0 ≤ sm (lev P X y) 0 n) ∧ (wl P n 0 = 0 → sm (lev P X y) 0 n ≤ 0) ∧
    ((∃ j, j < n ∧ cros P y j) → (wl P n 0 = 1 → 0 < sm (lev P X y) 0 n) ∧ (wl P n 0 = 0 → sm (lev P X y) 0 n < 0)) := by
  have hn : 0 < n := by have := h.three; omega
  obtain ⟨M0, hM0⟩ := bounded X n
  have hs := level_sum h hl (M0 + 1) (fun j hj => by have := hM0 j hj; push_cast; omega)
  rw [hs]
  have hw := wnd_level h hl
  have hp : wl P n 0 = 1 → ∀ k, 0 ≤ k → k < 0 + 2 * (M0 + 1) → 0 ≤ (fun t : Nat => wnd P n ⟨(t : Int) - (M0 + 1 : Nat), y⟩) k := fun e k _ _ => by
    have := hw ((k : Int) - (M0 + 1 : Nat)); simp only; omega
  have hq : wl P n 0 = 0 → ∀ k, 0 ≤ k → k < 0 + 2 * (M0 + 1) → 0 ≤ (fun t : Nat => -wnd P n ⟨(t : Int) - (M0 + 1 : Nat), y⟩) k := fun e k _ _ => by
    have := hw ((k : Int) - (M0 + 1 : Nat)); simp only; omega
  refine ⟨fun e => (sm_nonneg _ _ _ (hp e)).1, fun e => ?_, fun hc => ?_⟩
  · have := (sm_nonneg _ _ _ (hq e)).1
    rw [sm_neg] at this
    omega
  · obtain ⟨i, hi, hci, hmin⟩ := least (fun j => -X j) _ n hc
    have hb := hM0 i hi
    obtain ⟨t, ht⟩ : ∃ t : Nat, (t : Int) = X i - 1 + (M0 + 1 : Nat) := ⟨(X i - 1 + (M0 + 1 : Nat)).toNat, by push_cast; omega⟩
    have hx : (t : Int) - (M0 + 1 : Nat) = X i - 1 := by omega
    have e1 : others P n i ⟨X i - 1, y⟩ = 0 := by
      unfold others
      refine sm_zero _ _ _ fun j h1 h2 => ?_
      rw [chi_cros hl j (X i - 1), if_neg]
      rintro ⟨g1, g2⟩
      have := hmin (j % n) (Nat.mod_lt _ hn) ((cros_mod h hl j).2 g1)
      simp only [(mod_rep h hl j).2.2] at this
      have hne := cross_far h hl i (j - i) (by omega) (by omega) hci (by rw [show i + (j - i) = j from by omega]; exact g1)
      rw [show i + (j - i) = j from by omega] at hne
      omega
    have e2 : wnd P n ⟨X i - 1, y⟩ ≠ 0 := by
      rw [wnd_at h i, e1, chi_cros hl i, if_pos ⟨hci, by omega⟩]
      split <;> omega
    have ht2 : t < 0 + 2 * (M0 + 1) := by push_cast at ht; omega
    refine ⟨fun e => ?_, fun e => ?_⟩
    · have := (sm_nonneg _ _ _ (hp e)).2 t (by omega) ht2
      simp only [hx] at this
      have k := hp e t (by omega) ht2
      simp only [hx] at k
      omega
    · have := (sm_nonneg _ _ _ (hq e)).2 t (by omega) ht2
      simp only [hx] at this
      have k := hq e t (by omega) ht2
      simp only [hx] at k
      rw [sm_neg] at this
      omega
/-- THE AREA OF A CLOSED POLYGON whose sides do not meet has the sign that the number on its left says. -/
theorem area_sign {P : Nat → Pt} {n : Nat} (h : Poly P n) :
    (wl P n 0 = 1 → 0 < sm (fun j => ((P j).x + (P (j + 1)).x) * ((P (j + 1)).y - (P j).y)) 0 n) ∧
    (wl P n 0 = 0 → sm (fun j => ((P j).x + (P (j + 1)).x) * ((P (j + 1)).y - (P j).y)) 0 n < 0) := by
  have hn : 0 < n := by have := h.three; omega
  obtain ⟨B, hB⟩ := bounded (fun i => (P i).y) n
  have hB2 : ∀ i, -(B : Int) ≤ (P i).y ∧ (P i).y ≤ B := fun i => by
    have := hB (i % n) (Nat.mod_lt _ hn)
    simp only [(per_mod h i).1] at this
    exact this
  have hD := dyp_pos P n
  have hdv := dyp_all h
  generalize ((dyp P n).natAbs : Int) = D at hD hdv
  have hD2 : 0 < D * 2 := by omega
  have hl : ∀ t : Nat, Level (fun i => sc (D * 2) (P i)) n (D * (2 * ((t : Int) - B) + 1)) (xat P D 2 ((t : Int) - B)) := fun t => level_lift h D 2 _ hD (by omega) (fun j hj => hdv j hj)
  have hs := fun t => level_sign (poly_sc h hD2) (hl t)
  simp only [wl_sc hD2] at hs
  have hsum : sm (fun t : Nat => sm (lev (fun i => sc (D * 2) (P i)) (xat P D 2 ((t : Int) - B)) (D * (2 * ((t : Int) - B) + 1))) 0 n) 0 (2 * B) = D * sm (fun j => ((P j).x + (P (j + 1)).x) * ((P (j + 1)).y - (P j).y)) 0 n := by
    rw [sm_comm (fun t j => lev (fun i => sc (D * 2) (P i)) (xat P D 2 ((t : Int) - B)) (D * (2 * ((t : Int) - B) + 1)) j) 0 (2 * B) 0 n]
    rw [sm_congr _ (fun j => (((P j).x + (P (j + 1)).x) * ((P (j + 1)).y - (P j).y)) * D) 0 n (fun j _ _ => by
      rw [side_area P D B (2 * B) j hD (hdv j) (hB2 j).1 (hB2 (j + 1)).1 (by have := (hB2 j).2; push_cast; omega) (by have := (hB2 (j + 1)).2; push_cast; omega), Int.mul_comm]), sm_mulr, Int.mul_comm]
  obtain ⟨j, hj, hne⟩ := not_level h
  obtain ⟨t, ht, hc⟩ : ∃ t : Nat, t < 2 * B ∧ (((P j).y ≤ (t : Int) - B ∧ (t : Int) - B + 1 ≤ (P (j + 1)).y) ∨ ((P (j + 1)).y ≤ (t : Int) - B ∧ (t : Int) - B + 1 ≤ (P j).y)) := by
    have b1 := hB2 j
    have b2 := hB2 (j + 1)
    rcases Int.lt_or_gt_of_ne hne with g | g
    · exact ⟨((P j).y + B).toNat, by omega, .inl (by omega)⟩
    · exact ⟨((P (j + 1)).y + B).toNat, by omega, .inr (by omega)⟩
  have hcr : cros (fun i => sc (D * 2) (P i)) (D * (2 * ((t : Int) - B) + 1)) j := by
    unfold cros
    simp only [sc]
    generalize (t : Int) - B = y at *
    have k1 := lt_mul hD (2 * (P j).y) (2 * y + 1)
    have k2 := lt_mul hD (2 * y + 1) (2 * (P (j + 1)).y)
    have k3 := lt_mul hD (2 * (P (j + 1)).y) (2 * y + 1)
    have k4 := lt_mul hD (2 * y + 1) (2 * (P j).y)
    rw [Int.mul_assoc, Int.mul_assoc]
    omega
  have hst := (hs t).2.2 ⟨j, hj, hcr⟩
  refine ⟨fun e => ?_, fun e => ?_⟩
  · have g := (sm_nonneg _ 0 (2 * B) (fun t _ _ => (hs t).1 e)).2 t (by omega) (by omega)
    have := hst.1 e
    rw [hsum] at g
    exact (sg_mul hD _).1.1 (by omega)
  · have g := (sm_nonneg (fun t : Nat => -sm (lev (fun i => sc (D * 2) (P i)) (xat P D 2 ((t : Int) - B)) (D * (2 * ((t : Int) - B) + 1))) 0 n) 0 (2 * B) (fun t _ _ => by have := (hs t).2.1 e; omega)).2 t (by omega) (by omega)
    have := hst.2 e
    rw [sm_neg, hsum] at g
    exact (sg_mul hD _).2.1.1 (by omega)
end Go.Proofs.PlRing
