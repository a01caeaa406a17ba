/-
  The plain laws of layer 4 (ring): along a level line a simple ring winds around a point at most once. No program in sight.
-/
import Derived.Test.YtmklnioedeailaaRPlainL
namespace Go.Proofs.PlRing
open Go.Proofs.PlGeom

theorem Mid.on_line {a b q : Pt} {m k : Int} (h : Mid a b q m k) : cross a b q = 0 := by
  have c := h.crs a b
  rw [(cross_aab a b).1, (cross_aab a b).2, Int.mul_zero, Int.mul_zero, Int.add_zero] at c
  have hmk : 0 < m + k := by have := h.pm; have := h.pk; omega
  rcases Int.mul_eq_zero.1 c with g | g
  · omega
  · exact g
/-- A point cannot lie inside two segments that are apart, unless they are on one line. -/
theorem Mid.two {a b c d q : Pt} {m k m' k' : Int} (h : Mid a b q m k) (h' : Mid c d q m' k') (hp : PlRing.apart a b c d) : cross a b c = 0 ∧ cross a b d = 0 := by
  have l1 := h.on_line
  have l2 := h'.on_line
  have s1 := sg_mean h'.pm h'.pk (h'.crs a b)
  have s2 := sg_mean h.pm h.pk (h.crs c d)
  unfold PlRing.apart at hp
  rcases hp with ⟨h1, h2⟩ | ⟨h1, h2⟩ | ⟨h1, h2⟩ | ⟨h1, h2⟩ | ⟨h1, h2, _, _⟩
  · have := s1.1 h1 h2; omega
  · have := s1.2.1 h1 h2; omega
  · have := s2.1 h1 h2; omega
  · have := s2.2.1 h1 h2; omega
  · exact ⟨h1, h2⟩
theorem cross_next {P : Nat → Pt} {n : Nat} (h : Poly P n) {y : Int} {X : Nat → Int} (hl : Level P n y X) (i : Nat) (h1 : cros P y i) (h2 : cros P y (i + 1)) : X i ≠ X (i + 1) := by
  intro e
  obtain ⟨m, k, q1⟩ := hl.mid i h1
  obtain ⟨m', k', q2⟩ := hl.mid (i + 1) h2
  rw [← e] at q2
  have l1 := q1.on_line
  have s1 := sg_mean q2.pm q2.pk (q2.crs (P i) (P (i + 1)))
  have e1 : cross (P i) (P (i + 1)) (P (i + 1)) = 0 := (cross_aab _ _).1
  have s2 := (s1.2.2.1 e1).2.2.1 l1
  have hs := (h.cor i).str s2
  have e2 : i + 1 + 1 = i + 2 := rfl
  unfold cros at h1 h2
  rw [e2] at h2
  omega
theorem cross_far {P : Nat → Pt} {n : Nat} (h : Poly P n) {y : Int} {X : Nat → Int} (hl : Level P n y X) (i k : Nat) (hk : 1 ≤ k) (hk2 : k + 1 ≤ n) (h1 : cros P y i) (h2 : cros P y (i + k)) : X i ≠ X (i + k) := by
  by_cases e1 : k = 1
  · subst e1; exact cross_next h hl i h1 h2
  by_cases e2 : k + 1 = n
  · -- the side before
    have hn := cross_next h hl (i + k) h2
    have e3 : i + k + 1 = i + n := by omega
    have e4 : cros P y (i + n) := by
      unfold cros at *
      rw [show i + n + 1 = i + 1 + n from by omega, h.per, h.per]
      exact h1
    rw [e3, hl.per] at hn
    exact fun e => hn e4 e.symm
  · intro e
    obtain ⟨m, j, q1⟩ := hl.mid i h1
    obtain ⟨m', j', q2⟩ := hl.mid (i + k) h2
    rw [← e] at q2
    have ha := h.far i k (by omega) (by omega)
    obtain ⟨c1, c2⟩ := q1.two q2 ha
    have hs := h.sep i k (by omega) (by omega) c1 c2
    unfold sepY at hs
    unfold cros at h1 h2
    omega
/-- A side among some with the least value. -/
theorem least (X : Nat → Int) (Q : Nat → Prop) (n : Nat) (h : ∃ j, j < n ∧ Q j) : ∃ i, i < n ∧ Q i ∧ ∀ j, j < n → Q j → X i ≤ X j := by
  induction n with
  | zero => obtain ⟨j, hj, _⟩ := h; omega
  | succ n ih =>
    by_cases hn : ∃ j, j < n ∧ Q j
    · obtain ⟨i, hi, hq, hm⟩ := ih hn
      by_cases hq2 : Q n ∧ X n < X i
      · refine ⟨n, by omega, hq2.1, fun j hj hqj => ?_⟩
        by_cases e : j = n
        · subst e; omega
        · have := hm j (by omega) hqj; omega
      · refine ⟨i, by omega, hq, fun j hj hqj => ?_⟩
        by_cases e : j = n
        · subst e
          by_cases g : X j < X i
          · exact (hq2 ⟨hqj, g⟩).elim
          · omega
        · exact hm j (by omega) hqj
    · obtain ⟨j, hj, hqj⟩ := h
      have e : j = n := by
        by_cases e : j = n
        · exact e
        · exact (hn ⟨j, by omega, hqj⟩).elim
      subst e
      refine ⟨j, by omega, hqj, fun l hl hql => ?_⟩
      by_cases e : l = j
      · subst e; omega
      · exact (hn ⟨l, by omega, hql⟩).elim
/-- The winding number. -/
def wnd (P : Nat → Pt) (n : Nat) (p : Pt) : Int := sm (fun j => chi (P j) (P (j + 1)) p) 0 n
theorem wnd_at {P : Nat → Pt} {n : Nat} (h : Poly P n) (i : Nat) (p : Pt) : wnd P n p = chi (P i) (P (i + 1)) p + others P n i p := by
  unfold wnd others
  rw [← sm_any (fun j => chi (P j) (P (j + 1)) p) n (fun j => by rw [show j + n + 1 = j + 1 + n from by omega, h.per, h.per]) i]
  obtain ⟨m, rfl⟩ : ∃ m, n = m + 1 := ⟨n - 1, by have := h.three; omega⟩
  rfl
theorem sm_zero (f : Nat → Int) (i n : Nat) (h : ∀ k, i ≤ k → k < i + n → f k = 0) : sm f i n = 0 := by
  induction n generalizing i with
  | zero => rfl
  | succ n ih => rw [sm_succ, h i (by omega) (by omega), ih (i + 1) (fun k h1 h2 => h k (by omega) (by omega))]; rfl
theorem mod_rep {P : Nat → Pt} {n : Nat} (h : Poly P n) {y : Int} {X : Nat → Int} (hl : Level P n y X) (j : Nat) : P (j % n) = P j ∧ P (j % n + 1) = P (j + 1) ∧ X (j % n) = X j := by
  have hn : 0 < n := by have := h.three; omega
  have key : ∀ k, P (j % n + k * n) = P (j % n) ∧ P (j % n + 1 + k * n) = P (j % n + 1) ∧ X (j % n + k * n) = X (j % n) := by
    intro k
    induction k with
    | zero => simp
    | succ k ih =>
      have e : ∀ a, a + (k + 1) * n = a + k * n + n := fun a => by rw [Nat.add_mul]; omega
      rw [e, e, h.per, h.per, hl.per]
      exact ih
  have := key (j / n)
  have e : j % n + j / n * n = j := by rw [Nat.mul_comm]; exact Nat.mod_add_div j n
  rw [show j % n + 1 + j / n * n = (j % n + j / n * n) + 1 from by omega, e] at this
  exact ⟨this.1.symm, this.2.1.symm, this.2.2.symm⟩
theorem cros_mod {P : Nat → Pt} {n : Nat} (h : Poly P n) {y : Int} {X : Nat → Int} (hl : Level P n y X) (j : Nat) : cros P y (j % n) ↔ cros P y j := by
  obtain ⟨a, b, _⟩ := mod_rep h hl j
  unfold cros
  rw [a, b]
/-- WHERE A RING CROSSES THE LEVEL LINE TO THE RIGHT OF A POINT, it winds around it as the number on its left says; where it doesn't, not at all. -/
theorem wnd_level {P : Nat → Pt} {n : Nat} (h : Poly P n) {y : Int} {X : Nat → Int} (hl : Level P n y X) (x : Int) :
    wnd P n ⟨x, y⟩ = 0 ∨ wnd P n ⟨x, y⟩ = wl P n 0 ∨ wnd P n ⟨x, y⟩ = wl P n 0 - 1 := by
  have hn : 0 < n := by have := h.three; omega
  by_cases hq : ∃ j, j < n ∧ (cros P y j ∧ x < X j)
  · right
    obtain ⟨i, hi, ⟨hc, hxi⟩, hmin⟩ := least X _ n hq
    obtain ⟨m, k, q1⟩ := hl.mid i hc
    rw [wnd_at h i]
    have e1 : others P n i ⟨x, y⟩ = others P n i ⟨X i, y⟩ := by
      unfold others
      refine sm_congr _ _ _ _ fun j h1 h2 => ?_
      rw [chi_cros hl j x, chi_cros hl j (X i)]
      have hiff : (cros P y j ∧ x < X j) ↔ (cros P y j ∧ X i < X j) := by
        constructor
        · rintro ⟨g1, g2⟩
          refine ⟨g1, ?_⟩
          have := hmin (j % n) (Nat.mod_lt _ hn) ⟨(cros_mod h hl j).2 g1, by rw [(mod_rep h hl j).2.2]; exact g2⟩
          rw [(mod_rep h hl j).2.2] at this
          have hne := cross_far h hl i (j - i) (by omega) (by omega) hc (by rw [show i + (j - i) = j from by omega]; exact g1)
          rw [show i + (j - i) = j from by omega] at hne
          omega
        · rintro ⟨g1, g2⟩; exact ⟨g1, by omega⟩
      by_cases g : cros P y j ∧ x < X j
      · rw [if_pos g, if_pos (hiff.1 g)]
      · rw [if_neg g, if_neg (fun hh => g (hiff.2 hh))]
    have e2 := others_wl h i _ q1
    have e3 := chi_cros hl i x
    rw [if_pos ⟨hc, hxi⟩] at e3
    rw [e1, e3]
    unfold kk at e2
    unfold cros at hc
    rcases hc with ⟨g1, g2⟩ | ⟨g1, g2⟩
    · rw [if_pos (.inl (by omega))] at e2
      rw [if_pos g1]
      left; omega
    · rw [if_neg (by omega)] at e2
      rw [if_neg (by omega)]
      right; omega
  · left
    unfold wnd
    refine sm_zero _ _ _ fun j _ h2 => ?_
    rw [chi_cros hl j x, if_neg (fun g => hq ⟨j, by omega, g⟩)]
/-- The number on the left is 0 or 1, if the level line is crossed at all. -/
theorem wl_level {P : Nat → Pt} {n : Nat} (h : Poly P n) {y : Int} {X : Nat → Int} (hl : Level P n y X) (hq : ∃ j, j < n ∧ cros P y j) : wl P n 0 = 0 ∨ wl P n 0 = 1 := by
  have hn : 0 < n := by have := h.three; omega
  obtain ⟨i, hi, hc, hmin⟩ := least (fun j => -X j) _ n hq
  obtain ⟨m, k, q1⟩ := hl.mid i hc
  have e1 : others P n i ⟨X i, y⟩ = 0 := by
    unfold others
    refine sm_zero _ _ _ fun j h1 h2 => ?_
    rw [chi_cros hl j (X i), if_neg]
    rintro ⟨g1, g2⟩
    have := hmin (j % n) (Nat.mod_lt _ hn) ((cros_mod h hl j).2 g1)
    simp only [(mod_rep h hl j).2.2] at this
    omega
  have e2 := others_wl h i _ q1
  unfold kk at e2
  split at e2 <;> omega
end Go.Proofs.PlRing
