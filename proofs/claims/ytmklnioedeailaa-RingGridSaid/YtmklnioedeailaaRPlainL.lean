/-
  The plain laws of layer 4 (ring): a simple ring winds around a point at most once, where the crossings with the point's height are whole points. No program in sight.
-/
import Derived.Test.YtmklnioedeailaaRPlainK
namespace Go.Proofs.PlRing
open Go.Proofs.PlGeom

/-- A point between two others, with weights. -/
structure Mid (a b q : Pt) (m k : Int) : Prop where
  pm : 0 < m
  pk : 0 < k
  ex : (m + k) * q.x = m * a.x + k * b.x
  ey : (m + k) * q.y = m * a.y + k * b.y
theorem Mid.crs {a b q : Pt} {m k : Int} (h : Mid a b q m k) (u v : Pt) : (m + k) * cross u v q = m * cross u v a + k * cross u v b := by
  have h1 := h.ex
  have h2 := h.ey
  unfold cross
  grind
theorem Mid.crs1 {a b q : Pt} {m k : Int} (h : Mid a b q m k) (u : Pt) : (m + k) * cross a q u = k * cross a b u := by
  have h1 := h.ex
  have h2 := h.ey
  unfold cross
  grind
theorem Mid.yy {a b q : Pt} {m k : Int} (h : Mid a b q m k) : (m + k) * (q.y - a.y) = k * (b.y - a.y) := by
  have h2 := h.ey
  grind
/-- The sign of x is that of y, where positive multiples of them are equal. -/
theorem sg_eq {x y m k : Int} (hm : 0 < m) (hk : 0 < k) (h : m * x = k * y) : (0 < x ↔ 0 < y) ∧ (x < 0 ↔ y < 0) ∧ (x = 0 ↔ y = 0) := by
  have g1 := sgp hm x
  have g2 := sgp hk y
  rw [Int.mul_comm] at h
  rw [Int.mul_comm k] at h
  omega
/-- The sign of a mean of two numbers of one sign. -/
theorem sg_mean {x y z m k : Int} (hm : 0 < m) (hk : 0 < k) (h : (m + k) * z = m * x + k * y) : (0 < x → 0 < y → 0 < z) ∧ (x < 0 → y < 0 → z < 0) ∧ (x = 0 → (0 < z ↔ 0 < y) ∧ (z < 0 ↔ y < 0) ∧ (z = 0 ↔ y = 0)) ∧ (y = 0 → (0 < z ↔ 0 < x) ∧ (z < 0 ↔ x < 0) ∧ (z = 0 ↔ x = 0)) := by
  have g1 := sgp hm x
  have g2 := sgp hk y
  have g3 := sgp (d := m + k) (by omega) z
  rw [Int.mul_comm] at h
  rw [Int.mul_comm m, Int.mul_comm k] at h
  omega
theorem cross_aab (a b : Pt) : cross a b b = 0 ∧ cross a b a = 0 := by unfold cross; constructor <;> grind
theorem Mid.ray {a b q : Pt} {m k : Int} (h : Mid a b q m k) : Ray a b q := by
  have hy := sg_eq (by have := h.pm; have := h.pk; omega) h.pk h.yy
  refine ⟨by omega, by omega, fun u => ?_⟩
  have h1 := h.crs u a
  rw [(cross_aab u a).1, Int.mul_zero, Int.zero_add] at h1
  have := sg_eq (by have := h.pm; have := h.pk; omega) h.pk h1
  exact ⟨this.1, this.2.1⟩
/-- A piece of a side is apart from what the side is apart from. -/
theorem Mid.apart {a b q u v : Pt} {m k : Int} (h : Mid a b q m k) (hp : apart a b u v) : PlRing.apart a q u v := by
  have hmk : 0 < m + k := by have := h.pm; have := h.pk; omega
  have s1 := sg_eq hmk h.pk (h.crs1 u)
  have s2 := sg_eq hmk h.pk (h.crs1 v)
  have s3 := sg_mean h.pm h.pk (h.crs u v)
  unfold PlRing.apart at *
  rcases hp with ⟨h1, h2⟩ | ⟨h1, h2⟩ | ⟨h1, h2⟩ | ⟨h1, h2⟩ | ⟨h1, h2, h3, h4⟩
  · exact .inl ⟨s1.1.2 h1, s2.1.2 h2⟩
  · exact .inr (.inl ⟨s1.2.1.2 h1, s2.2.1.2 h2⟩)
  · exact .inr (.inr (.inl ⟨h1, s3.1 h1 h2⟩))
  · exact .inr (.inr (.inr (.inl ⟨h1, s3.2.1 h1 h2⟩)))
  · exact .inr (.inr (.inr (.inr ⟨s1.2.2.2 h1, s2.2.2.2 h2, h3, ((s3.2.2.1 h3).2.2).2 h4⟩)))
theorem Mid.apart_next {a b c q : Pt} {m k : Int} (h : Mid a b q m k) : PlRing.apart a q b c := by
  have hmk : 0 < m + k := by have := h.pm; have := h.pk; omega
  have s1 := sg_eq hmk h.pk (h.crs1 b)
  have s2 := sg_eq hmk h.pk (h.crs1 c)
  have s3 := sg_mean h.pm h.pk (h.crs b c)
  have e1 : cross a b b = 0 := (cross_aab a b).1
  have e2 : cross b c b = 0 := (cross_aab b c).2
  have e3 : cross b c a = cross a b c := cross_turn a b c
  have s4 := s3.2.2.2 e2
  unfold PlRing.apart
  rcases Int.lt_trichotomy (cross b c a) 0 with g | g | g
  · exact .inr (.inr (.inr (.inl ⟨g, s4.2.1.2 g⟩)))
  · exact .inr (.inr (.inr (.inr ⟨s1.2.2.2 e1, s2.2.2.2 (by omega), g, s4.2.2.2 g⟩)))
  · exact .inr (.inr (.inl ⟨g, s4.1.2 g⟩))

/-- All sides but one, around a point on that one. -/
def others (P : Nat → Pt) (n i : Nat) (q : Pt) : Int := sm (fun j => chi (P j) (P (j + 1)) q) (i + 1) (n - 1)
theorem others_wl {P : Nat → Pt} {n : Nat} (h : Poly P n) (i : Nat) (q : Pt) {m k : Int} (hq : Mid (P i) (P (i + 1)) q m k) : others P n i q + kk (P i) (P (i + 1)) = wl P n 0 := by
  rw [← wl_all h i]
  obtain ⟨l, rfl⟩ : ∃ l, n = l + 3 := ⟨n - 3, by have := h.three; omega⟩
  unfold others wl tt
  rw [show l + 3 - 1 = (l + 1) + 1 from by omega, show l + 3 - 2 = l + 1 from by omega, sm_last]
  have e3 := sm_tele (fun j => chi (P j) (P (j + 1)) (P i)) (fun j => chi (P j) (P (j + 1)) q) (fun j => hs (P i) q (P j)) (i + 1) (l + 1) (by
    intro j h1 h2
    refine edge_law _ _ _ _ ?_
    by_cases hj : j = i + 1
    · subst hj; exact hq.apart_next
    · have := h.far i (j - i) (by omega) (by omega)
      rw [show i + (j - i) = j from by omega] at this
      exact hq.apart this)
  have e4 : hs (P i) q (P (i + 1)) = 0 := by
    have c := hq.crs1 (P (i + 1))
    rw [(cross_aab (P i) (P (i + 1))).1, Int.mul_zero] at c
    have hmk : 0 < m + k := by have := hq.pm; have := hq.pk; omega
    have c0 : cross (P i) q (P (i + 1)) = 0 := by
      rcases Int.mul_eq_zero.1 c with g | g
      · omega
      · exact g
    unfold hs
    rw [c0]
    (repeat' split) <;> omega
  have e5 : P (i + 1 + (l + 1) + 1) = P i := by rw [← h.per i]; congr 1; omega
  have e6 : i + 1 + (l + 1) = i + l + 2 := by omega
  have e7 : i + (l + 3) - 1 = i + l + 2 := by omega
  have e8 := jj_one (P (i + l + 2)) (P i) q
  rw [hq.ray.jj] at e8
  try simp only at e3
  rw [e5, e6, e7]
  rw [e6] at e3
  omega

/-! A level line that meets no corner, and whole points where it crosses the sides. -/
/-- The side crosses the height. -/
def cros (P : Nat → Pt) (y : Int) (i : Nat) : Prop := ((P i).y < y ∧ y < (P (i + 1)).y) ∨ ((P (i + 1)).y < y ∧ y < (P i).y)
instance (P : Nat → Pt) (y : Int) (i : Nat) : Decidable (cros P y i) := by unfold cros; infer_instance
structure Level (P : Nat → Pt) (n : Nat) (y : Int) (X : Nat → Int) : Prop where
  off : ∀ i, (P i).y ≠ y
  per : ∀ i, X (i + n) = X i
  mid : ∀ i, cros P y i → ∃ m k, Mid (P i) (P (i + 1)) ⟨X i, y⟩ m k
theorem chi_cros {P : Nat → Pt} {n : Nat} {y : Int} {X : Nat → Int} (h : Level P n y X) (i : Nat) (x : Int) :
    chi (P i) (P (i + 1)) ⟨x, y⟩ = if cros P y i ∧ x < X i then (if (P i).y < y then 1 else -1) else 0 := by
  have o1 := h.off i
  have o2 := h.off (i + 1)
  by_cases hc : cros P y i
  · obtain ⟨m, k, hq⟩ := h.mid i hc
    have e0 : cross (P i) (P (i + 1)) ⟨X i, y⟩ = 0 := by
      have c := hq.crs (P i) (P (i + 1))
      rw [(cross_aab (P i) (P (i + 1))).1, (cross_aab (P i) (P (i + 1))).2, Int.mul_zero, Int.mul_zero, Int.add_zero] at c
      have hmk : 0 < m + k := by have := hq.pm; have := hq.pk; omega
      rcases Int.mul_eq_zero.1 c with g | g
      · omega
      · exact g
    have e1 : cross (P i) (P (i + 1)) ⟨x, y⟩ = (X i - x) * ((P (i + 1)).y - (P i).y) := by
      unfold cross at e0 ⊢
      simp only at e0 ⊢
      grind
    unfold chi
    rw [e1]
    unfold cros at hc ⊢
    rcases hc with ⟨h1, h2⟩ | ⟨h1, h2⟩
    · have g := sgp (d := (P (i + 1)).y - (P i).y) (by omega) (X i - x)
      generalize (X i - x) * ((P (i + 1)).y - (P i).y) = Z at *
      simp only
      (repeat' split) <;> omega
    · have g := sgn (d := (P (i + 1)).y - (P i).y) (by omega) (X i - x)
      generalize (X i - x) * ((P (i + 1)).y - (P i).y) = Z at *
      simp only
      (repeat' split) <;> omega
  · rw [if_neg (fun hh => hc hh.1)]
    unfold cros at hc
    unfold chi
    simp only
    (repeat' split) <;> omega
end Go.Proofs.PlRing
