/-
  The plain laws of layer 4 (ring): A SIMPLE RING WINDS AROUND A POINT AT MOST ONCE. No program in sight.
-/
import Derived.Test.YtmklnioedeailaaRPlainN
namespace Go.Proofs.PlRing
open Go.Proofs.PlGeom

def sc (c : Int) (v : Pt) : Pt := ⟨c * v.x, c * v.y⟩
theorem cross_sc (c : Int) (a b d : Pt) : cross (sc c a) (sc c b) (sc c d) = c * c * cross a b d := by unfold cross sc; simp only; grind
/-- Multiplying by a positive number keeps signs. -/
theorem sg_mul {c : Int} (hc : 0 < c) (x : Int) : (0 < c * x ↔ 0 < x) ∧ (c * x < 0 ↔ x < 0) ∧ (c * x = 0 ↔ x = 0) := by
  have := sgp hc x
  rw [Int.mul_comm] at this
  omega
theorem lt_mul {c : Int} (hc : 0 < c) (x y : Int) : (c * x < c * y ↔ x < y) ∧ (c * x ≤ c * y ↔ x ≤ y) ∧ (c * x = c * y ↔ x = y) := by
  have h := sg_mul hc (x - y)
  rw [Int.mul_sub] at h
  omega
theorem sg_sc {c : Int} (hc : 0 < c) (a b d : Pt) : (0 < cross (sc c a) (sc c b) (sc c d) ↔ 0 < cross a b d) ∧ (cross (sc c a) (sc c b) (sc c d) < 0 ↔ cross a b d < 0) ∧ (cross (sc c a) (sc c b) (sc c d) = 0 ↔ cross a b d = 0) := by
  rw [cross_sc]
  exact sg_mul (Int.mul_pos hc hc) _
theorem chi_sc {c : Int} (hc : 0 < c) (a b p : Pt) : chi (sc c a) (sc c b) (sc c p) = chi a b p := by
  have h := sg_sc hc a b p
  have h1 := lt_mul hc a.y p.y
  have h2 := lt_mul hc p.y b.y
  have h3 := lt_mul hc b.y p.y
  have h4 := lt_mul hc p.y a.y
  unfold chi
  simp only [sc] at *
  (repeat' split) <;> omega
theorem kk_sc {c : Int} (hc : 0 < c) (a b : Pt) : kk (sc c a) (sc c b) = kk a b := by
  have h1 := lt_mul hc a.y b.y
  have h2 := lt_mul hc b.x a.x
  unfold kk sc
  simp only
  (repeat' split) <;> omega
theorem jj_sc {c : Int} (hc : 0 < c) (a b d : Pt) : jj (sc c a) (sc c b) (sc c d) = jj a b d := by
  have h := sg_sc hc a b d
  have h1 := lt_mul hc d.y b.y
  have h2 := lt_mul hc a.y b.y
  have h3 := lt_mul hc b.y a.y
  have h4 := lt_mul hc b.y d.y
  unfold jj
  simp only [sc] at *
  (repeat' split) <;> omega
theorem poly_sc {P : Nat → Pt} {n : Nat} (h : Poly P n) {c : Int} (hc : 0 < c) : Poly (fun i => sc c (P i)) n := by
  have ne : ∀ a b : Pt, a ≠ b → sc c a ≠ sc c b := by
    intro a b hab e
    simp only [sc, Pt.mk.injEq] at e
    have h1 := lt_mul hc a.x b.x
    have h2 := lt_mul hc a.y b.y
    have := pt_ne hab
    omega
  refine ⟨h.three, fun i => by simp only [h.per], fun i => ⟨ne _ _ (h.cor i).ab, ne _ _ (h.cor i).bc, fun e => ?_⟩, fun i k h1 h2 => ?_, fun i k h1 h2 e1 e2 => ?_⟩
  · have hs := (h.cor i).str ((sg_sc hc _ _ _).2.2.1 e)
    have a1 := lt_mul hc (P i).y (P (i + 1)).y
    have a2 := lt_mul hc (P (i + 1)).y (P i).y
    have a3 := lt_mul hc (P (i + 1)).y (P (i + 2)).y
    have a4 := lt_mul hc (P (i + 2)).y (P (i + 1)).y
    have a5 := lt_mul hc (P i).x (P (i + 1)).x
    have a6 := lt_mul hc (P (i + 1)).x (P i).x
    have a7 := lt_mul hc (P (i + 1)).x (P (i + 2)).x
    have a8 := lt_mul hc (P (i + 2)).x (P (i + 1)).x
    simp only [sc]
    omega
  · have hp := h.far i k h1 h2
    have s1 := sg_sc hc (P i) (P (i + 1)) (P (i + k))
    have s2 := sg_sc hc (P i) (P (i + 1)) (P (i + k + 1))
    have s3 := sg_sc hc (P (i + k)) (P (i + k + 1)) (P i)
    have s4 := sg_sc hc (P (i + k)) (P (i + k + 1)) (P (i + 1))
    unfold apart at *
    omega
  · have hs := h.sep i k h1 h2 ((sg_sc hc _ _ _).2.2.1 e1) ((sg_sc hc _ _ _).2.2.1 e2)
    unfold sepY at *
    simp only [sc, fun x y => (lt_mul hc x y).1, fun x y => (lt_mul hc x y).2.2]
    exact hs
theorem wl_sc {P : Nat → Pt} {n : Nat} {c : Int} (hc : 0 < c) (i : Nat) : wl (fun i => sc c (P i)) n i = wl P n i := by
  unfold wl tt
  rw [jj_sc hc, kk_sc hc, sm_congr _ (fun j => chi (P j) (P (j + 1)) (P i)) _ _ (fun k _ _ => chi_sc hc _ _ _)]

/-- A common multiple of all heights. -/
def dyp (P : Nat → Pt) : Nat → Int
  | 0 => 1
  | n + 1 => (if (P (n + 1)).y - (P n).y = 0 then 1 else (P (n + 1)).y - (P n).y) * dyp P n
theorem dyp_dvd (P : Nat → Pt) (n j : Nat) (hj : j < n) (h : (P (j + 1)).y - (P j).y ≠ 0) : ((P (j + 1)).y - (P j).y) ∣ dyp P n := by
  induction n with
  | zero => omega
  | succ n ih =>
    unfold dyp
    by_cases e : j = n
    · subst e; rw [if_neg h]; exact Int.dvd_mul_right _ _
    · exact Int.dvd_trans (ih (by omega)) (Int.dvd_mul_left _ _)
theorem dyp_ne (P : Nat → Pt) (n : Nat) : dyp P n ≠ 0 := by
  induction n with
  | zero => show (1 : Int) ≠ 0; decide
  | succ n ih =>
    unfold dyp
    intro e
    rcases Int.mul_eq_zero.1 e with g | g
    · split at g <;> omega
    · exact ih g
/-- The point is on the side, in the half-open sense of the rays. -/
def offS (a b p : Pt) : Prop := cross a b p = 0 → ¬ (a.y ≤ p.y ∧ p.y < b.y) ∧ ¬ (b.y ≤ p.y ∧ p.y < a.y)

/-- The point moved a little up, and all of it multiplied. -/
def lift (D m : Int) (p : Pt) : Pt := ⟨D * (m * p.x), D * (m * p.y + 1)⟩
theorem chi_lift {D m : Int} (hD : 0 < D) (a b p : Pt) (hm : 2 ≤ m) (h1 : b.x - a.x < m) (h2 : -m < b.x - a.x) (ho : offS a b p) : chi (sc (D * m) a) (sc (D * m) b) (lift D m p) = chi a b p := by
  have hc : cross (sc (D * m) a) (sc (D * m) b) (lift D m p) = (D * m * D) * (m * cross a b p + (b.x - a.x)) := by unfold cross sc lift; simp only; grind
  have hdm : 0 < D * m := Int.mul_pos hD (by omega)
  have s := sg_mul (Int.mul_pos hdm hD) (m * cross a b p + (b.x - a.x))
  rw [← hc] at s
  have t : (0 < cross a b p → 0 < m * cross a b p + (b.x - a.x)) ∧ (cross a b p < 0 → m * cross a b p + (b.x - a.x) < 0) := by
    constructor
    · intro g
      have := (lt_mul (c := m) (by omega) 1 (cross a b p)).2.1.2 (by omega)
      omega
    · intro g
      have := (lt_mul (c := m) (by omega) (cross a b p) (-1)).2.1.2 (by omega)
      omega
  have key : ∀ v : Pt, ((sc (D * m) v).y ≤ (lift D m p).y ↔ v.y ≤ p.y) ∧ ((lift D m p).y < (sc (D * m) v).y ↔ p.y < v.y) := by
    intro v
    have e1 : (sc (D * m) v).y = D * (m * v.y) := by unfold sc; simp only; grind
    have e2 : (lift D m p).y = D * (m * p.y + 1) := rfl
    have g1 := lt_mul hD (m * v.y) (m * p.y + 1)
    have g2 := lt_mul hD (m * p.y + 1) (m * v.y)
    rw [e1, e2]
    have g3 := lt_mul (c := m) (by omega) v.y p.y
    have g4 := lt_mul (c := m) (by omega) (p.y + 1) v.y
    have g5 : m * (p.y + 1) = m * p.y + m := by grind
    rw [g5] at g4
    have : v.y ≤ p.y ∨ p.y + 1 ≤ v.y := by omega
    omega
  obtain ⟨ka1, ka2⟩ := key a
  obtain ⟨kb1, kb2⟩ := key b
  unfold offS at ho
  unfold chi
  generalize (lift D m p).y = ly at *
  generalize cross (sc (D * m) a) (sc (D * m) b) (lift D m p) = C at *
  generalize m * cross a b p + (b.x - a.x) = C2 at *
  clear hc key
  (repeat' split) <;> omega

/-- Where the lifted ring crosses the lifted point's height. -/
def xat (P : Nat → Pt) (D m y : Int) (j : Nat) : Int := D * m * (P j).x + ((P (j + 1)).x - (P j).x) * (D / ((P (j + 1)).y - (P j).y)) * (m * (y - (P j).y) + 1)
theorem level_lift {P : Nat → Pt} {n : Nat} (h : Poly P n) (D m y : Int) (hD : 0 < D) (hm : 2 ≤ m) (hdiv : ∀ j, (P (j + 1)).y - (P j).y ≠ 0 → ((P (j + 1)).y - (P j).y) ∣ D) :
    Level (fun i => sc (D * m) (P i)) n (D * (m * y + 1)) (xat P D m y) := by
  refine ⟨fun i e => ?_, fun i => ?_, fun i hc => ?_⟩
  · simp only [sc] at e
    rw [Int.mul_assoc] at e
    have e2 := (lt_mul hD (m * (P i).y) (m * y + 1)).2.2.1 e
    have e3 : m * ((P i).y - y) = 1 := by rw [Int.mul_sub]; omega
    have g := lt_mul (c := m) (by omega) ((P i).y - y) 0
    have g' := lt_mul (c := m) (by omega) 1 ((P i).y - y)
    rw [Int.mul_zero] at g
    rw [Int.mul_one] at g'
    omega
  · unfold xat
    rw [show i + n + 1 = i + 1 + n from by omega, h.per, h.per]
  · have hdy : (P (i + 1)).y - (P i).y ≠ 0 := by
      intro e
      unfold cros at hc
      simp only [sc] at hc
      have : (P (i + 1)).y = (P i).y := by omega
      rw [this] at hc
      omega
    obtain ⟨E, hE⟩ := hdiv i hdy
    have hq : D / ((P (i + 1)).y - (P i).y) = E := by rw [hE]; exact Int.mul_ediv_cancel_left _ hdy
    unfold cros at hc
    simp only [sc] at hc
    have ex : xat P D m y i = D * m * (P i).x + ((P (i + 1)).x - (P i).x) * E * (m * (y - (P i).y) + 1) := by unfold xat; rw [hq]
    rcases hc with ⟨h1, h2⟩ | ⟨h1, h2⟩
    · refine ⟨D * m * (P (i + 1)).y - D * (m * y + 1), D * (m * y + 1) - D * m * (P i).y, by omega, by omega, ?_, ?_⟩
      · simp only [sc, ex]
        generalize (P i).x = ax at *
        generalize (P (i + 1)).x = bx at *
        generalize (P i).y = ay at *
        generalize (P (i + 1)).y = yb at *
        clear h1 h2 ex hq hdiv
        rw [hE]
        grind
      · simp only [sc]
        grind
    · refine ⟨D * (m * y + 1) - D * m * (P (i + 1)).y, D * m * (P i).y - D * (m * y + 1), by omega, by omega, ?_, ?_⟩
      · simp only [sc, ex]
        generalize (P i).x = ax at *
        generalize (P (i + 1)).x = bx at *
        generalize (P i).y = ay at *
        generalize (P (i + 1)).y = yb at *
        clear h1 h2 ex hq hdiv
        rw [hE]
        grind
      · simp only [sc]
        grind
end Go.Proofs.PlRing
