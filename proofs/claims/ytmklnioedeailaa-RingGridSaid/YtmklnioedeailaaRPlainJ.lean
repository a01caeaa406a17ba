/-
  The plain laws of layer 4 (ring): how often a ring winds around a point, edge by edge. No program in sight.
-/
import Derived.Test.YtmklnioedeailaaRPlain3
namespace Go.Proofs.PlRing
open Go.Proofs.PlGeom

/-- What the edge from a to b adds to the winding number around p. -/
def chi (a b p : Pt) : Int := if a.y ≤ p.y ∧ p.y < b.y ∧ 0 < cross a b p then 1 else if b.y ≤ p.y ∧ p.y < a.y ∧ cross a b p < 0 then -1 else 0
/-- Is v between the rays to the right from p and from q, and beyond the segment between them? -/
def hs (p q v : Pt) : Int := if p.y < v.y ∧ v.y ≤ q.y ∧ cross p q v < 0 then 1 else if q.y < v.y ∧ v.y ≤ p.y ∧ 0 < cross p q v then -1 else 0
/-- The segments from p to q and from a to b do not cross (or all four points are on one line). -/
def apart (p q a b : Pt) : Prop := (0 < cross p q a ∧ 0 < cross p q b) ∨ (cross p q a < 0 ∧ cross p q b < 0) ∨ (0 < cross a b p ∧ 0 < cross a b q) ∨ (cross a b p < 0 ∧ cross a b q < 0) ∨ (cross p q a = 0 ∧ cross p q b = 0 ∧ cross a b p = 0 ∧ cross a b q = 0)

theorem sgp {d : Int} (hd : 0 < d) (x : Int) : (0 < x ∧ 0 < x * d) ∨ (x < 0 ∧ x * d < 0) ∨ (x = 0 ∧ x * d = 0) := by
  rcases Int.lt_trichotomy x 0 with h | h | h
  · exact .inr (.inl ⟨h, Int.mul_neg_of_neg_of_pos h hd⟩)
  · exact .inr (.inr ⟨h, by rw [h, Int.zero_mul]⟩)
  · exact .inl ⟨h, Int.mul_pos h hd⟩
theorem sgn {d : Int} (hd : d < 0) (x : Int) : (0 < x ∧ x * d < 0) ∨ (x < 0 ∧ 0 < x * d) ∨ (x = 0 ∧ x * d = 0) := by
  have := sgp (d := -d) (by omega) x
  rw [Int.mul_neg] at this
  omega
theorem sgp' {d : Int} (hd : 0 ≤ d) (x : Int) : (0 < x ∧ 0 ≤ x * d) ∨ (x < 0 ∧ x * d ≤ 0) ∨ (x = 0 ∧ x * d = 0) := by
  rcases Int.lt_or_eq_of_le hd with h | h
  · have := sgp h x; omega
  · rw [← h, Int.mul_zero]; omega
theorem sgn' {d : Int} (hd : d ≤ 0) (x : Int) : (0 < x ∧ x * d ≤ 0) ∨ (x < 0 ∧ 0 ≤ x * d) ∨ (x = 0 ∧ x * d = 0) := by
  have := sgp' (d := -d) (by omega) x
  rw [Int.mul_neg] at this
  omega

theorem chi_swap (a b p : Pt) : chi b a p = -chi a b p := by
  have h : cross b a p = -cross a b p := by unfold cross; grind
  unfold chi
  rw [h]
  (repeat' split) <;> omega
theorem hs_swap (p q v : Pt) : hs q p v = -hs p q v := by
  have h : cross q p v = -cross p q v := by unfold cross; grind
  unfold hs
  rw [h]
  (repeat' split) <;> omega
theorem apart_swap {p q a b : Pt} (h : apart p q a b) : apart q p a b := by
  have h1 : cross q p a = -cross p q a := by unfold cross; grind
  have h2 : cross q p b = -cross p q b := by unfold cross; grind
  unfold apart at *
  rw [h1, h2]
  omega
theorem apart_swap2 {p q a b : Pt} (h : apart p q a b) : apart p q b a := by
  have h1 : cross b a p = -cross a b p := by unfold cross; grind
  have h2 : cross b a q = -cross a b q := by unfold cross; grind
  unfold apart at *
  rw [h1, h2]
  omega
theorem apart_symm {p q a b : Pt} (h : apart p q a b) : apart a b p q := by
  unfold apart at *
  omega

theorem edge_core (p q a b : Pt) (hab : a.y ≤ b.y) (hpq : p.y ≤ q.y) (h : apart p q a b) : chi a b p - chi a b q = hs p q b - hs p q a := by
  have e1 : cross p q a * (b.y - p.y) + cross p q b * (p.y - a.y) = -(cross a b p * (q.y - p.y)) := by unfold cross; grind
  have e2 : cross p q a * (b.y - q.y) + cross p q b * (q.y - a.y) = -(cross a b q * (q.y - p.y)) := by unfold cross; grind
  have e3 : cross a b p * (q.y - a.y) + cross a b q * (a.y - p.y) = -(cross p q a * (b.y - a.y)) := by unfold cross; grind
  have e4 : cross a b p * (q.y - b.y) + cross a b q * (b.y - p.y) = -(cross p q b * (b.y - a.y)) := by unfold cross; grind
  unfold apart at h
  unfold chi hs
  generalize cross a b p = al at *
  generalize cross a b q = be at *
  generalize cross p q a = ga at *
  generalize cross p q b = de at *
  generalize a.y = ay at *
  generalize b.y = yb at *
  generalize p.y = py at *
  generalize q.y = qy at *
  by_cases c1 : ay ≤ py
  · by_cases c2 : yb ≤ py
    · (repeat' split) <;> omega
    · by_cases c3 : yb ≤ qy
      · -- low, mid
        have m : (0 < al ↔ de < 0) := by
          have g1 := sgp (d := yb - py) (by omega) ga
          have g2 := sgp' (d := py - ay) (by omega) de
          have g3 := sgp (d := qy - py) (by omega) al
          have g4 := sgn' (d := yb - qy) (by omega) ga
          have g5 := sgp (d := qy - ay) (by omega) de
          have g6 := sgp (d := qy - py) (by omega) be
          clear e3 e4
          generalize ga * (yb - py) = P1 at *
          generalize de * (py - ay) = P2 at *
          generalize al * (qy - py) = P3 at *
          generalize ga * (yb - qy) = P4 at *
          generalize de * (qy - ay) = P5 at *
          generalize be * (qy - py) = P6 at *
          clear c1 c2 c3 hab hpq
          rcases g1 with g1 | g1 | g1 <;> rcases g3 with g3 | g3 | g3 <;> rcases g2 with g2 | g2 | g2 <;> omega
        (repeat' split) <;> omega
      · -- low, high
        have m : (0 < al ↔ 0 < be) := by
          have g1 := sgp' (d := qy - ay) (by omega) al
          have g2 := sgn' (d := ay - py) (by omega) be
          have g3 := sgp (d := yb - ay) (by omega) ga
          have g4 := sgn (d := qy - yb) (by omega) al
          have g5 := sgp (d := yb - py) (by omega) be
          have g6 := sgp (d := yb - ay) (by omega) de
          clear e1 e2
          generalize al * (qy - ay) = P1 at *
          generalize be * (ay - py) = P2 at *
          generalize ga * (yb - ay) = P3 at *
          generalize al * (qy - yb) = P4 at *
          generalize be * (yb - py) = P5 at *
          generalize de * (yb - ay) = P6 at *
          clear c1 c2 c3 hab hpq
          rcases g1 with g1 | g1 | g1 <;> rcases g3 with g3 | g3 | g3 <;> rcases g2 with g2 | g2 | g2 <;> omega
        (repeat' split) <;> omega
  · by_cases c2 : qy < ay
    · (repeat' split) <;> omega
    · by_cases c3 : yb ≤ qy
      · -- mid, mid
        have m : (de < 0 ↔ ga < 0) := by
          have g1 := sgp (d := yb - py) (by omega) ga
          have g2 := sgn (d := py - ay) (by omega) de
          have g3 := sgp (d := qy - py) (by omega) al
          have g4 := sgn' (d := yb - qy) (by omega) ga
          have g5 := sgp' (d := qy - ay) (by omega) de
          have g6 := sgp (d := qy - py) (by omega) be
          clear e3 e4
          generalize ga * (yb - py) = P1 at *
          generalize de * (py - ay) = P2 at *
          generalize al * (qy - py) = P3 at *
          generalize ga * (yb - qy) = P4 at *
          generalize de * (qy - ay) = P5 at *
          generalize be * (qy - py) = P6 at *
          clear c1 c2 c3 hab hpq
          rcases g1 with g1 | g1 | g1 <;> rcases g3 with g3 | g3 | g3 <;> rcases g2 with g2 | g2 | g2 <;> omega
        (repeat' split) <;> omega
      · -- mid, high
        have m : (0 < be ↔ ga < 0) := by
          have g1 := sgp' (d := qy - ay) (by omega) al
          have g2 := sgp (d := ay - py) (by omega) be
          have g3 := sgp (d := yb - ay) (by omega) ga
          have g4 := sgn (d := qy - yb) (by omega) al
          have g5 := sgp (d := yb - py) (by omega) be
          have g6 := sgp (d := yb - ay) (by omega) de
          clear e1 e2
          generalize al * (qy - ay) = P1 at *
          generalize be * (ay - py) = P2 at *
          generalize ga * (yb - ay) = P3 at *
          generalize al * (qy - yb) = P4 at *
          generalize be * (yb - py) = P5 at *
          generalize de * (yb - ay) = P6 at *
          clear c1 c2 c3 hab hpq
          rcases g1 with g1 | g1 | g1 <;> rcases g3 with g3 | g3 | g3 <;> rcases g2 with g2 | g2 | g2 <;> omega
        (repeat' split) <;> omega
/-- AN EDGE THAT DOES NOT CROSS A SEGMENT adds as much around one end of it as around the other one, but for what its own ends say. -/
theorem edge_law (p q a b : Pt) (h : apart p q a b) : chi a b p - chi a b q = hs p q b - hs p q a := by
  by_cases h1 : a.y ≤ b.y
  · by_cases h2 : p.y ≤ q.y
    · exact edge_core p q a b h1 h2 h
    · have := edge_core q p a b h1 (by omega) (apart_swap h)
      rw [hs_swap p q, hs_swap p q] at this
      omega
  · by_cases h2 : p.y ≤ q.y
    · have := edge_core p q b a (by omega) h2 (apart_swap2 h)
      rw [chi_swap a b, chi_swap a b] at this
      omega
    · have := edge_core q p b a (by omega) (by omega) (apart_swap (apart_swap2 h))
      rw [hs_swap p q, hs_swap p q, chi_swap a b, chi_swap a b] at this
      omega
end Go.Proofs.PlRing
