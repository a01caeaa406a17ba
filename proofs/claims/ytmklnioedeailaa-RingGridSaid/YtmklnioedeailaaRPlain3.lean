/-
  The plain laws of layer 4 (ring): on which side of a ring a point is. No program in sight.
-/
import Derived.Test.YtmklnioedeailaaRPlain2
namespace Go.Proofs.PlRing
open Go.Proofs.PlGeom

def wideP (p : Pt) : Prop := -8388608 ≤ p.x ∧ p.x ≤ 8388608 ∧ -8388608 ≤ p.y ∧ p.y ≤ 8388608
theorem fineP.wide {p : Pt} (h : fineP p) : wideP p := by obtain ⟨a, b, c, d⟩ := h; exact ⟨by omega, by omega, by omega, by omega⟩
def turnP (a b c : Pt) : Int := (b.x - a.x) * (c.y - b.y) - (b.y - a.y) * (c.x - b.x)
def btwB (a n b : Int) : Bool := decide (a ≤ n ∨ b ≤ n) && decide (n ≤ a ∨ n ≤ b)
/-- The point is on this side. -/
def hitB (s : Sg) (p : Pt) : Bool := turnP s.a s.b p == 0 && btwB s.a.x p.x s.b.x && btwB s.a.y p.y s.b.y
def upB (s : Sg) (p : Pt) : Bool := decide (s.a.y ≤ p.y) && decide (p.y < s.b.y) && decide (0 < turnP s.a s.b p)
def downB (s : Sg) (p : Pt) : Bool := decide (p.y < s.a.y) && decide (s.b.y ≤ p.y) && decide (turnP s.a s.b p < 0)
def windS (s : Sg) (p : Pt) : Int := if upB s p then 1 else if downB s p then -1 else 0
def windL (p : Pt) : List (Nat × Sg) → Int
  | [] => 0
  | x :: l => windS x.2 p + windL p l
def hitL (p : Pt) : List (Nat × Sg) → Bool
  | [] => false
  | x :: l => hitB x.2 p || hitL p l
theorem windL_app (p : Pt) (a b : List (Nat × Sg)) : windL p (a ++ b) = windL p a + windL p b := by
  induction a with
  | nil => simp [windL]
  | cons x l ih => simp only [List.cons_append, windL, ih]; omega
theorem hitL_app (p : Pt) (a b : List (Nat × Sg)) : hitL p (a ++ b) = (hitL p a || hitL p b) := by
  induction a with
  | nil => simp [hitL]
  | cons x l ih => simp only [List.cons_append, hitL, ih, Bool.or_assoc]
theorem windL_bd (p : Pt) (l : List (Nat × Sg)) : -(l.length : Int) ≤ windL p l ∧ windL p l ≤ l.length := by
  induction l with
  | nil => simp [windL]
  | cons x l ih =>
    have : -1 ≤ windS x.2 p ∧ windS x.2 p ≤ 1 := by unfold windS; (repeat' split) <;> omega
    simp only [windL, List.length_cons]
    push_cast
    omega
def locateL (p : Pt) (l : List (Nat × Sg)) : Int := if hitL p l then 0 else if windL p l = 0 then -1 else 1
def locate (r : List Pt) (p : Pt) : Int := locateL p (sidesL r)
theorem hitL_prefix (p : Pt) (a b : List (Nat × Sg)) (h : a <+: b) (ha : hitL p a = true) : hitL p b = true := by
  obtain ⟨t, rfl⟩ := h
  rw [hitL_app, ha]; rfl
end Go.Proofs.PlRing
