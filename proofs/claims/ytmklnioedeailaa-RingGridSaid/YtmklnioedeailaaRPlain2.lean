/-
  The plain laws of layer 4 (ring): regular rings and twice the area. No program in sight.
-/
import Derived.Test.YtmklnioedeailaaRPlain
namespace Go.Proofs.PlRing
open Go.Proofs.PlGeom

/-! Twice the area. -/
def regB (r : List Pt) : Bool := decide (3 ≤ r.length) && decide (r.length ≤ 2000) && nearL r
def term (x : Nat × Sg) : Int := (x.2.a.x + x.2.b.x) * (x.2.b.y - x.2.a.y)
def sumT : List (Nat × Sg) → Int
  | [] => 0
  | x :: l => term x + sumT l
theorem sumT_app (a b : List (Nat × Sg)) : sumT (a ++ b) = sumT a + sumT b := by
  induction a with
  | nil => simp [sumT]
  | cons x l ih => simp only [List.cons_append, sumT, ih]; omega
def twice (r : List Pt) : Int := if regB r then sumT (sidesL r) else 0
theorem term_bd (x : Sd) : -70368744177664 ≤ term x.v ∧ term x.v ≤ 70368744177664 := by
  obtain ⟨a1, a2, a3, a4⟩ := x.ha
  obtain ⟨b1, b2, b3, b4⟩ := x.hb
  exact prod_bd 8388608 (x.s.a.x + x.s.b.x) (x.s.b.y - x.s.a.y) (by omega) (by omega) (by omega) (by omega)
theorem sumT_bd (l : List Sd) : -((l.length : Int) * 70368744177664) ≤ sumT (l.map Sd.v) ∧ sumT (l.map Sd.v) ≤ (l.length : Int) * 70368744177664 := by
  induction l with
  | nil => simp [sumT]
  | cons x l ih =>
    have := term_bd x
    simp only [List.map_cons, sumT, List.length_cons]
    push_cast
    omega
theorem regB_iff (r : List Pt) : regB r = true ↔ (3 ≤ r.length ∧ r.length ≤ 2000 ∧ nearL r = true) := by
  unfold regB; simp only [Bool.and_eq_true, decide_eq_true_eq, and_assoc]
theorem nearL_mem (r : List Pt) (h : nearL r = true) : ∀ p ∈ r, nearB p = true := by
  induction r with
  | nil => intro p hp; cases hp
  | cons q r ih =>
    simp only [nearL, Bool.and_eq_true] at h
    intro p hp
    rcases List.mem_cons.1 hp with e | e
    · rw [e]; exact h.1
    · exact ih h.2 p e
theorem regB_fine (r : List Pt) (h : regB r = true) : Fine r ∧ 3 ≤ r.length := by
  obtain ⟨h1, h2, h3⟩ := (regB_iff r).1 h
  exact ⟨⟨h2, fun p hp => fine_near p (nearL_mem r h3 p hp)⟩, h1⟩
end Go.Proofs.PlRing
