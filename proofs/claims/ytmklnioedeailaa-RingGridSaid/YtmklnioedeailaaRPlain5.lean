/-
  The plain laws of layer 4 (ring): doubled rings, the middles of sides, how two rings are related. No program in sight.
-/
import Derived.Test.YtmklnioedeailaaRPlain4
namespace Go.Proofs.PlRing
open Go.Proofs.PlGeom

def dblP (p : Pt) : Pt := ⟨2 * p.x, 2 * p.y⟩
def dblR (r : List Pt) : List Pt := r.map dblP
def midP (s : Sg) : Pt := ⟨s.a.x + s.b.x, s.a.y + s.b.y⟩
theorem locate_cases (r : List Pt) (p : Pt) : locate r p = 1 ∨ locate r p = 0 ∨ locate r p = -1 := by
  unfold locate locateL
  (repeat' split) <;> simp
def cntL (big : List Pt) (v : Int) : List (Nat × Sg) → Int
  | [] => 0
  | x :: l => (if locate big (midP x.2) = v then 1 else 0) + cntL big v l
theorem cntL_app (big : List Pt) (v : Int) (a b : List (Nat × Sg)) : cntL big v (a ++ b) = cntL big v a + cntL big v b := by
  induction a with
  | nil => simp [cntL]
  | cons x l ih => simp only [List.cons_append, cntL, ih]; omega
theorem cntL_bd (big : List Pt) (v : Int) (l : List (Nat × Sg)) : 0 ≤ cntL big v l ∧ cntL big v l ≤ l.length := by
  induction l with
  | nil => simp [cntL]
  | cons x l ih =>
    simp only [cntL, List.length_cons]
    push_cast
    split <;> omega
def cnt (r s : List Pt) (v : Int) : Int := cntL (dblR s) v (sidesL r)
/-- A kind of meeting that two related rings' sides do not have. -/
def badM (m : Int) : Bool := m == 2 || m == 3 || m == 5
def badL (x : Sg) : List (Nat × Sg) → Bool
  | [] => false
  | y :: l => badM (meets x y.2) || badL x l
theorem badL_app (x : Sg) (a b : List (Nat × Sg)) : badL x (a ++ b) = (badL x a || badL x b) := by
  induction a with
  | nil => simp [badL]
  | cons y l ih => simp only [List.cons_append, badL, ih, Bool.or_assoc]
def badLL (s : List (Nat × Sg)) : List (Nat × Sg) → Bool
  | [] => false
  | x :: l => badL x.2 s || badLL s l
theorem badLL_app (s a b : List (Nat × Sg)) : badLL s (a ++ b) = (badLL s a || badLL s b) := by
  induction a with
  | nil => simp [badLL]
  | cons y l ih => simp only [List.cons_append, badLL, ih, Bool.or_assoc]
theorem badL_prefix (x : Sg) (a b : List (Nat × Sg)) (h : a <+: b) (ha : badL x a = true) : badL x b = true := by
  obtain ⟨t, rfl⟩ := h
  rw [badL_app, ha]; rfl
theorem badLL_prefix (s a b : List (Nat × Sg)) (h : a <+: b) (ha : badLL s a = true) : badLL s b = true := by
  obtain ⟨t, rfl⟩ := h
  rw [badLL_app, ha]; rfl
/-- What the counts of inside and outside of both rings' sides say. -/
def relC (a c d e : Int) : Int := if (0 < a ∧ 0 < c) ∨ (0 < d ∧ 0 < e) then 0 else if 0 < a then 2 else if 0 < d then 3 else if 0 < c then 1 else 4
def relation (r s : List Pt) : Int := if simple r && simple s && !badLL (sidesL s) (sidesL r) then relC (cnt r s 1) (cnt r s (-1)) (cnt s r 1) (cnt s r (-1)) else 0
def sideR (r : List Pt) (p : Pt) : Int := if simple r && nearB p then locate r p else -1
theorem simple_reg (r : List Pt) (h : simple r = true) : regB r = true := by
  unfold simple at h
  simp only [Bool.and_eq_true] at h
  exact h.1
theorem dbl_fine (r : List Pt) (h : regB r = true) : Fine (dblR r) := by
  obtain ⟨_, h2, h3⟩ := (regB_iff r).1 h
  refine ⟨by simp [dblR]; omega, fun p hp => ?_⟩
  obtain ⟨q, hq, rfl⟩ := List.mem_map.1 hp
  have := nearL_mem r h3 q hq
  rw [nearB_iff] at this
  exact ⟨by simp only [dblP]; omega, by simp only [dblP]; omega, by simp only [dblP]; omega, by simp only [dblP]; omega⟩
end Go.Proofs.PlRing
