/-
  The plain laws of layer 4 (ring): which rings are simple. No program in sight.
-/
import Derived.Test.YtmklnioedeailaaRPlain3
namespace Go.Proofs.PlRing
open Go.Proofs.PlGeom

/-- Are the sides of these two indices neighbours in a ring of n corners? -/
def nbr (n i k : Nat) : Bool := decide ((i : Int) - k = 1) || decide ((i : Int) - k = (n : Int) - 1)
/-- A pair of sides (the first with the greater index) meets as a simple ring's sides do. -/
def pairB (n : Nat) (x y : Nat × Sg) : Bool := if nbr n x.1 y.1 then decide (meets x.2 y.2 = 1) else decide (meets x.2 y.2 = 0)
/-- All sides of a list that come before index i go with a side. -/
def rowB (n : Nat) (x : Nat × Sg) : List (Nat × Sg) → Bool
  | [] => true
  | y :: l => (decide (x.1 ≤ y.1) || pairB n x y) && rowB n x l
theorem rowB_app (n : Nat) (x : Nat × Sg) (a b : List (Nat × Sg)) : rowB n x (a ++ b) = (rowB n x a && rowB n x b) := by
  induction a with
  | nil => simp [rowB]
  | cons y l ih => simp only [List.cons_append, rowB, ih, Bool.and_assoc]
def allB (n : Nat) (s : List (Nat × Sg)) : List (Nat × Sg) → Bool
  | [] => true
  | x :: l => rowB n x s && allB n s l
theorem allB_app (n : Nat) (s a b : List (Nat × Sg)) : allB n s (a ++ b) = (allB n s a && allB n s b) := by
  induction a with
  | nil => simp [allB]
  | cons y l ih => simp only [List.cons_append, allB, ih, Bool.and_assoc]
def simple (r : List Pt) : Bool := regB r && allB r.length (sidesL r) (sidesL r)
/-- Behind a side of its own index a row has nothing that counts. -/
theorem rowB_behind (n : Nat) (r : List Pt) (x : Nat × Sg) (k : Nat) (hk : k ≤ r.length) (hx : x.1 ≤ k) (h : rowB n x (upto r k) = true) : rowB n x (sidesL r) = true := by
  have key : ∀ m, k ≤ m → m ≤ r.length → rowB n x (upto r m) = true := by
    intro m hm hr
    induction m with
    | zero => obtain rfl : k = 0 := by omega
              exact h
    | succ m ih =>
      by_cases e : k = m + 1
      · rw [← e]; exact h
      · rw [upto_succ, rowB_app, ih (by omega) (by omega)]
        have : decide (x.1 ≤ m) = true := decide_eq_true (by omega)
        simp [rowB, this]
  exact key r.length hk (Nat.le_refl _)
theorem upto_of_pre (r : List Pt) (l : List (Nat × Sg)) (h : l <+: sidesL r) : l = upto r l.length ∧ l.length ≤ r.length := by
  have hl : l.length ≤ r.length := by
    have := h.length_le
    have e : (sidesL r).length = r.length := by simp [sidesL]
    omega
  refine ⟨?_, hl⟩
  have h1 := List.prefix_iff_eq_take.1 h
  have h2 := List.prefix_iff_eq_take.1 (upto_pre r l.length hl)
  rw [upto_len] at h2
  rw [h2]
  exact h1
theorem upto_mem (r : List Pt) (k : Nat) (y : Nat × Sg) (h : y ∈ upto r k) : y.1 < k := by
  unfold upto at h
  obtain ⟨i, hi, rfl⟩ := List.mem_map.1 h
  exact List.mem_range.1 hi
theorem rowB_prefix (n : Nat) (x : Nat × Sg) (a b : List (Nat × Sg)) (h : a <+: b) (ha : rowB n x a = false) : rowB n x b = false := by
  obtain ⟨t, rfl⟩ := h
  rw [rowB_app, ha]; rfl
theorem allB_prefix (n : Nat) (s a b : List (Nat × Sg)) (h : a <+: b) (ha : allB n s a = false) : allB n s b = false := by
  obtain ⟨t, rfl⟩ := h
  rw [allB_app, ha]; rfl
end Go.Proofs.PlRing
