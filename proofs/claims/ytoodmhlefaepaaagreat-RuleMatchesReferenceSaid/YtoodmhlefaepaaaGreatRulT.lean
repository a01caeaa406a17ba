/-
  The law of texts, walked.
-/
import Derived.Test.YtoodmhlefaepaaaGreatRulQ
import Derived.Test.YtoodmhlefaepaaaGreatPlainF
namespace Go.Proofs.YtoodmhlefaepaaaGreat
open Go.RowKit Go.Proofs.PlLex Go.Proofs.PlRule

theorem rlz_of {x : Rl} (h : validR x = true) : RlZ x := by
  have h := vdR h
  have m : (1000000 : Nat) ≤ maxLen := by unfold maxLen; omega
  exact ⟨by have := h.area; omega, by have := h.ik; omega, by have := h.iv; omega, by have := h.key; omega, fun s hs => by have := h.vals s hs; omega, by have := h.many; omega⟩
theorem validL_all {l : List Rl} (h : validL l = true) : l.length ≤ 200 ∧ ∀ x ∈ l, validR x = true := by
  unfold validL at h
  rw [Bool.and_eq_true, decide_eq_true_eq, List.all_eq_true] at h
  exact h
/-- An argument's rules: their strings are ones that memory bears. -/
structure RlM (x : Rl) : Prop where
  area : x.area.size ≤ maxLen
  ik : x.ik.size ≤ maxLen
  iv : x.iv.size ≤ maxLen
  key : x.key.size ≤ maxLen
  many : x.vals.length ≤ maxLen
theorem few_z {n : Int} {l : List Rl} (h : fewL n l = true) (hm : ∀ x ∈ l, RlM x) : (l.length : Int) ≤ n ∧ ∀ x ∈ l, RlZ x := by
  unfold fewL at h
  rw [Bool.and_eq_true, decide_eq_true_eq, List.all_eq_true] at h
  refine ⟨h.2, fun x hx => ?_⟩
  have h1 := h.1 x hx
  have h2 := hm x hx
  unfold fewR fewV at h1
  rw [Bool.and_eq_true, Bool.and_eq_true, decide_eq_true_eq, decide_eq_true_eq, List.all_eq_true] at h1
  exact ⟨h2.area, h2.ik, h2.iv, h2.key, fun s hs => by have := h1.2.2 s hs; rw [decide_eq_true_eq] at this; omega, by have := h1.2.1; omega⟩
theorem parse_num (l : L) : (parseL l).2.1 = 0 ∨ (¬ ((parseL l).2.1 : Int) = 0 ∧ (((parseL l).2.1 : Int) == 0) = false ∧ (parseL l).1 = []) := by
  by_cases h : (parseL l).2.1 = 0
  · exact .inl h
  · have h2 : ¬ ((parseL l).2.1 : Int) = 0 := by omega
    exact .inr ⟨h2, beq_eq_false_iff_ne.2 h2, parse_none h⟩
end Go.Proofs.YtoodmhlefaepaaaGreat
