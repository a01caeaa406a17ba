/-
  The laws' own small functions and their fixed examples, walked.
-/
import Derived.Test.YtmklnioedeailaaGeoG
import Derived.Deep.QuietTactic
import Derived.BigQuiet
namespace Go.Proofs.Ytmklnioedeailaa
open Go.RowKit Go.Proofs.PlGeom

theorem below_drewN {B : Nat} {a w : World} (h : Below B a w) (n : Nat) : Below B a (w.drewN n) := ⟨h.os, h.tape, h.output, h.size, h.block⟩
set_option maxHeartbeats 400000 in
theorem is_any (px py : Int) (w : World) : Calls Try.prog 33 #[.agg #[.int .i64 px, .int .i64 py]] w fun e w' => e = .returned (.bool (nearB ⟨px, py⟩)) ∧ Below w.heap.size w w' := by
  obtain ⟨R, hR⟩ : ∃ R, R = nearB ⟨px, py⟩ := ⟨_, rfl⟩
  rw [← hR]
  have HR := hide hR
  clear hR
  go_enter Try.func33, Try.ntmps33
  go_wp2
  all_goals
    go_ret
    exact ⟨ret_bool (by rw [HR.out]; unfold nearB; first | exact (decide_eq_false (by simp only; omega)).symm | (rw [Bool.eq_iff_iff]; simp only [decide_eq_true_eq]; omega)), (Below.refl _ _).alloc (Nat.le_refl _) _⟩
