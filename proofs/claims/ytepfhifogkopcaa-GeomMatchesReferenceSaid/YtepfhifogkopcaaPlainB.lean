/-
  How many bits a number has. No program in sight.
-/
import Derived.Lib.BitFns
namespace Go.Proofs.PlGeom
open Go

theorem bitLen_spec (x : Nat) : x ≠ 0 → x < 2 ^ 64 → 1 ≤ Lib.bitLen x ∧ 2 ^ (Lib.bitLen x - 1) ≤ x ∧ x < 2 ^ Lib.bitLen x := by
  induction x using Nat.strongRecOn with
  | _ x ih =>
    intro h0 h1
    have hb := Lib.bitLen_half x h0 h1
    by_cases hx : x = 1
    · subst hx
      have : Lib.bitLen 1 = 1 := by decide
      rw [this]; simp
    · obtain ⟨a, b, c⟩ := ih (x / 2) (by omega) (by omega) (by omega)
      rw [hb]
      refine ⟨by omega, ?_, ?_⟩
      · rw [show 1 + Lib.bitLen (x / 2) - 1 = (Lib.bitLen (x / 2) - 1) + 1 by omega, Nat.pow_succ]
        omega
      · rw [Nat.add_comm, Nat.pow_succ]
        omega
end Go.Proofs.PlGeom
