/-
  GeomRoots, walked: it returns true.
-/
import Derived.Test.YtepfhifogkopcaaGeoI
namespace Go.Proofs.Ytepfhifogkopcaa
open Go.RowKit Go.Proofs.PlGeom

theorem root_int (x r : Int) (h0 : 0 ≤ x) (h1 : x < 9223372036854775808) (hr : (isq x.toNat : Int) = r) (w : World) : Calls Try.prog 23 #[.int .i64 x] w fun e w' => e = .returned (.int .i64 r) ∧ w = w' := by
  have := root_any x.toNat (by omega) w
  rw [hr, show ((x.toNat : Nat) : Int) = x by omega] at this
  exact this

theorem roots_plain (a b : Nat) (ha : a ≤ 1073741824) : isq (a * a) = a ∧ isq (a * a + b % (2 * a + 1)) = a ∧ a * a ≤ 1152921504606846976 ∧ b % (2 * a + 1) ≤ 2 * a := by
  have h1 : a * a ≤ 1152921504606846976 := Nat.le_trans (Nat.mul_le_mul ha ha) (by decide)
  have h2 : b % (2 * a + 1) ≤ 2 * a := Nat.le_of_lt_succ (Nat.mod_lt _ (by omega))
  have e : (a + 1) * (a + 1) = a * a + 2 * a + 1 := by grind
  refine ⟨isq_unique _ a (by omega) (Nat.le_refl _) (by omega), isq_unique _ a (by omega) (by omega) (by omega), h1, h2⟩

set_option maxRecDepth 100000 in
set_option maxHeartbeats 4000000 in
theorem roots_walk (a b : Int) (_ : (Lit.int .i64 a).wf = true) (_ : (Lit.int .i64 b).wf = true) (w : World) : Calls Try.prog 9 #[.int .i64 a, .int .i64 b] w fun e w' => e = .returned (.bool true) ∧ Below w.heap.size w w' := by
  by_cases h1 : a < 0
  · have HR := hide (root_neg a h1)
    go_enter Try.func9, Try.ntmps9
    go_wp2_with fail
    refine (head_any _).mono ?_
    rintro _ w1 ⟨rfl, b1⟩
    go_wp2_with fail
    refine (HR.out _).mono ?_
    rintro _ _ ⟨rfl, rfl⟩
    go_wp2_with fail
    go_ret
    exact ⟨rfl, b1⟩
  · by_cases h2 : b < 0
    · go_enter Try.func9, Try.ntmps9
      go_wp2_with fail
      refine (head_any _).mono ?_
      rintro _ w1 ⟨rfl, b1⟩
      go_wp2_with fail
      go_ret
      exact ⟨rfl, b1⟩
    · by_cases h3 : a ≤ 1073741824
      · by_cases h4 : b ≤ 1073741824
        · obtain ⟨A, rfl⟩ : ∃ A : Nat, a = A := ⟨a.toNat, by omega⟩
          obtain ⟨B, rfl⟩ : ∃ B : Nat, b = B := ⟨b.toNat, by omega⟩
          obtain ⟨p1, p2, p3, p4⟩ := roots_plain A B (by omega)
          have q1 : (A : Int) * A = ((A * A : Nat) : Int) := by push_cast; rfl
          have q2 : (B : Int) % (2 * A + 1) = ((B % (2 * A + 1) : Nat) : Int) := by push_cast; rfl
          have hs0 : 0 ≤ (A : Int) * A := by rw [q1]; omega
          have hs1 : (A : Int) * A ≤ 1152921504606846976 := by rw [q1]; omega
          have hs2 : 0 ≤ (B : Int) % (2 * A + 1) := by rw [q2]; omega
          have hs3 : (B : Int) % (2 * A + 1) ≤ 2 * A := by rw [q2]; omega
          have R1 := hide (root_int ((A : Int) * A) A hs0 (by omega) (by rw [q1, Int.toNat_natCast, p1]))
          have R2 := hide (root_int ((A : Int) * A + (B : Int) % (2 * A + 1)) A (by omega) (by omega) (by rw [q1, q2, ← Int.natCast_add, Int.toNat_natCast, p2]))
          have R3 := hide (root_int A (isq A) (by omega) (by omega) rfl)
          have R4 := hide (root_int B (isq B) (by omega) (by omega) rfl)
          have hmo : A ≤ B → isq A ≤ isq B := fun h => isq_mono A B (by omega) h
          generalize isq A = ra at R3 hmo
          generalize isq B = rb at R4 hmo
          clear p1 p2 p3 p4 q1 q2
          by_cases h5 : A ≤ B
          · have h6 : (ra : Int) ≤ rb := by have := hmo h5; omega
            clear hmo
            have hr7 : ra ≤ rb := by omega
            go_enter Try.func9, Try.ntmps9
            go_wp2_with fail
            refine (head_any _).mono ?_
            rintro _ w1 ⟨rfl, b1⟩
            go_wp2_with fail
            refine (R1.out _).mono ?_
            rintro _ _ ⟨rfl, rfl⟩
            go_wp2_with fail
            refine (R2.out _).mono ?_
            rintro _ _ ⟨rfl, rfl⟩
            go_wp2_with fail
            refine (R3.out _).mono ?_
            rintro _ _ ⟨rfl, rfl⟩
            go_wp2_with fail
            refine (R4.out _).mono ?_
            rintro _ _ ⟨rfl, rfl⟩
            go_wp2_with fail
            go_ret
            exact ⟨rfl, b1⟩
          · clear hmo
            go_enter Try.func9, Try.ntmps9
            go_wp2_with fail
            refine (head_any _).mono ?_
            rintro _ w1 ⟨rfl, b1⟩
            go_wp2_with fail
            refine (R1.out _).mono ?_
            rintro _ _ ⟨rfl, rfl⟩
            go_wp2_with fail
            refine (R2.out _).mono ?_
            rintro _ _ ⟨rfl, rfl⟩
            go_wp2_with fail
            go_ret
            exact ⟨rfl, b1⟩
        · go_enter Try.func9, Try.ntmps9
          go_wp2_with fail
          refine (head_any _).mono ?_
          rintro _ w1 ⟨rfl, b1⟩
          go_wp2_with fail
          go_ret
          exact ⟨rfl, b1⟩
      · go_enter Try.func9, Try.ntmps9
        go_wp2_with fail
        refine (head_any _).mono ?_
        rintro _ w1 ⟨rfl, b1⟩
        go_wp2_with fail
        go_ret
        exact ⟨rfl, b1⟩
