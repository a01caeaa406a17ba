/-
  The plain laws of roots. No program in sight.
-/
namespace Go.Proofs.PlGeom

/-- The root, two bits of the number a step: root and rest behind k steps. -/
def rt (n : Nat) : Nat → Nat × Nat
  | 0 => (0, 0)
  | k + 1 =>
    if (rt n k).1 * 4 + 1 ≤ (rt n k).2 * 4 + n / 2 ^ (62 - 2 * k) % 4 then ((rt n k).1 * 2 + 1, (rt n k).2 * 4 + n / 2 ^ (62 - 2 * k) % 4 - ((rt n k).1 * 4 + 1))
    else ((rt n k).1 * 2, (rt n k).2 * 4 + n / 2 ^ (62 - 2 * k) % 4)

theorem rt_inv (n : Nat) (hn : n < 2 ^ 64) : ∀ k, k ≤ 32 → (rt n k).1 * (rt n k).1 + (rt n k).2 = n / 2 ^ (64 - 2 * k) ∧ (rt n k).2 ≤ 2 * (rt n k).1 := by
  intro k
  induction k with
  | zero => intro _; simp [rt]; omega
  | succ k ih =>
    intro hk
    obtain ⟨h1, h2⟩ := ih (by omega)
    have e : 64 - 2 * (k + 1) = 62 - 2 * k := by omega
    have e2 : n / 2 ^ (64 - 2 * k) = n / 2 ^ (62 - 2 * k) / 4 := by
      rw [Nat.div_div_eq_div_mul, show (4 : Nat) = 2 ^ 2 from rfl, ← Nat.pow_add]; congr 2; omega
    rw [e2] at h1
    rw [e]
    simp only [rt]
    generalize n / 2 ^ (62 - 2 * k) = N at *
    generalize (rt n k).1 = a at *
    generalize (rt n k).2 = b at *
    split
    · rename_i h
      refine ⟨?_, ?_⟩
      · show (a * 2 + 1) * (a * 2 + 1) + _ = N
        have : (a * 2 + 1) * (a * 2 + 1) = 4 * (a * a) + 4 * a + 1 := by grind
        omega
      · show _ ≤ 2 * (a * 2 + 1)
        simp only
        omega
    · rename_i h
      refine ⟨?_, ?_⟩
      · show (a * 2) * (a * 2) + _ = N
        have : (a * 2) * (a * 2) = 4 * (a * a) := by grind
        simp only
        omega
      · show b * 4 + N % 4 ≤ 2 * (a * 2)
        omega

theorem sq_lt (a : Nat) (h : a * a < 2 ^ 64) : a < 4294967296 := by
  rcases Nat.lt_or_ge a 4294967296 with h1 | h1
  · exact h1
  · have := Nat.mul_le_mul h1 h1
    omega

theorem rt_bd (n : Nat) (hn : n < 2 ^ 64) (k : Nat) (hk : k ≤ 32) : (rt n k).1 < 4294967296 ∧ (rt n k).2 ≤ 2 * (rt n k).1 := by
  obtain ⟨h1, h2⟩ := rt_inv n hn k hk
  have : n / 2 ^ (64 - 2 * k) ≤ n := Nat.div_le_self _ _
  exact ⟨sq_lt _ (by omega), h2⟩

def isq (n : Nat) : Nat := (rt n 32).1
theorem isq_spec (n : Nat) (hn : n < 2 ^ 64) : isq n * isq n ≤ n ∧ n < (isq n + 1) * (isq n + 1) := by
  obtain ⟨h1, h2⟩ := rt_inv n hn 32 (by omega)
  simp only [Nat.reduceMul, Nat.sub_self, Nat.pow_zero, Nat.div_one] at h1
  unfold isq
  have : ((rt n 32).1 + 1) * ((rt n 32).1 + 1) = (rt n 32).1 * (rt n 32).1 + 2 * (rt n 32).1 + 1 := by grind
  omega
theorem isq_unique (n a : Nat) (hn : n < 2 ^ 64) (h1 : a * a ≤ n) (h2 : n < (a + 1) * (a + 1)) : isq n = a := by
  obtain ⟨h3, h4⟩ := isq_spec n hn
  rcases Nat.lt_trichotomy (isq n) a with h | h | h
  · have := Nat.mul_le_mul (show isq n + 1 ≤ a from h) (show isq n + 1 ≤ a from h); omega
  · exact h
  · have := Nat.mul_le_mul (show a + 1 ≤ isq n from h) (show a + 1 ≤ isq n from h); omega
theorem isq_mono (m n : Nat) (hn : n < 2 ^ 64) (h : m ≤ n) : isq m ≤ isq n := by
  obtain ⟨h1, h2⟩ := isq_spec m (by omega)
  obtain ⟨h3, h4⟩ := isq_spec n hn
  rcases Nat.lt_or_ge (isq n) (isq m) with h5 | h5
  · have := Nat.mul_le_mul (show isq n + 1 ≤ isq m from h5) (show isq n + 1 ≤ isq m from h5); omega
  · exact h5
end Go.Proofs.PlGeom
