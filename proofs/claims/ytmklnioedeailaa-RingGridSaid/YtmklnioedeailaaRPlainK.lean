/-
  The plain laws of layer 4 (ring): the winding number on the left of a simple ring is the same all along it. No program in sight.
-/
import Derived.Test.YtmklnioedeailaaRPlainJ
namespace Go.Proofs.PlRing
open Go.Proofs.PlGeom

/-- Does the edge lead up (or, level, to the left)? -/
def kk (p q : Pt) : Int := if p.y < q.y ∨ (p.y = q.y ∧ q.x < p.x) then 1 else 0
/-- Three corners that follow each other: not back over the same line. -/
structure Corner (a b c : Pt) : Prop where
  ab : a ≠ b
  bc : b ≠ c
  str : cross a b c = 0 → (a.y < b.y ∧ b.y < c.y) ∨ (b.y < a.y ∧ c.y < b.y) ∨ (a.y = b.y ∧ b.y = c.y ∧ ((a.x < b.x ∧ b.x < c.x) ∨ (b.x < a.x ∧ c.x < b.x)))
def jj (a b c : Pt) : Int := if 0 < cross a b c ∧ c.y < b.y ∧ a.y ≤ b.y then 1 else if cross a b c < 0 ∧ b.y < a.y ∧ b.y ≤ c.y then -1 else 0
theorem cross_turn (a b c : Pt) : cross b c a = cross a b c := by unfold cross; grind
theorem jj_one (a b c : Pt) : chi a b c - hs b c a = jj a b c := by
  unfold chi hs jj
  rw [cross_turn a b c]
  (repeat' split) <;> omega
theorem pt_ne {a b : Pt} (h : a ≠ b) : a.x ≠ b.x ∨ a.y ≠ b.y := by
  by_cases h1 : a.x = b.x
  · by_cases h2 : a.y = b.y
    · exact (h (by cases a; cases b; simp_all)).elim
    · exact .inr h2
  · exact .inl h1
set_option maxHeartbeats 1000000 in
theorem jj_two (a b c : Pt) (h : Corner a b c) : chi b c a - hs a b c + kk a b = jj a b c + kk b c := by
  have h1 := pt_ne h.ab
  have h2 := pt_ne h.bc
  have h3 := h.str
  have e1 : a.y = b.y → cross a b c = (b.x - a.x) * (c.y - a.y) := by intro e; unfold cross; rw [e]; grind
  have e2 : b.y = c.y → cross a b c = (c.x - b.x) * (a.y - b.y) := by intro e; unfold cross; rw [← e]; grind
  unfold chi hs jj kk
  rw [cross_turn a b c]
  clear h
  generalize cross a b c = k at *
  by_cases f1 : a.y = b.y
  · have e1 := e1 f1
    by_cases f2 : b.y = c.y
    · have : k = 0 := by rw [e1, ← f2, ← f1]; simp
      clear e1 e2
      (repeat' split) <;> omega
    · rcases Int.lt_trichotomy c.y a.y with f3 | f3 | f3
      · have := sgn (d := c.y - a.y) (by omega) (b.x - a.x)
        rw [← e1] at this
        clear e1 e2
        (repeat' split) <;> omega
      · omega
      · have := sgp (d := c.y - a.y) (by omega) (b.x - a.x)
        rw [← e1] at this
        clear e1 e2
        (repeat' split) <;> omega
  · by_cases f2 : b.y = c.y
    · have e2 := e2 f2
      rcases Int.lt_trichotomy a.y b.y with f3 | f3 | f3
      · have := sgn (d := a.y - b.y) (by omega) (c.x - b.x)
        rw [← e2] at this
        clear e1 e2
        (repeat' split) <;> omega
      · omega
      · have := sgp (d := a.y - b.y) (by omega) (c.x - b.x)
        rw [← e2] at this
        clear e1 e2
        (repeat' split) <;> omega
    · clear e1 e2
      (repeat' split) <;> omega

/-! Sums. -/
def sm (f : Nat → Int) : Nat → Nat → Int
  | _, 0 => 0
  | i, n + 1 => f i + sm f (i + 1) n
theorem sm_succ (f : Nat → Int) (i n : Nat) : sm f i (n + 1) = f i + sm f (i + 1) n := rfl
theorem sm_last (f : Nat → Int) (i n : Nat) : sm f i (n + 1) = sm f i n + f (i + n) := by
  induction n generalizing i with
  | zero => simp [sm]
  | succ n ih => rw [sm_succ, ih (i + 1), sm_succ, Int.add_assoc]; congr 3; omega
theorem sm_congr (f g : Nat → Int) (i n : Nat) (h : ∀ k, i ≤ k → k < i + n → f k = g k) : sm f i n = sm g i n := by
  induction n generalizing i with
  | zero => rfl
  | succ n ih => rw [sm_succ, sm_succ, h i (by omega) (by omega), ih (i + 1) (fun k h1 h2 => h k (by omega) (by omega))]
theorem sm_tele (f g u : Nat → Int) (i n : Nat) (h : ∀ k, i ≤ k → k < i + n → f k - g k = u (k + 1) - u k) : sm f i n - sm g i n = u (i + n) - u i := by
  induction n generalizing i with
  | zero => simp [sm]
  | succ n ih =>
    rw [sm_succ, sm_succ]
    have h1 := h i (by omega) (by omega)
    have h2 := ih (i + 1) (fun k h1 h2 => h k (by omega) (by omega))
    have e : i + 1 + n = i + (n + 1) := by omega
    rw [e] at h2
    omega
theorem sm_shift (f : Nat → Int) (n : Nat) (hp : ∀ k, f (k + n) = f k) (i : Nat) : sm f (i + 1) n = sm f i n := by
  cases n with
  | zero => rfl
  | succ n =>
    rw [sm_last, sm_succ]
    have := hp i
    have e : i + 1 + n = i + (n + 1) := by omega
    rw [e, this]; omega
theorem sm_any (f : Nat → Int) (n : Nat) (hp : ∀ k, f (k + n) = f k) (i : Nat) : sm f i n = sm f 0 n := by
  induction i with
  | zero => rfl
  | succ i ih => rw [sm_shift f n hp, ih]

/-- The sides that are collinear with each other do not share a height. -/
def sepY (p q a b : Pt) : Prop := p.y = q.y ∨ a.y = b.y ∨ (p.y < a.y ∧ p.y < b.y ∧ q.y < a.y ∧ q.y < b.y) ∨ (a.y < p.y ∧ b.y < p.y ∧ a.y < q.y ∧ b.y < q.y)
/-- A closed polygon of n corners, none of whose sides meet but neighbours in their common corner. -/
structure Poly (P : Nat → Pt) (n : Nat) : Prop where
  three : 3 ≤ n
  per : ∀ i, P (i + n) = P i
  cor : ∀ i, Corner (P i) (P (i + 1)) (P (i + 2))
  far : ∀ i k, 2 ≤ k → k + 2 ≤ n → apart (P i) (P (i + 1)) (P (i + k)) (P (i + k + 1))
  sep : ∀ i k, 2 ≤ k → k + 2 ≤ n → cross (P i) (P (i + 1)) (P (i + k)) = 0 → cross (P i) (P (i + 1)) (P (i + k + 1)) = 0 → sepY (P i) (P (i + 1)) (P (i + k)) (P (i + k + 1))

/-- What the sides that do not touch a corner wind around it. -/
def tt (P : Nat → Pt) (n i : Nat) : Int := sm (fun j => chi (P j) (P (j + 1)) (P i)) (i + 1) (n - 2)
/-- The winding number on the left of the ring beside a corner. -/
def wl (P : Nat → Pt) (n i : Nat) : Int := tt P n i + jj (P (i + n - 1)) (P i) (P (i + 1)) + kk (P i) (P (i + 1))
theorem wl_step {P : Nat → Pt} {n : Nat} (h : Poly P n) (i : Nat) : wl P n (i + 1) = wl P n i := by
  obtain ⟨m, rfl⟩ : ∃ m, n = m + 3 := ⟨n - 3, by have := h.three; omega⟩
  have e1 : tt P (m + 3) i = chi (P (i + 1)) (P (i + 2)) (P i) + sm (fun j => chi (P j) (P (j + 1)) (P i)) (i + 2) m := rfl
  have e2 : tt P (m + 3) (i + 1) = sm (fun j => chi (P j) (P (j + 1)) (P (i + 1))) (i + 2) m + chi (P (i + m + 2)) (P i) (P (i + 1)) := by
    unfold tt
    rw [show m + 3 - 2 = m + 1 from by omega, sm_last]
    have a : i + 1 + 1 + m = i + m + 2 := by omega
    simp only [a]
    have b : P (i + m + 2 + 1) = P i := by rw [← h.per i]; congr 1
    rw [b]
  have e3 := sm_tele (fun j => chi (P j) (P (j + 1)) (P i)) (fun j => chi (P j) (P (j + 1)) (P (i + 1))) (fun j => hs (P i) (P (i + 1)) (P j)) (i + 2) m (by
    intro k h1 h2
    have := h.far i (k - i) (by omega) (by omega)
    rw [show i + (k - i) = k from by omega] at this
    exact edge_law _ _ _ _ this)
  have c1 := jj_one (P (i + m + 2)) (P i) (P (i + 1))
  have c2 := jj_two (P i) (P (i + 1)) (P (i + 2)) (h.cor i)
  unfold wl
  rw [e1, e2]
  have a1 : i + (m + 3) - 1 = i + m + 2 := by omega
  have a2 : i + 1 + (m + 3) - 1 = i + (m + 3) := by omega
  rw [a1, a2, h.per i]
  try simp only at e3
  have a3 : i + 2 + m = i + m + 2 := by omega
  rw [a3] at e3
  show _ + jj (P i) (P (i + 1)) (P (i + 2)) + kk (P (i + 1)) (P (i + 2)) = _
  omega
theorem wl_all {P : Nat → Pt} {n : Nat} (h : Poly P n) (i : Nat) : wl P n i = wl P n 0 := by
  induction i with
  | zero => rfl
  | succ i ih => rw [wl_step h, ih]

/-- A point on the open segment from a to b, or further on the ray, as far as signs tell. -/
structure Ray (b c q : Pt) : Prop where
  up : b.y < c.y ↔ b.y < q.y
  down : c.y < b.y ↔ q.y < b.y
  crs : ∀ a, (0 < cross a b q ↔ 0 < cross a b c) ∧ (cross a b q < 0 ↔ cross a b c < 0)
theorem Ray.jj {a b c q : Pt} (h : Ray b c q) : jj a b q = jj a b c := by
  obtain ⟨h1, h2⟩ := h.crs a
  have h3 := h.up
  have h4 := h.down
  unfold PlRing.jj
  (repeat' split) <;> omega
end Go.Proofs.PlRing
