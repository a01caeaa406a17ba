/-
  The plain law of GeomNear. No program in sight.
-/
import Derived.Test.YtepfhifogkopcaaPlainM
import Derived.Test.YtepfhifogkopcaaPlainN
namespace Go.Proofs.PlGeom

theorem sq_nonneg (x : Int) : 0 ≤ x * x := by
  rcases (by omega : 0 ≤ x ∨ x ≤ 0) with h | h
  · exact Int.mul_nonneg h h
  · have := Int.mul_nonneg (show 0 ≤ -x by omega) (show 0 ≤ -x by omega)
    grind
theorem div_le (a s x : Int) (hs : 0 < s) (h : a ≤ x * s) : a / s ≤ x := Int.ediv_le_of_le_mul hs h
theorem div_pos (a s : Int) (hs : 0 < s) (h : 0 ≤ a) : 0 ≤ a / s := Int.ediv_nonneg h (Int.le_of_lt hs)

/-- Lagrange. -/
theorem lagrange (vx vy wx wy : Int) : (vx * wy - vy * wx) * (vx * wy - vy * wx) + (vx * wx + vy * wy) * (vx * wx + vy * wy) = (vx * vx + vy * vy) * (wx * wx + wy * wy) := by grind

/-- What Near gives, in numbers: the vectors v (of the segment) and w (to the point). -/
def nv (vx vy wx wy : Int) : Int :=
  if vx * wx + vy * wy ≤ 0 then wx * wx + wy * wy
  else if vx * vx + vy * vy ≤ vx * wx + vy * wy then (wx - vx) * (wx - vx) + (wy - vy) * (wy - vy)
  else (vx * wy - vy * wx) * (vx * wy - vy * wx) / (vx * vx + vy * vy)

theorem nv_nonneg (vx vy wx wy : Int) : 0 ≤ nv vx vy wx wy := by
  unfold nv
  split
  · have := sq_nonneg wx; have := sq_nonneg wy; omega
  · split
    · have := sq_nonneg (wx - vx); have := sq_nonneg (wy - vy); omega
    · exact div_pos _ _ (by omega) (sq_nonneg _)

theorem nv_le_start (vx vy wx wy : Int) : nv vx vy wx wy ≤ wx * wx + wy * wy := by
  unfold nv
  have h1 := sq_nonneg vx
  have h2 := sq_nonneg vy
  split
  · exact Int.le_refl _
  · split
    · have e : (wx - vx) * (wx - vx) + (wy - vy) * (wy - vy) = wx * wx + wy * wy - 2 * (vx * wx + vy * wy) + (vx * vx + vy * vy) := by grind
      rw [e]; omega
    · refine div_le _ _ _ (by omega) ?_
      have e := lagrange vx vy wx wy
      have := sq_nonneg (vx * wx + vy * wy)
      rw [Int.mul_comm (vx * vx + vy * vy)] at e
      omega

/-- With the ends exchanged. -/
theorem nv_back (vx vy wx wy : Int) : nv (-vx) (-vy) (wx - vx) (wy - vy) = nv vx vy wx wy := by
  unfold nv
  have eA : -vx * (wx - vx) + -vy * (wy - vy) = (vx * vx + vy * vy) - (vx * wx + vy * wy) := by grind
  have eS : -vx * -vx + -vy * -vy = vx * vx + vy * vy := by grind
  have eC : (-vx * (wy - vy) - -vy * (wx - vx)) * (-vx * (wy - vy) - -vy * (wx - vx)) = (vx * wy - vy * wx) * (vx * wy - vy * wx) := by grind
  have eW : (wx - vx - -vx) * (wx - vx - -vx) + (wy - vy - -vy) * (wy - vy - -vy) = wx * wx + wy * wy := by grind
  have eD : (wx - vx) * (wx - vx) + (wy - vy) * (wy - vy) = wx * wx + wy * wy - 2 * (vx * wx + vy * wy) + (vx * vx + vy * vy) := by grind
  rw [eA, eS, eC, eW, eD]
  have h1 := sq_nonneg vx
  have h2 := sq_nonneg vy
  generalize vx * wx + vy * wy = A at *
  generalize hS : vx * vx + vy * vy = S at *
  by_cases c1 : A ≤ 0
  · by_cases c2 : S ≤ A
    · rw [if_pos (by omega), if_pos c1]; omega
    · rw [if_neg (by omega), if_pos (by omega), if_pos c1]
  · by_cases c2 : S ≤ A
    · rw [if_pos (by omega), if_neg c1, if_pos c2]
    · rw [if_neg (by omega), if_neg (by omega), if_neg c1, if_neg c2]

theorem nv_le_end (vx vy wx wy : Int) : nv vx vy wx wy ≤ (wx - vx) * (wx - vx) + (wy - vy) * (wy - vy) := by
  rw [← nv_back]; exact nv_le_start _ _ _ _

/-- No point u of the segment is nearer. -/
theorem nv_le_on (vx vy wx wy ux uy : Int) (hu : vx * uy - vy * ux = 0) (h0 : 0 ≤ vx * ux + vy * uy) (h1 : vx * ux + vy * uy ≤ vx * vx + vy * vy) (hv : vx = 0 → vy = 0 → ux = 0 ∧ uy = 0) :
    nv vx vy wx wy ≤ (wx - ux) * (wx - ux) + (wy - uy) * (wy - uy) := by
  have key : ∀ vx vy wx wy ux uy : Int, vx * uy - vy * ux = 0 → 0 ≤ vx * ux + vy * uy → (vx = 0 → vy = 0 → ux = 0 ∧ uy = 0) → vx * wx + vy * wy ≤ 0 → wx * wx + wy * wy ≤ (wx - ux) * (wx - ux) + (wy - uy) * (wy - uy) := by
    intro vx vy wx wy ux uy hu h0 hv hA
    have e : (wx - ux) * (wx - ux) + (wy - uy) * (wy - uy) = wx * wx + wy * wy - 2 * (ux * wx + uy * wy) + (ux * ux + uy * uy) := by grind
    have s1 := sq_nonneg ux
    have s2 := sq_nonneg uy
    have t1 := sq_nonneg vx
    have t2 := sq_nonneg vy
    have hd : ux * wx + uy * wy ≤ 0 := by
      have e2 : (vx * vx + vy * vy) * (ux * wx + uy * wy) = (vx * ux + vy * uy) * (vx * wx + vy * wy) := by grind
      have e3 : (vx * ux + vy * uy) * (vx * wx + vy * wy) ≤ 0 := by
        have := Int.mul_nonneg h0 (show 0 ≤ -(vx * wx + vy * wy) by omega)
        have e4 : (vx * ux + vy * uy) * -(vx * wx + vy * wy) = -((vx * ux + vy * uy) * (vx * wx + vy * wy)) := by grind
        omega
      by_cases hz : vx * vx + vy * vy = 0
      · have z1 : vx * vx = 0 := by omega
        have z2 : vy * vy = 0 := by omega
        obtain ⟨q1, q2⟩ := hv (by simpa using Int.mul_eq_zero.1 z1) (by simpa using Int.mul_eq_zero.1 z2)
        rw [q1, q2]; simp
      · rcases (by omega : ux * wx + uy * wy ≤ 0 ∨ 0 < ux * wx + uy * wy) with h | h
        · exact h
        · have := Int.mul_pos (show 0 < vx * vx + vy * vy by omega) h
          omega
    rw [e]; omega
  unfold nv
  split
  · rename_i c; exact key vx vy wx wy ux uy hu h0 hv c
  · split
    · rename_i c1 c2
      have := key (-vx) (-vy) (wx - vx) (wy - vy) (ux - vx) (uy - vy) (by grind) (by
        have e : -vx * (ux - vx) + -vy * (uy - vy) = (vx * vx + vy * vy) - (vx * ux + vy * uy) := by grind
        rw [e]; omega) (fun a b => by
        obtain ⟨q1, q2⟩ := hv (by omega) (by omega)
        omega) (by
        have e : -vx * (wx - vx) + -vy * (wy - vy) = (vx * vx + vy * vy) - (vx * wx + vy * wy) := by grind
        rw [e]; omega)
      rw [show wx - vx - (ux - vx) = wx - ux by omega, show wy - vy - (uy - vy) = wy - uy by omega] at this
      exact this
    · rename_i c1 c2
      refine div_le _ _ _ (by omega) ?_
      have e := lagrange vx vy (wx - ux) (wy - uy)
      have s := sq_nonneg (vx * (wx - ux) + vy * (wy - uy))
      have e2 : vx * (wy - uy) - vy * (wx - ux) = vx * wy - vy * wx := by grind
      rw [e2, Int.mul_comm (vx * vx + vy * vy)] at e
      omega

/-- A point u on the way of v, in lexicographic order between its ends, in numbers. -/
theorem between (vx vy ux uy : Int) (hc : vx * uy - vy * ux = 0) (h0 : 0 < ux ∨ (ux = 0 ∧ 0 ≤ uy)) (h1 : ux < vx ∨ (ux = vx ∧ uy ≤ vy)) :
    0 ≤ vx * ux + vy * uy ∧ vx * ux + vy * uy ≤ vx * vx + vy * vy ∧ (vx = 0 → vy = 0 → ux = 0 ∧ uy = 0) := by
  by_cases hx : vx = 0
  · have hu : ux = 0 := by omega
    subst hx hu
    have g0 : 0 ≤ uy := by omega
    have g1 : uy ≤ vy := by omega
    have m1 := Int.mul_nonneg (show 0 ≤ vy by omega) g0
    have m2 := Int.mul_le_mul_of_nonneg_left g1 (show 0 ≤ vy by omega)
    refine ⟨by omega, by omega, fun _ h => ⟨rfl, by omega⟩⟩
  · have hp : 0 < vx := by omega
    have hu : 0 ≤ ux := by omega
    have hl : ux ≤ vx := by omega
    have hS : 0 ≤ vx * vx + vy * vy := by have := sq_nonneg vx; have := sq_nonneg vy; omega
    have e : vx * (vx * ux + vy * uy) = (vx * vx + vy * vy) * ux := by grind
    have m1 := Int.mul_nonneg hS hu
    have m2 := Int.mul_le_mul_of_nonneg_left hl hS
    refine ⟨?_, ?_, fun h => absurd h hx⟩
    · rcases (by omega : 0 ≤ vx * ux + vy * uy ∨ vx * ux + vy * uy < 0) with h | h
      · exact h
      · have := Int.mul_pos hp (show 0 < -(vx * ux + vy * uy) by omega)
        have e2 : vx * -(vx * ux + vy * uy) = -(vx * (vx * ux + vy * uy)) := by grind
        omega
    · refine Int.le_of_mul_le_mul_left ?_ hp
      rw [e, Int.mul_comm vx (vx * vx + vy * vy)]
      exact m2

theorem cmpP_le (a b : Pt) (h : cmpP a b ≤ 0) : 0 < b.x - a.x ∨ (b.x - a.x = 0 ∧ 0 ≤ b.y - a.y) := by
  unfold cmpP at h
  have h1 := cmpI_cases a.x b.x
  have h2 := cmpI_cases a.y b.y
  split at h <;> omega

/-- What On says, in numbers. -/
theorem on_between (s : Sg) (p : Pt) (h : onS s p = true) :
    (s.b.x - s.a.x) * (p.y - s.a.y) - (s.b.y - s.a.y) * (p.x - s.a.x) = 0 ∧ 0 ≤ along s p ∧ along s p ≤ sqv s ∧ (s.b.x - s.a.x = 0 → s.b.y - s.a.y = 0 → p.x - s.a.x = 0 ∧ p.y - s.a.y = 0) := by
  unfold onS at h
  simp only [Bool.and_eq_true, beq_iff_eq, decide_eq_true_eq] at h
  obtain ⟨hn, ⟨⟨ho, h1⟩, h2⟩, _⟩ := h
  have hnS : nearL [(sortS s).a, (sortS s).b, p] = true := by
    unfold sortS
    split
    · simp only [nearL, Bool.and_true, Bool.and_eq_true] at hn ⊢; exact ⟨hn.2.1, hn.1, hn.2.2⟩
    · exact hn
  have hc := (orient_zero _ _ _ hnS).1 ho
  have k1 := cmpP_le _ _ h1
  have k2 := cmpP_le _ _ h2
  have hcase : (sortS s = s) ∨ (sortS s = ⟨s.b, s.a⟩) := by unfold sortS; split <;> simp
  unfold along sqv
  rcases hcase with e | e
  · rw [e] at hc k1 k2
    simp only [cross] at hc
    obtain ⟨b1, b2, b3⟩ := between (s.b.x - s.a.x) (s.b.y - s.a.y) (p.x - s.a.x) (p.y - s.a.y) hc (by omega) (by omega)
    exact ⟨hc, b1, b2, b3⟩
  · rw [e] at hc k1 k2
    simp only [cross] at hc k1 k2
    obtain ⟨b1, b2, b3⟩ := between (s.a.x - s.b.x) (s.a.y - s.b.y) (p.x - s.b.x) (p.y - s.b.y) hc (by omega) (by omega)
    have e1 : (s.b.x - s.a.x) * (p.x - s.a.x) + (s.b.y - s.a.y) * (p.y - s.a.y) = ((s.a.x - s.b.x) * (s.a.x - s.b.x) + (s.a.y - s.b.y) * (s.a.y - s.b.y)) - ((s.a.x - s.b.x) * (p.x - s.b.x) + (s.a.y - s.b.y) * (p.y - s.b.y)) := by grind
    have e2 : (s.b.x - s.a.x) * (s.b.x - s.a.x) + (s.b.y - s.a.y) * (s.b.y - s.a.y) = (s.a.x - s.b.x) * (s.a.x - s.b.x) + (s.a.y - s.b.y) * (s.a.y - s.b.y) := by grind
    rw [e1, e2]
    refine ⟨by grind, by omega, by omega, fun g1 g2 => ?_⟩
    obtain ⟨b4, b5⟩ := b3 (by omega) (by omega)
    omega

theorem nearV_nv (s : Sg) (p : Pt) (h : nearL [s.a, s.b, p] = true) : nearV s p = nv (s.b.x - s.a.x) (s.b.y - s.a.y) (p.x - s.a.x) (p.y - s.a.y) := by
  have h' := h
  simp only [nearL, Bool.and_true, Bool.and_eq_true] at h'
  unfold nearV
  rw [if_pos h]
  unfold nv along sqv crs
  have d1 : dist s.a p = (p.x - s.a.x) * (p.x - s.a.x) + (p.y - s.a.y) * (p.y - s.a.y) := by unfold dist; rw [if_pos (by simp [nearL, h'.1, h'.2.2])]
  have d2 : dist s.b p = (p.x - s.b.x) * (p.x - s.b.x) + (p.y - s.b.y) * (p.y - s.b.y) := by unfold dist; rw [if_pos (by simp [nearL, h'.2.1, h'.2.2])]
  rw [d1, d2, show p.x - s.a.x - (s.b.x - s.a.x) = p.x - s.b.x by omega, show p.y - s.a.y - (s.b.y - s.a.y) = p.y - s.b.y by omega]

/-- GeomNear, in points. -/
theorem near_law (s : Sg) (p q : Pt) (h : nearL [s.a, s.b, p, q] = true) :
    0 ≤ nearV s p ∧ nearV (backS s) p = nearV s p ∧ nearV s p ≤ dist s.a p ∧ nearV s p ≤ dist s.b p ∧ (onS s p = true → nearV s p = 0) ∧ (onS s q = true → nearV s p ≤ dist q p) ∧ (s.a = s.b → nearV s p = dist s.a p) := by
  have h' := h
  simp only [nearL, Bool.and_true, Bool.and_eq_true] at h'
  obtain ⟨n1, n2, n3, n4⟩ := h'
  have e1 := nearV_nv s p (by simp [nearL, n1, n2, n3])
  have e2 := nearV_nv (backS s) p (by simp [nearL, backS, n1, n2, n3])
  have d : ∀ a b : Pt, nearB a = true → nearB b = true → dist a b = (b.x - a.x) * (b.x - a.x) + (b.y - a.y) * (b.y - a.y) := fun a b ha hb => by unfold dist; rw [if_pos (by simp [nearL, ha, hb])]
  have hon : ∀ q, nearB q = true → onS s q = true → nearV s p ≤ dist q p := by
    intro q hq ho
    obtain ⟨o1, o2, o3, o4⟩ := on_between s q ho
    have := nv_le_on (s.b.x - s.a.x) (s.b.y - s.a.y) (p.x - s.a.x) (p.y - s.a.y) (q.x - s.a.x) (q.y - s.a.y) o1 o2 o3 o4
    rw [e1, d q p hq n3]
    rw [show p.x - s.a.x - (q.x - s.a.x) = p.x - q.x by omega, show p.y - s.a.y - (q.y - s.a.y) = p.y - q.y by omega] at this
    exact this
  have h0 : 0 ≤ nearV s p := by rw [e1]; exact nv_nonneg _ _ _ _
  refine ⟨h0, ?_, ?_, ?_, ?_, fun ho => hon q n4 ho, ?_⟩
  · rw [e1, e2, ← nv_back (s.b.x - s.a.x)]
    simp only [backS]
    rw [show s.a.x - s.b.x = -(s.b.x - s.a.x) by omega, show s.a.y - s.b.y = -(s.b.y - s.a.y) by omega, show p.x - s.b.x = p.x - s.a.x - (s.b.x - s.a.x) by omega, show p.y - s.b.y = p.y - s.a.y - (s.b.y - s.a.y) by omega]
  · rw [e1, d s.a p n1 n3]; exact nv_le_start _ _ _ _
  · have := nv_le_end (s.b.x - s.a.x) (s.b.y - s.a.y) (p.x - s.a.x) (p.y - s.a.y)
    rw [e1, d s.b p n2 n3]
    rw [show p.x - s.a.x - (s.b.x - s.a.x) = p.x - s.b.x by omega, show p.y - s.a.y - (s.b.y - s.a.y) = p.y - s.b.y by omega] at this
    exact this
  · intro ho
    have := hon p n3 ho
    rw [d p p n3 n3] at this
    have z : (p.x - p.x) * (p.x - p.x) + (p.y - p.y) * (p.y - p.y) = 0 := by simp
    omega
  · intro hab
    rw [e1, d s.a p n1 n3, ← hab]
    unfold nv
    rw [if_pos (by simp)]
end Go.Proofs.PlGeom
