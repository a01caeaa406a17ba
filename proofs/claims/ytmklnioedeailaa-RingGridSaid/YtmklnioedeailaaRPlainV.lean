/-
  The plain laws of layer 4 (ring): a simple ring is a closed polygon whose sides do not meet, and so winds around a point at most once. No program in sight.
-/
import Derived.Test.YtmklnioedeailaaRPlainU
import Derived.Test.YtmklnioedeailaaRPlain8
namespace Go.Proofs.PlRing
open Go.Proofs.PlGeom

/-- Where a line that is not level passes the height of a point that is on it, between two others, the point is between them. -/
theorem on_y (a b c : Pt) (h : cross a b c = 0) (hab : a.y ≠ b.y) (hc : (a.y ≤ c.y ∧ c.y ≤ b.y) ∨ (b.y ≤ c.y ∧ c.y ≤ a.y)) : onR ⟨a, b⟩ c = true := by
  have e : (b.y - c.y) * a.x + (c.y - a.y) * b.x = (b.y - a.y) * c.x := by unfold cross at h; grind
  have g := btw_of (b.y - a.y) 0 0 (b.y - c.y) (c.y - a.y) a.x b.x c.x (by omega) e (by omega) (by omega) rfl
  rw [onR_iff]
  exact ⟨⟨g.1, g.2, by simp only; omega, by simp only; omega⟩, h⟩
theorem on_level (a b c : Pt) (h : a.y = b.y) (h2 : c.y = b.y) (hc : (a.x ≤ c.x ∧ c.x ≤ b.x) ∨ (b.x ≤ c.x ∧ c.x ≤ a.x)) : onR ⟨a, b⟩ c = true := by
  rw [onR_iff]
  exact ⟨⟨by simp only; omega, by simp only; omega, by simp only; omega, by simp only; omega⟩, by simp only; unfold cross; rw [h, h2]; grind⟩
theorem cross_flip (a b c : Pt) : cross b a c = -cross a b c := by unfold cross; grind
theorem on_end (a b : Pt) (ha : nearB a = true) (hb : nearB b = true) : onS ⟨a, b⟩ a = true ∧ onS ⟨a, b⟩ b = true := by
  rw [onR_onS _ _ ((near3 _ _ _).2 ⟨ha, hb, ha⟩), onR_onS _ _ ((near3 _ _ _).2 ⟨ha, hb, hb⟩), onR_iff, onR_iff]
  exact ⟨⟨⟨by simp, by simp, by simp, by simp⟩, (cross_aab a b).2⟩, ⟨⟨by simp, by simp, by simp, by simp⟩, (cross_aab a b).1⟩⟩
/-- An end on the other segment's line, whose ends are not on one side of this one: it is on it (in whatever order the ends are). -/
theorem end_on' (a b c d : Pt) (hne : a ≠ b) (n1 : nearB a = true) (n2 : nearB b = true) (n3 : nearB c = true)
    (h : cross a b c = 0) (h1 : ¬ (cross c d a = 0 ∧ cross c d b = 0)) (h2 : (0 ≤ cross c d a ∧ cross c d b ≤ 0) ∨ (cross c d a ≤ 0 ∧ 0 ≤ cross c d b)) : onS ⟨a, b⟩ c = true := by
  rcases cmpP_cases a b with e | e | e
  · exact end_on ⟨a, b⟩ c d (by simp only; omega) n1 n2 n3 h h1 h2
  · exact (hne ((cmpP_zero a b).1 e)).elim
  · have e2 : cmpP b a < 0 := by have := cmpP_neg a b; omega
    rw [onS_swap]
    exact end_on ⟨b, a⟩ c d e2 n2 n1 n3 (by simp only; rw [cross_flip]; omega) (fun hh => h1 ⟨hh.2, hh.1⟩) (h2.elim (fun hh => .inr ⟨hh.2, hh.1⟩) (fun hh => .inl ⟨hh.2, hh.1⟩))
/-- SEGMENTS THAT DO NOT MEET ARE APART. -/
theorem none_apart (a b c d : Pt) (hab : a ≠ b) (hcd : c ≠ d) (na : nearB a = true) (nb : nearB b = true) (nc : nearB c = true) (nd : nearB d = true) (h : meets ⟨a, b⟩ ⟨c, d⟩ = 0) :
    apart a b c d ∧ (cross a b c = 0 → cross a b d = 0 → sepY a b c d) := by
  have hn : nearL [a, b, c, d] = true := by rw [near4']; exact ⟨na, nb, nc, nd⟩
  have hs := shares_law ⟨a, b⟩ ⟨c, d⟩ hn
  rw [h] at hs
  have he : endsB ⟨a, b⟩ ⟨c, d⟩ = false := by
    cases e : endsB ⟨a, b⟩ ⟨c, d⟩ with
    | false => rfl
    | true => exact ((hs.ends.1 e).1 rfl).elim
  have ha : apartB ⟨a, b⟩ ⟨c, d⟩ = false := by
    cases e : apartB ⟨a, b⟩ ⟨c, d⟩ with
    | false => rfl
    | true => have := hs.apart.1 e; omega
  unfold endsB at he
  simp only [Bool.or_eq_false_iff] at he
  obtain ⟨⟨⟨o1, o2⟩, o3⟩, o4⟩ := he
  have t : ∀ x y z : Pt, nearB x = true → nearB y = true → nearB z = true → ((0 < cross x y z ↔ orient x y z = 1) ∧ (cross x y z < 0 ↔ orient x y z = -1) ∧ (cross x y z = 0 ↔ orient x y z = 0)) := by
    intro x y z hx hy hz
    have := orient_sgn x y z ((near3 _ _ _).2 ⟨hx, hy, hz⟩)
    omega
  have s1 := t a b c na nb nc
  have s2 := t a b d na nb nd
  have s3 := t c d a nc nd na
  have s4 := t c d b nc nd nb
  have hx : ¬ (((0 < cross a b c ∧ cross a b d < 0) ∨ (cross a b c < 0 ∧ 0 < cross a b d)) ∧ ((0 < cross c d a ∧ cross c d b < 0) ∨ (cross c d a < 0 ∧ 0 < cross c d b))) := by
    intro hh
    unfold apartB at ha
    simp only [Bool.and_eq_false_iff, decide_eq_false_iff_not] at ha
    obtain ⟨g1, g2⟩ := hh
    have p1 : orient a b c * orient a b d < 0 := by
      rcases g1 with ⟨x, y⟩ | ⟨x, y⟩
      · rw [s1.1.1 x, s2.2.1.1 y]; decide
      · rw [s1.2.1.1 x, s2.1.1 y]; decide
    have p2 : orient c d a * orient c d b < 0 := by
      rcases g2 with ⟨x, y⟩ | ⟨x, y⟩
      · rw [s3.1.1 x, s4.2.1.1 y]; decide
      · rw [s3.2.1.1 x, s4.1.1 y]; decide
    rcases ha with ha | ha
    · exact ha p1
    · exact ha p2
  have l1 : (cross a b c = 0 ∧ cross a b d = 0) ↔ (cross c d a = 0 ∧ cross c d b = 0) := ⟨fun e => line_swap a b c d hab e.1 e.2, fun e => line_swap c d a b hcd e.1 e.2⟩
  have w1 : cross a b c = 0 → ¬ (cross c d a = 0 ∧ cross c d b = 0) → (0 < cross c d a ∧ 0 < cross c d b) ∨ (cross c d a < 0 ∧ cross c d b < 0) := by
    intro g1 g2
    by_cases g3 : (0 ≤ cross c d a ∧ cross c d b ≤ 0) ∨ (cross c d a ≤ 0 ∧ 0 ≤ cross c d b)
    · rw [end_on' a b c d hab na nb nc g1 g2 g3] at o3; cases o3
    · omega
  have w2 : cross a b d = 0 → ¬ (cross c d a = 0 ∧ cross c d b = 0) → (0 < cross c d a ∧ 0 < cross c d b) ∨ (cross c d a < 0 ∧ cross c d b < 0) := by
    intro g1 g2
    by_cases g3 : (0 ≤ cross c d a ∧ cross c d b ≤ 0) ∨ (cross c d a ≤ 0 ∧ 0 ≤ cross c d b)
    · have f1 := cross_flip c d a
      have f2 := cross_flip c d b
      rw [end_on' a b d c hab na nb nd g1 (by omega) (by omega)] at o4; cases o4
    · omega
  have w3 : cross c d a = 0 → ¬ (cross a b c = 0 ∧ cross a b d = 0) → (0 < cross a b c ∧ 0 < cross a b d) ∨ (cross a b c < 0 ∧ cross a b d < 0) := by
    intro g1 g2
    by_cases g3 : (0 ≤ cross a b c ∧ cross a b d ≤ 0) ∨ (cross a b c ≤ 0 ∧ 0 ≤ cross a b d)
    · rw [end_on' c d a b hcd nc nd na g1 g2 g3] at o1; cases o1
    · omega
  have w4 : cross c d b = 0 → ¬ (cross a b c = 0 ∧ cross a b d = 0) → (0 < cross a b c ∧ 0 < cross a b d) ∨ (cross a b c < 0 ∧ cross a b d < 0) := by
    intro g1 g2
    by_cases g3 : (0 ≤ cross a b c ∧ cross a b d ≤ 0) ∨ (cross a b c ≤ 0 ∧ 0 ≤ cross a b d)
    · have f1 := cross_flip a b c
      have f2 := cross_flip a b d
      rw [end_on' c d b a hcd nc nd nb g1 (by omega) (by omega)] at o2; cases o2
    · omega
  rw [onR_onS _ _ ((near3 _ _ _).2 ⟨nc, nd, na⟩)] at o1
  rw [onR_onS _ _ ((near3 _ _ _).2 ⟨nc, nd, nb⟩)] at o2
  rw [onR_onS _ _ ((near3 _ _ _).2 ⟨na, nb, nc⟩)] at o3
  rw [onR_onS _ _ ((near3 _ _ _).2 ⟨na, nb, nd⟩)] at o4
  refine ⟨?_, fun e1 e2 => ?_⟩
  · unfold apart
    clear t s1 s2 s3 s4 hs h hn o1 o2 o3 o4 ha
    generalize cross a b c = A at *
    generalize cross a b d = B at *
    generalize cross c d a = C at *
    generalize cross c d b = D at *
    omega
  · obtain ⟨e3, e4⟩ := l1.1 ⟨e1, e2⟩
    unfold sepY
    by_cases y1 : a.y = b.y
    · exact .inl y1
    by_cases y2 : c.y = d.y
    · exact .inr (.inl y2)
    have q1 : ¬ ((a.y ≤ c.y ∧ c.y ≤ b.y) ∨ (b.y ≤ c.y ∧ c.y ≤ a.y)) := fun g => by rw [on_y a b c e1 y1 g] at o3; cases o3
    have q2 : ¬ ((a.y ≤ d.y ∧ d.y ≤ b.y) ∨ (b.y ≤ d.y ∧ d.y ≤ a.y)) := fun g => by rw [on_y a b d e2 y1 g] at o4; cases o4
    have q3 : ¬ ((c.y ≤ a.y ∧ a.y ≤ d.y) ∨ (d.y ≤ a.y ∧ a.y ≤ c.y)) := fun g => by rw [on_y c d a e3 y2 g] at o1; cases o1
    have q4 : ¬ ((c.y ≤ b.y ∧ b.y ≤ d.y) ∨ (d.y ≤ b.y ∧ b.y ≤ c.y)) := fun g => by rw [on_y c d b e4 y2 g] at o2; cases o2
    omega
/-- SIDES THAT MEET IN THEIR COMMON CORNER ALONE do not lead back over each other. -/
theorem end_corner (a b c : Pt) (hab : a ≠ b) (hbc : b ≠ c) (na : nearB a = true) (nb : nearB b = true) (nc : nearB c = true) (h : meets ⟨a, b⟩ ⟨b, c⟩ = 1) : Corner a b c := by
  obtain ⟨_, h1, h2⟩ := (adj_one a b c na nb nc).1 h
  have o1 : onR ⟨b, c⟩ a = false := by
    rw [← onR_onS _ _ ((near3 _ _ _).2 ⟨nb, nc, na⟩)]
    cases e : onS ⟨b, c⟩ a with
    | false => rfl
    | true => exact (hab (h1 e)).elim
  have o2 : onR ⟨a, b⟩ c = false := by
    rw [← onR_onS _ _ ((near3 _ _ _).2 ⟨na, nb, nc⟩)]
    cases e : onS ⟨a, b⟩ c with
    | false => rfl
    | true => exact (hbc (h2 e).symm).elim
  have p1 := pt_ne hab
  have p2 := pt_ne hbc
  refine ⟨hab, hbc, fun h0 => ?_⟩
  have h0' : cross b c a = 0 := by rw [cross_turn]; exact h0
  by_cases y1 : a.y = b.y
  · have y2 : b.y = c.y := by
      have e : (b.x - a.x) * (c.y - a.y) = 0 := by unfold cross at h0; rw [y1] at h0 ⊢; grind
      rcases Int.mul_eq_zero.1 e with g | g
      · omega
      · omega
    have q1 : ¬ ((b.x ≤ a.x ∧ a.x ≤ c.x) ∨ (c.x ≤ a.x ∧ a.x ≤ b.x)) := fun g => by rw [on_level b c a y2 (by omega) g] at o1; cases o1
    have q2 : ¬ ((a.x ≤ c.x ∧ c.x ≤ b.x) ∨ (b.x ≤ c.x ∧ c.x ≤ a.x)) := fun g => by rw [on_level a b c y1 (by omega) g] at o2; cases o2
    omega
  · have y2 : b.y ≠ c.y := by
      intro e
      have e2 : (b.y - a.y) * (b.x - c.x) = 0 := by unfold cross at h0; rw [← e] at h0; grind
      rcases Int.mul_eq_zero.1 e2 with g | g <;> omega
    have q1 : ¬ ((b.y ≤ a.y ∧ a.y ≤ c.y) ∨ (c.y ≤ a.y ∧ a.y ≤ b.y)) := fun g => by rw [on_y b c a h0' y2 g] at o1; cases o1
    have q2 : ¬ ((a.y ≤ c.y ∧ c.y ≤ b.y) ∨ (b.y ≤ c.y ∧ c.y ≤ a.y)) := fun g => by rw [on_y a b c h0 y1 g] at o2; cases o2
    omega
end Go.Proofs.PlRing
