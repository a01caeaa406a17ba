/-
  The plain law of RingTriangles, for rings of three corners. No program in sight.
-/
import Derived.Test.YtmklnioedeailaaRPlain7
namespace Go.Proofs.PlRing
open Go.Proofs.PlGeom

theorem sides3 (a b c : Pt) : sidesL [a, b, c] = [(0, ⟨a, b⟩), (1, ⟨b, c⟩), (2, ⟨c, a⟩)] := by
  simp [sidesL, sideAt, at0, List.range_succ]
theorem reg3 (a b c : Pt) (ha : nearB a = true) (hb : nearB b = true) (hc : nearB c = true) : regB [a, b, c] = true := by simp [regB, nearL, ha, hb, hc]
theorem tri_simple (a b c : Pt) (ha : nearB a = true) (hb : nearB b = true) (hc : nearB c = true) : simple [a, b, c] = !(orient a b c == 0) := by
  have hn : nearL [a, b, c] = true := by rw [near3]; exact ⟨ha, hb, hc⟩
  have h := tri_iff a b c ha hb hc
  have e1 : meets ⟨b, c⟩ ⟨a, b⟩ = meets ⟨a, b⟩ ⟨b, c⟩ := meets_symm _ _
  have e2 : meets ⟨c, a⟩ ⟨b, c⟩ = meets ⟨b, c⟩ ⟨c, a⟩ := meets_symm _ _
  have hs : simple [a, b, c] = true ↔ (meets ⟨a, b⟩ ⟨b, c⟩ = 1 ∧ meets ⟨b, c⟩ ⟨c, a⟩ = 1 ∧ meets ⟨c, a⟩ ⟨a, b⟩ = 1) := by
    unfold simple
    rw [reg3 a b c ha hb hc, sides3]
    simp [allB, rowB, pairB, nbr, e1, e2]
    intro _
    exact And.comm
  rw [Bool.eq_iff_iff, hs, h, Bool.not_eq_true', beq_eq_false_iff_ne, ne_eq, ne_eq, orient_zero a b c hn]
theorem hitB_onS (s : Sg) (p : Pt) (h : nearL [s.a, s.b, p] = true) : hitB s p = onS s p := by
  rw [onR_onS s p h]
  unfold hitB btwB onR
  rw [turnP_cross]
  cases (cross s.a s.b p == 0) <;> simp [Bool.and_assoc]
theorem windS_chi (s : Sg) (p : Pt) : windS s p = chi s.a s.b p := by
  unfold windS upB downB chi
  rw [turnP_cross]
  simp only [Bool.and_eq_true, decide_eq_true_eq]
  (repeat' split) <;> omega
theorem onR_iff (s : Sg) (p : Pt) : onR s p = true ↔ (((s.a.x ≤ p.x ∨ s.b.x ≤ p.x) ∧ (p.x ≤ s.a.x ∨ p.x ≤ s.b.x) ∧ (s.a.y ≤ p.y ∨ s.b.y ≤ p.y) ∧ (p.y ≤ s.a.y ∨ p.y ≤ s.b.y)) ∧ cross s.a s.b p = 0) := by
  unfold onR
  simp only [Bool.and_eq_true, decide_eq_true_eq, beq_iff_eq, and_assoc]
/-- A point on the line through two others, with weights of one sign, lies between them. -/
theorem btw_of (k x y m n : Int) (c a p : Int) (hk : k ≠ 0) (h : m * c + n * a = k * p) (hs : m + n = k) (hw : (0 ≤ m ∧ 0 ≤ n) ∨ (m ≤ 0 ∧ n ≤ 0)) (_ : x = y) : (c ≤ p ∨ a ≤ p) ∧ (p ≤ c ∨ p ≤ a) := by
  have e1 : m * (c - p) + n * (a - p) = 0 := by grind
  constructor
  · rcases Int.lt_or_le p c with h1 | h1
    · rcases Int.lt_or_le p a with h2 | h2
      · have g1 := sgp (d := c - p) (by omega) m
        have g2 := sgp (d := a - p) (by omega) n
        omega
      · exact .inr h2
    · exact .inl h1
  · rcases Int.lt_or_le c p with h1 | h1
    · rcases Int.lt_or_le a p with h2 | h2
      · have g1 := sgn (d := c - p) (by omega) m
        have g2 := sgn (d := a - p) (by omega) n
        omega
      · exact .inr h2
    · exact .inl h1
theorem on_of (a b c p : Pt) (hk : cross a b c ≠ 0) (h0 : cross a b p = 0) (hw : (0 ≤ cross b c p ∧ 0 ≤ cross c a p) ∨ (cross b c p ≤ 0 ∧ cross c a p ≤ 0)) : onR ⟨a, b⟩ p = true := by
  have hs : cross b c p + cross c a p = cross a b c := by
    have : cross a b p + cross b c p + cross c a p = cross a b c := by unfold cross; grind
    omega
  have hx : cross b c p * a.x + cross c a p * b.x = cross a b c * p.x := by
    have : cross a b p * c.x + cross b c p * a.x + cross c a p * b.x = cross a b c * p.x := by unfold cross; grind
    rw [h0] at this; omega
  have hy : cross b c p * a.y + cross c a p * b.y = cross a b c * p.y := by
    have : cross a b p * c.y + cross b c p * a.y + cross c a p * b.y = cross a b c * p.y := by unfold cross; grind
    rw [h0] at this; omega
  have g1 := btw_of _ 0 0 _ _ _ _ _ hk hx hs hw rfl
  have g2 := btw_of _ 0 0 _ _ _ _ _ hk hy hs hw rfl
  rw [onR_iff]
  exact ⟨⟨g1.1, g1.2, g2.1, g2.2⟩, h0⟩
theorem tri_side (a b c p : Pt) (ha : nearB a = true) (hb : nearB b = true) (hc : nearB c = true) (hp : nearB p = true) (h : orient a b c ≠ 0) :
    sideR [a, b, c] p = if (onS ⟨a, b⟩ p || onS ⟨b, c⟩ p || onS ⟨c, a⟩ p) then 0 else if (orient a b p == orient a b c && orient b c p == orient a b c && orient c a p == orient a b c) then 1 else -1 := by
  have hn : nearL [a, b, c] = true := by rw [near3]; exact ⟨ha, hb, hc⟩
  have hs : simple [a, b, c] = true := by rw [tri_simple a b c ha hb hc]; simpa using h
  have hk : cross a b c ≠ 0 := by rw [ne_eq, ← orient_zero a b c hn]; exact h
  have o1 := hitB_onS ⟨a, b⟩ p ((near3 _ _ _).2 ⟨ha, hb, hp⟩)
  have o2 := hitB_onS ⟨b, c⟩ p ((near3 _ _ _).2 ⟨hb, hc, hp⟩)
  have o3 := hitB_onS ⟨c, a⟩ p ((near3 _ _ _).2 ⟨hc, ha, hp⟩)
  have e1 : sideR [a, b, c] p = locate [a, b, c] p := by unfold sideR; rw [hs, hp]; rfl
  rw [e1]
  unfold locate locateL
  rw [sides3]
  have eh : hitL p [(0, ⟨a, b⟩), (1, ⟨b, c⟩), (2, ⟨c, a⟩)] = (onS ⟨a, b⟩ p || onS ⟨b, c⟩ p || onS ⟨c, a⟩ p) := by simp [hitL, o1, o2, o3, Bool.or_assoc]
  rw [eh]
  cases hon : (onS ⟨a, b⟩ p || onS ⟨b, c⟩ p || onS ⟨c, a⟩ p) with
  | true => rfl
  | false =>
    simp only [Bool.or_eq_false_iff] at hon
    obtain ⟨⟨n1, n2⟩, n3⟩ := hon
    rw [onR_onS _ _ ((near3 _ _ _).2 ⟨ha, hb, hp⟩)] at n1
    rw [onR_onS _ _ ((near3 _ _ _).2 ⟨hb, hc, hp⟩)] at n2
    rw [onR_onS _ _ ((near3 _ _ _).2 ⟨hc, ha, hp⟩)] at n3
    have c1 : cross b c a = cross a b c := by unfold cross; grind
    have c2 : cross c a b = cross a b c := by unfold cross; grind
    have w := tri_core (a.y - p.y) (b.y - p.y) (c.y - p.y) (cross a b p) (cross b c p) (cross c a p) (by unfold cross; grind)
      (by rintro ⟨h1, h2, h3⟩
          apply hk
          have e1 : b.y = a.y := by omega
          have e2 : c.y = a.y := by omega
          unfold cross; rw [e1, e2]; grind)
      (fun h0 => ⟨(fun hw => (by rw [on_of a b c p hk h0 (.inl hw)] at n1; cases n1)), (fun hw => (by rw [on_of a b c p hk h0 (.inr hw)] at n1; cases n1))⟩)
      (fun h0 => ⟨(fun hw => (by rw [on_of b c a p (by rw [c1]; exact hk) h0 (.inl ⟨hw.2, hw.1⟩)] at n2; cases n2)), (fun hw => (by rw [on_of b c a p (by rw [c1]; exact hk) h0 (.inr ⟨hw.2, hw.1⟩)] at n2; cases n2))⟩)
      (fun h0 => ⟨(fun hw => (by rw [on_of c a b p (by rw [c2]; exact hk) h0 (.inl hw)] at n3; cases n3)), (fun hw => (by rw [on_of c a b p (by rw [c2]; exact hk) h0 (.inr hw)] at n3; cases n3))⟩)
    have ew : windL p [(0, ⟨a, b⟩), (1, ⟨b, c⟩), (2, ⟨c, a⟩)] = if 0 < cross a b p ∧ 0 < cross b c p ∧ 0 < cross c a p then 1 else if cross a b p < 0 ∧ cross b c p < 0 ∧ cross c a p < 0 then -1 else 0 := by
      rw [← w]
      simp only [windL, windS_chi, Int.add_zero]
      rw [Int.add_assoc]
      have q : ∀ x y : Pt, chi x y p = if x.y - p.y ≤ 0 ∧ 0 < y.y - p.y ∧ 0 < cross x y p then 1 else if y.y - p.y ≤ 0 ∧ 0 < x.y - p.y ∧ cross x y p < 0 then -1 else 0 := by
        intro x y
        unfold chi
        (repeat' split) <;> omega
      rw [q, q, q]
    rw [ew]
    have s1 := orient_sgn a b p ((near3 _ _ _).2 ⟨ha, hb, hp⟩)
    have s2 := orient_sgn b c p ((near3 _ _ _).2 ⟨hb, hc, hp⟩)
    have s3 := orient_sgn c a p ((near3 _ _ _).2 ⟨hc, ha, hp⟩)
    have s4 := orient_sgn a b c hn
    have hsum : cross a b p + cross b c p + cross c a p = cross a b c := by unfold cross; grind
    simp only [Bool.and_eq_true, beq_iff_eq, Bool.false_eq_true, if_false]
    clear ew w eh o1 o2 o3 e1 hs
    generalize orient a b p = x1 at *
    generalize orient b c p = x2 at *
    generalize orient c a p = x3 at *
    generalize orient a b c = x4 at *
    rcases s1 with s1 | s1 | s1 <;> rcases s2 with s2 | s2 | s2 <;> rcases s3 with s3 | s3 | s3 <;> (repeat' split) <;> omega
end Go.Proofs.PlRing
