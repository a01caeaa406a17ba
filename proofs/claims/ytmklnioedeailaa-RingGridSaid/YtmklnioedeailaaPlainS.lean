/-
  The plain law of GeomShares: common points of two segments, and how they meet. No program in sight.
-/
import Derived.Test.YtmklnioedeailaaPlainM
namespace Go.Proofs.PlGeom

theorem cmpP_le_iff (a b : Pt) : cmpP a b ≤ 0 ↔ (a.x < b.x ∨ (a.x = b.x ∧ a.y ≤ b.y)) := by
  unfold cmpP cmpI; (repeat' split) <;> omega
theorem cmpP_lt_iff (a b : Pt) : cmpP a b < 0 ↔ (a.x < b.x ∨ (a.x = b.x ∧ a.y < b.y)) := by
  unfold cmpP cmpI; (repeat' split) <;> omega
theorem cmpP_eq_iff (a b : Pt) : cmpP a b = 0 ↔ (a.x = b.x ∧ a.y = b.y) := by
  unfold cmpP cmpI; (repeat' split) <;> omega
theorem pt_ext {a b : Pt} (h1 : a.x = b.x) (h2 : a.y = b.y) : a = b := by cases a; cases b; simp_all

/-- What On says of a sorted segment. -/
theorem onS_sorted (s : Sg) (p : Pt) (h : cmpP s.a s.b ≤ 0) (h1 : nearB s.a = true) (h2 : nearB s.b = true) (h3 : nearB p = true) :
    onS s p = true ↔ (cross s.a s.b p = 0 ∧ cmpP s.a p ≤ 0 ∧ cmpP p s.b ≤ 0) := by
  have hs := sortS_of_le s h
  have hz := orient_zero s.a s.b p (by simp [nearL, h1, h2, h3])
  unfold onS
  rw [hs]
  simp only [nearL, h1, h2, h3, Bool.and_true, Bool.true_and, Bool.and_eq_true, beq_iff_eq, decide_eq_true_eq, Bool.or_eq_true, hz, and_assoc]
  constructor
  · rintro ⟨g1, g2, g3, _⟩; exact ⟨g1, g2, g3⟩
  · rintro ⟨g1, g2, g3⟩
    refine ⟨g1, g2, g3, ?_⟩
    rcases Decidable.em (s.a = s.b) with e | e
    · right
      rw [cmpP_le_iff] at g2 g3
      rw [← e] at g3
      exact pt_ext (by omega) (by omega)
    · exact .inl e

theorem onS_sortS (s : Sg) (p : Pt) : onS (sortS s) p = onS s p := by
  have h := sortS_of_le (sortS s) (sortS_le s)
  unfold onS
  rw [h]
  congr 1
  unfold sortS
  split
  · exact nearL_back s.a s.b p p |> fun _ => by
      rw [Bool.eq_iff_iff]; simp only [nearL, Bool.and_true, Bool.and_eq_true]
      constructor <;> (rintro ⟨h1, h2, h3⟩; exact ⟨h2, h1, h3⟩)
  · rfl

/-- Three points on the line of two different ones are on a line. -/
theorem three_line (p q x y z : Pt) (hpq : p ≠ q) (h1 : cross p q x = 0) (h2 : cross p q y = 0) (h3 : cross p q z = 0) : cross x y z = 0 := by
  obtain ⟨px, py⟩ := p
  obtain ⟨qx, qy⟩ := q
  obtain ⟨xx, xy⟩ := x
  obtain ⟨yx, yy⟩ := y
  obtain ⟨zx, zy⟩ := z
  simp only [cross] at *
  have hne : qx - px ≠ 0 ∨ qy - py ≠ 0 := by
    rcases Decidable.em (qx - px = 0) with h | h
    · right; intro h'; apply hpq; rw [Pt.mk.injEq]; omega
    · exact .inl h
  have e1 : (qx - px) * ((yx - xx) * (zy - xy) - (yy - xy) * (zx - xx)) = 0 := by grind
  have e2 : (qy - py) * ((yx - xx) * (zy - xy) - (yy - xy) * (zx - xx)) = 0 := by grind
  rcases hne with h | h
  · exact (Int.mul_eq_zero.1 e1).resolve_left h
  · exact (Int.mul_eq_zero.1 e2).resolve_left h

/-- A point of a segment as a mean of the ends. -/
theorem mean (a b p : Pt) (hab : cmpP a b < 0) (hc : cross a b p = 0) (h1 : cmpP a p ≤ 0) (h2 : cmpP p b ≤ 0) :
    ∃ m n : Int, 0 ≤ m ∧ 0 ≤ n ∧ 0 < m + n ∧ (m + n) * p.x = m * a.x + n * b.x ∧ (m + n) * p.y = m * a.y + n * b.y := by
  rw [cmpP_lt_iff] at hab
  rw [cmpP_le_iff] at h1 h2
  unfold cross at hc
  rcases Decidable.em (a.x = b.x) with h | h
  · refine ⟨b.y - p.y, p.y - a.y, by omega, by omega, by omega, ?_, by grind⟩
    have e : p.x = a.x := by omega
    rw [e, ← h]; grind
  · exact ⟨b.x - p.x, p.x - a.x, by omega, by omega, by omega, by grind, by grind⟩
theorem mean_cross (a b p u v : Pt) (m n : Int) (h1 : (m + n) * p.x = m * a.x + n * b.x) (h2 : (m + n) * p.y = m * a.y + n * b.y) :
    (m + n) * cross u v p = m * cross u v a + n * cross u v b := by
  unfold cross; grind

/-- A mean of the ends is between them. -/
theorem mean_lex (a b p : Pt) (m n : Int) (hab : cmpP a b < 0) (hm : 0 ≤ m) (hn : 0 ≤ n) (hs : 0 < m + n) (h1 : (m + n) * p.x = m * a.x + n * b.x) (h2 : (m + n) * p.y = m * a.y + n * b.y) :
    cmpP a p ≤ 0 ∧ cmpP p b ≤ 0 := by
  rw [cmpP_lt_iff] at hab
  rw [cmpP_le_iff, cmpP_le_iff]
  have key : ∀ s x y t z : Int, 0 < s → s * (x - y) = t * z → 0 ≤ t → (0 ≤ z → y ≤ x) ∧ (0 < t → 0 < z → y < x) ∧ (t = 0 → x = y) ∧ (z = 0 → x = y) := by
    intro s x y t z hs he ht
    refine ⟨fun hz => ?_, fun ht hz => ?_, fun e => ?_, fun e => ?_⟩
    · rcases (by omega : y ≤ x ∨ 0 < y - x) with g | g
      · exact g
      · have k1 := Int.mul_pos hs g
        have k2 := Int.mul_nonneg ht hz
        have k3 : s * (y - x) = -(s * (x - y)) := by grind
        omega
    · rcases (by omega : y < x ∨ 0 ≤ y - x) with g | g
      · exact g
      · have k1 := Int.mul_nonneg (show 0 ≤ s by omega) g
        have k2 := Int.mul_pos ht hz
        have k3 : s * (y - x) = -(s * (x - y)) := by grind
        omega
    · rw [e, Int.zero_mul] at he
      have := (Int.mul_eq_zero.1 he).resolve_left (by omega)
      omega
    · rw [e, Int.mul_zero] at he
      have := (Int.mul_eq_zero.1 he).resolve_left (by omega)
      omega
  obtain ⟨x1, x2, x3, x4⟩ := key (m + n) p.x a.x n (b.x - a.x) hs (by grind) hn
  obtain ⟨y1, y2, y3, y4⟩ := key (m + n) p.y a.y n (b.y - a.y) hs (by grind) hn
  obtain ⟨u1, u2, u3, u4⟩ := key (m + n) b.x p.x m (b.x - a.x) hs (by grind) hm
  obtain ⟨v1, v2, v3, v4⟩ := key (m + n) b.y p.y m (b.y - a.y) hs (by grind) hm
  rcases hab with h | ⟨h, h'⟩
  · constructor
    · rcases (by omega : n = 0 ∨ 0 < n) with e | e
      · have := x3 e; have := y3 e; omega
      · have := x2 e (by omega); omega
    · rcases (by omega : m = 0 ∨ 0 < m) with e | e
      · have := u3 e; have := v3 e; omega
      · have := u2 e (by omega); omega
  · have e1 := x4 (by omega)
    have e2 := u4 (by omega)
    have e3 := y1 (by omega)
    have e4 := v1 (by omega)
    omega

/-- The point in which two lines cross, as a mean. -/
theorem inter (a b c d : Pt) (h : cross a b c = 0) :
    (cross c d a - cross c d b) * c.x = cross c d a * b.x - cross c d b * a.x ∧ (cross c d a - cross c d b) * c.y = cross c d a * b.y - cross c d b * a.y := by
  unfold cross at *
  constructor <;> grind

theorem orient_sgn (a b c : Pt) (h : nearL [a, b, c] = true) : (cross a b c < 0 ∧ orient a b c = -1) ∨ (0 < cross a b c ∧ orient a b c = 1) ∨ (cross a b c = 0 ∧ orient a b c = 0) := by
  unfold orient; rw [if_pos h]; exact cmpI_cases _ _

theorem low_cases (s t : Sg) : (lowP s t = s.a ∧ cmpP t.a s.a ≤ 0) ∨ (lowP s t = t.a ∧ cmpP s.a t.a < 0) := by
  unfold lowP
  have := cmpP_neg t.a s.a
  split
  · right; exact ⟨rfl, by omega⟩
  · left; exact ⟨rfl, by omega⟩
theorem high_cases (s t : Sg) : (highP s t = s.b ∧ cmpP s.b t.b ≤ 0) ∨ (highP s t = t.b ∧ cmpP t.b s.b < 0) := by
  unfold highP
  have := cmpP_neg t.b s.b
  split
  · right; exact ⟨rfl, by omega⟩
  · left; exact ⟨rfl, by omega⟩

def endsB (s t : Sg) : Bool := onS t s.a || onS t s.b || onS s t.a || onS s t.b
def apartB (s t : Sg) : Bool := decide (orient s.a s.b t.a * orient s.a s.b t.b < 0) && decide (orient t.a t.b s.a * orient t.a t.b s.b < 0)

structure Shares (s t : Sg) (k : Int) : Prop where
  one : ∀ p, nearB p = true → onS s p = true → onS t p = true → k ≠ 0
  two : ∀ p q, nearB p = true → nearB q = true → onS s p = true → onS t p = true → onS s q = true → onS t q = true → p ≠ q → k = 4 ∨ k = 5
  apart : apartB s t = true ↔ k = 3
  ends : endsB s t = true ↔ (k ≠ 0 ∧ k ≠ 3)

theorem endsB_symm (s t : Sg) : endsB s t = true ↔ endsB t s = true := by
  unfold endsB; simp only [Bool.or_eq_true]
  constructor <;> (rintro (((h | h) | h) | h) <;> simp [h])
theorem apartB_symm (s t : Sg) : apartB s t = apartB t s := by
  unfold apartB; rw [Bool.and_comm]
theorem Shares.symm {s t : Sg} {k : Int} (h : Shares s t k) : Shares t s k :=
  ⟨fun p hp h1 h2 => h.one p hp h2 h1, fun p q hp hq h1 h2 h3 h4 => h.two p q hp hq h2 h1 h4 h3, by rw [apartB_symm]; exact h.apart, (endsB_symm t s).trans h.ends⟩

theorem orient_pt (a c : Pt) : orient a a c = 0 := by
  have : cross a a c = 0 := by unfold cross; grind
  unfold orient
  split
  · rw [this]; rfl
  · rfl
theorem on_ends (s : Sg) (h : cmpP s.a s.b ≤ 0) (h1 : nearB s.a = true) (h2 : nearB s.b = true) : onS s s.a = true ∧ onS s s.b = true := by
  have c1 := (cmpP_zero s.a s.a).2 rfl
  have c2 := (cmpP_zero s.b s.b).2 rfl
  obtain ⟨e1, e2⟩ := cross_ends s.a s.b
  exact ⟨(onS_sorted s s.a h h1 h2 h1).2 ⟨e1, by omega, h⟩, (onS_sorted s s.b h h1 h2 h2).2 ⟨e2, h, by omega⟩⟩

/-- One of them is a point. -/
theorem shares_pt (s : Sg) (c : Pt) (hs : cmpP s.a s.b ≤ 0) (n1 : nearB s.a = true) (n2 : nearB s.b = true) (n3 : nearB c = true) : Shares s ⟨c, c⟩ (onP c s) := by
  have hc : cmpP c c ≤ 0 := by rw [(cmpP_zero c c).2 rfl]; exact Int.le_refl _
  have on1 : ∀ p, nearB p = true → onS ⟨c, c⟩ p = true → p = c := by
    intro p hp h
    obtain ⟨_, h1, h2⟩ := (onS_sorted ⟨c, c⟩ p hc n3 n3 hp).1 h
    rw [cmpP_le_iff] at h1 h2
    simp only at h1 h2
    exact pt_ext (by omega) (by omega)
  have hk : onP c s = 0 ∨ onP c s = 1 ∨ onP c s = 2 := by unfold onP; (repeat' split) <;> simp
  have hk0 : onS s c = true ↔ onP c s ≠ 0 := by
    unfold onP
    by_cases h : onS s c = true
    · rw [if_pos h]; simp only [h, true_iff]; split <;> decide
    · rw [if_neg h]; simp [h]
  obtain ⟨e1, e2⟩ := on_ends s hs n1 n2
  refine ⟨fun p hp h1 h2 => ?_, fun p q hp hq h1 h2 h3 h4 hne => ?_, ?_, ?_⟩
  · have := on1 p hp h2; subst this; exact hk0.1 h1
  · exact absurd ((on1 p hp h2).trans (on1 q hq h4).symm) hne
  · have : apartB s ⟨c, c⟩ = false := by unfold apartB; simp [orient_pt]
    rw [this]
    constructor
    · intro h; exact absurd h (by decide)
    · intro h; omega
  · have : endsB s ⟨c, c⟩ = true ↔ onS s c = true := by
      unfold endsB
      simp only [Bool.or_eq_true]
      constructor
      · rintro (((h | h) | h) | h)
        · rw [← on1 _ n1 h]; exact e1
        · rw [← on1 _ n2 h]; exact e2
        · exact h
        · exact h
      · intro h; simp [h]
    rw [this, hk0]
    omega

/-- Both on one line. -/
theorem shares_line (s t : Sg) (hs : cmpP s.a s.b < 0) (ht : cmpP t.a t.b < 0) (n1 : nearB s.a = true) (n2 : nearB s.b = true) (n3 : nearB t.a = true) (n4 : nearB t.b = true)
    (h1 : cross s.a s.b t.a = 0) (h2 : cross s.a s.b t.b = 0) : Shares s t (overC (cmpP (lowP s t) (highP s t))) := by
  obtain ⟨h3, h4⟩ := line_swap s.a s.b t.a t.b (fun e => by rw [(cmpP_zero s.a s.b).2 e] at hs; omega) h1 h2
  have os := fun p hp => onS_sorted s p (by omega) n1 n2 hp
  have ot := fun p hp => onS_sorted t p (by omega) n3 n4 hp
  have hlow := low_cases s t
  have hhigh := high_cases s t
  have hkc := cmpP_cases (lowP s t) (highP s t)
  have c0 := cmpP_eq_iff (lowP s t) (highP s t)
  have c1 := cmpP_lt_iff (lowP s t) (highP s t)
  have c2 := cmpP_le_iff (lowP s t) (highP s t)
  have hs' := hs
  have ht' := ht
  rw [cmpP_lt_iff] at hs' ht'
  rw [cmpP_le_iff, cmpP_lt_iff] at hlow hhigh
  obtain ⟨L, hL⟩ : ∃ L, lowP s t = L := ⟨_, rfl⟩
  obtain ⟨G, hG⟩ : ∃ G, highP s t = G := ⟨_, rfl⟩
  rw [hL] at hlow
  rw [hG] at hhigh
  rw [hL, hG] at hkc c0 c1 c2 ⊢
  have hk : ∀ k, overC (cmpP L G) = k → (k = 5 ∧ cmpP L G < 0) ∨ (k = 1 ∧ cmpP L G = 0) ∨ (k = 0 ∧ 0 < cmpP L G) := by
    intro k hk
    unfold overC at hk
    rcases hkc with e | e | e <;> rw [e] at hk ⊢ <;> simp at hk <;> omega
  obtain ⟨k, hkk⟩ : ∃ k, overC (cmpP L G) = k := ⟨_, rfl⟩
  have hk := hk k hkk
  rw [hkk]
  clear hkk
  have hin : ∀ p, nearB p = true → onS s p = true → onS t p = true → cmpP L p ≤ 0 ∧ cmpP p G ≤ 0 := by
    intro p hp g1 g2
    obtain ⟨_, a1, a2⟩ := (os p hp).1 g1
    obtain ⟨_, a3, a4⟩ := (ot p hp).1 g2
    constructor
    · rcases hlow with ⟨e, _⟩ | ⟨e, _⟩ <;> rw [e] <;> assumption
    · rcases hhigh with ⟨e, _⟩ | ⟨e, _⟩ <;> rw [e] <;> assumption
  have hone : ∀ p, nearB p = true → onS s p = true → onS t p = true → k ≠ 0 := by
    intro p hp g1 g2
    obtain ⟨i1, i2⟩ := hin p hp g1 g2
    rw [cmpP_le_iff] at i1 i2
    have : cmpP L G ≤ 0 := c2.2 (by omega)
    omega
  obtain ⟨es1, es2⟩ := on_ends s (by omega) n1 n2
  obtain ⟨et1, et2⟩ := on_ends t (by omega) n3 n4
  refine ⟨hone, fun p q hp hq g1 g2 g3 g4 hne => ?_, ?_, ?_⟩
  · obtain ⟨i1, i2⟩ := hin p hp g1 g2
    obtain ⟨i3, i4⟩ := hin q hq g3 g4
    rw [cmpP_le_iff] at i1 i2 i3 i4
    have hne' : ¬ (p.x = q.x ∧ p.y = q.y) := fun h => hne (pt_ext h.1 h.2)
    have : cmpP L G < 0 := c1.2 (by omega)
    omega
  · have : apartB s t = false := by
      have z := (orient_zero s.a s.b t.a (by simp [nearL, n1, n2, n3])).2 h1
      unfold apartB; rw [z]; simp
    rw [this]
    constructor
    · intro h; exact absurd h (by decide)
    · intro h; omega
  · unfold endsB
    simp only [Bool.or_eq_true]
    constructor
    · rintro (((h | h) | h) | h)
      · have := hone _ n1 es1 h; omega
      · have := hone _ n2 es2 h; omega
      · have := hone _ n3 h et1; omega
      · have := hone _ n4 h et2; omega
    · intro h
      have hle : cmpP L G ≤ 0 := by omega
      rw [c2] at hle
      rcases hlow with ⟨e, g⟩ | ⟨e, g⟩
      · refine .inl (.inl (.inl ((ot _ n1).2 ⟨h3, ?_, ?_⟩)))
        · rw [cmpP_le_iff]; exact g
        · rw [cmpP_le_iff]; rw [e] at hle; rcases hhigh with ⟨e2, g2⟩ | ⟨e2, g2⟩ <;> rw [e2] at hle <;> omega
      · refine .inl (.inr ((os _ n3).2 ⟨h1, ?_, ?_⟩))
        · rw [cmpP_le_iff]; omega
        · rw [cmpP_le_iff]; rw [e] at hle; rcases hhigh with ⟨e2, g2⟩ | ⟨e2, g2⟩ <;> rw [e2] at hle <;> omega

/-- An end on the other one's line, and the ends of this one on both sides: it is on it. -/
theorem end_on (s : Sg) (c d : Pt) (hs : cmpP s.a s.b < 0) (n1 : nearB s.a = true) (n2 : nearB s.b = true) (n3 : nearB c = true)
    (h : cross s.a s.b c = 0) (h1 : ¬ (cross c d s.a = 0 ∧ cross c d s.b = 0)) (h2 : (0 ≤ cross c d s.a ∧ cross c d s.b ≤ 0) ∨ (cross c d s.a ≤ 0 ∧ 0 ≤ cross c d s.b)) : onS s c = true := by
  obtain ⟨i1, i2⟩ := inter s.a s.b c d h
  rw [onS_sorted s c (by omega) n1 n2 n3]
  refine ⟨h, ?_⟩
  generalize cross c d s.a = A at *
  generalize cross c d s.b = B at *
  rcases h2 with ⟨g1, g2⟩ | ⟨g1, g2⟩
  · exact mean_lex s.a s.b c (-B) A hs (by omega) (by omega) (by omega) (by grind) (by grind)
  · exact mean_lex s.a s.b c B (-A) hs (by omega) (by omega) (by omega) (by grind) (by grind)

theorem sgn_prod (x y o p : Int) (hx : (x < 0 ∧ o = -1) ∨ (0 < x ∧ o = 1) ∨ (x = 0 ∧ o = 0)) (hy : (y < 0 ∧ p = -1) ∨ (0 < y ∧ p = 1) ∨ (y = 0 ∧ p = 0)) :
    (0 < o * p ↔ (0 < x ∧ 0 < y) ∨ (x < 0 ∧ y < 0)) ∧ (o * p < 0 ↔ (0 < x ∧ y < 0) ∨ (x < 0 ∧ 0 < y)) ∧ (o * p = 0 ↔ x = 0 ∨ y = 0) := by
  rcases hx with ⟨h, rfl⟩ | ⟨h, rfl⟩ | ⟨h, rfl⟩ <;> rcases hy with ⟨h', rfl⟩ | ⟨h', rfl⟩ | ⟨h', rfl⟩ <;> omega
theorem crossC_iff (a b c d k : Int) (h : crossC a b c d = k) : (k = 0 ↔ (0 < a * b ∨ 0 < c * d)) ∧ (k = 3 ↔ (a * b < 0 ∧ c * d < 0)) := by
  unfold crossC at h
  generalize a * b = P at *
  generalize c * d = Q at *
  split at h
  · omega
  · split at h
    · omega
    · split at h <;> omega
theorem side (a b c d p : Pt) (hcd : cmpP c d < 0) (e1 : cross a b p = 0) (e2 : cross c d p = 0) (e3 : cmpP c p ≤ 0) (e4 : cmpP p d ≤ 0) : ¬ ((0 < cross a b c ∧ 0 < cross a b d) ∨ (cross a b c < 0 ∧ cross a b d < 0)) := by
  intro hc
  obtain ⟨m, n, hm, hn, hmn, x1, x2⟩ := mean c d p hcd e2 e3 e4
  have hx := mean_cross c d p a b m n x1 x2
  rw [e1, Int.mul_zero] at hx
  rcases hc with ⟨c1, c2⟩ | ⟨c1, c2⟩
  · have k1 := Int.mul_nonneg hm (show 0 ≤ cross a b c by omega)
    have k2 := Int.mul_nonneg hn (show 0 ≤ cross a b d by omega)
    rcases (by omega : 0 < m ∨ 0 < n) with g | g
    · have := Int.mul_pos g c1; omega
    · have := Int.mul_pos g c2; omega
  · have k1 := Int.mul_nonneg hm (show 0 ≤ -cross a b c by omega)
    have k2 := Int.mul_nonneg hn (show 0 ≤ -cross a b d by omega)
    rw [Int.mul_neg] at k1 k2
    rcases (by omega : 0 < m ∨ 0 < n) with g | g
    · have := Int.mul_pos g (show 0 < -cross a b c by omega); rw [Int.mul_neg] at this; omega
    · have := Int.mul_pos g (show 0 < -cross a b d by omega); rw [Int.mul_neg] at this; omega
theorem sides (x y : Int) (h : ¬ ((0 < x ∧ 0 < y) ∨ (x < 0 ∧ y < 0))) : (0 ≤ x ∧ y ≤ 0) ∨ (x ≤ 0 ∧ 0 ≤ y) := by omega
theorem cross_back (c d a : Pt) : cross d c a = -cross c d a := by unfold cross; grind

/-- Neither is a point, and they are not on one line. -/
theorem shares_cross (s t : Sg) (hs : cmpP s.a s.b < 0) (ht : cmpP t.a t.b < 0) (n1 : nearB s.a = true) (n2 : nearB s.b = true) (n3 : nearB t.a = true) (n4 : nearB t.b = true)
    (h : ¬ (orient s.a s.b t.a = 0 ∧ orient s.a s.b t.b = 0)) : Shares s t (crossC (orient s.a s.b t.a) (orient s.a s.b t.b) (orient t.a t.b s.a) (orient t.a t.b s.b)) := by
  have hsne : s.a ≠ s.b := fun e => by rw [(cmpP_zero s.a s.b).2 e] at hs; omega
  have htne : t.a ≠ t.b := fun e => by rw [(cmpP_zero t.a t.b).2 e] at ht; omega
  have h' : ¬ (cross s.a s.b t.a = 0 ∧ cross s.a s.b t.b = 0) := fun e => h ⟨(orient_zero _ _ _ (by simp [nearL, n1, n2, n3])).2 e.1, (orient_zero _ _ _ (by simp [nearL, n1, n2, n4])).2 e.2⟩
  have h'' : ¬ (cross t.a t.b s.a = 0 ∧ cross t.a t.b s.b = 0) := fun e => h' (line_swap t.a t.b s.a s.b htne e.1 e.2)
  have os := fun p hp => onS_sorted s p (Int.le_of_lt hs) n1 n2 hp
  have ot := fun p hp => onS_sorted t p (Int.le_of_lt ht) n3 n4 hp
  obtain ⟨p1, p2, p3⟩ := sgn_prod _ _ _ _ (orient_sgn s.a s.b t.a (by simp [nearL, n1, n2, n3])) (orient_sgn s.a s.b t.b (by simp [nearL, n1, n2, n4]))
  obtain ⟨q1, q2, q3⟩ := sgn_prod _ _ _ _ (orient_sgn t.a t.b s.a (by simp [nearL, n3, n4, n1])) (orient_sgn t.a t.b s.b (by simp [nearL, n3, n4, n2]))
  have hap : apartB s t = true ↔ (orient s.a s.b t.a * orient s.a s.b t.b < 0 ∧ orient t.a t.b s.a * orient t.a t.b s.b < 0) := by unfold apartB; simp
  have hno : ∀ p, nearB p = true → onS s p = true → onS t p = true → ¬ (0 < orient s.a s.b t.a * orient s.a s.b t.b) ∧ ¬ (0 < orient t.a t.b s.a * orient t.a t.b s.b) := by
    intro p hp c1 c2
    obtain ⟨a1, a2, a3⟩ := (os p hp).1 c1
    obtain ⟨b1, b2, b3⟩ := (ot p hp).1 c2
    rw [p1, q1]
    exact ⟨side s.a s.b t.a t.b p ht a1 b1 b2 b3, side t.a t.b s.a s.b p hs b1 a1 a2 a3⟩
  obtain ⟨k, hkk⟩ : ∃ k, crossC (orient s.a s.b t.a) (orient s.a s.b t.b) (orient t.a t.b s.a) (orient t.a t.b s.b) = k := ⟨_, rfl⟩
  rw [hkk]
  obtain ⟨hk0, hk3⟩ := crossC_iff _ _ _ _ _ hkk
  clear hkk h
  generalize orient s.a s.b t.a * orient s.a s.b t.b = P at *
  generalize orient t.a t.b s.a * orient t.a t.b s.b = Q at *
  obtain ⟨es1, es2⟩ := on_ends s (Int.le_of_lt hs) n1 n2
  obtain ⟨et1, et2⟩ := on_ends t (Int.le_of_lt ht) n3 n4
  have hone : ∀ p, nearB p = true → onS s p = true → onS t p = true → k ≠ 0 := by
    intro p hp g1 g2 e
    obtain ⟨c1, c2⟩ := hno p hp g1 g2
    rcases hk0.1 e with c | c
    · exact c1 c
    · exact c2 c
  refine ⟨hone, fun p q hp hq c1 c2 c3 c4 hne => ?_, hap.trans hk3.symm, ?_⟩
  · obtain ⟨a1, _, _⟩ := (os p hp).1 c1
    obtain ⟨a2, _, _⟩ := (ot p hp).1 c2
    obtain ⟨a3, _, _⟩ := (os q hq).1 c3
    obtain ⟨a4, _, _⟩ := (ot q hq).1 c4
    obtain ⟨b1, b2⟩ := line_swap s.a s.b p q hsne a1 a3
    obtain ⟨b3, b4⟩ := line_swap t.a t.b p q htne a2 a4
    exact absurd ⟨three_line p q s.a s.b t.a hne b1 b2 b3, three_line p q s.a s.b t.b hne b1 b2 b4⟩ h'
  · unfold endsB
    simp only [Bool.or_eq_true]
    have noQ : Q = 0 → k ≠ 3 := fun e h3 => by have := (hk3.1 h3).2; rw [e] at this; exact absurd this (by decide)
    have noP : P = 0 → k ≠ 3 := fun e h3 => by have := (hk3.1 h3).1; rw [e] at this; exact absurd this (by decide)
    constructor
    · rintro (((c | c) | c) | c)
      · exact ⟨hone _ n1 es1 c, noQ (q3.2 (.inl ((ot _ n1).1 c).1))⟩
      · exact ⟨hone _ n2 es2 c, noQ (q3.2 (.inr ((ot _ n2).1 c).1))⟩
      · exact ⟨hone _ n3 c et1, noP (p3.2 (.inl ((os _ n3).1 c).1))⟩
      · exact ⟨hone _ n4 c et2, noP (p3.2 (.inr ((os _ n4).1 c).1))⟩
    · rintro ⟨k0, k3⟩
      have f1 : ¬ 0 < P := fun e => k0 (hk0.2 (.inl e))
      have f2 : ¬ 0 < Q := fun e => k0 (hk0.2 (.inr e))
      have f3 : P = 0 ∨ Q = 0 := by
        have : ¬ (P < 0 ∧ Q < 0) := fun e => k3 (hk3.2 e)
        clear p1 p2 p3 q1 q2 q3 hk0 hk3 hap
        omega
      have tsides := sides _ _ (mt p1.2 f1)
      have hsides := sides _ _ (mt q1.2 f2)
      have bk : ∀ c d a b : Pt, ((0 ≤ cross c d a ∧ cross c d b ≤ 0) ∨ (cross c d a ≤ 0 ∧ 0 ≤ cross c d b)) → ¬ (cross c d a = 0 ∧ cross c d b = 0) → ((0 ≤ cross d c a ∧ cross d c b ≤ 0) ∨ (cross d c a ≤ 0 ∧ 0 ≤ cross d c b)) ∧ ¬ (cross d c a = 0 ∧ cross d c b = 0) := by
        intro c d a b g1 g2
        rw [cross_back c d a, cross_back c d b]
        generalize cross c d a = A at *
        generalize cross c d b = B at *
        clear p1 p2 p3 q1 q2 q3 hk0 hk3 hap
        omega
      rcases f3 with z | z
      · rcases p3.1 z with z | z
        · exact .inl (.inr (end_on s t.a t.b hs n1 n2 n3 z h'' hsides))
        · obtain ⟨b1, b2⟩ := bk _ _ _ _ hsides h''
          exact .inr (end_on s t.b t.a hs n1 n2 n4 z b2 b1)
      · rcases q3.1 z with z | z
        · exact .inl (.inl (.inl (end_on t s.a s.b ht n3 n4 n1 z h' tsides)))
        · obtain ⟨b1, b2⟩ := bk _ _ _ _ tsides h'
          exact .inl (.inl (.inr (end_on t s.b s.a ht n3 n4 n2 z b2 b1)))

theorem shares_in (s t : Sg) (hs : cmpP s.a s.b ≤ 0) (ht : cmpP t.a t.b ≤ 0) (n1 : nearB s.a = true) (n2 : nearB s.b = true) (n3 : nearB t.a = true) (n4 : nearB t.b = true) : Shares s t (meetIn s t) := by
  have hn : nearL [s.a, s.b, t.a, t.b] = true := by simp [nearL, n1, n2, n3, n4]
  by_cases h0 : s = t
  · have hk : meetIn s t = 4 := by unfold meetIn; rw [if_pos h0]
    rw [hk]
    subst h0
    obtain ⟨e1, e2⟩ := on_ends s hs n1 n2
    refine ⟨fun _ _ _ _ => by decide, fun _ _ _ _ _ _ _ _ _ => .inl rfl, ?_, ?_⟩
    · have z := (orient_zero s.a s.b s.a (by simp [nearL, n1, n2])).2 (cross_ends s.a s.b).1
      unfold apartB; rw [z]; simp
    · unfold endsB; simp [e1]
  by_cases h1 : t.a = t.b
  · have hk : meetIn s t = onP t.a s := by unfold meetIn online; rw [if_neg h0, if_pos (.inr (.inl h1)), if_pos h1]
    rw [hk]
    obtain ⟨c, d⟩ := t
    simp only at h1 n3
    subst h1
    exact shares_pt s c hs n1 n2 n3
  by_cases h2 : s.a = s.b
  · have hk : meetIn s t = onP s.a t := by unfold meetIn online; rw [if_neg h0, if_pos (.inl h2), if_neg h1, if_pos h2]
    rw [hk]
    obtain ⟨c, d⟩ := s
    simp only at h2 n1
    subst h2
    exact (shares_pt t c ht n3 n4 n1).symm
  have hs' : cmpP s.a s.b < 0 := by have := mt (cmpP_zero s.a s.b).1 h2; omega
  have ht' : cmpP t.a t.b < 0 := by have := mt (cmpP_zero t.a t.b).1 h1; omega
  by_cases h3 : orient s.a s.b t.a = 0 ∧ orient s.a s.b t.b = 0
  · have hk : meetIn s t = overC (cmpP (lowP s t) (highP s t)) := by unfold meetIn online; rw [if_neg h0, if_pos (.inr (.inr h3)), if_neg h1, if_neg h2]
    rw [hk]
    exact shares_line s t hs' ht' n1 n2 n3 n4 ((orient_zero _ _ _ (by simp [nearL, n1, n2, n3])).1 h3.1) ((orient_zero _ _ _ (by simp [nearL, n1, n2, n4])).1 h3.2)
  · have hk : meetIn s t = crossC (orient s.a s.b t.a) (orient s.a s.b t.b) (orient t.a t.b s.a) (orient t.a t.b s.b) := by
      unfold meetIn; rw [if_neg h0, if_neg (by simp only [h1, h2, false_or]; exact h3)]
    rw [hk]
    exact shares_cross s t hs' ht' n1 n2 n3 n4 h3

theorem nearL_swap3 (a b c : Pt) : nearL [b, a, c] = nearL [a, b, c] := by
  rw [Bool.eq_iff_iff]; simp only [nearL, Bool.and_true, Bool.and_eq_true]
  constructor <;> (rintro ⟨h1, h2, h3⟩; exact ⟨h2, h1, h3⟩)
theorem orient_back (a b c : Pt) : orient b a c = -orient a b c := by
  have e : cross b a c = -cross a b c := by unfold cross; grind
  unfold orient
  rw [nearL_swap3, e]
  split
  · have h1 := cmpI_cases (-cross a b c) 0
    have h2 := cmpI_cases (cross a b c) 0
    omega
  · rfl
theorem sortS_case (s : Sg) : sortS s = s ∨ sortS s = ⟨s.b, s.a⟩ := by unfold sortS; split <;> simp
theorem apartB_sortS (s t : Sg) : apartB (sortS s) t = apartB s t := by
  rcases sortS_case s with e | e <;> rw [e]
  unfold apartB
  simp only
  rw [orient_back s.a s.b t.a, orient_back s.a s.b t.b, Int.neg_mul_neg, Int.mul_comm (orient t.a t.b s.b)]
theorem endsB_sortS (s t : Sg) : endsB (sortS s) t = endsB s t := by
  unfold endsB
  rw [onS_sortS, onS_sortS]
  rcases sortS_case s with e | e <;> rw [e]
  simp only
  rw [Bool.or_comm (onS t s.b)]

theorem shares_law (s t : Sg) (hn : nearL [s.a, s.b, t.a, t.b] = true) : Shares s t (meets s t) := by
  have h := hn
  simp only [nearL, Bool.and_true, Bool.and_eq_true] at h
  obtain ⟨n1, n2, n3, n4⟩ := h
  have m1 : nearB (sortS s).a = true ∧ nearB (sortS s).b = true := by rcases sortS_case s with e | e <;> rw [e] <;> exact ⟨by assumption, by assumption⟩
  have m2 : nearB (sortS t).a = true ∧ nearB (sortS t).b = true := by rcases sortS_case t with e | e <;> rw [e] <;> exact ⟨by assumption, by assumption⟩
  have := shares_in (sortS s) (sortS t) (sortS_le s) (sortS_le t) m1.1 m1.2 m2.1 m2.2
  have hk : meets s t = meetIn (sortS s) (sortS t) := by unfold meets; rw [if_pos hn]
  rw [hk]
  refine ⟨fun p hp h1 h2 => this.one p hp (by rw [onS_sortS]; exact h1) (by rw [onS_sortS]; exact h2), fun p q hp hq h1 h2 h3 h4 => this.two p q hp hq (by rw [onS_sortS]; exact h1) (by rw [onS_sortS]; exact h2) (by rw [onS_sortS]; exact h3) (by rw [onS_sortS]; exact h4), ?_, ?_⟩
  · rw [← this.apart, apartB_sortS, apartB_symm (s) , apartB_symm s (sortS t), apartB_sortS]
  · rw [← this.ends, endsB_sortS, endsB_symm s (sortS t), endsB_sortS, endsB_symm]
end Go.Proofs.PlGeom
