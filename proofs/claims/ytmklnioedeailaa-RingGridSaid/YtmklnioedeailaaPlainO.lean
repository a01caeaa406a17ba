/-
  The plain laws of the reference's On and Meets. No program in sight.
-/
import Derived.Test.YtmklnioedeailaaPlainS
namespace Go.Proofs.PlGeom

/-- The reference's On. -/
def onR (s : Sg) (p : Pt) : Bool := decide (s.a.x ≤ p.x ∨ s.b.x ≤ p.x) && decide (p.x ≤ s.a.x ∨ p.x ≤ s.b.x) && decide (s.a.y ≤ p.y ∨ s.b.y ≤ p.y) && decide (p.y ≤ s.a.y ∨ p.y ≤ s.b.y) && (cross s.a s.b p == 0)

theorem onR_onS (s : Sg) (p : Pt) (h : nearL [s.a, s.b, p] = true) : onS s p = onR s p := by
  have h' := h
  simp only [nearL, Bool.and_true, Bool.and_eq_true] at h'
  obtain ⟨n1, n2, n3⟩ := h'
  have hle := sortS_le s
  rw [← onS_sortS]
  have key : ∀ a b : Pt, nearB a = true → nearB b = true → cmpP a b ≤ 0 → (onS ⟨a, b⟩ p = true ↔ onR ⟨a, b⟩ p = true) := by
    intro a b ha hb hab
    rw [onS_sorted ⟨a, b⟩ p hab ha hb n3]
    simp only [onR, Bool.and_eq_true, decide_eq_true_eq, beq_iff_eq]
    rw [cmpP_le_iff, cmpP_le_iff]
    rw [cmpP_le_iff] at hab
    constructor
    · rintro ⟨hc, h1, h2⟩
      refine ⟨⟨⟨⟨by omega, by omega⟩, ?_⟩, ?_⟩, hc⟩
      · rcases (by omega : a.x = b.x ∨ a.x < b.x) with e | e
        · omega
        · obtain ⟨m, n, hm, hn, hmn, e1, e2⟩ := mean a b p ((cmpP_lt_iff a b).2 (by omega)) hc ((cmpP_le_iff a p).2 h1) ((cmpP_le_iff p b).2 h2)
          rcases (by omega : (a.y ≤ p.y ∨ b.y ≤ p.y) ∨ (p.y < a.y ∧ p.y < b.y)) with g | ⟨g1, g2⟩
          · exact g
          · have k1 := Int.mul_le_mul_of_nonneg_left (show p.y ≤ a.y - 1 by omega) hm
            have k2 := Int.mul_le_mul_of_nonneg_left (show p.y ≤ b.y - 1 by omega) hn
            have k3 : (m + n) * p.y = m * p.y + n * p.y := by grind
            have k4 : m * (a.y - 1) = m * a.y - m := by grind
            have k5 : n * (b.y - 1) = n * b.y - n := by grind
            omega
      · rcases (by omega : a.x = b.x ∨ a.x < b.x) with e | e
        · omega
        · obtain ⟨m, n, hm, hn, hmn, e1, e2⟩ := mean a b p ((cmpP_lt_iff a b).2 (by omega)) hc ((cmpP_le_iff a p).2 h1) ((cmpP_le_iff p b).2 h2)
          rcases (by omega : (p.y ≤ a.y ∨ p.y ≤ b.y) ∨ (a.y < p.y ∧ b.y < p.y)) with g | ⟨g1, g2⟩
          · exact g
          · have k1 := Int.mul_le_mul_of_nonneg_left (show a.y + 1 ≤ p.y by omega) hm
            have k2 := Int.mul_le_mul_of_nonneg_left (show b.y + 1 ≤ p.y by omega) hn
            have k3 : (m + n) * p.y = m * p.y + n * p.y := by grind
            have k4 : m * (a.y + 1) = m * a.y + m := by grind
            have k5 : n * (b.y + 1) = n * b.y + n := by grind
            omega
    · rintro ⟨⟨⟨⟨h1, h2⟩, h3⟩, h4⟩, hc⟩
      refine ⟨hc, ?_, ?_⟩
      · rcases (by omega : a.x < p.x ∨ a.x = p.x) with e | e
        · exact .inl e
        · rcases (by omega : a.x = b.x ∨ a.x < b.x) with f | f
          · omega
          · right
            refine ⟨e, ?_⟩
            unfold cross at hc
            simp only [← e, Int.sub_self, Int.mul_zero, Int.sub_zero] at hc
            have := (Int.mul_eq_zero.1 hc).resolve_left (by omega)
            omega
      · rcases (by omega : p.x < b.x ∨ p.x = b.x) with e | e
        · exact .inl e
        · rcases (by omega : a.x = b.x ∨ a.x < b.x) with f | f
          · omega
          · right
            refine ⟨e, ?_⟩
            unfold cross at hc
            have e2 : (b.x - a.x) * (p.y - a.y) - (b.y - a.y) * (p.x - a.x) = (b.x - a.x) * (p.y - b.y) := by rw [e]; grind
            rw [e2] at hc
            have := (Int.mul_eq_zero.1 hc).resolve_left (by omega)
            omega
  rcases sortS_case s with e | e
  · have := key s.a s.b n1 n2 (by rw [e] at hle; exact hle)
    rw [e, Bool.eq_iff_iff]; exact this
  · rw [e] at hle ⊢
    rw [Bool.eq_iff_iff, key s.b s.a n2 n1 hle]
    simp only [onR, Bool.and_eq_true, decide_eq_true_eq, beq_iff_eq]
    have : cross s.b s.a p = 0 ↔ cross s.a s.b p = 0 := by
      have : cross s.b s.a p = -cross s.a s.b p := by unfold cross; grind
      omega
    rw [this]
    constructor <;> (rintro ⟨⟨⟨⟨g1, g2⟩, g3⟩, g4⟩, g5⟩; exact ⟨⟨⟨⟨g1.symm, g2.symm⟩, g3.symm⟩, g4.symm⟩, g5⟩)

/-! What Meets says of common ends. -/
def inE (s : Sg) (c : Pt) : Prop := c = s.a ∨ c = s.b
structure Ends (s t : Sg) (k : Int) : Prop where
  five : k = 5 → ∃ p q, p ≠ q ∧ (inE s p ∨ inE t p) ∧ (inE s q ∨ inE t q) ∧ onS s p = true ∧ onS t p = true ∧ onS s q = true ∧ onS t q = true
  one : k = 1 → ∃ c, inE s c ∧ inE t c
  two : k = 2 → ∀ c, ¬ (inE s c ∧ inE t c)

theorem Ends.symm {s t : Sg} {k : Int} (h : Ends s t k) : Ends t s k :=
  ⟨fun e => by obtain ⟨p, q, h1, h2, h3, h4, h5, h6, h7⟩ := h.five e; exact ⟨p, q, h1, h2.symm, h3.symm, h5, h4, h7, h6⟩,
   fun e => by obtain ⟨c, h1, h2⟩ := h.one e; exact ⟨c, h2, h1⟩, fun e c hc => h.two e c ⟨hc.2, hc.1⟩⟩

theorem ends_pt (s : Sg) (c : Pt) : Ends s ⟨c, c⟩ (onP c s) := by
  refine ⟨fun e => ?_, fun e => ?_, fun e d hd => ?_⟩
  · unfold onP at e; (repeat' split at e) <;> omega
  · unfold onP at e
    split at e
    · split at e
      · exact ⟨c, by assumption, .inl rfl⟩
      · omega
    · omega
  · unfold onP at e
    obtain ⟨h1, h2⟩ := hd
    have : d = c := by rcases h2 with h2 | h2 <;> exact h2
    subst this
    split at e
    · split at e
      · omega
      · rename_i hn; exact hn h1
    · omega

theorem ends_line (s t : Sg) (hs : cmpP s.a s.b < 0) (ht : cmpP t.a t.b < 0) (n1 : nearB s.a = true) (n2 : nearB s.b = true) (n3 : nearB t.a = true) (n4 : nearB t.b = true)
    (h1 : cross s.a s.b t.a = 0) (h2 : cross s.a s.b t.b = 0) : Ends s t (overC (cmpP (lowP s t) (highP s t))) := by
  obtain ⟨h3, h4⟩ := line_swap s.a s.b t.a t.b (fun e => by rw [(cmpP_zero s.a s.b).2 e] at hs; omega) h1 h2
  have os := fun p hp => onS_sorted s p (by omega) n1 n2 hp
  have ot := fun p hp => onS_sorted t p (by omega) n3 n4 hp
  have hlow := low_cases s t
  have hhigh := high_cases s t
  have hs' := hs
  have ht' := ht
  rw [cmpP_lt_iff] at hs' ht'
  rw [cmpP_le_iff, cmpP_lt_iff] at hlow hhigh
  have hkc := cmpP_cases (lowP s t) (highP s t)
  have c0 := cmpP_eq_iff (lowP s t) (highP s t)
  have c1 := cmpP_lt_iff (lowP s t) (highP s t)
  obtain ⟨L, hL⟩ : ∃ L, lowP s t = L := ⟨_, rfl⟩
  obtain ⟨G, hG⟩ : ∃ G, highP s t = G := ⟨_, rfl⟩
  rw [hL] at hlow
  rw [hG] at hhigh
  rw [hL, hG] at hkc c0 c1 ⊢
  refine ⟨fun e => ?_, fun e => ?_, fun e => ?_⟩
  · have hlt : cmpP L G < 0 := by unfold overC at e; (repeat' split at e) <;> omega
    rw [c1] at hlt
    refine ⟨L, G, fun h => by rw [h] at hlt; omega, ?_, ?_, ?_, ?_, ?_, ?_⟩
    · rcases hlow with ⟨e, _⟩ | ⟨e, _⟩ <;> rw [e]
      · exact .inl (.inl rfl)
      · exact .inr (.inl rfl)
    · rcases hhigh with ⟨e, _⟩ | ⟨e, _⟩ <;> rw [e]
      · exact .inl (.inr rfl)
      · exact .inr (.inr rfl)
    · rcases hlow with ⟨e, g⟩ | ⟨e, g⟩ <;> rw [e]
      · exact (on_ends s (by omega) n1 n2).1
      · rw [e] at hlt
        refine (os _ n3).2 ⟨h1, (cmpP_le_iff _ _).2 (by omega), (cmpP_le_iff _ _).2 ?_⟩
        rcases hhigh with ⟨e2, g2⟩ | ⟨e2, g2⟩ <;> rw [e2] at hlt <;> omega
    · rcases hlow with ⟨e, g⟩ | ⟨e, g⟩ <;> rw [e]
      · rw [e] at hlt
        refine (ot _ n1).2 ⟨h3, (cmpP_le_iff _ _).2 (by omega), (cmpP_le_iff _ _).2 ?_⟩
        rcases hhigh with ⟨e2, g2⟩ | ⟨e2, g2⟩ <;> rw [e2] at hlt <;> omega
      · exact (on_ends t (by omega) n3 n4).1
    · rcases hhigh with ⟨e, g⟩ | ⟨e, g⟩ <;> rw [e]
      · exact (on_ends s (by omega) n1 n2).2
      · rw [e] at hlt
        refine (os _ n4).2 ⟨h2, (cmpP_le_iff _ _).2 ?_, (cmpP_le_iff _ _).2 (by omega)⟩
        rcases hlow with ⟨e2, g2⟩ | ⟨e2, g2⟩ <;> rw [e2] at hlt <;> omega
    · rcases hhigh with ⟨e, g⟩ | ⟨e, g⟩ <;> rw [e]
      · rw [e] at hlt
        refine (ot _ n2).2 ⟨h4, (cmpP_le_iff _ _).2 ?_, (cmpP_le_iff _ _).2 (by omega)⟩
        rcases hlow with ⟨e2, g2⟩ | ⟨e2, g2⟩ <;> rw [e2] at hlt <;> omega
      · exact (on_ends t (by omega) n3 n4).2
  · have hz : cmpP L G = 0 := by unfold overC at e; (repeat' split at e) <;> omega
    have hLG : L = G := pt_ext (c0.1 hz).1 (c0.1 hz).2
    rcases hlow with ⟨e1, g1⟩ | ⟨e1, g1⟩ <;> rcases hhigh with ⟨e2, g2⟩ | ⟨e2, g2⟩
    · rw [e1, e2] at hLG; rw [hLG] at hs'; omega
    · exact ⟨s.a, .inl rfl, .inr (by rw [← e1, hLG, e2])⟩
    · exact ⟨t.a, .inr (by rw [← e1, hLG, e2]), .inl rfl⟩
    · rw [e1, e2] at hLG; rw [hLG] at ht'; omega
  · unfold overC at e; (repeat' split at e) <;> omega

theorem ends_cross (s t : Sg) (hs : cmpP s.a s.b < 0) (ht : cmpP t.a t.b < 0) (n1 : nearB s.a = true) (n2 : nearB s.b = true) (n3 : nearB t.a = true) (n4 : nearB t.b = true)
    (h : ¬ (orient s.a s.b t.a = 0 ∧ orient s.a s.b t.b = 0)) : Ends s t (crossC (orient s.a s.b t.a) (orient s.a s.b t.b) (orient t.a t.b s.a) (orient t.a t.b s.b)) := by
  have hsne : s.a ≠ s.b := fun e => by rw [(cmpP_zero s.a s.b).2 e] at hs; omega
  have htne : t.a ≠ t.b := fun e => by rw [(cmpP_zero t.a t.b).2 e] at ht; omega
  have h' : ¬ (cross s.a s.b t.a = 0 ∧ cross s.a s.b t.b = 0) := fun e => h ⟨(orient_zero _ _ _ (by simp [nearL, n1, n2, n3])).2 e.1, (orient_zero _ _ _ (by simp [nearL, n1, n2, n4])).2 e.2⟩
  obtain ⟨p1, p2, p3⟩ := sgn_prod _ _ _ _ (orient_sgn s.a s.b t.a (by simp [nearL, n1, n2, n3])) (orient_sgn s.a s.b t.b (by simp [nearL, n1, n2, n4]))
  obtain ⟨q1, q2, q3⟩ := sgn_prod _ _ _ _ (orient_sgn t.a t.b s.a (by simp [nearL, n3, n4, n1])) (orient_sgn t.a t.b s.b (by simp [nearL, n3, n4, n2]))
  have swap : ∀ a b c : Pt, cross b a c = 0 → cross a b c = 0 := fun a b c e => by rw [cross_back] at e; omega
  have rot : ∀ a b c : Pt, cross a b c = 0 → cross a c b = 0 := fun a b c e => by unfold cross at *; grind
  -- an end of each on the other one's line: they are one point
  have same : ∀ a b c d : Pt, cross a b c = 0 → cross c d a = 0 → ¬ (cross a b c = 0 ∧ cross a b d = 0) → a = c := by
    intro a b c d e1 e2 e3
    rcases Decidable.em (a = c) with g | g
    · exact g
    · exfalso
      have f1 : cross a c a = 0 := (cross_ends a c).1
      have f2 : cross a c b = 0 := rot _ _ _ e1
      have f3 : cross a c c = 0 := (cross_ends a c).2
      have f4 : cross a c d = 0 := by
        have := rot _ _ _ e2
        exact swap _ _ _ this
      exact e3 ⟨three_line a c a b c g f1 f2 f3, three_line a c a b d g f1 f2 f4⟩
  refine ⟨fun e => ?_, fun e => ?_, fun e c hc => ?_⟩
  · unfold crossC at e; (repeat' split at e) <;> omega
  · have hz : orient s.a s.b t.a * orient s.a s.b t.b = 0 ∧ orient t.a t.b s.a * orient t.a t.b s.b = 0 := by
      unfold crossC at e
      split at e
      · omega
      · split at e
        · omega
        · split at e
          · assumption
          · omega
    rcases p3.1 hz.1 with z1 | z1 <;> rcases q3.1 hz.2 with z2 | z2
    · exact ⟨s.a, .inl rfl, .inl (same s.a s.b t.a t.b z1 z2 h')⟩
    · refine ⟨s.b, .inr rfl, .inl (same s.b s.a t.a t.b (swap _ _ _ z1) z2 fun g => h' ⟨swap _ _ _ g.1, swap _ _ _ g.2⟩)⟩
    · exact ⟨s.a, .inl rfl, .inr (same s.a s.b t.b t.a z1 (swap _ _ _ z2) fun g => h' ⟨g.2, g.1⟩)⟩
    · exact ⟨s.b, .inr rfl, .inr (same s.b s.a t.b t.a (swap _ _ _ z1) (swap _ _ _ z2) fun g => h' ⟨swap _ _ _ g.2, swap _ _ _ g.1⟩)⟩
  · have hz : ¬ (orient s.a s.b t.a * orient s.a s.b t.b = 0 ∧ orient t.a t.b s.a * orient t.a t.b s.b = 0) := by
      unfold crossC at e
      split at e
      · omega
      · split at e
        · omega
        · split at e
          · omega
          · assumption
    obtain ⟨c1, c2⟩ := hc
    refine hz ⟨p3.2 ?_, q3.2 ?_⟩
    · rcases c2 with c2 | c2
      · left; rw [← c2]; rcases c1 with c1 | c1 <;> rw [c1]
        · exact (cross_ends _ _).1
        · exact (cross_ends _ _).2
      · right; rw [← c2]; rcases c1 with c1 | c1 <;> rw [c1]
        · exact (cross_ends _ _).1
        · exact (cross_ends _ _).2
    · rcases c1 with c1 | c1
      · left; rw [← c1]; rcases c2 with c2 | c2 <;> rw [c2]
        · exact (cross_ends _ _).1
        · exact (cross_ends _ _).2
      · right; rw [← c1]; rcases c2 with c2 | c2 <;> rw [c2]
        · exact (cross_ends _ _).1
        · exact (cross_ends _ _).2

theorem ends_in (s t : Sg) (hs : cmpP s.a s.b ≤ 0) (ht : cmpP t.a t.b ≤ 0) (n1 : nearB s.a = true) (n2 : nearB s.b = true) (n3 : nearB t.a = true) (n4 : nearB t.b = true) : Ends s t (meetIn s t) := by
  by_cases h0 : s = t
  · have hk : meetIn s t = 4 := by unfold meetIn; rw [if_pos h0]
    rw [hk]
    exact ⟨fun e => absurd e (by decide), fun e => absurd e (by decide), fun e => absurd e (by decide)⟩
  by_cases h1 : t.a = t.b
  · have hk : meetIn s t = onP t.a s := by unfold meetIn online; rw [if_neg h0, if_pos (.inr (.inl h1)), if_pos h1]
    rw [hk]
    obtain ⟨c, d⟩ := t
    simp only at h1
    subst h1
    exact ends_pt s c
  by_cases h2 : s.a = s.b
  · have hk : meetIn s t = onP s.a t := by unfold meetIn online; rw [if_neg h0, if_pos (.inl h2), if_neg h1, if_pos h2]
    rw [hk]
    obtain ⟨c, d⟩ := s
    simp only at h2
    subst h2
    exact (ends_pt t c).symm
  have hs' : cmpP s.a s.b < 0 := by have := mt (cmpP_zero s.a s.b).1 h2; omega
  have ht' : cmpP t.a t.b < 0 := by have := mt (cmpP_zero t.a t.b).1 h1; omega
  by_cases h3 : orient s.a s.b t.a = 0 ∧ orient s.a s.b t.b = 0
  · have hk : meetIn s t = overC (cmpP (lowP s t) (highP s t)) := by unfold meetIn online; rw [if_neg h0, if_pos (.inr (.inr h3)), if_neg h1, if_neg h2]
    rw [hk]
    exact ends_line s t hs' ht' n1 n2 n3 n4 ((orient_zero _ _ _ (by simp [nearL, n1, n2, n3])).1 h3.1) ((orient_zero _ _ _ (by simp [nearL, n1, n2, n4])).1 h3.2)
  · have hk : meetIn s t = crossC (orient s.a s.b t.a) (orient s.a s.b t.b) (orient t.a t.b s.a) (orient t.a t.b s.b) := by
      unfold meetIn; rw [if_neg h0, if_neg (by simp only [h1, h2, false_or]; exact h3)]
    rw [hk]
    exact ends_cross s t hs' ht' n1 n2 n3 n4 h3

theorem inE_sortS (s : Sg) (c : Pt) : inE (sortS s) c ↔ inE s c := by
  rcases sortS_case s with e | e <;> rw [e]
  exact ⟨Or.symm, Or.symm⟩
theorem ends_law (s t : Sg) (hn : nearL [s.a, s.b, t.a, t.b] = true) : Ends s t (meets s t) := by
  have h := hn
  simp only [nearL, Bool.and_true, Bool.and_eq_true] at h
  obtain ⟨n1, n2, n3, n4⟩ := h
  have m1 : nearB (sortS s).a = true ∧ nearB (sortS s).b = true := by rcases sortS_case s with e | e <;> rw [e] <;> exact ⟨by assumption, by assumption⟩
  have m2 : nearB (sortS t).a = true ∧ nearB (sortS t).b = true := by rcases sortS_case t with e | e <;> rw [e] <;> exact ⟨by assumption, by assumption⟩
  have := ends_in (sortS s) (sortS t) (sortS_le s) (sortS_le t) m1.1 m1.2 m2.1 m2.2
  have hk : meets s t = meetIn (sortS s) (sortS t) := by unfold meets; rw [if_pos hn]
  rw [hk]
  refine ⟨fun e => ?_, fun e => ?_, fun e c hc => this.two e c ⟨(inE_sortS s c).2 hc.1, (inE_sortS t c).2 hc.2⟩⟩
  · obtain ⟨p, q, h1, h2, h3, h4, h5, h6, h7⟩ := this.five e
    rw [onS_sortS] at h4 h5 h6 h7
    rw [inE_sortS, inE_sortS] at h2 h3
    exact ⟨p, q, h1, h2, h3, h4, h5, h6, h7⟩
  · obtain ⟨c, h1, h2⟩ := this.one e
    exact ⟨c, (inE_sortS s c).1 h1, (inE_sortS t c).1 h2⟩

theorem meets_same (s t : Sg) (hn : nearL [s.a, s.b, t.a, t.b] = true) : meets s t = 4 ↔ (s = t ∨ (s.a = t.b ∧ s.b = t.a)) := by
  have h4 : meets s t = 4 ↔ sortS s = sortS t := by
    unfold meets
    rw [if_pos hn]
    unfold meetIn
    by_cases h : sortS s = sortS t
    · simp [h]
    · rw [if_neg h]
      simp only [h, iff_false]
      unfold online onP overC crossC
      (repeat' split) <;> omega
  rw [h4]
  constructor
  · intro h
    rcases sortS_case s with e | e <;> rcases sortS_case t with f | f <;> rw [e, f] at h
    · exact .inl h
    · right; rw [h]; exact ⟨rfl, rfl⟩
    · right; rw [← h]; exact ⟨rfl, rfl⟩
    · left
      obtain ⟨a, b⟩ := s
      obtain ⟨c, d⟩ := t
      simp only [Sg.mk.injEq] at h ⊢
      exact ⟨h.2, h.1⟩
  · rintro (h | ⟨h1, h2⟩)
    · rw [h]
    · have : s = backS t := by obtain ⟨a, b⟩ := s; simp only at h1 h2; subst h1 h2; rfl
      rw [this, sortS_back]

/-! The reference's list of common ends. -/
def comL (f : Pt → Bool) : List Pt → List Pt → List Pt
  | acc, [] => acc
  | acc, p :: l => comL f (if !acc.contains p && f p then acc ++ [p] else acc) l
theorem comL_mem (f : Pt → Bool) (l : List Pt) : ∀ acc x, x ∈ comL f acc l ↔ (x ∈ acc ∨ (x ∈ l ∧ f x = true)) := by
  induction l with
  | nil => intro acc x; simp [comL]
  | cons p l ih =>
    intro acc x
    rw [comL, ih]
    by_cases h : acc.contains p = true
    · rw [if_neg (by rw [h]; simp)]
      have hp : p ∈ acc := by simpa using h
      constructor
      · rintro (g | ⟨g1, g2⟩)
        · exact .inl g
        · exact .inr ⟨List.mem_cons_of_mem _ g1, g2⟩
      · rintro (g | ⟨g1, g2⟩)
        · exact .inl g
        · rcases List.mem_cons.1 g1 with e | e
          · rw [e]; exact .inl hp
          · exact .inr ⟨e, g2⟩
    · cases hf : f p with
      | false =>
        rw [if_neg (by simp)]
        constructor
        · rintro (g | ⟨g1, g2⟩)
          · exact .inl g
          · exact .inr ⟨List.mem_cons_of_mem _ g1, g2⟩
        · rintro (g | ⟨g1, g2⟩)
          · exact .inl g
          · rcases List.mem_cons.1 g1 with e | e
            · rw [e, hf] at g2; exact absurd g2 (by decide)
            · exact .inr ⟨e, g2⟩
      | true =>
        rw [if_pos (by simp at h; simp [h])]
        simp only [List.mem_append, List.mem_cons, List.not_mem_nil, or_false]
        constructor
        · rintro ((g | g) | ⟨g1, g2⟩)
          · exact .inl g
          · exact .inr ⟨.inl g, by rw [g]; exact hf⟩
          · exact .inr ⟨.inr g1, g2⟩
        · rintro (g | ⟨g1 | g1, g2⟩)
          · exact .inl (.inl g)
          · exact .inl (.inr g1)
          · exact .inr ⟨g1, g2⟩
theorem comL_nodup (f : Pt → Bool) (l : List Pt) : ∀ acc, acc.Nodup → (comL f acc l).Nodup := by
  induction l with
  | nil => intro acc h; exact h
  | cons p l ih =>
    intro acc h
    rw [comL]
    refine ih _ ?_
    split
    · rename_i hc
      have : ¬ p ∈ acc := by
        intro hm
        simp [hm] at hc
      rw [List.nodup_append]
      refine ⟨h, by simp, ?_⟩
      intro a ha b hb
      simp only [List.mem_singleton] at hb
      rw [hb]
      exact fun e => this (e ▸ ha)
    · exact h

/-- The reference's Meets. -/
def meetR (s t : Sg) : Int :=
  if nearL [s.a, s.b, t.a, t.b] then
    (if s = t ∨ (s.a = t.b ∧ s.b = t.a) then 4
     else match comL (fun p => onS s p && onS t p) [] [s.a, s.b, t.a, t.b] with
      | [] => if apartB s t then 3 else 0
      | [c] => if (c = s.a ∨ c = s.b) ∧ (c = t.a ∨ c = t.b) then 1 else 2
      | _ => 5)
  else 0
theorem meetR_meets (s t : Sg) : meets s t = meetR s t := by
  unfold meetR
  by_cases hn : nearL [s.a, s.b, t.a, t.b] = true
  · rw [if_pos hn]
    have h4 := meets_same s t hn
    by_cases h : s = t ∨ (s.a = t.b ∧ s.b = t.a)
    · rw [if_pos h]; exact h4.2 h
    · rw [if_neg h]
      have hne4 : meets s t ≠ 4 := fun e => h (h4.1 e)
      have hsh := shares_law s t hn
      have hen := ends_law s t hn
      have hr := meets_range s t
      have hm := comL_mem (fun p => onS s p && onS t p) [s.a, s.b, t.a, t.b] []
      have hd := comL_nodup (fun p => onS s p && onS t p) [s.a, s.b, t.a, t.b] [] (by simp)
      have hm0 := hn
      simp only [nearL, Bool.and_true, Bool.and_eq_true] at hn
      obtain ⟨n1, n2, n3, n4⟩ := hn
      have nE : ∀ p, p = s.a ∨ p = s.b ∨ p = t.a ∨ p = t.b → nearB p = true := by
        rintro p (e | e | e | e) <;> rw [e] <;> assumption
      generalize meets s t = k at *
      generalize comL (fun p => onS s p && onS t p) [] [s.a, s.b, t.a, t.b] = C at *
      simp only [List.not_mem_nil, false_or, List.mem_cons, or_false, Bool.and_eq_true] at hm
      have e1 : ∀ p, inE s p → nearB p = true → onS s p = true := by
        intro p hp hnp
        rw [← onS_sortS]
        have m1 : nearB (sortS s).a = true ∧ nearB (sortS s).b = true := by rcases sortS_case s with e | e <;> rw [e] <;> exact ⟨by assumption, by assumption⟩
        obtain ⟨o1, o2⟩ := on_ends (sortS s) (sortS_le s) m1.1 m1.2
        rcases (inE_sortS s p).2 hp with e | e <;> rw [e] <;> assumption
      have e2 : ∀ p, inE t p → nearB p = true → onS t p = true := by
        intro p hp hnp
        rw [← onS_sortS]
        have m1 : nearB (sortS t).a = true ∧ nearB (sortS t).b = true := by rcases sortS_case t with e | e <;> rw [e] <;> exact ⟨by assumption, by assumption⟩
        obtain ⟨o1, o2⟩ := on_ends (sortS t) (sortS_le t) m1.1 m1.2
        rcases (inE_sortS t p).2 hp with e | e <;> rw [e] <;> assumption
      match C with
      | [] =>
        have hE : ¬ (k ≠ 0 ∧ k ≠ 3) := by
          rw [← hsh.ends]
          unfold endsB
          simp only [Bool.or_eq_true]
          rintro (((g | g) | g) | g)
          · exact absurd ((hm s.a).2 ⟨.inl rfl, e1 _ (.inl rfl) n1, g⟩) (by simp)
          · exact absurd ((hm s.b).2 ⟨.inr (.inl rfl), e1 _ (.inr rfl) n2, g⟩) (by simp)
          · exact absurd ((hm t.a).2 ⟨.inr (.inr (.inl rfl)), g, e2 _ (.inl rfl) n3⟩) (by simp)
          · exact absurd ((hm t.b).2 ⟨.inr (.inr (.inr rfl)), g, e2 _ (.inr rfl) n4⟩) (by simp)
        have ha := hsh.apart
        simp only
        split
        · rename_i g; exact ha.1 g
        · rename_i g
          have := mt ha.2 g
          omega
      | [c] =>
        obtain ⟨hc, hc1, hc2⟩ := (hm c).1 (by simp)
        have hnc := nE c hc
        have k0 : k ≠ 0 := hsh.one c hnc hc1 hc2
        have hends : endsB s t = true := by
          unfold endsB
          rcases hc with e | e | e | e <;> rw [e] at hc1 hc2
          · simp [hc2]
          · simp [hc2]
          · simp [hc1]
          · simp [hc1]
        have k3 : k ≠ 3 := (hsh.ends.1 hends).2
        have k5 : k ≠ 5 := by
          intro e
          obtain ⟨p, q, h1, h2, h3, h5, h6, h7, h8⟩ := hen.five e
          have hp := (hm p).2 ⟨by rcases h2 with (g | g) | (g | g) <;> simp [g], h5, h6⟩
          have hq := (hm q).2 ⟨by rcases h3 with (g | g) | (g | g) <;> simp [g], h7, h8⟩
          simp only [List.mem_singleton] at hp hq
          exact h1 (hp.trans hq.symm)
        simp only
        split
        · rename_i g
          have : k ≠ 2 := fun e => hen.two e c g
          omega
        · rename_i g
          have : k ≠ 1 := by
            intro e
            obtain ⟨d, g1, g2⟩ := hen.one e
            have hnd : nearB d = true := nE d (by rcases g1 with e | e <;> simp [e])
            have hd := (hm d).2 ⟨by rcases g1 with e | e <;> simp [e], e1 d g1 hnd, e2 d g2 hnd⟩
            simp only [List.mem_singleton] at hd
            rw [hd] at g1 g2
            exact g ⟨g1, g2⟩
          omega
      | c :: d :: l =>
        have hcd : c ≠ d := by
          have := hd
          simp only [List.nodup_cons, List.mem_cons] at this
          exact fun e => this.1 (.inl e)
        obtain ⟨a0, a1, a2⟩ := (hm c).1 (by simp)
        obtain ⟨b0, b1, b2⟩ := (hm d).1 (by simp)
        have := hsh.two c d (nE c a0) (nE d b0) a1 a2 b1 b2 hcd
        simp only
        omega
  · have hn' : nearL [s.a, s.b, t.a, t.b] = false := by simpa using hn
    rw [hn', if_neg (by decide)]
    exact meets_far s t hn'
end Go.Proofs.PlGeom
