/-
  The plain law of GeomMeets: how two segments meet does not hang on their order or on the order of their ends. No program in sight.
-/
import Derived.Test.YtmklnioedeailaaPlain
namespace Go.Proofs.PlGeom

theorem cmpP_neg (a b : Pt) : cmpP b a = -cmpP a b := by
  obtain ⟨ax, ay⟩ := a
  obtain ⟨bx, bY⟩ := b
  unfold cmpP cmpI; simp only; (repeat' split) <;> omega
theorem cmpP_zero (a b : Pt) : cmpP a b = 0 ↔ a = b := by
  obtain ⟨ax, ay⟩ := a
  obtain ⟨bx, bY⟩ := b
  unfold cmpP cmpI; simp only [Pt.mk.injEq]; (repeat' split) <;> omega

def backS (s : Sg) : Sg := ⟨s.b, s.a⟩
theorem sortS_back (s : Sg) : sortS (backS s) = sortS s := by
  obtain ⟨a, b⟩ := s
  have h := cmpP_neg a b
  have h0 := cmpP_zero a b
  show (if 0 < cmpP b a then (⟨a, b⟩ : Sg) else ⟨b, a⟩) = if 0 < cmpP a b then (⟨b, a⟩ : Sg) else ⟨a, b⟩
  rw [h]
  by_cases h1 : 0 < cmpP a b
  · rw [if_neg (by omega), if_pos h1]
  · by_cases h2 : cmpP a b = 0
    · rw [if_neg (by omega), if_neg h1, h0.1 h2]
    · rw [if_pos (by omega), if_neg h1]
theorem sortS_le (s : Sg) : cmpP (sortS s).a (sortS s).b ≤ 0 := by
  obtain ⟨a, b⟩ := s
  simp only [sortS]
  have h := cmpP_neg a b
  split
  · show cmpP b a ≤ 0; omega
  · show cmpP a b ≤ 0; omega
theorem sortS_of_le (s : Sg) (h : cmpP s.a s.b ≤ 0) : sortS s = s := by
  unfold sortS; rw [if_neg (by omega)]
theorem nearL_swap4 (a b c d : Pt) : nearL [c, d, a, b] = nearL [a, b, c, d] := by
  rw [Bool.eq_iff_iff]; simp only [nearL, Bool.and_true, Bool.and_eq_true]
  constructor <;> (rintro ⟨h1, h2, h3, h4⟩; exact ⟨h3, h4, h1, h2⟩)
theorem nearL_back (a b c d : Pt) : nearL [b, a, c, d] = nearL [a, b, c, d] := by
  rw [Bool.eq_iff_iff]; simp only [nearL, Bool.and_true, Bool.and_eq_true]
  constructor <;> (rintro ⟨h1, h2, h3⟩; exact ⟨h2, h1, h3⟩)

theorem cmpI_zero (x : Int) : cmpI x 0 = 0 ↔ x = 0 := by
  unfold cmpI; split
  · constructor <;> intro h <;> omega
  · split <;> constructor <;> intro h <;> omega
theorem orient_zero (a b c : Pt) (h : nearL [a, b, c] = true) : orient a b c = 0 ↔ cross a b c = 0 := by
  unfold orient; rw [if_pos h]; exact cmpI_zero _

theorem line_swap (a b c d : Pt) (hab : a ≠ b) (h1 : cross a b c = 0) (h2 : cross a b d = 0) : cross c d a = 0 ∧ cross c d b = 0 := by
  obtain ⟨ax, ay⟩ := a
  obtain ⟨bx, bY⟩ := b
  obtain ⟨cx, cy⟩ := c
  obtain ⟨dx, dy⟩ := d
  simp only [cross] at *
  have hne : bx - ax ≠ 0 ∨ bY - ay ≠ 0 := by
    rcases Decidable.em (bx - ax = 0) with h | h
    · right; intro h'; apply hab; rw [Pt.mk.injEq]; omega
    · exact .inl h
  have e1 : (bx - ax) * ((dx - cx) * (ay - cy) - (dy - cy) * (ax - cx)) = 0 := by grind
  have e2 : (bY - ay) * ((dx - cx) * (ay - cy) - (dy - cy) * (ax - cx)) = 0 := by grind
  have e3 : (dx - cx) * (ay - cy) - (dy - cy) * (ax - cx) = 0 := by
    rcases hne with h | h
    · exact (Int.mul_eq_zero.1 e1).resolve_left h
    · exact (Int.mul_eq_zero.1 e2).resolve_left h
  refine ⟨e3, ?_⟩
  grind

theorem crossC_symm (a b c d : Int) : crossC a b c d = crossC c d a b := by
  unfold crossC
  generalize a * b = x
  generalize c * d = y
  (repeat' split) <;> omega

theorem lowP_symm (s t : Sg) : lowP s t = lowP t s := by
  unfold lowP
  have h := cmpP_neg t.a s.a
  have h0 := cmpP_zero t.a s.a
  rw [h]
  by_cases h1 : 0 < cmpP t.a s.a
  · rw [if_pos h1, if_neg (by omega)]
  · by_cases h2 : cmpP t.a s.a = 0
    · rw [if_neg h1, if_neg (by omega), h0.1 h2]
    · rw [if_neg h1, if_pos (by omega)]
theorem highP_symm (s t : Sg) : highP s t = highP t s := by
  unfold highP
  have h := cmpP_neg t.b s.b
  have h0 := cmpP_zero t.b s.b
  rw [h]
  by_cases h1 : cmpP t.b s.b < 0
  · rw [if_pos h1, if_neg (by omega)]
  · by_cases h2 : cmpP t.b s.b = 0
    · rw [if_neg h1, if_neg (by omega), h0.1 h2]
    · rw [if_neg h1, if_pos (by omega)]

theorem onS_point (p q : Pt) (h : p ≠ q) : onS ⟨p, p⟩ q = false := by
  have hs : sortS ⟨p, p⟩ = ⟨p, p⟩ := sortS_of_le _ (by rw [(cmpP_zero p p).2 rfl]; exact Int.le_refl _)
  unfold onS
  rw [hs]
  have : decide (q = p) = false := by simpa using fun e => h e.symm
  simp [this]

theorem online_symm (s t : Sg) (h : s ≠ t) : online s t = online t s := by
  unfold online
  by_cases h1 : t.a = t.b
  · by_cases h2 : s.a = s.b
    · rw [if_pos h1, if_pos h2]
      obtain ⟨sa, sb⟩ := s
      obtain ⟨ta, tb⟩ := t
      simp only at h1 h2
      subst h1 h2
      have hne : sa ≠ ta := fun e => h (by rw [e])
      simp only [onP, onS_point sa ta hne, onS_point ta sa (fun e => hne e.symm), Bool.false_eq_true, if_false]
    · rw [if_pos h1, if_neg h2, if_pos h1]
  · by_cases h2 : s.a = s.b
    · rw [if_neg h1, if_pos h2, if_pos h2]
    · rw [if_neg h1, if_neg h2, if_neg h2, if_neg h1, lowP_symm, highP_symm]

theorem meetIn_symm (s t : Sg) (hn : nearL [s.a, s.b, t.a, t.b] = true) : meetIn s t = meetIn t s := by
  by_cases h0 : s = t
  · rw [h0]
  have e1 : meetIn s t = if s.a = s.b ∨ t.a = t.b ∨ (orient s.a s.b t.a = 0 ∧ orient s.a s.b t.b = 0) then online s t else crossC (orient s.a s.b t.a) (orient s.a s.b t.b) (orient t.a t.b s.a) (orient t.a t.b s.b) := by
    unfold meetIn; rw [if_neg h0]
  have e2 : meetIn t s = if t.a = t.b ∨ s.a = s.b ∨ (orient t.a t.b s.a = 0 ∧ orient t.a t.b s.b = 0) then online t s else crossC (orient t.a t.b s.a) (orient t.a t.b s.b) (orient s.a s.b t.a) (orient s.a s.b t.b) := by
    unfold meetIn; rw [if_neg (fun e => h0 e.symm)]
  rw [e1, e2]
  clear e1 e2
  simp only [nearL, Bool.and_true, Bool.and_eq_true] at hn
  obtain ⟨n1, n2, n3, n4⟩ := hn
  have z1 := orient_zero s.a s.b t.a (by simp [nearL, n1, n2, n3])
  have z2 := orient_zero s.a s.b t.b (by simp [nearL, n1, n2, n4])
  have z3 := orient_zero t.a t.b s.a (by simp [nearL, n3, n4, n1])
  have z4 := orient_zero t.a t.b s.b (by simp [nearL, n3, n4, n2])
  by_cases h1 : s.a = s.b
  · rw [if_pos (.inl h1), if_pos (.inr (.inl h1)), online_symm s t h0]
  by_cases h2 : t.a = t.b
  · rw [if_pos (.inr (.inl h2)), if_pos (.inl h2), online_symm s t h0]
  by_cases h3 : orient s.a s.b t.a = 0 ∧ orient s.a s.b t.b = 0
  · have := line_swap s.a s.b t.a t.b h1 (z1.1 h3.1) (z2.1 h3.2)
    rw [if_pos (.inr (.inr h3)), if_pos (.inr (.inr ⟨z3.2 this.1, z4.2 this.2⟩)), online_symm s t h0]
  · have h4 : ¬ (orient t.a t.b s.a = 0 ∧ orient t.a t.b s.b = 0) := fun h => by
      have := line_swap t.a t.b s.a s.b h2 (z3.1 h.1) (z4.1 h.2)
      exact h3 ⟨z1.2 this.1, z2.2 this.2⟩
    rw [if_neg (by simp only [h1, h2, false_or]; exact h3), if_neg (by simp only [h1, h2, false_or]; exact h4), crossC_symm]

theorem near_sortS (s : Sg) (c d : Pt) : nearL [(sortS s).a, (sortS s).b, c, d] = nearL [s.a, s.b, c, d] := by
  unfold sortS
  split
  · exact nearL_back s.a s.b c d
  · rfl

theorem meets_symm (s t : Sg) : meets s t = meets t s := by
  unfold meets
  rw [nearL_swap4 s.a s.b t.a t.b]
  split
  · rename_i h
    refine meetIn_symm _ _ ?_
    rw [near_sortS, ← nearL_swap4, near_sortS, nearL_swap4]
    exact h
  · rfl
theorem meets_back (s t : Sg) : meets (backS s) t = meets s t := by
  unfold meets
  rw [sortS_back]
  show (if nearL [s.b, s.a, t.a, t.b] = true then _ else _) = _
  rw [nearL_back]
theorem meets_back2 (s t : Sg) : meets s (backS t) = meets s t := by
  rw [meets_symm, meets_back, meets_symm]
theorem meets_self (s : Sg) (h : nearL [s.a, s.b, s.a, s.b] = true) : meets s s = 4 := by
  unfold meets meetIn
  rw [if_pos h, if_pos rfl]
theorem meets_far (s t : Sg) (h : nearL [s.a, s.b, t.a, t.b] = false) : meets s t = 0 := by
  unfold meets; rw [h]; rfl

theorem cross_ends (a b : Pt) : cross a b a = 0 ∧ cross a b b = 0 := by
  simp only [cross]
  constructor <;> grind
theorem meets_end (s : Sg) (h : nearL [s.a, s.b, s.a, s.b] = true) (hne : s.a ≠ s.b) : meets s ⟨s.a, s.a⟩ = 1 := by
  have hp : sortS ⟨s.a, s.a⟩ = ⟨s.a, s.a⟩ := sortS_of_le _ (by rw [(cmpP_zero s.a s.a).2 rfl]; exact Int.le_refl _)
  simp only [nearL, Bool.and_true, Bool.and_eq_true] at h
  obtain ⟨n1, n2, _, _⟩ := h
  unfold meets
  rw [if_pos (by simp [nearL, n1, n2]), hp]
  have hle := sortS_le s
  have hcase : (sortS s = s) ∨ (sortS s = ⟨s.b, s.a⟩) := by unfold sortS; split <;> simp
  have hin : s.a = (sortS s).a ∨ s.a = (sortS s).b := by rcases hcase with e | e <;> rw [e] <;> simp
  have hne2 : (sortS s).a ≠ (sortS s).b := by rcases hcase with e | e <;> rw [e]; exact hne; exact fun e => hne e.symm
  have hn2 : nearB (sortS s).a = true ∧ nearB (sortS s).b = true := by rcases hcase with e | e <;> rw [e] <;> exact ⟨by assumption, by assumption⟩
  generalize sortS s = S at *
  generalize s.a = p at *
  have hs := sortS_of_le S hle
  have c1 := (cmpP_zero S.a S.a).2 rfl
  have c2 := (cmpP_zero S.b S.b).2 rfl
  have hon : onS S p = true := by
    unfold onS
    rw [hs]
    have ho : orient S.a S.b p = 0 := by
      rw [orient_zero _ _ _ (by simp [nearL, hn2.1, hn2.2, n1])]
      rcases hin with e | e <;> rw [e]
      · exact (cross_ends _ _).1
      · exact (cross_ends _ _).2
    have h1 : cmpP S.a p ≤ 0 := by rcases hin with e | e <;> rw [e] <;> omega
    have h2 : cmpP p S.b ≤ 0 := by rcases hin with e | e <;> rw [e] <;> omega
    simp [nearL, hn2.1, hn2.2, n1, ho, h1, h2, hne2]
  unfold meetIn
  rw [if_neg (fun e => hne2 (by rw [e])), if_pos (.inr (.inl rfl))]
  unfold online
  rw [if_pos rfl, onP, if_pos hon, if_pos hin]

theorem meets_range (s t : Sg) : 0 ≤ meets s t ∧ meets s t ≤ 5 := by
  unfold meets meetIn online onP overC crossC
  (repeat' split) <;> omega
end Go.Proofs.PlGeom
