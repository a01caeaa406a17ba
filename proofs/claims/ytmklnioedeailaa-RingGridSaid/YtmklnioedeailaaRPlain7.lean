/-
  The plain law of RingTriangles. No program in sight.
-/
import Derived.Test.YtmklnioedeailaaRPlain6
import Derived.Test.YtmklnioedeailaaPlainO
import Derived.Test.YtmklnioedeailaaRPlainJ
namespace Go.Proofs.PlRing
open Go.Proofs.PlGeom

theorem turnP_cross (a b p : Pt) : turnP a b p = cross a b p := by unfold turnP cross; grind
theorem near3 (a b c : Pt) : nearL [a, b, c] = true ↔ (nearB a = true ∧ nearB b = true ∧ nearB c = true) := by simp [nearL]
theorem near4' (a b c d : Pt) : nearL [a, b, c, d] = true ↔ (nearB a = true ∧ nearB b = true ∧ nearB c = true ∧ nearB d = true) := by simp [nearL]

/-- Which ends of two sides that follow each other lie on both. -/
theorem adj_one (a b c : Pt) (ha : nearB a = true) (hb : nearB b = true) (hc : nearB c = true) :
    meets ⟨a, b⟩ ⟨b, c⟩ = 1 ↔ (¬ (a = b ∧ b = c) ∧ (onS ⟨b, c⟩ a = true → a = b) ∧ (onS ⟨a, b⟩ c = true → c = b)) := by
  have hn : nearL [a, b, b, c] = true := by rw [near4']; exact ⟨ha, hb, hb, hc⟩
  have oa : onS ⟨a, b⟩ a = true ∧ onS ⟨a, b⟩ b = true := by
    rcases sortS_case ⟨a, b⟩ with e | e
    · have h := sortS_le ⟨a, b⟩
      rw [e] at h
      exact on_ends ⟨a, b⟩ h ha hb
    · have h := sortS_le ⟨a, b⟩
      rw [e] at h
      have := on_ends ⟨b, a⟩ h hb ha
      rw [← onS_sortS, e]
      have e2 := onS_sortS ⟨a, b⟩ b
      rw [e] at e2
      rw [← e2]
      exact ⟨this.2, this.1⟩
  have ob : onS ⟨b, c⟩ b = true ∧ onS ⟨b, c⟩ c = true := by
    rcases sortS_case ⟨b, c⟩ with e | e
    · have h := sortS_le ⟨b, c⟩
      rw [e] at h
      exact on_ends ⟨b, c⟩ h hb hc
    · have h := sortS_le ⟨b, c⟩
      rw [e] at h
      have := on_ends ⟨c, b⟩ h hc hb
      rw [← onS_sortS, e]
      have e2 := onS_sortS ⟨b, c⟩ c
      rw [e] at e2
      rw [← e2]
      exact ⟨this.2, this.1⟩
  rw [meetR_meets]
  unfold meetR
  rw [if_pos hn]
  simp only
  by_cases hs : (⟨a, b⟩ : Sg) = ⟨b, c⟩ ∨ (a = c ∧ True)
  · rw [if_pos hs]
    have h41 : ¬ (4 : Int) = 1 := by decide
    simp only [h41, false_iff]
    rintro ⟨h1, h2, h3⟩
    rcases hs with h | ⟨h, _⟩
    · simp only [Sg.mk.injEq] at h
      exact h1 h
    · subst h
      exact h1 ⟨h2 ob.2, (h2 ob.2).symm⟩
  · rw [if_neg hs]
    have hac : a ≠ c := fun h => hs (.inr ⟨h, trivial⟩)
    have hne : ¬ (a = b ∧ b = c) := fun h => hac (h.1.trans h.2)
    cases h1 : onS ⟨b, c⟩ a <;> cases h2 : onS ⟨a, b⟩ c
    · have hab : a ≠ b := by rintro rfl; rw [ob.1] at h1; cases h1
      have hcb : c ≠ b := by rintro rfl; rw [oa.2] at h2; cases h2
      simp [comL, oa, ob, h1, h2, hne]
    · have hab : a ≠ b := by rintro rfl; rw [ob.1] at h1; cases h1
      by_cases hcb : c = b
      · subst hcb; simp [comL, oa, ob, h1, hab]
      · simp [comL, oa, ob, h1, h2, hcb, Ne.symm hcb]
    · have hcb : c ≠ b := by rintro rfl; rw [oa.2] at h2; cases h2
      by_cases hab : a = b
      · subst hab; simp [comL, oa, ob, h2, hac]
      · simp [comL, oa, ob, h1, h2, hab, Ne.symm hab]
    · by_cases hab : a = b
      · subst hab
        simp [comL, oa, ob, h2, hac, Ne.symm hac]
      · by_cases hcb : c = b
        · subst hcb; simp [comL, oa, ob, h1, hac, Ne.symm hab]
        · simp [comL, oa, ob, h1, h2, hab, hcb, Ne.symm hab, Ne.symm hcb, Ne.symm hac]

/-- The ends of a side lie on it, in whatever order. -/
theorem onS_swap (a b p : Pt) : onS ⟨a, b⟩ p = onS ⟨b, a⟩ p := by
  have h := sortS_back ⟨a, b⟩
  rw [← onS_sortS ⟨a, b⟩, ← h, onS_sortS]; rfl
/-- Of three points on one line, in lexicographic order, the middle one lies between. -/
theorem mid_on (a b c : Pt) (ha : nearB a = true) (hb : nearB b = true) (hc : nearB c = true) (h0 : cross a b c = 0) (h1 : cmpP a b ≤ 0) (h2 : cmpP b c ≤ 0) (hne : a ≠ c ∨ a = b) : onS ⟨a, c⟩ b = true := by
  have h3 : cmpP a c ≤ 0 := by rw [cmpP_le_iff] at *; omega
  have hn : nearL [a, c, b] = true := by rw [near3]; exact ⟨ha, hc, hb⟩
  unfold onS
  rw [sortS_of_le ⟨a, c⟩ h3]
  simp only [hn, Bool.true_and]
  have h4 : orient a c b = 0 := by
    rw [orient_zero a c b hn]
    have : cross a c b = -cross a b c := by unfold cross; grind
    omega
  rw [h4]
  simp only [h1, h2, decide_true, Bool.and_true, beq_self_eq_true, Bool.true_and, Bool.or_eq_true, decide_eq_true_eq]
  rcases hne with h | h
  · exact .inl h
  · exact .inr h.symm
theorem on_line (a b p : Pt) (h : onS ⟨a, b⟩ p = true) : cross a b p = 0 := by
  have hn : nearL [a, b, p] = true := by unfold onS at h; simp only [Bool.and_eq_true] at h; exact h.1
  rw [onR_onS _ _ hn] at h
  unfold onR at h
  simp only [Bool.and_eq_true, beq_iff_eq] at h
  exact h.2

theorem tri_iff (a b c : Pt) (ha : nearB a = true) (hb : nearB b = true) (hc : nearB c = true) :
    (meets ⟨a, b⟩ ⟨b, c⟩ = 1 ∧ meets ⟨b, c⟩ ⟨c, a⟩ = 1 ∧ meets ⟨c, a⟩ ⟨a, b⟩ = 1) ↔ cross a b c ≠ 0 := by
  rw [adj_one a b c ha hb hc, adj_one b c a hb hc ha, adj_one c a b hc ha hb]
  have k1 : cross b c a = cross a b c := by unfold cross; grind
  have k2 : cross c a b = cross a b c := by unfold cross; grind
  constructor
  · rintro ⟨⟨n1, p1, q1⟩, ⟨_, p2, q2⟩, ⟨_, p3, q3⟩⟩ h0
    have k1' : cross b c a = 0 := k1.trans h0
    have k2' : cross c a b = 0 := k2.trans h0
    -- one of the three is the middle one
    have key : ∀ x y z : Pt, nearB x = true → nearB y = true → nearB z = true → cross x y z = 0 → cmpP x y ≤ 0 → cmpP y z ≤ 0 → (onS ⟨x, z⟩ y = true ∨ (x = z ∧ y = z)) := by
      intro x y z hx hy hz hc' h1 h2
      by_cases e : x = z
      · subst e
        have : cmpP x y = 0 := by have := cmpP_neg x y; omega
        rw [cmpP_zero] at this
        exact .inr ⟨rfl, this.symm⟩
      · exact .inl (mid_on x y z hx hy hz hc' h1 h2 (.inl e))
    have c1 : cross a c b = 0 := by have : cross a c b = -cross a b c := by unfold cross; grind
                                    omega
    have c2 : cross b a c = 0 := by have : cross b a c = -cross a b c := by unfold cross; grind
                                    omega
    have c3 : cross c b a = 0 := by have : cross c b a = -cross a b c := by unfold cross; grind
                                    omega
    have w1 : ¬ onS ⟨c, a⟩ b = true := fun h => n1 ⟨(q3 h).symm, p2 h⟩
    have w2 : ¬ onS ⟨b, c⟩ a = true := fun h => n1 ⟨p1 h, (p1 h).symm.trans (q2 h)⟩
    have w3 : ¬ onS ⟨a, b⟩ c = true := fun h => n1 ⟨(p3 h).symm.trans (q1 h), (q1 h).symm⟩
    have v1 : ¬ onS ⟨a, c⟩ b = true := by rw [onS_swap]; exact w1
    have v2 : ¬ onS ⟨c, b⟩ a = true := by rw [onS_swap]; exact w2
    have v3 : ¬ onS ⟨b, a⟩ c = true := by rw [onS_swap]; exact w3
    have tot : ∀ x y : Pt, cmpP x y ≤ 0 ∨ cmpP y x ≤ 0 := fun x y => by have := cmpP_neg x y; omega
    rcases tot a b with o1 | o1 <;> rcases tot b c with o2 | o2 <;> rcases tot a c with o3 | o3
    · exact (key a b c ha hb hc h0 o1 o2).elim v1 (fun h => n1 ⟨h.1.trans h.2.symm, h.2⟩)
    · exact (key a b c ha hb hc h0 o1 o2).elim v1 (fun h => n1 ⟨h.1.trans h.2.symm, h.2⟩)
    · exact (key a c b ha hc hb c1 o3 o2).elim w3 (fun h => n1 ⟨h.1, h.2.symm⟩)
    · exact (key c a b hc ha hb k2' o3 o1).elim v2 (fun h => n1 ⟨h.2, h.1.symm⟩)
    · exact (key b a c hb ha hc c2 o1 o3).elim w2 (fun h => n1 ⟨h.2.trans h.1.symm, h.1⟩)
    · exact (key b c a hb hc ha k1' o2 o3).elim v3 (fun h => n1 ⟨h.1.symm, h.1.trans h.2.symm⟩)
    · exact (key c b a hc hb ha c3 o2 o1).elim w1 (fun h => n1 ⟨h.2.symm, h.2.trans h.1.symm⟩)
    · exact (key c b a hc hb ha c3 o2 o1).elim w1 (fun h => n1 ⟨h.2.symm, h.2.trans h.1.symm⟩)
  · intro h
    have nab : a ≠ b := by rintro rfl; apply h; unfold cross; grind
    have nbc : b ≠ c := by rintro rfl; apply h; unfold cross; grind
    have nca : c ≠ a := by rintro rfl; apply h; unfold cross; grind
    have w1 : ∀ e : onS ⟨c, a⟩ b = true, False := fun e => h (by rw [← on_line _ _ _ e]; exact k2.symm)
    have w2 : ∀ e : onS ⟨b, c⟩ a = true, False := fun e => h (by rw [← on_line _ _ _ e]; exact k1.symm)
    have w3 : ∀ e : onS ⟨a, b⟩ c = true, False := fun e => h (on_line _ _ _ e)
    exact ⟨⟨fun e => nab e.1, fun e => (w2 e).elim, fun e => (w3 e).elim⟩, ⟨fun e => nbc e.1, fun e => (w1 e).elim, fun e => (w2 e).elim⟩, ⟨fun e => nca e.1, fun e => (w3 e).elim, fun e => (w1 e).elim⟩⟩

theorem sgnS {d : Int} (hd : d ≤ 0) (x : Int) : (0 < x ∧ x * d ≤ 0 ∧ (d < 0 → x * d < 0)) ∨ (x < 0 ∧ 0 ≤ x * d ∧ (d < 0 → 0 < x * d)) ∨ (x = 0 ∧ x * d = 0) := by
  rcases Int.lt_or_eq_of_le hd with h | h
  · have := sgn h x; omega
  · rw [h, Int.mul_zero]; omega
set_option maxHeartbeats 8000000 in
/-- The winding number of a triangle around a point off its border. -/
theorem tri_core (A B C al be ga : Int) (h : al * C + be * A + ga * B = 0) (hz : ¬ (A = 0 ∧ B = 0 ∧ C = 0))
    (k1 : al = 0 → ¬ (0 ≤ be ∧ 0 ≤ ga) ∧ ¬ (be ≤ 0 ∧ ga ≤ 0)) (k2 : be = 0 → ¬ (0 ≤ al ∧ 0 ≤ ga) ∧ ¬ (al ≤ 0 ∧ ga ≤ 0)) (k3 : ga = 0 → ¬ (0 ≤ al ∧ 0 ≤ be) ∧ ¬ (al ≤ 0 ∧ be ≤ 0)) :
    (if A ≤ 0 ∧ 0 < B ∧ 0 < al then (1 : Int) else if B ≤ 0 ∧ 0 < A ∧ al < 0 then -1 else 0) + (if B ≤ 0 ∧ 0 < C ∧ 0 < be then (1 : Int) else if C ≤ 0 ∧ 0 < B ∧ be < 0 then -1 else 0) + (if C ≤ 0 ∧ 0 < A ∧ 0 < ga then (1 : Int) else if A ≤ 0 ∧ 0 < C ∧ ga < 0 then -1 else 0) =
    if 0 < al ∧ 0 < be ∧ 0 < ga then 1 else if al < 0 ∧ be < 0 ∧ ga < 0 then -1 else 0 := by
  have tr : ∀ x : Int, 0 < x ∨ x < 0 ∨ x = 0 := fun x => by omega
  by_cases hA : A ≤ 0
  · by_cases hB : B ≤ 0
    · by_cases hC : C ≤ 0
      · have mA := sgnS (d := A) (by omega) be
        have mB := sgnS (d := B) (by omega) ga
        have mC := sgnS (d := C) (by omega) al
        generalize al * C = P1 at *
        generalize be * A = P2 at *
        generalize ga * B = P3 at *
        rcases mC with m1 | m1 | m1 <;> rcases mA with m2 | m2 | m2 <;> rcases mB with m3 | m3 | m3 <;> first | omega | ((repeat' split) <;> omega)
      · have mA := sgnS (d := A) (by omega) be
        have mB := sgnS (d := B) (by omega) ga
        have mC := sgp (d := C) (by omega) al
        generalize al * C = P1 at *
        generalize be * A = P2 at *
        generalize ga * B = P3 at *
        rcases mC with m1 | m1 | m1 <;> rcases mA with m2 | m2 | m2 <;> rcases mB with m3 | m3 | m3 <;> first | omega | ((repeat' split) <;> omega)
    · by_cases hC : C ≤ 0
      · have mA := sgnS (d := A) (by omega) be
        have mB := sgp (d := B) (by omega) ga
        have mC := sgnS (d := C) (by omega) al
        generalize al * C = P1 at *
        generalize be * A = P2 at *
        generalize ga * B = P3 at *
        rcases mC with m1 | m1 | m1 <;> rcases mA with m2 | m2 | m2 <;> rcases mB with m3 | m3 | m3 <;> first | omega | ((repeat' split) <;> omega)
      · have mA := sgnS (d := A) (by omega) be
        have mB := sgp (d := B) (by omega) ga
        have mC := sgp (d := C) (by omega) al
        generalize al * C = P1 at *
        generalize be * A = P2 at *
        generalize ga * B = P3 at *
        rcases mC with m1 | m1 | m1 <;> rcases mA with m2 | m2 | m2 <;> rcases mB with m3 | m3 | m3 <;> first | omega | ((repeat' split) <;> omega)
  · by_cases hB : B ≤ 0
    · by_cases hC : C ≤ 0
      · have mA := sgp (d := A) (by omega) be
        have mB := sgnS (d := B) (by omega) ga
        have mC := sgnS (d := C) (by omega) al
        generalize al * C = P1 at *
        generalize be * A = P2 at *
        generalize ga * B = P3 at *
        rcases mC with m1 | m1 | m1 <;> rcases mA with m2 | m2 | m2 <;> rcases mB with m3 | m3 | m3 <;> first | omega | ((repeat' split) <;> omega)
      · have mA := sgp (d := A) (by omega) be
        have mB := sgnS (d := B) (by omega) ga
        have mC := sgp (d := C) (by omega) al
        generalize al * C = P1 at *
        generalize be * A = P2 at *
        generalize ga * B = P3 at *
        rcases mC with m1 | m1 | m1 <;> rcases mA with m2 | m2 | m2 <;> rcases mB with m3 | m3 | m3 <;> first | omega | ((repeat' split) <;> omega)
    · by_cases hC : C ≤ 0
      · have mA := sgp (d := A) (by omega) be
        have mB := sgp (d := B) (by omega) ga
        have mC := sgnS (d := C) (by omega) al
        generalize al * C = P1 at *
        generalize be * A = P2 at *
        generalize ga * B = P3 at *
        rcases mC with m1 | m1 | m1 <;> rcases mA with m2 | m2 | m2 <;> rcases mB with m3 | m3 | m3 <;> first | omega | ((repeat' split) <;> omega)
      · have mA := sgp (d := A) (by omega) be
        have mB := sgp (d := B) (by omega) ga
        have mC := sgp (d := C) (by omega) al
        generalize al * C = P1 at *
        generalize be * A = P2 at *
        generalize ga * B = P3 at *
        rcases mC with m1 | m1 | m1 <;> rcases mA with m2 | m2 | m2 <;> rcases mB with m3 | m3 | m3 <;> first | omega | ((repeat' split) <;> omega)
end Go.Proofs.PlRing
