/-
  The plain laws of layer 4 (ring): a simple ring as a closed polygon. No program in sight.
-/
import Derived.Test.YtmklnioedeailaaRPlainV
namespace Go.Proofs.PlRing
open Go.Proofs.PlGeom

/-- The corners of a ring, over and over. -/
def cor (r : List Pt) (i : Nat) : Pt := at0 r (i % r.length)
theorem cor_side (r : List Pt) (i : Nat) : sideAt r (i % r.length) = ⟨cor r i, cor r (i + 1)⟩ := by
  unfold sideAt cor
  rw [Nat.mod_add_mod]
theorem cor_per (r : List Pt) (i : Nat) : cor r (i + r.length) = cor r i := by unfold cor; rw [Nat.add_mod_right]
theorem cor_lt (r : List Pt) (i : Nat) (h : i < r.length) : cor r i = at0 r i := by unfold cor; rw [Nat.mod_eq_of_lt h]
theorem Simp.nr {r : List Pt} (h : Simp r) (i : Nat) : nearB (cor r i) = true := by
  obtain ⟨h3, _, hn⟩ := (regB_iff r).1 h.reg
  exact nearL_mem r hn _ (List.mem_of_getElem? (at0_some r _ (Nat.mod_lt _ (by omega))))
/-- How the sides k behind each other meet. -/
theorem Simp.meet {r : List Pt} (h : Simp r) (i k : Nat) (hk : 1 ≤ k) (hk2 : k + 1 ≤ r.length) :
    meets ⟨cor r i, cor r (i + 1)⟩ ⟨cor r (i + k), cor r (i + k + 1)⟩ = if k = 1 ∨ k + 1 = r.length then 1 else 0 := by
  obtain ⟨h3, _, _⟩ := (regB_iff r).1 h.reg
  obtain ⟨a, ha⟩ : ∃ a, a = i % r.length := ⟨_, rfl⟩
  obtain ⟨b, hb⟩ : ∃ b, b = (i + k) % r.length := ⟨_, rfl⟩
  have la : a < r.length := by rw [ha]; exact Nat.mod_lt _ (by omega)
  have lb : b < r.length := by rw [hb]; exact Nat.mod_lt _ (by omega)
  have hb2 : (a + k) % r.length = b := by rw [ha, hb, Nat.mod_add_mod]
  have e2 := (mod_eq_iff r.length (a + k) b (by omega) lb).1 hb2
  have hadj : adj r.length a b ↔ (k = 1 ∨ k + 1 = r.length) := by
    unfold adj
    rw [mod_eq_iff _ (a + 1) b (by omega) lb, mod_eq_iff _ (b + 1) a (by omega) la]
    omega
  rw [← cor_side r i, ← cor_side r (i + k), ← ha, ← hb]
  by_cases g : k = 1 ∨ k + 1 = r.length
  · rw [if_pos g]; exact h.near a b la lb (by omega) (hadj.2 g)
  · rw [if_neg g]; exact h.far a b la lb (by omega) (fun hh => g (hadj.1 hh))
/-- No side of a simple ring is a point. -/
theorem Simp.ne {r : List Pt} (h : Simp r) (i : Nat) : cor r (i + 1) ≠ cor r (i + 2) := by
  obtain ⟨h3, _, _⟩ := (regB_iff r).1 h.reg
  intro e
  have n0 := h.nr i
  have n1 := h.nr (i + 1)
  have n3 := h.nr (i + 3)
  by_cases g : r.length = 3
  · have m := h.meet i 2 (by omega) (by omega)
    rw [if_pos (by omega)] at m
    have e3 : cor r (i + 2 + 1) = cor r i := by rw [show i + 2 + 1 = i + r.length from by omega]; exact cor_per r i
    rw [← e, e3] at m
    have := (meets_same ⟨cor r i, cor r (i + 1)⟩ ⟨cor r (i + 1), cor r i⟩ (by simp [nearL, n0, n1])).2 (.inr ⟨rfl, rfl⟩)
    omega
  · have m := h.meet i 2 (by omega) (by omega)
    rw [if_neg (by omega), ← e] at m
    have hs := shares_law ⟨cor r i, cor r (i + 1)⟩ ⟨cor r (i + 1), cor r (i + 2 + 1)⟩ (by simp [nearL, n0, n1, show nearB (cor r (i + 2 + 1)) = true from n3])
    rw [m] at hs
    exact hs.one (cor r (i + 1)) n1 (on_end _ _ n0 n1).2 (on_end _ _ n1 n3).1 rfl
theorem Simp.ne' {r : List Pt} (h : Simp r) (i : Nat) : cor r i ≠ cor r (i + 1) := by
  obtain ⟨h3, _, _⟩ := (regB_iff r).1 h.reg
  have := h.ne (i + r.length - 1)
  rw [show i + r.length - 1 + 1 = i + r.length from by omega, show i + r.length - 1 + 2 = i + 1 + r.length from by omega, cor_per, cor_per] at this
  exact this
/-- A SIMPLE RING IS A CLOSED POLYGON whose sides do not meet. -/
theorem Simp.poly {r : List Pt} (h : Simp r) : Poly (cor r) r.length := by
  obtain ⟨h3, _, _⟩ := (regB_iff r).1 h.reg
  refine ⟨h3, cor_per r, fun i => ?_, fun i k h1 h2 => ?_, fun i k h1 h2 e1 e2 => ?_⟩
  · have m := h.meet i 1 (by omega) (by omega)
    rw [if_pos (by omega)] at m
    exact end_corner _ _ _ (h.ne' i) (h.ne i) (h.nr _) (h.nr _) (h.nr _) m
  · have m := h.meet i k (by omega) (by omega)
    rw [if_neg (by omega)] at m
    exact (none_apart _ _ _ _ (h.ne' i) (h.ne' (i + k)) (h.nr _) (h.nr _) (h.nr _) (h.nr _) m).1
  · have m := h.meet i k (by omega) (by omega)
    rw [if_neg (by omega)] at m
    exact (none_apart _ _ _ _ (h.ne' i) (h.ne' (i + k)) (h.nr _) (h.nr _) (h.nr _) (h.nr _) m).2 e1 e2
/-- The sum over the sides of a ring, as a sum over indices. -/
theorem winS_sm (r : List Pt) (p : Pt) : winS p (sd r) = wnd (cor r) r.length p := by
  have key : ∀ (f : Nat → Sg) (i n : Nat), winS p ((List.range' i n).map f) = sm (fun j => windS (f j) p) i n := by
    intro f i n
    induction n generalizing i with
    | zero => rfl
    | succ n ih => rw [List.range'_succ, List.map_cons, winS, ih, sm_succ]
  unfold sd wnd
  rw [List.range_eq_range', key]
  refine sm_congr _ _ _ _ fun k _ hk => ?_
  rw [windS_chi]
  have hk2 : k < r.length := by omega
  have e := cor_side r k
  rw [Nat.mod_eq_of_lt hk2] at e
  rw [e]
theorem hitS_off {r : List Pt} {p : Pt} (hr : 0 < r.length) (h : hitS p (sd r) = false) (i : Nat) : offS (cor r i) (cor r (i + 1)) p := by
  have hx : hitB ⟨cor r i, cor r (i + 1)⟩ p = false := by
    cases e : hitB ⟨cor r i, cor r (i + 1)⟩ p with
    | false => rfl
    | true =>
      have : hitS p (sd r) = true := (hitS_iff p _).2 ⟨_, List.mem_map.2 ⟨i % r.length, List.mem_range.2 (Nat.mod_lt _ hr), cor_side r i⟩, e⟩
      rw [h] at this; cases this
  intro h0
  have key : ¬ ((cor r i).y ≠ (cor r (i + 1)).y ∧ (((cor r i).y ≤ p.y ∧ p.y ≤ (cor r (i + 1)).y) ∨ ((cor r (i + 1)).y ≤ p.y ∧ p.y ≤ (cor r i).y))) := by
    rintro ⟨g1, g2⟩
    have := on_y _ _ p h0 g1 g2
    have e : hitB ⟨cor r i, cor r (i + 1)⟩ p = onR ⟨cor r i, cor r (i + 1)⟩ p := by
      unfold hitB btwB onR
      rw [turnP_cross]
      cases (cross (cor r i) (cor r (i + 1)) p == 0) <;> simp [Bool.and_assoc]
    rw [e, this] at hx
    cases hx
  omega
theorem Simp.bound {r : List Pt} (h : Simp r) (i : Nat) : (cor r (i + 1)).x - (cor r i).x < 10000000 ∧ -10000000 < (cor r (i + 1)).x - (cor r i).x := by
  have a := (nearB_iff _).1 (h.nr i)
  have b := (nearB_iff _).1 (h.nr (i + 1))
  omega
/-- A SIMPLE RING WINDS AROUND A POINT THAT IS NOT ON IT at most once. -/
theorem simple_winds (r : List Pt) (h : simple r = true) (p : Pt) (hp : hitS p (sd r) = false) : -1 ≤ winS p (sd r) ∧ winS p (sd r) ≤ 1 := by
  have hs := (simple_iff r).1 h
  obtain ⟨h3, _, _⟩ := (regB_iff r).1 hs.reg
  rw [winS_sm]
  exact jordan_one hs.poly 10000000 (by omega) (fun i => hs.bound i) p (fun i => hitS_off (by omega) hp i)
end Go.Proofs.PlRing
