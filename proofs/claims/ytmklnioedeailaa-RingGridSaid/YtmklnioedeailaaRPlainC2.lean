/-
  The plain laws of layer 4 (ring): what the reference computes. No program in sight.
-/
import Derived.Test.YtmklnioedeailaaRPlainZ
namespace Go.Proofs.PlRing
open Go.Proofs.PlGeom

/-- Inside or outside by how often a ray is crossed; 0 on a side. -/
def parS (p : Pt) : List Sg → Int → Int
  | [], z => z
  | x :: l, z => if hitB x p then 0 else parS p l (if windS x p == 0 then z else -z)
theorem sd_drop (r : List Pt) (k : Nat) (h : k < r.length) : (sd r).drop k = sideAt r k :: (sd r).drop (k + 1) := by
  have hl : k < (sd r).length := by rw [sd_len]; exact h
  rw [List.drop_eq_getElem_cons hl]
  congr 1
  have := sd_get r k h
  rw [List.getElem?_eq_getElem hl] at this
  exact Option.some.inj this
theorem wind_zero (a b p : Pt) : (windS ⟨a, b⟩ p == 0) = true ↔ ¬ ((a.y ≤ p.y ∧ p.y < b.y ∧ 0 < cross a b p) ∨ (p.y < a.y ∧ b.y ≤ p.y ∧ cross a b p < 0)) := by
  unfold windS upB downB
  simp only [turnP_cross]
  generalize cross a b p = X
  by_cases h1 : a.y ≤ p.y ∧ p.y < b.y ∧ 0 < X
  · rw [if_pos (by simp [h1])]
    simp [h1]
  · rw [if_neg (by simp; omega)]
    by_cases h2 : p.y < a.y ∧ b.y ≤ p.y ∧ X < 0
    · rw [if_pos (by simp [h2])]; simp [h2]
    · rw [if_neg (by simp; omega)]; simp; omega
/-- On no side, the parity says whether the ring winds around the point, where it does so at most once. -/
theorem parS_win (p : Pt) (l : List Sg) (z : Int) (hz : z = 1 ∨ z = -1) (h : hitS p l = false) : (parS p l z = 1 ∨ parS p l z = -1) ∧ (parS p l z = z ↔ winS p l % 2 = 0) := by
  induction l generalizing z with
  | nil => exact ⟨hz, by simp [parS, winS]⟩
  | cons x l ih =>
    simp only [hitS, Bool.or_eq_false_iff] at h
    have hw : windS x p = 0 ∨ windS x p = 1 ∨ windS x p = -1 := by unfold windS; (repeat' split) <;> omega
    simp only [parS, h.1, Bool.false_eq_true, if_false, winS]
    by_cases e : windS x p = 0
    · rw [if_pos (by simp [e]), e, Int.zero_add]
      exact ih z hz h.2
    · rw [if_neg (by simp [e])]
      obtain ⟨g1, g2⟩ := ih (-z) (by omega) h.2
      refine ⟨g1, ?_⟩
      have : (parS p l (-z) = z ↔ ¬ (parS p l (-z) = -z)) := by omega
      rw [this, g2]
      omega
theorem parS_hit (p : Pt) (l : List Sg) (z : Int) (h : hitS p l = true) : parS p l z = 0 := by
  induction l generalizing z with
  | nil => cases h
  | cons x l ih =>
    unfold parS
    by_cases e : hitB x p = true
    · rw [if_pos e]
    · rw [if_neg e]
      simp only [hitS, Bool.or_eq_true] at h
      exact ih _ (h.resolve_left e)
/-- THE REFERENCE'S SIDE IS THE PROGRAM'S, where a ring winds at most once. -/
theorem parS_locate (r : List Pt) (p : Pt) (h : hitS p (sd r) = false → -1 ≤ winS p (sd r) ∧ winS p (sd r) ≤ 1) : parS p (sd r) (-1) = locate r p := by
  rw [locate_sd]
  cases e : hitS p (sd r) with
  | true => rw [parS_hit p _ _ e]; simp
  | false =>
    obtain ⟨g1, g2⟩ := parS_win p (sd r) (-1) (by omega) e
    have hb := h e
    simp only [Bool.false_eq_true, if_false]
    by_cases w : winS p (sd r) = 0
    · rw [if_pos w]; rw [g2, w]; rfl
    · rw [if_neg w]
      have : ¬ (winS p (sd r) % 2 = 0) := by omega
      have := fun h => this (g2.1 h)
      omega
theorem simple_locate (r : List Pt) (h : simple r = true) (p : Pt) : parS p (sd r) (-1) = locate r p :=
  parS_locate r p (fun hp => simple_winds r h p hp)
/-! The plain laws of layer 4 (ring): what the reference computes: twice the area, simple. No program in sight. -/

def termX (s : Sg) : Int := s.a.x * s.b.y - s.b.x * s.a.y
def sumX : List Sg → Int
  | [] => 0
  | x :: l => termX x + sumX l
theorem sumX_sm (r : List Pt) : sumX (sd r) = sm (fun j => (cor r j).x * (cor r (j + 1)).y - (cor r (j + 1)).x * (cor r j).y) 0 r.length := by
  have key : ∀ (f : Nat → Sg) (i n : Nat), sumX ((List.range' i n).map f) = sm (fun j => termX (f j)) i n := by
    intro f i n
    induction n generalizing i with
    | zero => rfl
    | succ n ih => rw [List.range'_succ, List.map_cons, sumX, ih, sm_succ]
  unfold sd
  rw [List.range_eq_range', key]
  refine sm_congr _ _ _ _ fun k _ hk => ?_
  have hk2 : k < r.length := by omega
  have e := cor_side r k
  rw [Nat.mod_eq_of_lt hk2] at e
  rw [e]
  rfl
theorem sm_tele2 (g : Nat → Int) (n : Nat) : sm (fun j => g (j + 1) - g j) 0 n = g n - g 0 := by
  induction n with
  | zero => simp [sm]
  | succ n ih => rw [sm_last, ih, Nat.zero_add]; omega
/-- The reference's sum is the program's. -/
theorem sumX_sumS (r : List Pt) : sumX (sd r) = sumS (sd r) := by
  rw [sumX_sm, sumS_sm]
  have ht := sm_tele2 (fun j => (cor r j).x * (cor r j).y) r.length
  have hp := cor_per r 0
  rw [Nat.zero_add] at hp
  simp only [hp, Int.sub_self] at ht
  rw [sm_congr (fun j => ((cor r j).x + (cor r (j + 1)).x) * ((cor r (j + 1)).y - (cor r j).y)) (fun j => ((cor r j).x * (cor r (j + 1)).y - (cor r (j + 1)).x * (cor r j).y) + ((cor r (j + 1)).x * (cor r (j + 1)).y - (cor r j).x * (cor r j).y)) 0 r.length (fun k _ _ => by grind), sm_add, ht]
  omega
theorem twice_X (r : List Pt) : twice r = if regB r then sumX (sd r) else 0 := by rw [twice_sd, sumX_sumS]
theorem termX_bd (a b : Pt) (ha : fineP a) (hb : fineP b) : (-17592186044416 ≤ a.x * b.y ∧ a.x * b.y ≤ 17592186044416) ∧ (-17592186044416 ≤ b.x * a.y ∧ b.x * a.y ≤ 17592186044416) := by
  obtain ⟨a1, a2, a3, a4⟩ := ha
  obtain ⟨b1, b2, b3, b4⟩ := hb
  exact ⟨prod_bd 4194304 a.x b.y a1 a2 b3 b4, prod_bd 4194304 b.x a.y b1 b2 a3 a4⟩
/-- When a ring is simple: pair by pair. -/
theorem simple_pairs (r : List Pt) (h : regB r = true) : simple r = true ↔ ∀ i, i < r.length → ∀ k, k < i → pairB r.length (i, sideAt r i) (k, sideAt r k) = true := by
  unfold simple
  rw [h, Bool.true_and, allB_iff]
  constructor
  · intro H i hi k hk
    have h1 : (i, sideAt r i) ∈ sidesL r := List.mem_map.2 ⟨i, List.mem_range.2 hi, rfl⟩
    have h2 : (k, sideAt r k) ∈ sidesL r := List.mem_map.2 ⟨k, List.mem_range.2 (by omega), rfl⟩
    have := (rowB_iff _ _ _).1 (H _ h1) _ h2
    simp only at this
    exact this.resolve_left (by omega)
  · intro H x hx
    obtain ⟨i, hi, rfl⟩ := List.mem_map.1 hx
    rw [rowB_iff]
    intro y hy
    obtain ⟨k, hk, rfl⟩ := List.mem_map.1 hy
    by_cases g : i ≤ k
    · exact .inl g
    · exact .inr (H i (List.mem_range.1 hi) k (by omega))
/-! The plain laws of layer 4 (ring): what the reference's parts and Relation compute. No program in sight. -/

/-- Is a side also a side of a list? -/
def sameB (x : Sg) : List Sg → Bool
  | [] => false
  | y :: l => decide (meets x y = 4) || sameB x l
/-- Is a side, that is not one of the other ring, inside it, or not inside it? -/
def inB (big : List Pt) (s : List Sg) (x : Sg) : Bool := !sameB x s && decide (0 < parS (midP x) (sd big) (-1))
def outB (big : List Pt) (s : List Sg) (x : Sg) : Bool := !sameB x s && !decide (0 < parS (midP x) (sd big) (-1))
def anyB (f : Sg → Bool) : List Sg → Bool
  | [] => false
  | x :: l => f x || anyB f l
theorem anyB_iff (f : Sg → Bool) (l : List Sg) : anyB f l = true ↔ ∃ x ∈ l, f x = true := by
  induction l with
  | nil => simp [anyB]
  | cons x l ih => simp [anyB, ih]
theorem sameB_iff (x : Sg) (l : List Sg) : sameB x l = true ↔ ∃ y ∈ l, meets x y = 4 := by
  induction l with
  | nil => simp [sameB]
  | cons y l ih => simp [sameB, ih]
def inR (r s : List Pt) : Bool := anyB (inB (dblR s) (sd s)) (sd r)
def outR (r s : List Pt) : Bool := anyB (outB (dblR s) (sd s)) (sd r)
def badB (r s : List Pt) : Bool := anyB (fun x => anyB (fun y => !(decide (meets x y = 0) || decide (meets x y = 1) || decide (meets x y = 4))) (sd s)) (sd r)
def relX (r s : List Pt) : Int :=
  if simple r && simple s && !badB r s then
    (if (inR r s && outR r s) || (inR s r && outR s r) then 0 else if inR r s then 2 else if inR s r then 3 else if outR r s || outR s r then 1 else 4)
  else 0
end Go.Proofs.PlRing
