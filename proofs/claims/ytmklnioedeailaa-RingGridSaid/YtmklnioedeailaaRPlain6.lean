/-
  The plain laws of layer 4 (ring): another first corner, the opposite order (RingOrder). No program in sight.
-/
import Derived.Test.YtmklnioedeailaaRPlain5
import Derived.Test.YtmklnioedeailaaPlainM
namespace Go.Proofs.PlRing
open Go.Proofs.PlGeom

/-- The sides of a ring, without their indices. -/
def sd (r : List Pt) : List Sg := (List.range r.length).map (sideAt r)
theorem sd_sides (r : List Pt) : (sidesL r).map Prod.snd = sd r := by unfold sidesL sd; rw [List.map_map]; rfl
theorem sd_len (r : List Pt) : (sd r).length = r.length := by simp [sd]
theorem sd_get (r : List Pt) (i : Nat) (h : i < r.length) : (sd r)[i]? = some (sideAt r i) := by simp [sd, h]

def hitS (p : Pt) : List Sg → Bool
  | [] => false
  | x :: l => hitB x p || hitS p l
def winS (p : Pt) : List Sg → Int
  | [] => 0
  | x :: l => windS x p + winS p l
theorem hitL_sd (p : Pt) (l : List (Nat × Sg)) : hitL p l = hitS p (l.map Prod.snd) := by
  induction l with
  | nil => rfl
  | cons x l ih => simp only [hitL, List.map_cons, hitS, ih]
theorem windL_sd (p : Pt) (l : List (Nat × Sg)) : windL p l = winS p (l.map Prod.snd) := by
  induction l with
  | nil => rfl
  | cons x l ih => simp only [windL, List.map_cons, winS, ih]
theorem hitS_iff (p : Pt) (l : List Sg) : hitS p l = true ↔ ∃ x ∈ l, hitB x p = true := by
  induction l with
  | nil => simp [hitS]
  | cons x l ih => simp [hitS, ih]
theorem hitS_perm (p : Pt) {a b : List Sg} (h : a.Perm b) : hitS p a = hitS p b := by
  rw [Bool.eq_iff_iff, hitS_iff, hitS_iff]
  exact ⟨fun ⟨x, h1, h2⟩ => ⟨x, h.mem_iff.1 h1, h2⟩, fun ⟨x, h1, h2⟩ => ⟨x, h.mem_iff.2 h1, h2⟩⟩
theorem winS_perm (p : Pt) {a b : List Sg} (h : a.Perm b) : winS p a = winS p b := by
  induction h with
  | nil => rfl
  | cons x _ ih => simp only [winS, ih]
  | swap x y l => simp only [winS]; omega
  | trans _ _ h1 h2 => exact h1.trans h2
theorem turnP_back (s : Sg) (p : Pt) : turnP (backS s).a (backS s).b p = -turnP s.a s.b p := by unfold turnP backS; grind
theorem btw_back (a n b : Int) : btwB b n a = btwB a n b := by
  rw [Bool.eq_iff_iff]
  unfold btwB
  rw [Bool.and_eq_true, Bool.and_eq_true, decide_eq_true_eq, decide_eq_true_eq, decide_eq_true_eq, decide_eq_true_eq]
  omega
theorem hitB_back (s : Sg) (p : Pt) : hitB (backS s) p = hitB s p := by
  have h : (turnP (backS s).a (backS s).b p == 0) = (turnP s.a s.b p == 0) := by
    rw [turnP_back, Bool.eq_iff_iff]; simp
  unfold hitB
  rw [h]
  obtain ⟨a, b⟩ := s
  show (_ && btwB b.x p.x a.x && btwB b.y p.y a.y) = _
  rw [btw_back a.x p.x b.x, btw_back a.y p.y b.y]
theorem up_back (s : Sg) (p : Pt) : upB (backS s) p = downB s p := by
  have e := turnP_back s p
  unfold upB downB
  rw [e]
  obtain ⟨a, b⟩ := s
  show (decide (b.y ≤ p.y) && decide (p.y < a.y) && decide (0 < -turnP a b p)) = (decide (p.y < a.y) && decide (b.y ≤ p.y) && decide (turnP a b p < 0))
  rw [Bool.eq_iff_iff]
  simp only [Bool.and_eq_true, decide_eq_true_eq]
  omega
theorem down_back (s : Sg) (p : Pt) : downB (backS s) p = upB s p := by
  have := up_back (backS s) p
  exact this.symm
theorem windS_back (s : Sg) (p : Pt) : windS (backS s) p = -windS s p := by
  have hx : ¬ (upB s p = true ∧ downB s p = true) := by
    unfold upB downB
    simp only [Bool.and_eq_true, decide_eq_true_eq]
    omega
  unfold windS
  rw [up_back, down_back]
  cases hu : upB s p <;> cases hd : downB s p
  · simp
  · simp
  · simp
  · exact (hx ⟨hu, hd⟩).elim
theorem hitS_back (p : Pt) (l : List Sg) : hitS p (l.map backS) = hitS p l := by
  induction l with
  | nil => rfl
  | cons x l ih => simp only [List.map_cons, hitS, ih, hitB_back]
theorem winS_back (p : Pt) (l : List Sg) : winS p (l.map backS) = -winS p l := by
  induction l with
  | nil => rfl
  | cons x l ih => simp only [List.map_cons, winS, ih, windS_back]; omega
/-- Two lists of sides that are the same but for the order, or but for the order and all directions. -/
def Alike (a b : List Sg) : Prop := a.Perm b ∨ a.Perm (b.map backS)
theorem locate_sd (r : List Pt) (p : Pt) : locate r p = if hitS p (sd r) then 0 else if winS p (sd r) = 0 then -1 else 1 := by
  unfold locate locateL
  rw [hitL_sd, windL_sd, sd_sides]
theorem locate_alike (r r' : List Pt) (p : Pt) (h : Alike (sd r') (sd r)) : locate r' p = locate r p := by
  rw [locate_sd, locate_sd]
  rcases h with h | h
  · rw [hitS_perm p h, winS_perm p h]
  · rw [hitS_perm p h, winS_perm p h, hitS_back, winS_back]
    (repeat' split) <;> omega

/-! Which sides a ring in another order has. -/
def turnR (r : List Pt) (k : Nat) : List Pt := r.drop k ++ r.take k
theorem turnR_len (r : List Pt) (k : Nat) (h : k ≤ r.length) : (turnR r k).length = r.length := by simp [turnR]; omega
theorem at0_turn (r : List Pt) (k i : Nat) (hk : k ≤ r.length) (hi : i < r.length) : at0 (turnR r k) i = at0 r ((i + k) % r.length) := by
  unfold at0 turnR
  by_cases h : i < r.length - k
  · rw [List.getElem?_append_left (by simp; omega), List.getElem?_drop, Nat.mod_eq_of_lt (by omega), Nat.add_comm]
  · rw [List.getElem?_append_right (by simp; omega), List.length_drop]
    have e : (i + k) % r.length = i - (r.length - k) := by
      rw [Nat.mod_eq_sub_mod (by omega), Nat.mod_eq_of_lt (by omega)]; omega
    rw [e, List.getElem?_take_of_lt (by omega)]
theorem side_turn (r : List Pt) (k i : Nat) (hk : k ≤ r.length) (hi : i < r.length) : sideAt (turnR r k) i = sideAt r ((i + k) % r.length) := by
  unfold sideAt
  rw [turnR_len r k hk, at0_turn r k i hk hi, at0_turn r k _ hk (Nat.mod_lt _ (by omega))]
  congr 2
  rw [Nat.mod_add_mod, Nat.mod_add_mod]
  congr 1
  omega
theorem at0_rev (r : List Pt) (i : Nat) (hi : i < r.length) : at0 r.reverse i = at0 r (r.length - 1 - i) := by
  unfold at0
  rw [List.getElem?_reverse hi]
theorem side_rev (r : List Pt) (i : Nat) (hi : i < r.length) : sideAt r.reverse i = backS (sideAt r ((2 * r.length - 2 - i) % r.length)) := by
  unfold sideAt backS
  rw [List.length_reverse, at0_rev r i hi, at0_rev r _ (Nat.mod_lt _ (by omega))]
  by_cases h : i = r.length - 1
  · subst h
    have e1 : (r.length - 1 + 1) % r.length = 0 := by rw [show r.length - 1 + 1 = r.length from by omega, Nat.mod_self]
    have e2 : (2 * r.length - 2 - (r.length - 1)) % r.length = r.length - 1 := by rw [show 2 * r.length - 2 - (r.length - 1) = r.length - 1 from by omega, Nat.mod_eq_of_lt (by omega)]
    rw [e1, e2, e1]
    simp
  · have e1 : (i + 1) % r.length = i + 1 := Nat.mod_eq_of_lt (by omega)
    have e2 : (2 * r.length - 2 - i) % r.length = r.length - 2 - i := by rw [Nat.mod_eq_sub_mod (by omega), Nat.mod_eq_of_lt (by omega)]; omega
    have e3 : (r.length - 2 - i + 1) % r.length = r.length - 1 - i := by rw [Nat.mod_eq_of_lt (by omega)]; omega
    rw [e1, e2, e3]
    simp only [Sg.mk.injEq, true_and]
    congr 1
    omega
theorem sd_turn (r : List Pt) (k : Nat) (hk : k ≤ r.length) : sd (turnR r k) = (sd r).drop k ++ (sd r).take k := by
  apply List.ext_getElem?
  intro i
  by_cases hi : i < r.length
  · rw [sd_get _ i (by rw [turnR_len r k hk]; exact hi), side_turn r k i hk hi]
    by_cases h : i < r.length - k
    · rw [List.getElem?_append_left (by simp [sd_len]; omega), List.getElem?_drop, sd_get r _ (by omega), Nat.mod_eq_of_lt (by omega), Nat.add_comm]
    · rw [List.getElem?_append_right (by simp [sd_len]; omega), List.length_drop, sd_len, List.getElem?_take_of_lt (by omega), sd_get r _ (by omega)]
      have e : (i + k) % r.length = i - (r.length - k) := by
        rw [Nat.mod_eq_sub_mod (by omega), Nat.mod_eq_of_lt (by omega)]; omega
      rw [e]
  · rw [List.getElem?_eq_none (by rw [sd_len, turnR_len r k hk]; omega), List.getElem?_eq_none (by simp [sd_len]; omega)]
theorem sd_rev (r : List Pt) : sd r.reverse = ((sd r).reverse.drop 1 ++ (sd r).reverse.take 1).map backS := by
  apply List.ext_getElem?
  intro i
  by_cases hi : i < r.length
  · rw [sd_get _ i (by simpa using hi), side_rev r i hi, List.getElem?_map]
    by_cases h : i < r.length - 1
    · rw [List.getElem?_append_left (by simp [sd_len]; omega), List.getElem?_drop, List.getElem?_reverse (by rw [sd_len]; omega), sd_len, sd_get r _ (by omega)]
      have e : (2 * r.length - 2 - i) % r.length = r.length - 1 - (1 + i) := by rw [Nat.mod_eq_sub_mod (by omega), Nat.mod_eq_of_lt (by omega)]; omega
      rw [e]; rfl
    · have hi2 : i = r.length - 1 := by omega
      subst hi2
      rw [List.getElem?_append_right (by simp [sd_len]), List.length_drop, List.length_reverse, sd_len, Nat.sub_self, List.getElem?_take_of_lt (by omega), List.getElem?_reverse (by rw [sd_len]; omega), sd_len, sd_get r _ (by omega)]
      have e2 : (2 * r.length - 2 - (r.length - 1)) % r.length = r.length - 1 := by rw [show 2 * r.length - 2 - (r.length - 1) = r.length - 1 from by omega, Nat.mod_eq_of_lt (by omega)]
      rw [e2]; rfl
  · rw [List.getElem?_eq_none (by rw [sd_len]; simp; omega), List.getElem?_eq_none (by simp [sd_len]; omega)]
theorem perm_turn {α : Type} (l : List α) (k : Nat) : (l.drop k ++ l.take k).Perm l :=
  List.perm_append_comm.trans (by rw [List.take_append_drop])
theorem alike_turn (r : List Pt) (k : Nat) (hk : k ≤ r.length) : Alike (sd (turnR r k)) (sd r) := .inl (by rw [sd_turn r k hk]; exact perm_turn _ _)
theorem alike_rev (r : List Pt) : Alike (sd r.reverse) (sd r) := .inr (by rw [sd_rev]; exact ((perm_turn _ 1).trans (List.reverse_perm _)).map _)
theorem backS_backS (s : Sg) : backS (backS s) = s := rfl
theorem Alike.trans {a b c : List Sg} (h : Alike a b) (k : Alike b c) : Alike a c := by
  have e : ∀ l : List Sg, (l.map backS).map backS = l := fun l => by rw [List.map_map]; exact List.map_id'' (fun s => rfl) l
  rcases h with h | h <;> rcases k with k | k
  · exact .inl (h.trans k)
  · exact .inr (h.trans k)
  · exact .inr (h.trans (k.map _))
  · refine .inl (h.trans ?_)
    have := k.map backS
    rwa [e] at this

/-! Simple rings. -/
theorem nearL_iff (r : List Pt) : nearL r = true ↔ ∀ p ∈ r, nearB p = true := by
  induction r with
  | nil => simp [nearL]
  | cons p r ih => simp [nearL, ih]
theorem regB_perm {r r' : List Pt} (h : r'.Perm r) : regB r' = regB r := by
  unfold regB
  rw [h.length_eq]
  congr 1
  rw [Bool.eq_iff_iff, nearL_iff, nearL_iff]
  exact ⟨fun k p hp => k p (h.mem_iff.2 hp), fun k p hp => k p (h.mem_iff.1 hp)⟩
def adj (n i k : Nat) : Prop := (i + 1) % n = k ∨ (k + 1) % n = i
theorem rowB_iff (n : Nat) (x : Nat × Sg) (l : List (Nat × Sg)) : rowB n x l = true ↔ ∀ y ∈ l, x.1 ≤ y.1 ∨ pairB n x y = true := by
  induction l with
  | nil => simp [rowB]
  | cons y l ih => simp [rowB, ih]
theorem allB_iff (n : Nat) (s l : List (Nat × Sg)) : allB n s l = true ↔ ∀ x ∈ l, rowB n x s = true := by
  induction l with
  | nil => simp [allB]
  | cons y l ih => simp [allB, ih]
theorem nbr_adj (n i k : Nat) (h3 : 3 ≤ n) (hi : i < n) (hk : k < i) : nbr n i k = true ↔ adj n i k := by
  unfold nbr adj
  simp only [Bool.or_eq_true, decide_eq_true_eq]
  have e1 : (k + 1) % n = k + 1 := Nat.mod_eq_of_lt (by omega)
  rw [e1]
  by_cases h : i + 1 = n
  · rw [h, Nat.mod_self]; omega
  · rw [Nat.mod_eq_of_lt (by omega)]; omega
/-- What it says that a ring is simple. -/
structure Simp (r : List Pt) : Prop where
  reg : regB r = true
  near : ∀ i k, i < r.length → k < r.length → i ≠ k → adj r.length i k → meets (sideAt r i) (sideAt r k) = 1
  far : ∀ i k, i < r.length → k < r.length → i ≠ k → ¬ adj r.length i k → meets (sideAt r i) (sideAt r k) = 0
theorem adj_symm (n i k : Nat) : adj n i k ↔ adj n k i := by unfold adj; omega
theorem simple_iff (r : List Pt) : simple r = true ↔ Simp r := by
  unfold simple
  rw [Bool.and_eq_true, allB_iff]
  constructor
  · rintro ⟨h1, h2⟩
    obtain ⟨h3, _, _⟩ := (regB_iff r).1 h1
    have key : ∀ i k, i < r.length → k < i → pairB r.length (i, sideAt r i) (k, sideAt r k) = true := by
      intro i k hi hk
      have := h2 (i, sideAt r i) (List.mem_map.2 ⟨i, List.mem_range.2 hi, rfl⟩)
      rw [rowB_iff] at this
      rcases this (k, sideAt r k) (List.mem_map.2 ⟨k, List.mem_range.2 (by omega), rfl⟩) with h | h
      · simp only at h; omega
      · exact h
    have key2 : ∀ i k, i < r.length → k < i → (adj r.length i k → meets (sideAt r i) (sideAt r k) = 1) ∧ (¬ adj r.length i k → meets (sideAt r i) (sideAt r k) = 0) := by
      intro i k hi hk
      have hp := key i k hi hk
      unfold pairB at hp
      simp only at hp
      have hn := nbr_adj r.length i k h3 hi hk
      constructor
      · intro ha; rw [if_pos (hn.2 ha)] at hp; simpa using hp
      · intro ha; rw [if_neg (fun h => ha (hn.1 h))] at hp; simpa using hp
    refine ⟨h1, fun i k hi hk hne ha => ?_, fun i k hi hk hne ha => ?_⟩
    · rcases Nat.lt_or_gt_of_ne hne with h | h
      · rw [meets_symm]; exact (key2 k i hk h).1 ((adj_symm _ _ _).1 ha)
      · exact (key2 i k hi h).1 ha
    · rcases Nat.lt_or_gt_of_ne hne with h | h
      · rw [meets_symm]; exact (key2 k i hk h).2 (fun hh => ha ((adj_symm _ _ _).1 hh))
      · exact (key2 i k hi h).2 ha
  · rintro ⟨h1, h2, h3⟩
    obtain ⟨hl, _, _⟩ := (regB_iff r).1 h1
    refine ⟨h1, fun x hx => ?_⟩
    obtain ⟨i, hi, rfl⟩ := List.mem_map.1 hx
    rw [rowB_iff]
    intro y hy
    obtain ⟨k, hk, rfl⟩ := List.mem_map.1 hy
    rw [List.mem_range] at hi hk
    by_cases h : i ≤ k
    · exact .inl h
    · right
      unfold pairB
      simp only
      have hn := nbr_adj r.length i k hl hi (by omega)
      by_cases ha : nbr r.length i k = true
      · rw [if_pos ha]; exact decide_eq_true (h2 i k hi hk (by omega) (hn.1 ha))
      · rw [if_neg ha]; exact decide_eq_true (h3 i k hi hk (by omega) (fun hh => ha (hn.2 hh)))
theorem mod_eq_iff (n a b : Nat) (ha : a < 2 * n) (hb : b < n) : a % n = b ↔ (a = b ∨ a = b + n) := by
  by_cases h1 : a < n
  · rw [Nat.mod_eq_of_lt h1]; omega
  · rw [Nat.mod_eq_sub_mod (by omega), Nat.mod_eq_of_lt (by omega)]; omega
theorem simp_turn {r : List Pt} (k : Nat) (hk : k ≤ r.length) (h : Simp r) : Simp (turnR r k) := by
  have hl := turnR_len r k hk
  obtain ⟨h3, _, _⟩ := (regB_iff r).1 h.reg
  have key : ∀ i j, i < r.length → j < r.length → i ≠ j → ((i + k) % r.length ≠ (j + k) % r.length) ∧ (adj r.length ((i + k) % r.length) ((j + k) % r.length) ↔ adj r.length i j) := by
    intro i j hi hj hne
    obtain ⟨a, ha⟩ : ∃ a, a = (i + k) % r.length := ⟨_, rfl⟩
    obtain ⟨b, hb⟩ : ∃ b, b = (j + k) % r.length := ⟨_, rfl⟩
    have la : a < r.length := by rw [ha]; exact Nat.mod_lt _ (by omega)
    have lb : b < r.length := by rw [hb]; exact Nat.mod_lt _ (by omega)
    have e1 := (mod_eq_iff r.length (i + k) a (by omega) la).1 ha.symm
    have e2 := (mod_eq_iff r.length (j + k) b (by omega) lb).1 hb.symm
    rw [← ha, ← hb]
    unfold adj
    rw [mod_eq_iff _ (a + 1) b (by omega) lb, mod_eq_iff _ (b + 1) a (by omega) la, mod_eq_iff _ (i + 1) j (by omega) hj, mod_eq_iff _ (j + 1) i (by omega) hi]
    omega
  refine ⟨?_, fun i j hi hj hne ha => ?_, fun i j hi hj hne ha => ?_⟩
  · rw [show turnR r k = r.drop k ++ r.take k from rfl, regB_perm (perm_turn r k)]; exact h.reg
  · rw [hl] at hi hj ha
    rw [side_turn r k i hk hi, side_turn r k j hk hj]
    exact h.near _ _ (Nat.mod_lt _ (by omega)) (Nat.mod_lt _ (by omega)) (key i j hi hj hne).1 ((key i j hi hj hne).2.2 ha)
  · rw [hl] at hi hj ha
    rw [side_turn r k i hk hi, side_turn r k j hk hj]
    exact h.far _ _ (Nat.mod_lt _ (by omega)) (Nat.mod_lt _ (by omega)) (key i j hi hj hne).1 (fun hh => ha ((key i j hi hj hne).2.1 hh))
theorem simp_rev {r : List Pt} (h : Simp r) : Simp r.reverse := by
  obtain ⟨h3, _, _⟩ := (regB_iff r).1 h.reg
  have key : ∀ i j, i < r.length → j < r.length → i ≠ j → ((2 * r.length - 2 - i) % r.length ≠ (2 * r.length - 2 - j) % r.length) ∧ (adj r.length ((2 * r.length - 2 - i) % r.length) ((2 * r.length - 2 - j) % r.length) ↔ adj r.length i j) := by
    intro i j hi hj hne
    obtain ⟨a, ha⟩ : ∃ a, a = (2 * r.length - 2 - i) % r.length := ⟨_, rfl⟩
    obtain ⟨b, hb⟩ : ∃ b, b = (2 * r.length - 2 - j) % r.length := ⟨_, rfl⟩
    have la : a < r.length := by rw [ha]; exact Nat.mod_lt _ (by omega)
    have lb : b < r.length := by rw [hb]; exact Nat.mod_lt _ (by omega)
    have e1 := (mod_eq_iff r.length _ a (by omega) la).1 ha.symm
    have e2 := (mod_eq_iff r.length _ b (by omega) lb).1 hb.symm
    rw [← ha, ← hb]
    unfold adj
    rw [mod_eq_iff _ (a + 1) b (by omega) lb, mod_eq_iff _ (b + 1) a (by omega) la, mod_eq_iff _ (i + 1) j (by omega) hj, mod_eq_iff _ (j + 1) i (by omega) hi]
    omega
  refine ⟨?_, fun i j hi hj hne ha => ?_, fun i j hi hj hne ha => ?_⟩
  · rw [regB_perm (List.reverse_perm r)]; exact h.reg
  · rw [List.length_reverse] at hi hj ha
    rw [side_rev r i hi, side_rev r j hj, meets_back, meets_back2]
    exact h.near _ _ (Nat.mod_lt _ (by omega)) (Nat.mod_lt _ (by omega)) (key i j hi hj hne).1 ((key i j hi hj hne).2.2 ha)
  · rw [List.length_reverse] at hi hj ha
    rw [side_rev r i hi, side_rev r j hj, meets_back, meets_back2]
    exact h.far _ _ (Nat.mod_lt _ (by omega)) (Nat.mod_lt _ (by omega)) (key i j hi hj hne).1 (fun hh => ha ((key i j hi hj hne).2.1 hh))
theorem turn_turn (r : List Pt) (k : Nat) : turnR (turnR r k) (r.length - k) = r := by
  unfold turnR
  have e : (r.drop k).length = r.length - k := by simp
  rw [List.drop_append_of_le_length (by rw [e]; omega), ← e, List.drop_length, List.nil_append, List.take_append_of_le_length (Nat.le_refl _), List.take_length, List.take_append_drop]
theorem simple_turn (r : List Pt) (k : Nat) (hk : k ≤ r.length) : simple (turnR r k) = simple r := by
  rw [Bool.eq_iff_iff, simple_iff, simple_iff]
  refine ⟨fun h => ?_, fun h => simp_turn k hk h⟩
  have := simp_turn (r.length - k) (by rw [turnR_len r k hk]; omega) h
  rwa [turn_turn r k] at this
theorem simple_rev (r : List Pt) : simple r.reverse = simple r := by
  rw [Bool.eq_iff_iff, simple_iff, simple_iff]
  refine ⟨fun h => ?_, fun h => simp_rev h⟩
  have := simp_rev h
  rwa [List.reverse_reverse] at this

/-! The relation of two rings. -/
theorem badL_iff (x : Sg) (l : List (Nat × Sg)) : badL x l = true ↔ ∃ y ∈ l.map Prod.snd, badM (meets x y) = true := by
  induction l with
  | nil => simp [badL]
  | cons y l ih => simp [badL, ih]
theorem badLL_iff (s l : List (Nat × Sg)) : badLL s l = true ↔ ∃ x ∈ l.map Prod.snd, ∃ y ∈ s.map Prod.snd, badM (meets x y) = true := by
  induction l with
  | nil => simp [badLL]
  | cons y l ih =>
    rw [badLL, Bool.or_eq_true, badL_iff, ih, List.map_cons]
    simp
theorem alike_mem {a b : List Sg} (h : Alike a b) {x : Sg} (hx : x ∈ a) : x ∈ b ∨ backS x ∈ b := by
  rcases h with h | h
  · exact .inl (h.mem_iff.1 hx)
  · obtain ⟨y, hy, rfl⟩ := List.mem_map.1 (h.mem_iff.1 hx)
    exact .inr hy
theorem Alike.symm {a b : List Sg} (h : Alike a b) : Alike b a := by
  have e : ∀ l : List Sg, (l.map backS).map backS = l := fun l => by rw [List.map_map]; exact List.map_id'' (fun s => rfl) l
  rcases h with h | h
  · exact .inl h.symm
  · refine .inr ?_
    have := h.symm.map backS
    rwa [e] at this
theorem badLL_alike (r r' s s' : List Pt) (h : Alike (sd r') (sd r)) (k : Alike (sd s') (sd s)) : badLL (sidesL s') (sidesL r') = badLL (sidesL s) (sidesL r) := by
  have key : ∀ r r' s s' : List Pt, Alike (sd r') (sd r) → Alike (sd s') (sd s) → badLL (sidesL s') (sidesL r') = true → badLL (sidesL s) (sidesL r) = true := by
    intro r r' s s' h k
    rw [badLL_iff, badLL_iff, sd_sides, sd_sides, sd_sides, sd_sides]
    rintro ⟨x, hx, y, hy, hm⟩
    rcases alike_mem h hx with hx | hx <;> rcases alike_mem k hy with hy | hy
    · exact ⟨x, hx, y, hy, hm⟩
    · exact ⟨x, hx, _, hy, by rw [meets_back2]; exact hm⟩
    · exact ⟨_, hx, y, hy, by rw [meets_back]; exact hm⟩
    · exact ⟨_, hx, _, hy, by rw [meets_back, meets_back2]; exact hm⟩
  rw [Bool.eq_iff_iff]
  exact ⟨key r r' s s' h k, key r' r s' s h.symm k.symm⟩
def cntS (big : List Pt) (v : Int) : List Sg → Int
  | [] => 0
  | x :: l => (if locate big (midP x) = v then 1 else 0) + cntS big v l
theorem cntL_sd (big : List Pt) (v : Int) (l : List (Nat × Sg)) : cntL big v l = cntS big v (l.map Prod.snd) := by
  induction l with
  | nil => rfl
  | cons x l ih => simp only [cntL, List.map_cons, cntS, ih]
theorem cntS_perm (big : List Pt) (v : Int) {a b : List Sg} (h : a.Perm b) : cntS big v a = cntS big v b := by
  induction h with
  | nil => rfl
  | cons x _ ih => simp only [cntS, ih]
  | swap x y l => simp only [cntS]; omega
  | trans _ _ h1 h2 => exact h1.trans h2
theorem midP_back (s : Sg) : midP (backS s) = midP s := by unfold midP backS; simp only [Pt.mk.injEq]; omega
theorem cntS_back (big : List Pt) (v : Int) (l : List Sg) : cntS big v (l.map backS) = cntS big v l := by
  induction l with
  | nil => rfl
  | cons x l ih => simp only [List.map_cons, cntS, ih, midP_back]
theorem cntS_alike (big : List Pt) (v : Int) {a b : List Sg} (h : Alike a b) : cntS big v a = cntS big v b := by
  rcases h with h | h
  · exact cntS_perm big v h
  · rw [cntS_perm big v h, cntS_back]
theorem cntS_big (big big' : List Pt) (v : Int) (l : List Sg) (h : ∀ p, locate big' p = locate big p) : cntS big' v l = cntS big v l := by
  induction l with
  | nil => rfl
  | cons x l ih => simp only [cntS, ih, h]
theorem cnt_sd (r s : List Pt) (v : Int) : cnt r s v = cntS (dblR s) v (sd r) := by unfold cnt; rw [cntL_sd, sd_sides]
/-- A ring in another order. -/
structure Ord (r r' : List Pt) : Prop where
  simple : simple r' = simple r
  alike : Alike (sd r') (sd r)
  dbl : Alike (sd (dblR r')) (sd (dblR r))
theorem Ord.trans {r r' r'' : List Pt} (h : Ord r r') (k : Ord r' r'') : Ord r r'' := ⟨k.simple.trans h.simple, k.alike.trans h.alike, k.dbl.trans h.dbl⟩
theorem Ord.refl (r : List Pt) : Ord r r := ⟨rfl, .inl (List.Perm.refl _), .inl (List.Perm.refl _)⟩
theorem ord_turn (r : List Pt) (k : Nat) (hk : k ≤ r.length) : Ord r (turnR r k) := by
  refine ⟨simple_turn r k hk, alike_turn r k hk, ?_⟩
  have e : dblR (turnR r k) = turnR (dblR r) k := by unfold dblR turnR; rw [List.map_append, List.map_drop, List.map_take]
  rw [e]
  exact alike_turn _ _ (by simp [dblR]; exact hk)
theorem ord_turnQ (r : List Pt) (b : Nat) : Ord r (turnR r (b % r.length)) := by
  by_cases h : r.length = 0
  · have : r = [] := List.eq_nil_of_length_eq_zero h
    subst this
    simp only [turnR, List.drop_nil, List.take_nil, List.append_nil]
    exact Ord.refl _
  · exact ord_turn r _ (Nat.le_of_lt (Nat.mod_lt _ (by omega)))
theorem ord_rev (r : List Pt) : Ord r r.reverse := by
  refine ⟨simple_rev r, alike_rev r, ?_⟩
  have e : dblR r.reverse = (dblR r).reverse := by unfold dblR; rw [List.map_reverse]
  rw [e]
  exact alike_rev _
theorem cnt_ord {r r' s s' : List Pt} (h : Ord r r') (k : Ord s s') (v : Int) : cnt r' s' v = cnt r s v := by
  rw [cnt_sd, cnt_sd, cntS_alike _ v h.alike, cntS_big _ _ v _ (fun p => locate_alike _ _ p k.dbl)]
theorem side_ord {r r' : List Pt} (h : Ord r r') (p : Pt) : sideR r' p = sideR r p := by
  unfold sideR
  rw [h.simple, locate_alike _ _ p h.alike]
theorem relation_ord {r r' s s' : List Pt} (h : Ord r r') (k : Ord s s') : relation r' s' = relation r s := by
  unfold relation
  rw [h.simple, k.simple, badLL_alike _ _ _ _ h.alike k.alike, cnt_ord h k, cnt_ord h k, cnt_ord k h, cnt_ord k h]
end Go.Proofs.PlRing
