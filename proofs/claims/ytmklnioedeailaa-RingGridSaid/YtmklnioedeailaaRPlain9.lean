/-
  The plain law of RingMoves: all points moved by the same distance. No program in sight.
-/
import Derived.Test.YtmklnioedeailaaRPlain6
import Derived.Test.YtmklnioedeailaaPlainO
import Derived.Test.YtmklnioedeailaaPlainT
namespace Go.Proofs.PlRing
open Go.Proofs.PlGeom

def mv (d p : Pt) : Pt := ⟨p.x + d.x, p.y + d.y⟩
def mvS (d : Pt) (s : Sg) : Sg := ⟨mv d s.a, mv d s.b⟩
theorem mv_inj (d a b : Pt) : mv d a = mv d b ↔ a = b := by
  constructor
  · intro h
    simp only [mv, Pt.mk.injEq] at h
    cases a; cases b
    simp only [Pt.mk.injEq]
    simp only at h
    omega
  · rintro rfl; rfl
theorem cmpI_mv (a b c : Int) : cmpI (a + c) (b + c) = cmpI a b := by unfold cmpI; (repeat' split) <;> omega
theorem cmpP_mv (d a b : Pt) : cmpP (mv d a) (mv d b) = cmpP a b := by unfold cmpP mv; simp only [cmpI_mv]
theorem sortS_mv (d : Pt) (s : Sg) : sortS (mvS d s) = mvS d (sortS s) := by
  unfold sortS
  have e : cmpP (mvS d s).a (mvS d s).b = cmpP s.a s.b := cmpP_mv d s.a s.b
  rw [e]
  split <;> rfl
/-- Near, and near when moved. -/
def both (d p : Pt) : Prop := nearB p = true ∧ nearB (mv d p) = true
theorem orient_mv (d a b c : Pt) (ha : both d a) (hb : both d b) (hc : both d c) : orient (mv d a) (mv d b) (mv d c) = orient a b c :=
  orient_moved a b c d (by simp [nearL, ha.1, hb.1, hc.1]) (by have h1 := ha.2; have h2 := hb.2; have h3 := hc.2; unfold mv at h1 h2 h3; simp [nearL, h1, h2, h3])
theorem onS_mv (d : Pt) (s : Sg) (p : Pt) (ha : both d s.a) (hb : both d s.b) (hp : both d p) : onS (mvS d s) (mv d p) = onS s p := by
  unfold onS
  rw [sortS_mv]
  have h1 : nearL [(mvS d s).a, (mvS d s).b, mv d p] = true := by simp [nearL, mvS, ha.2, hb.2, hp.2]
  have h2 : nearL [s.a, s.b, p] = true := by simp [nearL, ha.1, hb.1, hp.1]
  rw [h1, h2]
  have hs : both d (sortS s).a ∧ both d (sortS s).b := by rcases sortS_case s with e | e <;> rw [e] <;> exact ⟨by assumption, by assumption⟩
  show (_ && (orient (mv d (sortS s).a) (mv d (sortS s).b) (mv d p) == 0 && decide (cmpP (mv d (sortS s).a) (mv d p) ≤ 0) && decide (cmpP (mv d p) (mv d (sortS s).b) ≤ 0) && (decide (mv d (sortS s).a ≠ mv d (sortS s).b) || decide (mv d p = mv d (sortS s).a)))) = _
  rw [orient_mv d _ _ _ hs.1 hs.2 hp, cmpP_mv, cmpP_mv]
  simp only [ne_eq, mv_inj]
theorem comL_mv (d : Pt) (f g : Pt → Bool) (l : List Pt) : ∀ acc, (∀ p ∈ l, g (mv d p) = f p) → comL g (acc.map (mv d)) (l.map (mv d)) = (comL f acc l).map (mv d) := by
  have hc : ∀ (acc : List Pt) p, (acc.map (mv d)).contains (mv d p) = acc.contains p := by
    intro acc p
    rw [Bool.eq_iff_iff, List.contains_iff_mem, List.contains_iff_mem, List.mem_map]
    exact ⟨fun ⟨q, hq, e⟩ => by rw [← (mv_inj d q p).1 e]; exact hq, fun h => ⟨p, h, rfl⟩⟩
  induction l with
  | nil => intro acc _; rfl
  | cons p l ih =>
    intro acc h
    have h1 := h p (by simp)
    have h2 := fun q hq => h q (List.mem_cons_of_mem _ hq)
    simp only [List.map_cons, comL, h1, hc]
    by_cases hh : (!acc.contains p && f p) = true
    · rw [if_pos hh, if_pos hh]
      have := ih (acc ++ [p]) h2
      rw [List.map_append] at this
      exact this
    · rw [if_neg hh, if_neg hh]
      exact ih acc h2
theorem meets_mv (d : Pt) (s t : Sg) (h1 : both d s.a) (h2 : both d s.b) (h3 : both d t.a) (h4 : both d t.b) : meets (mvS d s) (mvS d t) = meets s t := by
  rw [meetR_meets, meetR_meets]
  unfold meetR
  have n1 : nearL [(mvS d s).a, (mvS d s).b, (mvS d t).a, (mvS d t).b] = true := by simp [nearL, mvS, h1.2, h2.2, h3.2, h4.2]
  have n2 : nearL [s.a, s.b, t.a, t.b] = true := by simp [nearL, h1.1, h2.1, h3.1, h4.1]
  rw [if_pos n1, if_pos n2]
  have hc := comL_mv d (fun p => onS s p && onS t p) (fun p => onS (mvS d s) p && onS (mvS d t) p) [s.a, s.b, t.a, t.b] [] (by
    intro p hp
    have hb : both d p := by
      simp only [List.mem_cons, List.not_mem_nil, or_false] at hp
      rcases hp with rfl | rfl | rfl | rfl <;> assumption
    show (onS (mvS d s) (mv d p) && onS (mvS d t) (mv d p)) = (onS s p && onS t p)
    rw [onS_mv d s p h1 h2 hb, onS_mv d t p h3 h4 hb])
  have he : (mvS d s = mvS d t ∨ ((mvS d s).a = (mvS d t).b ∧ (mvS d s).b = (mvS d t).a)) ↔ (s = t ∨ (s.a = t.b ∧ s.b = t.a)) := by
    have e1 : mvS d s = mvS d t ↔ s = t := by
      unfold mvS
      cases s; cases t
      simp only [Sg.mk.injEq, mv_inj]
    have e2 : (mvS d s).a = (mvS d t).b ↔ s.a = t.b := mv_inj d _ _
    have e3 : (mvS d s).b = (mvS d t).a ↔ s.b = t.a := mv_inj d _ _
    rw [e1, e2, e3]
  have hl : [(mvS d s).a, (mvS d s).b, (mvS d t).a, (mvS d t).b] = [s.a, s.b, t.a, t.b].map (mv d) := rfl
  rw [hl]
  have hcc : comL (fun p => onS (mvS d s) p && onS (mvS d t) p) [] (List.map (mv d) [s.a, s.b, t.a, t.b]) = (comL (fun p => onS s p && onS t p) [] [s.a, s.b, t.a, t.b]).map (mv d) := hc
  rw [hcc]
  by_cases h : s = t ∨ (s.a = t.b ∧ s.b = t.a)
  · rw [if_pos h, if_pos (he.2 h)]
  · rw [if_neg h, if_neg (fun hh => h (he.1 hh))]
    cases comL (fun p => onS s p && onS t p) [] [s.a, s.b, t.a, t.b] with
    | nil =>
      have ha : apartB (mvS d s) (mvS d t) = apartB s t := by
        unfold apartB
        show (decide (orient (mv d s.a) (mv d s.b) (mv d t.a) * orient (mv d s.a) (mv d s.b) (mv d t.b) < 0) && decide (orient (mv d t.a) (mv d t.b) (mv d s.a) * orient (mv d t.a) (mv d t.b) (mv d s.b) < 0)) = _
        rw [orient_mv d _ _ _ h1 h2 h3, orient_mv d _ _ _ h1 h2 h4, orient_mv d _ _ _ h3 h4 h1, orient_mv d _ _ _ h3 h4 h2]
      simp only [List.map_nil, ha]
    | cons c l =>
      cases l with
      | nil =>
        have e1 : mv d c = (mvS d s).a ↔ c = s.a := mv_inj d _ _
        have e2 : mv d c = (mvS d s).b ↔ c = s.b := mv_inj d _ _
        have e3 : mv d c = (mvS d t).a ↔ c = t.a := mv_inj d _ _
        have e4 : mv d c = (mvS d t).b ↔ c = t.b := mv_inj d _ _
        simp only [List.map_cons, List.map_nil, e1, e2, e3, e4]
      | cons e l => rfl

def mvR (d : Pt) (r : List Pt) : List Pt := r.map (mv d)
theorem mvR_len (d : Pt) (r : List Pt) : (mvR d r).length = r.length := by simp [mvR]
theorem at0_mv (d : Pt) (r : List Pt) (i : Nat) (h : i < r.length) : at0 (mvR d r) i = mv d (at0 r i) := by
  unfold at0 mvR
  rw [List.getElem?_map, List.getElem?_eq_getElem h]; rfl
theorem side_mv (d : Pt) (r : List Pt) (i : Nat) (h : i < r.length) : sideAt (mvR d r) i = mvS d (sideAt r i) := by
  unfold sideAt mvS
  rw [mvR_len, at0_mv d r i h, at0_mv d r _ (Nat.mod_lt _ (by omega))]
theorem sd_mv (d : Pt) (r : List Pt) : sd (mvR d r) = (sd r).map (mvS d) := by
  unfold sd
  rw [mvR_len, List.map_map]
  exact List.map_congr_left fun i hi => side_mv d r i (List.mem_range.1 hi)
theorem turnP_mv (d a b c : Pt) : turnP (mv d a) (mv d b) (mv d c) = turnP a b c := by unfold turnP mv; simp only; grind
theorem btwB_mv (a n b c : Int) : btwB (a + c) (n + c) (b + c) = btwB a n b := by
  rw [Bool.eq_iff_iff]
  unfold btwB
  rw [Bool.and_eq_true, Bool.and_eq_true, decide_eq_true_eq, decide_eq_true_eq, decide_eq_true_eq, decide_eq_true_eq]
  omega
theorem hitB_mv (d : Pt) (s : Sg) (p : Pt) : hitB (mvS d s) (mv d p) = hitB s p := by
  unfold hitB
  show (turnP (mv d s.a) (mv d s.b) (mv d p) == 0 && btwB (s.a.x + d.x) (p.x + d.x) (s.b.x + d.x) && btwB (s.a.y + d.y) (p.y + d.y) (s.b.y + d.y)) = _
  rw [turnP_mv, btwB_mv, btwB_mv]
theorem windS_mv (d : Pt) (s : Sg) (p : Pt) : windS (mvS d s) (mv d p) = windS s p := by
  have e1 : upB (mvS d s) (mv d p) = upB s p := by
    unfold upB
    show (decide (s.a.y + d.y ≤ p.y + d.y) && decide (p.y + d.y < s.b.y + d.y) && decide (0 < turnP (mv d s.a) (mv d s.b) (mv d p))) = _
    rw [turnP_mv, Bool.eq_iff_iff]
    simp only [Bool.and_eq_true, decide_eq_true_eq]
    omega
  have e2 : downB (mvS d s) (mv d p) = downB s p := by
    unfold downB
    show (decide (p.y + d.y < s.a.y + d.y) && decide (s.b.y + d.y ≤ p.y + d.y) && decide (turnP (mv d s.a) (mv d s.b) (mv d p) < 0)) = _
    rw [turnP_mv, Bool.eq_iff_iff]
    simp only [Bool.and_eq_true, decide_eq_true_eq]
    omega
  unfold windS
  rw [e1, e2]
theorem locate_mv (d : Pt) (r : List Pt) (p : Pt) : locate (mvR d r) (mv d p) = locate r p := by
  rw [locate_sd, locate_sd, sd_mv]
  have e1 : ∀ l : List Sg, hitS (mv d p) (l.map (mvS d)) = hitS p l := by
    intro l; induction l with
    | nil => rfl
    | cons x l ih => simp only [List.map_cons, hitS, ih, hitB_mv]
  have e2 : ∀ l : List Sg, winS (mv d p) (l.map (mvS d)) = winS p l := by
    intro l; induction l with
    | nil => rfl
    | cons x l ih => simp only [List.map_cons, winS, ih, windS_mv]
  rw [e1, e2]
theorem regB_mv (d : Pt) (r : List Pt) (h : ∀ p ∈ r, both d p) : regB (mvR d r) = regB r := by
  have e1 : nearL r = true := (nearL_iff r).2 fun p hp => (h p hp).1
  have e2 : nearL (mvR d r) = true := (nearL_iff _).2 fun p hp => by obtain ⟨q, hq, rfl⟩ := List.mem_map.1 hp; exact (h q hq).2
  unfold regB
  rw [e1, e2, mvR_len]
theorem side_both (d : Pt) (r : List Pt) (h : ∀ p ∈ r, both d p) (i : Nat) (hi : i < r.length) : both d (sideAt r i).a ∧ both d (sideAt r i).b := by
  have k : ∀ j, j < r.length → both d (at0 r j) := fun j hj => h _ (List.mem_of_getElem? (at0_some r j hj))
  exact ⟨k i hi, k _ (Nat.mod_lt _ (by omega))⟩
theorem simple_mv (d : Pt) (r : List Pt) (h : ∀ p ∈ r, both d p) : simple (mvR d r) = simple r := by
  have key : ∀ i k, i < r.length → k < r.length → meets (sideAt (mvR d r) i) (sideAt (mvR d r) k) = meets (sideAt r i) (sideAt r k) := by
    intro i k hi hk
    rw [side_mv d r i hi, side_mv d r k hk]
    obtain ⟨a, b⟩ := side_both d r h i hi
    obtain ⟨a', b'⟩ := side_both d r h k hk
    exact meets_mv d _ _ a b a' b'
  have hl := mvR_len d r
  rw [Bool.eq_iff_iff, simple_iff, simple_iff]
  constructor
  · rintro ⟨h1, h2, h3⟩
    rw [regB_mv d r h] at h1
    rw [hl] at h2 h3
    exact ⟨h1, fun i k hi hk hne ha => by rw [← key i k hi hk]; exact h2 i k hi hk hne ha, fun i k hi hk hne ha => by rw [← key i k hi hk]; exact h3 i k hi hk hne ha⟩
  · rintro ⟨h1, h2, h3⟩
    refine ⟨by rw [regB_mv d r h]; exact h1, ?_, ?_⟩ <;> rw [hl]
    · exact fun i k hi hk hne ha => by rw [key i k hi hk]; exact h2 i k hi hk hne ha
    · exact fun i k hi hk hne ha => by rw [key i k hi hk]; exact h3 i k hi hk hne ha
theorem sideR_mv (d : Pt) (r : List Pt) (p : Pt) (h : ∀ p ∈ r, both d p) (hp : both d p) : sideR (mvR d r) (mv d p) = sideR r p := by
  unfold sideR
  rw [simple_mv d r h, hp.1, hp.2, locate_mv]
theorem dbl_mv (d : Pt) (r : List Pt) : dblR (mvR d r) = mvR (dblP d) (dblR r) := by
  unfold dblR mvR
  rw [List.map_map, List.map_map]
  refine List.map_congr_left fun p _ => ?_
  simp only [Function.comp_apply, dblP, mv, Pt.mk.injEq]
  omega
theorem mid_mv (d : Pt) (s : Sg) : midP (mvS d s) = mv (dblP d) (midP s) := by
  unfold midP mvS mv dblP
  simp only [Pt.mk.injEq]
  omega
theorem cnt_mv (d : Pt) (r s : List Pt) (v : Int) : cnt (mvR d r) (mvR d s) v = cnt r s v := by
  rw [cnt_sd, cnt_sd, sd_mv, dbl_mv]
  have : ∀ l : List Sg, cntS (mvR (dblP d) (dblR s)) v (l.map (mvS d)) = cntS (dblR s) v l := by
    intro l; induction l with
    | nil => rfl
    | cons x l ih => simp only [List.map_cons, cntS, ih, mid_mv, locate_mv]
  exact this _
theorem sd_both (d : Pt) (r : List Pt) (h : ∀ p ∈ r, both d p) (x : Sg) (hx : x ∈ sd r) : both d x.a ∧ both d x.b := by
  obtain ⟨i, hi, rfl⟩ := List.mem_map.1 hx
  exact side_both d r h i (List.mem_range.1 hi)
theorem badLL_mv (d : Pt) (r s : List Pt) (h : ∀ p ∈ r, both d p) (k : ∀ p ∈ s, both d p) : badLL (sidesL (mvR d s)) (sidesL (mvR d r)) = badLL (sidesL s) (sidesL r) := by
  rw [Bool.eq_iff_iff, badLL_iff, badLL_iff, sd_sides, sd_sides, sd_sides, sd_sides, sd_mv, sd_mv]
  have key : ∀ x ∈ sd r, ∀ y ∈ sd s, meets (mvS d x) (mvS d y) = meets x y := fun x hx y hy =>
    meets_mv d x y (sd_both d r h x hx).1 (sd_both d r h x hx).2 (sd_both d s k y hy).1 (sd_both d s k y hy).2
  constructor
  · rintro ⟨_, hx, _, hy, hm⟩
    obtain ⟨x, hx2, rfl⟩ := List.mem_map.1 hx
    obtain ⟨y, hy2, rfl⟩ := List.mem_map.1 hy
    rw [key x hx2 y hy2] at hm
    exact ⟨x, hx2, y, hy2, hm⟩
  · rintro ⟨x, hx, y, hy, hm⟩
    exact ⟨_, List.mem_map.2 ⟨x, hx, rfl⟩, _, List.mem_map.2 ⟨y, hy, rfl⟩, by rw [key x hx y hy]; exact hm⟩
theorem relation_mv (d : Pt) (r s : List Pt) (h : ∀ p ∈ r, both d p) (k : ∀ p ∈ s, both d p) : relation (mvR d r) (mvR d s) = relation r s := by
  unfold relation
  rw [simple_mv d r h, simple_mv d s k, badLL_mv d r s h k, cnt_mv, cnt_mv, cnt_mv, cnt_mv]

/-! Twice the area. -/
def termS (s : Sg) : Int := (s.a.x + s.b.x) * (s.b.y - s.a.y)
def sumS : List Sg → Int
  | [] => 0
  | x :: l => termS x + sumS l
def sumDy : List Sg → Int
  | [] => 0
  | x :: l => (x.b.y - x.a.y) + sumDy l
def sumY : List Pt → Int
  | [] => 0
  | p :: l => p.y + sumY l
theorem sumT_sd (l : List (Nat × Sg)) : sumT l = sumS (l.map Prod.snd) := by
  induction l with
  | nil => rfl
  | cons x l ih => simp only [sumT, List.map_cons, sumS, ih]; rfl
theorem sumY_perm {a b : List Pt} (h : a.Perm b) : sumY a = sumY b := by
  induction h with
  | nil => rfl
  | cons x _ ih => simp only [sumY, ih]
  | swap x y l => simp only [sumY]; omega
  | trans _ _ h1 h2 => exact h1.trans h2
theorem sumDy_ends (l : List Sg) : sumDy l = sumY (l.map Sg.b) - sumY (l.map Sg.a) := by
  induction l with
  | nil => rfl
  | cons x l ih => simp only [sumDy, List.map_cons, sumY, ih]; omega
theorem sd_a (r : List Pt) : (sd r).map Sg.a = r := by
  apply List.ext_getElem?
  intro i
  by_cases h : i < r.length
  · rw [List.getElem?_map, sd_get r i h, at0_some r i h]; rfl
  · rw [List.getElem?_eq_none (by simp [sd_len]; omega), List.getElem?_eq_none (by omega)]
theorem sd_b (r : List Pt) (h1 : 1 ≤ r.length) : (sd r).map Sg.b = turnR r 1 := by
  apply List.ext_getElem?
  intro i
  by_cases h : i < r.length
  · rw [List.getElem?_map, sd_get r i h, at0_some (turnR r 1) i (by rw [turnR_len r 1 h1]; exact h), at0_turn r 1 i h1 h]; rfl
  · rw [List.getElem?_eq_none (by simp [sd_len]; omega), List.getElem?_eq_none (by rw [turnR_len r 1 h1]; omega)]
theorem closed (r : List Pt) : sumDy (sd r) = 0 := by
  by_cases h : r.length = 0
  · have : r = [] := List.eq_nil_of_length_eq_zero h
    subst this
    rfl
  · rw [sumDy_ends, sd_a, sd_b r (by omega), sumY_perm (show (turnR r 1).Perm r from perm_turn r 1)]
    omega
theorem sumS_mv (d : Pt) (l : List Sg) : sumS (l.map (mvS d)) = sumS l + 2 * d.x * sumDy l := by
  induction l with
  | nil => simp [sumS, sumDy]
  | cons x l ih =>
    simp only [List.map_cons, sumS, sumDy, ih]
    have : termS (mvS d x) = termS x + 2 * d.x * (x.b.y - x.a.y) := by unfold termS mvS mv; simp only; grind
    rw [this]; grind
theorem twice_mv (d : Pt) (r : List Pt) (h : ∀ p ∈ r, both d p) : twice (mvR d r) = twice r := by
  unfold twice
  rw [regB_mv d r h, sumT_sd, sumT_sd, sd_sides, sd_sides, sd_mv, sumS_mv, closed]
  simp
end Go.Proofs.PlRing
