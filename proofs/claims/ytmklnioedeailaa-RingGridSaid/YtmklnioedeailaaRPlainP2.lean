/-
  The plain laws of layer 4 (ring): the turns of a simple ring (Hopf), and the four winding numbers of a point of the grid. No program in sight.
-/
import Derived.Test.YtmklnioedeailaaRPlainH2
namespace Go.Proofs.PlRing
open Go.Proofs.PlGeom

theorem nn {x y : Int} (hx : 0 ≤ x) (hy : 0 ≤ y) : 0 ≤ x * y := Int.mul_nonneg hx hy
theorem cross_mix (p q v : Pt) : cross p q v = (v.y - p.y) * (q.x - v.x) + (q.y - v.y) * (p.x - v.x) := by unfold cross; grind
/-- Nothing on the left. -/
theorem hs_left {p q v : Pt} (h1 : v.x ≤ p.x) (h2 : v.x ≤ q.x) : hs p q v = 0 := by
  have e := cross_mix p q v
  unfold hs
  by_cases g1 : p.y < v.y ∧ v.y ≤ q.y
  · have a := nn (x := v.y - p.y) (y := q.x - v.x) (by omega) (by omega)
    have b := nn (x := q.y - v.y) (y := p.x - v.x) (by omega) (by omega)
    rw [if_neg (by omega), if_neg (by omega)]
  · by_cases g2 : q.y < v.y ∧ v.y ≤ p.y
    · have a := nn (x := p.y - v.y) (y := q.x - v.x) (by omega) (by omega)
      have b := nn (x := v.y - q.y) (y := p.x - v.x) (by omega) (by omega)
      have a' : (v.y - p.y) * (q.x - v.x) = -((p.y - v.y) * (q.x - v.x)) := by grind
      have b' : (q.y - v.y) * (p.x - v.x) = -((v.y - q.y) * (p.x - v.x)) := by grind
      rw [if_neg (by omega), if_neg (by omega)]
    · rw [if_neg (fun h => g1 ⟨h.1, h.2.1⟩), if_neg (fun h => g2 ⟨h.1, h.2.1⟩)]
/-- Nothing on the right. -/
theorem chi_right {a b p : Pt} (h1 : a.x ≤ p.x) (h2 : b.x ≤ p.x) : chi a b p = 0 := by
  have e := cross_mix a b p
  unfold chi
  by_cases g1 : a.y ≤ p.y ∧ p.y < b.y
  · have u := nn (x := p.y - a.y) (y := p.x - b.x) (by omega) (by omega)
    have v := nn (x := b.y - p.y) (y := p.x - a.x) (by omega) (by omega)
    have u' : (p.y - a.y) * (b.x - p.x) = -((p.y - a.y) * (p.x - b.x)) := by grind
    have v' : (b.y - p.y) * (a.x - p.x) = -((b.y - p.y) * (p.x - a.x)) := by grind
    rw [if_neg (by omega), if_neg (by omega)]
  · by_cases g2 : b.y ≤ p.y ∧ p.y < a.y
    · have u := nn (x := a.y - p.y) (y := p.x - b.x) (by omega) (by omega)
      have v := nn (x := p.y - b.y) (y := p.x - a.x) (by omega) (by omega)
      have u' : (p.y - a.y) * (b.x - p.x) = (a.y - p.y) * (p.x - b.x) := by grind
      have v' : (b.y - p.y) * (a.x - p.x) = (p.y - b.y) * (p.x - a.x) := by grind
      rw [if_neg (by omega), if_neg (by omega)]
    · rw [if_neg (fun h => g1 ⟨h.1, h.2.1⟩), if_neg (fun h => g2 ⟨h.1, h.2.1⟩)]
theorem chi_end (a b : Pt) : chi a b b = 0 ∧ chi a b a = 0 := by
  unfold chi
  rw [(cross_aab a b).1, (cross_aab a b).2]
  constructor <;> ((repeat' split) <;> omega)

/-! The sum of the turns. -/
def jc (P : Nat → Pt) (n i : Nat) : Int := jj (P (i + n - 1)) (P i) (P (i + 1))
theorem jc_per {P : Nat → Pt} {n : Nat} (h : Poly P n) (i : Nat) : jc P n (i + n) = jc P n i := by
  have hn := h.three
  unfold jc
  rw [show i + n + n - 1 = i + n - 1 + n from by omega, show i + n + 1 = i + 1 + n from by omega, h.per, h.per, h.per]
theorem jc_succ {P : Nat → Pt} {n : Nat} (h : Poly P n) (i : Nat) : jc P n (i + 1) = jj (P i) (P (i + 1)) (P (i + 2)) := by
  unfold jc
  rw [show i + 1 + n - 1 = i + n from by omega, h.per]
/-- What the sides from the next corner on, up to the last one, wind around a corner. -/
def CC (P : Nat → Pt) (n i : Nat) : Int := sm (fun j => chi (P j) (P (j + 1)) (P i)) (i + 1) (n - 1 - i)
theorem CC_step {P : Nat → Pt} {n : Nat} (h : Poly P n) (hl : ∀ i, (P 0).x ≤ (P i).x) (i : Nat) (h1 : 1 ≤ i) (h2 : i + 2 ≤ n) :
    CC P n i + kk (P i) (P (i + 1)) = CC P n (i + 1) + kk (P (i + 1)) (P (i + 2)) + jc P n (i + 1) := by
  obtain ⟨m, rfl⟩ : ∃ m, n = i + 2 + m := ⟨n - i - 2, by omega⟩
  have e1 : CC P (i + 2 + m) i = chi (P (i + 1)) (P (i + 2)) (P i) + sm (fun j => chi (P j) (P (j + 1)) (P i)) (i + 2) m := by
    unfold CC
    rw [show i + 2 + m - 1 - i = m + 1 from by omega, sm_succ]
  have e2 : CC P (i + 2 + m) (i + 1) = sm (fun j => chi (P j) (P (j + 1)) (P (i + 1))) (i + 2) m := by
    unfold CC
    rw [show i + 2 + m - 1 - (i + 1) = m from by omega]
  have e3 := sm_tele (fun j => chi (P j) (P (j + 1)) (P i)) (fun j => chi (P j) (P (j + 1)) (P (i + 1))) (fun j => hs (P i) (P (i + 1)) (P j)) (i + 2) m (by
    intro k g1 g2
    have := h.far i (k - i) (by omega) (by omega)
    rw [show i + (k - i) = k from by omega] at this
    exact edge_law _ _ _ _ this)
  have e4 : P (i + 2 + m) = P 0 := by have := h.per 0; rw [Nat.zero_add] at this; exact this
  try simp only at e3
  rw [e4, hs_left (hl i) (hl (i + 1))] at e3
  have e5 := jj_two (P i) (P (i + 1)) (P (i + 2)) (h.cor i)
  rw [e1, e2, jc_succ h]
  omega
theorem CC_zero {P : Nat → Pt} {n : Nat} (h : Poly P n) : CC P n 0 + kk (P 0) (P 1) = CC P n 1 + kk (P 1) (P 2) + jc P n 1 - jc P n 0 := by
  obtain ⟨m, rfl⟩ : ∃ m, n = m + 3 := ⟨n - 3, by have := h.three; omega⟩
  have e4 : P (m + 2 + 1) = P 0 := by have := h.per 0; rw [Nat.zero_add] at this; exact this
  have e1 : CC P (m + 3) 0 = chi (P 1) (P 2) (P 0) + sm (fun j => chi (P j) (P (j + 1)) (P 0)) 2 m := by
    unfold CC
    rw [show m + 3 - 1 - 0 = m + 1 + 1 from by omega, sm_succ, sm_last, show 0 + 1 + 1 + m = m + 2 from by omega, e4, (chi_end _ _).1]
    simp only [Nat.zero_add, Nat.reduceAdd]
    omega
  have e2 : CC P (m + 3) 1 = sm (fun j => chi (P j) (P (j + 1)) (P 1)) 2 m + chi (P (m + 2)) (P 0) (P 1) := by
    unfold CC
    rw [show m + 3 - 1 - 1 = m + 1 from by omega, sm_last, show 1 + 1 + m = m + 2 from by omega, e4]
  have e3 := sm_tele (fun j => chi (P j) (P (j + 1)) (P 0)) (fun j => chi (P j) (P (j + 1)) (P 1)) (fun j => hs (P 0) (P 1) (P j)) 2 m (by
    intro k g1 g2
    have := h.far 0 k (by omega) (by omega)
    rw [show 0 + k = k from by omega] at this
    exact edge_law _ _ _ _ this)
  try simp only at e3
  rw [show 2 + m = m + 2 from by omega] at e3
  have e5 := jj_two (P 0) (P 1) (P 2) (h.cor 0)
  have e6 := jj_one (P (m + 2)) (P 0) (P 1)
  have e7 : jc P (m + 3) 0 = jj (P (m + 2)) (P 0) (P 1) := by unfold jc; rw [show 0 + (m + 3) - 1 = m + 2 from by omega]
  have e8 : jc P (m + 3) (0 + 1) = _ := jc_succ h 0
  rw [Nat.zero_add] at e8
  simp only [Nat.zero_add] at e8
  rw [e1, e2, e7, e8]
  omega
theorem hopf_left {P : Nat → Pt} {n : Nat} (h : Poly P n) (hl : ∀ i, (P 0).x ≤ (P i).x) : sm (jc P n) 0 n = wl P n 0 - kk (P (n - 1)) (P 0) + jc P n 0 := by
  have hn := h.three
  have key : ∀ k, 1 + k + 1 ≤ n → CC P n 1 + kk (P 1) (P 2) = CC P n (1 + k) + kk (P (1 + k)) (P (1 + k + 1)) + sm (jc P n) 2 k := by
    intro k
    induction k with
    | zero => intro _; simp [sm]
    | succ k ih =>
      intro hk
      have := ih (by omega)
      have st := CC_step h hl (1 + k) (by omega) (by omega)
      rw [sm_last, show 2 + k = 1 + k + 1 from by omega]
      rw [show 1 + (k + 1) = 1 + k + 1 from by omega]
      have e : (1 + k + 2) = (1 + k + 1 + 1) := by omega
      rw [e] at st
      omega
  obtain ⟨m, rfl⟩ : ∃ m, n = m + 2 := ⟨n - 2, by omega⟩
  have k1 := key m (by omega)
  have k0 := CC_zero h
  have c1 : CC P (m + 2) (1 + m) = 0 := by unfold CC; rw [show m + 2 - 1 - (1 + m) = 0 from by omega]; rfl
  have e4 : P (1 + m + 1) = P 0 := by have := h.per 0; rw [show 1 + m + 1 = 0 + (m + 2) from by omega]; exact this
  have hw : wl P (m + 2) 0 = tt P (m + 2) 0 + jc P (m + 2) 0 + kk (P 0) (P 1) := rfl
  have ht : tt P (m + 2) 0 = CC P (m + 2) 0 := by
    unfold tt CC
    rw [show m + 2 - 2 = m from by omega, show m + 2 - 1 - 0 = m + 1 from by omega, sm_last, show 0 + 1 + m = 1 + m from by omega, e4, (chi_end _ _).1]
    omega
  rw [sm_succ, sm_succ, show m + 2 - 1 = 1 + m from by omega]
  rw [c1, e4] at k1
  simp only [Nat.zero_add]
  have e9 : (0 + 1 + 1 : Nat) = 2 := rfl
  rw [show (1 + 1 : Nat) = 2 from rfl]
  omega

/-! The plane turned by half a turn, and mirrored. -/
def neg (v : Pt) : Pt := ⟨-v.x, -v.y⟩
def flip (v : Pt) : Pt := ⟨v.x, -v.y⟩
theorem cross_neg (a b c : Pt) : cross (neg a) (neg b) (neg c) = cross a b c := by unfold cross neg; simp only; grind
theorem cross_flp (a b c : Pt) : cross (flip a) (flip b) (flip c) = -cross a b c := by unfold cross flip; simp only; grind
theorem neg_ne {a b : Pt} (h : a ≠ b) : neg a ≠ neg b := fun e => by
  have := pt_ne h
  simp only [neg, Pt.mk.injEq] at e
  omega
theorem flip_ne {a b : Pt} (h : a ≠ b) : flip a ≠ flip b := fun e => by
  have := pt_ne h
  simp only [flip, Pt.mk.injEq] at e
  omega
theorem poly_neg {P : Nat → Pt} {n : Nat} (h : Poly P n) : Poly (fun i => neg (P i)) n := by
  refine ⟨h.three, fun i => by simp only [h.per], fun i => ⟨neg_ne (h.cor i).ab, neg_ne (h.cor i).bc, fun e => ?_⟩, fun i k h1 h2 => ?_, fun i k h1 h2 e1 e2 => ?_⟩
  · rw [cross_neg] at e
    have := (h.cor i).str e
    simp only [neg]
    omega
  · have := h.far i k h1 h2
    unfold apart at *
    simp only [cross_neg]
    exact this
  · rw [cross_neg] at e1 e2
    have := h.sep i k h1 h2 e1 e2
    unfold sepY at *
    simp only [neg]
    omega
theorem poly_flip {P : Nat → Pt} {n : Nat} (h : Poly P n) : Poly (fun i => flip (P i)) n := by
  refine ⟨h.three, fun i => by simp only [h.per], fun i => ⟨flip_ne (h.cor i).ab, flip_ne (h.cor i).bc, fun e => ?_⟩, fun i k h1 h2 => ?_, fun i k h1 h2 e1 e2 => ?_⟩
  · rw [cross_flp] at e
    have := (h.cor i).str (by omega)
    simp only [flip]
    omega
  · have := h.far i k h1 h2
    unfold apart at *
    simp only [cross_flp]
    omega
  · rw [cross_flp] at e1 e2
    have := h.sep i k h1 h2 (by omega) (by omega)
    unfold sepY at *
    simp only [flip]
    omega
theorem wl_neg {P : Nat → Pt} {n : Nat} (h : Poly P n) : wl (fun i => neg (P i)) n 0 = wl P n 0 := by
  have a1 := area_sign h
  have a2 := area_sign (poly_neg h)
  have e : sm (fun j => ((neg (P j)).x + (neg (P (j + 1))).x) * ((neg (P (j + 1))).y - (neg (P j)).y)) 0 n = sm (fun j => ((P j).x + (P (j + 1)).x) * ((P (j + 1)).y - (P j).y)) 0 n :=
    sm_congr _ _ _ _ fun k _ _ => by simp only [neg]; grind
  rw [e] at a2
  have w1 := wl_01 h
  have w2 := wl_01 (poly_neg h)
  omega
theorem wl_flip {P : Nat → Pt} {n : Nat} (h : Poly P n) : wl (fun i => flip (P i)) n 0 = 1 - wl P n 0 := by
  have a1 := area_sign h
  have a2 := area_sign (poly_flip h)
  have e : sm (fun j => ((flip (P j)).x + (flip (P (j + 1))).x) * ((flip (P (j + 1))).y - (flip (P j)).y)) 0 n = -sm (fun j => ((P j).x + (P (j + 1)).x) * ((P (j + 1)).y - (P j).y)) 0 n := by
    rw [← sm_neg]
    exact sm_congr _ _ _ _ fun k _ _ => by simp only [flip]; grind
  rw [e] at a2
  have w1 := wl_01 h
  have w2 := wl_01 (poly_flip h)
  omega
theorem jj_neg (a b c : Pt) : jj (neg a) (neg b) (neg c) = -jj c b a := by
  have e : cross c b a = -cross a b c := by unfold cross; grind
  unfold jj
  rw [cross_neg, e]
  simp only [neg]
  (repeat' split) <;> omega
theorem kk_neg (a b : Pt) : kk (neg a) (neg b) = kk b a := by
  unfold kk neg
  simp only
  (repeat' split) <;> omega
/-- At a corner furthest to the right the number on the left is seen. -/
theorem wl_right {P : Nat → Pt} {n : Nat} (hr : ∀ i, (P i).x ≤ (P 0).x) : wl P n 0 = jc P n 0 + kk (P 0) (P 1) := by
  have hw : wl P n 0 = tt P n 0 + jc P n 0 + kk (P 0) (P 1) := rfl
  have ht : tt P n 0 = 0 := sm_zero _ _ _ fun j _ _ => chi_right (hr j) (hr (j + 1))
  omega
theorem hopf_least {P : Nat → Pt} {n : Nat} (h : Poly P n) (hl : ∀ i, (P 0).x ≤ (P i).x) : sm (jc P n) 0 n = 2 * wl P n 0 - 1 := by
  have hn := h.three
  have h1 := hopf_left h hl
  have h2 := wl_right (P := fun i => neg (P i)) (n := n) (fun i => by simp only [neg]; have := hl i; omega)
  rw [wl_neg h] at h2
  have e1 : jc (fun i => neg (P i)) n 0 = -jj (P 1) (P 0) (P (n - 1)) := by
    unfold jc
    rw [jj_neg, show 0 + n - 1 = n - 1 from by omega, Nat.zero_add]
  have e2 : jc P n 0 = jj (P (n - 1)) (P 0) (P 1) := by
    unfold jc
    rw [show 0 + n - 1 = n - 1 from by omega, Nat.zero_add]
  have hc : Corner (P (n - 1)) (P 0) (P 1) := by
    have := h.cor (n - 1)
    rw [show n - 1 + 1 = 0 + n from by omega, show n - 1 + 2 = 1 + n from by omega, h.per, h.per] at this
    exact this
  have e3 := jjs hc
  have e4 := kk_neg (P 0) (P 1)
  have e5 := kk_flip (h.cor 0).ab
  simp only [Nat.zero_add] at e5
  rw [e1] at h2
  omega
/-- The corners counted from another one. -/
theorem poly_rot {P : Nat → Pt} {n : Nat} (h : Poly P n) (c : Nat) : Poly (fun i => P (i + c)) n := by
  refine ⟨h.three, fun i => ?_, fun i => ?_, fun i k h1 h2 => ?_, fun i k h1 h2 e1 e2 => ?_⟩
  · rw [show i + n + c = i + c + n from by omega, h.per]
  · have := h.cor (i + c)
    rw [show i + c + 1 = i + 1 + c from by omega, show i + c + 2 = i + 2 + c from by omega] at this
    exact this
  · have := h.far (i + c) k h1 h2
    rw [show i + c + 1 = i + 1 + c from by omega, show i + c + k = i + k + c from by omega, show i + k + c + 1 = i + k + 1 + c from by omega] at this
    exact this
  · have := h.sep (i + c) k h1 h2
    rw [show i + c + 1 = i + 1 + c from by omega, show i + c + k = i + k + c from by omega, show i + k + c + 1 = i + k + 1 + c from by omega] at this
    exact this e1 e2
theorem sm_move (f : Nat → Int) (c i n : Nat) : sm (fun j => f (j + c)) i n = sm f (i + c) n := by
  induction n generalizing i with
  | zero => rfl
  | succ n ih => rw [sm_succ, sm_succ, ih, show i + 1 + c = i + c + 1 from by omega]
/-- THE TURNS OF A SIMPLE RING add up to one, with the sign of its direction. -/
theorem hopf {P : Nat → Pt} {n : Nat} (h : Poly P n) : sm (jc P n) 0 n = 2 * wl P n 0 - 1 := by
  have hn := h.three
  obtain ⟨c, hc, _, hmin⟩ := least (fun i => (P i).x) (fun _ => True) n ⟨0, by omega, trivial⟩
  have hall : ∀ i, (P c).x ≤ (P i).x := fun i => by
    have := hmin (i % n) (Nat.mod_lt _ (by omega)) trivial
    simp only [(per_mod h i).1] at this
    exact this
  have hr := hopf_least (poly_rot h c) (fun i => by simp only [Nat.zero_add]; exact hall _)
  have e1 : ∀ i, jc (fun i => P (i + c)) n i = jc P n (i + c) := fun i => by
    unfold jc
    simp only
    rw [show i + n - 1 + c = i + c + n - 1 from by omega, show i + 1 + c = i + c + 1 from by omega]
  have e2 : sm (jc (fun i => P (i + c)) n) 0 n = sm (jc P n) 0 n := by
    rw [sm_congr _ (fun i => jc P n (i + c)) 0 n (fun i _ _ => e1 i), sm_move, Nat.zero_add, sm_any _ n (jc_per h) c]
  have e3 : wl (fun i => P (i + c)) n 0 = wl P n c := by
    unfold wl tt
    simp only [Nat.zero_add]
    have e4 : sm (fun j => chi (P (j + c)) (P (j + 1 + c)) (P c)) 1 (n - 2) = sm (fun j => chi (P j) (P (j + 1)) (P c)) (c + 1) (n - 2) := by
      rw [show c + 1 = 1 + c from by omega, ← sm_move (fun j => chi (P j) (P (j + 1)) (P c)) c 1 (n - 2)]
      exact sm_congr _ _ _ _ fun j _ _ => by rw [show j + 1 + c = j + c + 1 from by omega]
    rw [e4, show n - 1 + c = c + n - 1 from by omega, show 1 + c = c + 1 from by omega]
  rw [← e2, hr, e3, wl_all h c]

/-! The four winding numbers of a point. -/
/-- What an edge adds to the sum of the winding numbers of the four places beside a point. -/
def E4 (a b p : Pt) : Int := chi a b p - chi (flip a) (flip b) (flip p) + chi (neg a) (neg b) (neg p) - chi (flip (neg a)) (flip (neg b)) (flip (neg p))
def four (P : Nat → Pt) (n : Nat) (p : Pt) : Int := sm (fun i => E4 (P i) (P (i + 1)) p) 0 n
theorem four_split (P : Nat → Pt) (n : Nat) (p : Pt) : four P n p = wnd P n p - wnd (fun i => flip (P i)) n (flip p) + wnd (fun i => neg (P i)) n (neg p) - wnd (fun i => flip (neg (P i))) n (flip (neg p)) := by
  unfold four wnd E4
  have k : ∀ f g : Nat → Int, sm (fun i => f i - g i) 0 n = sm f 0 n - sm g 0 n := fun f g => by
    have : (fun i => f i - g i) = (fun i => f i + -g i) := by funext i; omega
    rw [this, sm_add, sm_neg]; omega
  rw [k, sm_add, k]
theorem cross_y1 (a b p : Pt) (h : a.y = p.y) : cross a b p = (a.x - p.x) * (b.y - a.y) := by unfold cross; rw [← h]; grind
theorem cross_y2 (a b p : Pt) (h : b.y = p.y) : cross a b p = (b.x - p.x) * (b.y - a.y) := by unfold cross; rw [← h]; grind
/-- The point is off the segment. -/
def off (a b p : Pt) : Prop := onR ⟨a, b⟩ p = false
theorem off_facts {a b p : Pt} (h : off a b p) : (cross a b p = 0 → ¬ ((a.y < p.y ∧ p.y < b.y) ∨ (b.y < p.y ∧ p.y < a.y))) ∧ (a.y = p.y → a.x ≠ p.x) ∧ (b.y = p.y → b.x ≠ p.x) ∧ (a.y = p.y → b.y = p.y → (p.x < a.x ∧ p.x < b.x) ∨ (a.x < p.x ∧ b.x < p.x)) := by
  have key : onR ⟨a, b⟩ p ≠ true := by unfold off at h; rw [h]; decide
  refine ⟨fun e g => key (on_y a b p e (by omega) (by omega)), fun e e2 => key (seg_on (.inl (pt_ext e2.symm e.symm))), fun e e2 => key (seg_on (.inr (.inl (pt_ext e2.symm e.symm)))), fun e1 e2 => ?_⟩
  have : ¬ ((a.x ≤ p.x ∧ p.x ≤ b.x) ∨ (b.x ≤ p.x ∧ p.x ≤ a.x)) := fun g => key (on_level a b p (by omega) (by omega) g)
  omega
def pu (p v : Pt) : Int := if p.y < v.y ∨ (v.y = p.y ∧ v.x < p.x) then 1 else 0
def pt (p v : Pt) : Int := if v.y = p.y ∧ p.x < v.x then -1 else 0
theorem chi_pu (a b p : Pt) (h : off a b p) : chi a b p - chi (neg a) (neg b) (neg p) = pu p b - pu p a := by
  obtain ⟨h1, h2, h3, h4⟩ := off_facts h
  have e1 := cross_y1 a b p
  have e2 := cross_y2 a b p
  unfold chi pu
  rw [cross_neg]
  simp only [neg]
  generalize cross a b p = k at *
  by_cases fa : a.y = p.y
  · have e1 := e1 fa
    have h2 := h2 fa
    by_cases fb : b.y = p.y
    · have := h4 fa fb
      clear e1 e2 h1 h2 h3 h4
      (repeat' split) <;> omega
    · clear e2 h1 h3 h4
      rcases Int.lt_or_gt_of_ne fb with g | g
      · have := sgn (d := b.y - a.y) (by omega) (a.x - p.x)
        rw [← e1] at this
        clear e1
        (repeat' split) <;> omega
      · have := sgp (d := b.y - a.y) (by omega) (a.x - p.x)
        rw [← e1] at this
        clear e1
        (repeat' split) <;> omega
  · by_cases fb : b.y = p.y
    · have e2 := e2 fb
      have h3 := h3 fb
      clear e1 h1 h2 h4
      rcases Int.lt_or_gt_of_ne fa with g | g
      · have := sgp (d := b.y - a.y) (by omega) (b.x - p.x)
        rw [← e2] at this
        clear e2
        (repeat' split) <;> omega
      · have := sgn (d := b.y - a.y) (by omega) (b.x - p.x)
        rw [← e2] at this
        clear e2
        (repeat' split) <;> omega
    · clear e1 e2 h2 h3 h4
      (repeat' split) <;> omega
theorem chi_pt (a b p : Pt) (h : off a b p) : chi a b p + chi (flip a) (flip b) (flip p) = pt p b - pt p a := by
  obtain ⟨h1, h2, h3, h4⟩ := off_facts h
  have e1 := cross_y1 a b p
  have e2 := cross_y2 a b p
  unfold chi pt
  rw [cross_flp]
  simp only [flip]
  generalize cross a b p = k at *
  by_cases fa : a.y = p.y
  · have e1 := e1 fa
    have h2 := h2 fa
    by_cases fb : b.y = p.y
    · have := h4 fa fb
      clear e1 e2 h1 h2 h3 h4
      (repeat' split) <;> omega
    · clear e2 h1 h3 h4
      rcases Int.lt_or_gt_of_ne fb with g | g
      · have := sgn (d := b.y - a.y) (by omega) (a.x - p.x)
        rw [← e1] at this
        clear e1
        (repeat' split) <;> omega
      · have := sgp (d := b.y - a.y) (by omega) (a.x - p.x)
        rw [← e1] at this
        clear e1
        (repeat' split) <;> omega
  · by_cases fb : b.y = p.y
    · have e2 := e2 fb
      have h3 := h3 fb
      clear e1 h1 h2 h4
      rcases Int.lt_or_gt_of_ne fa with g | g
      · have := sgp (d := b.y - a.y) (by omega) (b.x - p.x)
        rw [← e2] at this
        clear e2
        (repeat' split) <;> omega
      · have := sgn (d := b.y - a.y) (by omega) (b.x - p.x)
        rw [← e2] at this
        clear e2
        (repeat' split) <;> omega
    · clear e1 e2 h2 h3 h4
      (repeat' split) <;> omega
theorem sm_sub (f g : Nat → Int) (i n : Nat) : sm (fun k => f k - g k) i n = sm f i n - sm g i n := by
  have : (fun i => f i - g i) = (fun i => f i + -g i) := by funext i; omega
  rw [this, sm_add, sm_neg]; omega
theorem sm_cyc (u : Nat → Int) (n : Nat) (hp : u n = u 0) : sm (fun i => u (i + 1) - u i) 0 n = 0 := by
  have := sm_tele2 u n
  omega
theorem off_neg {a b p : Pt} (h : off a b p) : off (neg a) (neg b) (neg p) := by
  unfold off at *
  rw [← h, Bool.eq_iff_iff, onR_iff, onR_iff, cross_neg]
  simp only [neg]
  omega
/-- Off the ring, all four are the same. -/
theorem four_off {P : Nat → Pt} {n : Nat} (h : Poly P n) (p : Pt) (ho : ∀ i, off (P i) (P (i + 1)) p) : four P n p = 4 * wnd P n p := by
  have hp : P n = P 0 := by have := h.per 0; rw [Nat.zero_add] at this; exact this
  have a1 : wnd P n p - wnd (fun i => neg (P i)) n (neg p) = 0 := by
    unfold wnd
    rw [← sm_sub, sm_congr _ (fun i => pu p (P (i + 1)) - pu p (P i)) 0 n (fun i _ _ => chi_pu _ _ _ (ho i)), sm_cyc (fun i => pu p (P i)) n (by simp only [hp])]
  have a2 : wnd P n p + wnd (fun i => flip (P i)) n (flip p) = 0 := by
    unfold wnd
    rw [← sm_add, sm_congr _ (fun i => pt p (P (i + 1)) - pt p (P i)) 0 n (fun i _ _ => chi_pt _ _ _ (ho i)), sm_cyc (fun i => pt p (P i)) n (by simp only [hp])]
  have a3 : wnd (fun i => neg (P i)) n (neg p) + wnd (fun i => flip (neg (P i))) n (flip (neg p)) = 0 := by
    unfold wnd
    rw [← sm_add, sm_congr _ (fun i => pt (neg p) (neg (P (i + 1))) - pt (neg p) (neg (P i))) 0 n (fun i _ _ => chi_pt _ _ _ (off_neg (ho i))), sm_cyc (fun i => pt (neg p) (neg (P i))) n (by simp only [hp])]
  rw [four_split]
  omega
theorem wnd_mid {P : Nat → Pt} {n : Nat} (h : Poly P n) (i : Nat) {p : Pt} {m k : Int} (hq : Mid (P i) (P (i + 1)) p m k) : wnd P n p = wl P n 0 - kk (P i) (P (i + 1)) := by
  have h1 := others_wl h i p hq
  have h2 : chi (P i) (P (i + 1)) p = 0 := by
    unfold chi
    rw [hq.on_line]
    (repeat' split) <;> omega
  rw [wnd_at h i, h2]
  omega
theorem Mid.neg {a b p : Pt} {m k : Int} (h : Mid a b p m k) : Mid (PlRing.neg a) (PlRing.neg b) (PlRing.neg p) m k := by
  have h1 := h.ex
  have h2 := h.ey
  exact ⟨h.pm, h.pk, by simp only [PlRing.neg]; grind, by simp only [PlRing.neg]; grind⟩
theorem Mid.flip {a b p : Pt} {m k : Int} (h : Mid a b p m k) : Mid (PlRing.flip a) (PlRing.flip b) (PlRing.flip p) m k := by
  have h1 := h.ex
  have h2 := h.ey
  exact ⟨h.pm, h.pk, by simp only [PlRing.flip]; grind, by simp only [PlRing.flip]; grind⟩
theorem kk_fn (a b : Pt) (h : a ≠ b) : kk (flip (neg a)) (flip (neg b)) = 1 - kk (flip a) (flip b) := by
  have := pt_ne h
  unfold kk flip neg
  simp only
  (repeat' split) <;> omega
theorem kk_n1 (a b : Pt) (h : a ≠ b) : kk (neg a) (neg b) = 1 - kk a b := by rw [kk_neg, kk_flip h]
/-- Inside a side two are those on the one side, two on the other. -/
theorem four_mid {P : Nat → Pt} {n : Nat} (h : Poly P n) (i : Nat) {p : Pt} {m k : Int} (hq : Mid (P i) (P (i + 1)) p m k) : four P n p = 4 * wl P n 0 - 2 := by
  have w1 := wnd_mid h i hq
  have w2 := wnd_mid (poly_neg h) i hq.neg
  have w3 := wnd_mid (poly_flip h) i hq.flip
  have w4 := wnd_mid (poly_flip (poly_neg h)) i hq.neg.flip
  rw [wl_neg h, kk_n1 _ _ (h.cor i).ab] at w2
  rw [wl_flip h] at w3
  rw [wl_flip (poly_neg h), wl_neg h, kk_fn _ _ (h.cor i).ab] at w4
  rw [four_split, w1, w2, w3, w4]
  omega
theorem wnd_cor {P : Nat → Pt} {n : Nat} (h : Poly P n) (i : Nat) : wnd P n (P i) = wl P n 0 - jc P n i - kk (P i) (P (i + 1)) := by
  obtain ⟨l, rfl⟩ : ∃ l, n = l + 2 := ⟨n - 2, by have := h.three; omega⟩
  have e0 : wnd P (l + 2) (P i) = sm (fun j => chi (P j) (P (j + 1)) (P i)) i (l + 2) := by
    unfold wnd
    rw [sm_any (fun j => chi (P j) (P (j + 1)) (P i)) (l + 2) (fun j => by rw [show j + (l + 2) + 1 = j + 1 + (l + 2) from by omega, h.per, h.per]) i]
  have e5 : P (i + 1 + l + 1) = P i := by rw [← h.per i]; congr 1; omega
  have hw := wl_all h i
  have hd : wl P (l + 2) i = tt P (l + 2) i + jc P (l + 2) i + kk (P i) (P (i + 1)) := rfl
  have ht : tt P (l + 2) i = sm (fun j => chi (P j) (P (j + 1)) (P i)) (i + 1) l := rfl
  rw [e0, sm_succ, sm_last]
  simp only [e5]
  rw [(chi_end _ _).1, (chi_end _ _).2]
  omega
/-- The sum over the corners. -/
theorem four_cor {P : Nat → Pt} {n : Nat} (h : Poly P n) : sm (fun i => four P n (P i)) 0 n = (4 * wl P n 0 - 2) * n - 4 * (2 * wl P n 0 - 1) := by
  have key : ∀ {Q : Nat → Pt}, Poly Q n → sm (fun i => wnd Q n (Q i)) 0 n = wl Q n 0 * n - (2 * wl Q n 0 - 1) - sm (fun i => kk (Q i) (Q (i + 1))) 0 n := by
    intro Q hQ
    rw [sm_congr _ (fun i => (wl Q n 0 - jc Q n i) - kk (Q i) (Q (i + 1))) 0 n (fun i _ _ => wnd_cor hQ i), sm_sub, sm_sub, hopf hQ]
    have : sm (fun _ => wl Q n 0) 0 n = wl Q n 0 * n := by
      have hc : ∀ m : Nat, sm (fun _ => wl Q n 0) 0 m = wl Q n 0 * m := by
        intro m
        induction m with
        | zero => simp [sm]
        | succ m ih => rw [sm_last, ih]; push_cast; grind
      exact hc n
    rw [this]
  have k1 := key h
  have k2 := key (poly_neg h)
  have k3 := key (poly_flip h)
  have k4 := key (poly_flip (poly_neg h))
  rw [wl_neg h] at k2
  rw [wl_flip h] at k3
  rw [wl_flip (poly_neg h), wl_neg h] at k4
  have cn : ∀ m : Nat, sm (fun _ => (1 : Int)) 0 m = m := by
    intro m
    induction m with
    | zero => rfl
    | succ m ih => rw [sm_last, ih]; push_cast; rfl
  have s2 : sm (fun i => kk (neg (P i)) (neg (P (i + 1)))) 0 n = n - sm (fun i => kk (P i) (P (i + 1))) 0 n := by
    rw [sm_congr _ (fun i => 1 - kk (P i) (P (i + 1))) 0 n (fun i _ _ => kk_n1 _ _ (h.cor i).ab), sm_sub, cn]
  have s4 : sm (fun i => kk (flip (neg (P i))) (flip (neg (P (i + 1))))) 0 n = n - sm (fun i => kk (flip (P i)) (flip (P (i + 1)))) 0 n := by
    rw [sm_congr _ (fun i => 1 - kk (flip (P i)) (flip (P (i + 1)))) 0 n (fun i _ _ => kk_fn _ _ (h.cor i).ab), sm_sub, cn]
  rw [s2] at k2
  rw [s4] at k4
  rw [sm_congr _ (fun i => ((wnd P n (P i) - wnd (fun i => flip (P i)) n (flip (P i))) + wnd (fun i => neg (P i)) n (neg (P i))) - wnd (fun i => flip (neg (P i))) n (flip (neg (P i)))) 0 n (fun i _ _ => four_split P n (P i)), sm_sub, sm_add, sm_sub, k1, k2, k3, k4]
  generalize sm (fun i => kk (P i) (P (i + 1))) 0 n = A
  generalize sm (fun i => kk (flip (P i)) (flip (P (i + 1)))) 0 n = B
  generalize wl P n 0 = w
  grind
end Go.Proofs.PlRing
