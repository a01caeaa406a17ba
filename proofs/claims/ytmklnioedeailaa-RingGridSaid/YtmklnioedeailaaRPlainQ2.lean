/-
  The plain laws of layer 4 (ring): the points of a grid and the area (Pick; RingGrid). No program in sight.
-/
import Derived.Test.YtmklnioedeailaaRPlainP2
namespace Go.Proofs.PlRing
open Go.Proofs.PlGeom

def sg (x : Int) : Int := if 0 < x then 1 else if x < 0 then -1 else 0
theorem sg_neg (x : Int) : sg (-x) = -sg x := by unfold sg; (repeat' split) <;> omega
/-- An edge upwards: what it adds to the four winding numbers of a point. -/
theorem E4_up (a b p : Pt) (h : a.y ≤ b.y) : E4 a b p = (if a.y ≤ p.y ∧ p.y < b.y then sg (cross a b p) else 0) + (if a.y < p.y ∧ p.y ≤ b.y then sg (cross a b p) else 0) := by
  unfold E4 chi sg
  rw [cross_flp, cross_neg, cross_flp, cross_neg]
  simp only [flip, neg]
  generalize cross a b p = k
  (repeat' split) <;> omega
theorem E4_swap (a b p : Pt) : E4 b a p = -E4 a b p := by
  unfold E4
  rw [chi_swap a b, chi_swap (flip a) (flip b), chi_swap (neg a) (neg b), chi_swap (flip (neg a)) (flip (neg b))]
  omega

/-! Sums over pieces of a range. -/
theorem sm_app (f : Nat → Int) (i n m : Nat) : sm f i (n + m) = sm f i n + sm f (i + n) m := by
  induction m with
  | zero => simp [sm]
  | succ m ih => rw [show n + (m + 1) = (n + m) + 1 from by omega, sm_last, ih, sm_last, show i + n + m = i + (n + m) from by omega]; omega
theorem sm_rev (f : Nat → Int) (n : Nat) : sm (fun k => f (n - 1 - k)) 0 n = sm f 0 n := by
  induction n generalizing f with
  | zero => rfl
  | succ n ih =>
    rw [sm_last, sm_succ f]
    have e : sm (fun k => f (n + 1 - 1 - k)) 0 n = sm (fun k => f (k + 1)) 0 n := by
      rw [← ih (fun k => f (k + 1))]
      exact sm_congr _ _ _ _ fun k _ hk => by rw [show n + 1 - 1 - k = n - 1 - k + 1 from by omega]
    rw [e, sm_move f 1 0 n, show n + 1 - 1 - (0 + n) = 0 from by omega]
    omega
/-- A range of rows among all. -/
theorem sm_rows (F : Int → Int) (N l m : Nat) (h : l + m ≤ N) (lo hi : Int) (hlo : lo = (l : Int) - 1) (hhi : hi = (l : Int) + m - 1) :
    sm (fun t : Nat => if lo ≤ (t : Int) - 1 ∧ (t : Int) - 1 < hi then F ((t : Int) - 1) else 0) 0 N = sm (fun k : Nat => F (lo + k)) 0 m := by
  obtain ⟨r, rfl⟩ : ∃ r, N = l + m + r := ⟨N - (l + m), by omega⟩
  rw [sm_app, sm_app, sm_zero _ 0 l (fun k _ hk => by rw [if_neg (by omega)]), sm_zero _ (0 + (l + m)) r (fun k hk _ => by rw [if_neg (by omega)])]
  rw [Int.zero_add, Int.add_zero, show 0 + l = 0 + l from rfl, ← sm_move _ l 0 m]
  exact sm_congr _ _ _ _ fun k _ hk => by
    rw [if_pos (by push_cast; omega)]
    congr 1
    push_cast
    omega

/-! A row. -/
theorem sm_sgn (K d : Int) (e f : Int) (he : ∀ x : Int, d * x < K ↔ x < e) (hf : ∀ x : Int, K < d * x ↔ f < x) (h0 : -1 ≤ e) (h1 : -2 ≤ f) (n : Nat) :
    sm (fun u : Nat => sg (K - d * ((u : Int) - 1))) 0 n = min (n : Int) (e + 1) - max 0 ((n : Int) - 2 - f) := by
  induction n with
  | zero => simp only [sm]; push_cast; omega
  | succ n ih =>
    rw [sm_last, ih, Nat.zero_add]
    have a := he ((n : Int) - 1)
    have b := hf ((n : Int) - 1)
    have e0 : ((n + 1 : Nat) : Int) = (n : Int) + 1 := by push_cast; rfl
    rw [e0]
    unfold sg
    generalize d * ((n : Int) - 1) = z at *
    (repeat' split) <;> omega
theorem floor_iff (K d : Int) (hd : 0 < d) (x : Int) : K < d * x ↔ K / d < x := by
  rw [Int.ediv_lt_iff_lt_mul hd, Int.mul_comm]
theorem ceil_iff (K d : Int) (hd : 0 < d) (x : Int) : d * x < K ↔ x < -((-K) / d) := by
  have := floor_iff (-K) d hd (-x)
  rw [Int.mul_neg] at this
  omega
/-- The place where an edge crosses a row, times its height. -/
def rowK (a b : Pt) (y : Int) : Int := (b.x - a.x) * (y - a.y) + (b.y - a.y) * a.x
theorem cross_row (a b : Pt) (x y : Int) : cross a b ⟨x, y⟩ = rowK a b y - (b.y - a.y) * x := by unfold cross rowK; simp only; grind
def rowS (a b : Pt) (y : Int) : Int := sm (fun u : Nat => sg (cross a b ⟨(u : Int) - 1, y⟩)) 0 27
theorem rowS_val (a b : Pt) (y : Int) (hd : 0 < b.y - a.y) (h0 : -1 ≤ -((-rowK a b y) / (b.y - a.y))) (h1 : -((-rowK a b y) / (b.y - a.y)) ≤ 26) (h2 : -2 ≤ rowK a b y / (b.y - a.y)) (h3 : rowK a b y / (b.y - a.y) ≤ 25) :
    rowS a b y = -((-rowK a b y) / (b.y - a.y)) + rowK a b y / (b.y - a.y) - 24 := by
  unfold rowS
  rw [sm_congr _ (fun u : Nat => sg (rowK a b y - (b.y - a.y) * ((u : Int) - 1))) 0 27 (fun u _ _ => by rw [cross_row])]
  rw [sm_sgn _ _ _ _ (ceil_iff _ _ hd) (floor_iff _ _ hd) h0 h2]
  push_cast
  omega
/-- Both rows at the same distance from the middle. -/
theorem rowS_pair (a b : Pt) (y : Int) (hd : 0 < b.y - a.y) (h1 : a.y ≤ y) (h2 : y ≤ b.y) (xa : 0 ≤ a.x ∧ a.x ≤ 24) (xb : 0 ≤ b.x ∧ b.x ≤ 24) : rowS a b y + rowS a b (a.y + b.y - y) = 2 * (a.x + b.x) - 48 := by
  have hK : rowK a b (a.y + b.y - y) = -rowK a b y + (b.y - a.y) * (a.x + b.x) := by unfold rowK; grind
  -- 0 ≤ K ≤ 24 d
  have bd : ∀ z, a.y ≤ z → z ≤ b.y → 0 ≤ rowK a b z ∧ rowK a b z ≤ (b.y - a.y) * 24 := by
    intro z z1 z2
    have e : rowK a b z = (z - a.y) * b.x + (b.y - z) * a.x := by unfold rowK; grind
    have p1 := nn (x := z - a.y) (y := b.x) (by omega) (by omega)
    have p2 := nn (x := b.y - z) (y := a.x) (by omega) (by omega)
    have p3 := nn (x := z - a.y) (y := 24 - b.x) (by omega) (by omega)
    have p4 := nn (x := b.y - z) (y := 24 - a.x) (by omega) (by omega)
    have e2 : (b.y - a.y) * 24 - rowK a b z = (z - a.y) * (24 - b.x) + (b.y - z) * (24 - a.x) := by unfold rowK; grind
    omega
  have rng : ∀ z, a.y ≤ z → z ≤ b.y → (-1 ≤ -((-rowK a b z) / (b.y - a.y)) ∧ -((-rowK a b z) / (b.y - a.y)) ≤ 26) ∧ (-2 ≤ rowK a b z / (b.y - a.y) ∧ rowK a b z / (b.y - a.y) ≤ 25) := by
    intro z z1 z2
    obtain ⟨k1, k2⟩ := bd z z1 z2
    have f1 := floor_iff (rowK a b z) _ hd 0
    have f2 := floor_iff (rowK a b z) _ hd 25
    have c1 := ceil_iff (rowK a b z) _ hd 24
    have c2 := ceil_iff (rowK a b z) _ hd (-1)
    have m1 : (b.y - a.y) * 0 = 0 := Int.mul_zero _
    have m2 : (b.y - a.y) * 25 = (b.y - a.y) * 24 + (b.y - a.y) := by grind
    have m3 : (b.y - a.y) * (-1) = -(b.y - a.y) := by grind
    rw [m1] at f1
    rw [m2] at f2
    rw [m3] at c2
    omega
  have r1 := rng y h1 h2
  have r2 := rng (a.y + b.y - y) (by omega) (by omega)
  rw [rowS_val a b y hd r1.1.1 r1.1.2 r1.2.1 r1.2.2, rowS_val a b _ hd r2.1.1 r2.1.2 r2.2.1 r2.2.2, hK]
  have q1 : (-rowK a b y + (b.y - a.y) * (a.x + b.x)) / (b.y - a.y) = (-rowK a b y) / (b.y - a.y) + (a.x + b.x) := Int.add_mul_ediv_left _ _ (by omega)
  have q2 : -(-rowK a b y + (b.y - a.y) * (a.x + b.x)) = rowK a b y + (b.y - a.y) * (-(a.x + b.x)) := by grind
  have q3 : (rowK a b y + (b.y - a.y) * (-(a.x + b.x))) / (b.y - a.y) = rowK a b y / (b.y - a.y) + -(a.x + b.x) := Int.add_mul_ediv_left _ _ (by omega)
  rw [q2, q1, q3]
  omega
/-- A corner of the grid. -/
def inBox (p : Pt) : Prop := (0 ≤ p.x ∧ p.x ≤ 24) ∧ (0 ≤ p.y ∧ p.y ≤ 24)
def boxS (F : Pt → Int) : Int := sm (fun u : Nat => sm (fun t : Nat => F ⟨(u : Int) - 1, (t : Int) - 1⟩) 0 27) 0 27
theorem sm_const (c : Int) (n : Nat) : sm (fun _ => c) 0 n = c * n := by
  induction n with
  | zero => simp [sm]
  | succ n ih => rw [sm_last, ih]; push_cast; grind
theorem edge_up (a b : Pt) (ha : inBox a) (hb : inBox b) (h : a.y ≤ b.y) : boxS (E4 a b) = 2 * ((a.x + b.x - 24) * (b.y - a.y)) := by
  obtain ⟨xa, ya⟩ := ha
  obtain ⟨xb, yb⟩ := hb
  unfold boxS
  rw [sm_comm (fun u t => E4 a b ⟨((u : Nat) : Int) - 1, ((t : Nat) : Int) - 1⟩)]
  have row : ∀ t : Nat, sm (fun u : Nat => E4 a b ⟨(u : Int) - 1, (t : Int) - 1⟩) 0 27 = (if a.y ≤ (t : Int) - 1 ∧ (t : Int) - 1 < b.y then rowS a b ((t : Int) - 1) else 0) + (if a.y + 1 ≤ (t : Int) - 1 ∧ (t : Int) - 1 < b.y + 1 then rowS a b ((t : Int) - 1) else 0) := by
    intro t
    rw [sm_congr _ (fun u : Nat => (if a.y ≤ (t : Int) - 1 ∧ (t : Int) - 1 < b.y then sg (cross a b ⟨(u : Int) - 1, (t : Int) - 1⟩) else 0) + (if a.y < (t : Int) - 1 ∧ (t : Int) - 1 ≤ b.y then sg (cross a b ⟨(u : Int) - 1, (t : Int) - 1⟩) else 0)) 0 27 (fun u _ _ => E4_up a b _ h), sm_add]
    have z : sm (fun _ => (0 : Int)) 0 27 = 0 := sm_zero _ _ _ fun _ _ _ => rfl
    by_cases g1 : a.y ≤ (t : Int) - 1 ∧ (t : Int) - 1 < b.y <;> by_cases g2 : a.y < (t : Int) - 1 ∧ (t : Int) - 1 ≤ b.y
    · simp only [if_pos g1, if_pos g2, if_pos (show a.y + 1 ≤ (t : Int) - 1 ∧ (t : Int) - 1 < b.y + 1 from by omega)]; rfl
    · simp only [if_pos g1, if_neg g2, if_neg (show ¬ (a.y + 1 ≤ (t : Int) - 1 ∧ (t : Int) - 1 < b.y + 1) from by omega), z]; rfl
    · simp only [if_neg g1, if_pos g2, if_pos (show a.y + 1 ≤ (t : Int) - 1 ∧ (t : Int) - 1 < b.y + 1 from by omega), z]; rfl
    · simp only [if_neg g1, if_neg g2, if_neg (show ¬ (a.y + 1 ≤ (t : Int) - 1 ∧ (t : Int) - 1 < b.y + 1) from by omega), z, Int.add_zero]
  rw [sm_congr _ _ 0 27 (fun t _ _ => row t), sm_add]
  obtain ⟨l, hl⟩ : ∃ l : Nat, (l : Int) = a.y + 1 := ⟨(a.y + 1).toNat, by omega⟩
  obtain ⟨m, hm⟩ : ∃ m : Nat, (m : Int) = b.y - a.y := ⟨(b.y - a.y).toNat, by omega⟩
  rw [sm_rows (rowS a b) 27 l m (by omega) a.y b.y (by omega) (by omega), sm_rows (rowS a b) 27 (l + 1) m (by omega) (a.y + 1) (b.y + 1) (by push_cast; omega) (by push_cast; omega)]
  rw [← sm_rev (fun k : Nat => rowS a b (a.y + 1 + k)) m, ← sm_add]
  by_cases hz : m = 0
  · subst hz
    rw [show b.y - a.y = 0 from by omega, Int.mul_zero]
    rfl
  · rw [sm_congr _ (fun _ => 2 * (a.x + b.x) - 48) 0 m (fun k _ hk => by
      have hp := rowS_pair a b (a.y + k) (by omega) (by omega) (by omega) xa xb
      have e : a.y + 1 + ((m - 1 - k : Nat) : Int) = a.y + b.y - (a.y + k) := by omega
      rw [e]
      exact hp), sm_const, hm]
    grind
theorem boxS_neg (F : Pt → Int) : boxS (fun p => -F p) = -boxS F := by
  unfold boxS
  rw [← sm_neg]
  exact sm_congr _ _ _ _ fun u _ _ => sm_neg _ _ _
theorem edge_any (a b : Pt) (ha : inBox a) (hb : inBox b) : boxS (E4 a b) = 2 * ((a.x + b.x - 24) * (b.y - a.y)) := by
  by_cases h : a.y ≤ b.y
  · exact edge_up a b ha hb h
  · have := edge_up b a hb ha (by omega)
    have e : boxS (E4 a b) = -boxS (E4 b a) := by
      rw [← boxS_neg]
      have : E4 a b = fun p => -E4 b a p := by funext p; exact E4_swap b a p
      rw [this]
    rw [e, this]
    grind
theorem boxS_add (F G : Pt → Int) : boxS (fun p => F p + G p) = boxS F + boxS G := by
  unfold boxS
  rw [← sm_add]
  exact sm_congr _ _ _ _ fun u _ _ => sm_add _ _ _ _
theorem boxS_sm (F : Nat → Pt → Int) (n : Nat) : boxS (fun p => sm (fun i => F i p) 0 n) = sm (fun i => boxS (F i)) 0 n := by
  induction n with
  | zero =>
    show boxS (fun _ => 0) = 0
    unfold boxS
    exact sm_zero _ _ _ fun _ _ _ => sm_zero _ _ _ fun _ _ _ => rfl
  | succ n ih =>
    rw [sm_last, ← ih, ← boxS_add]
    congr 1
    funext p
    exact sm_last _ _ _
/-- The sum of the four winding numbers of all points is four times the area. -/
theorem four_area {P : Nat → Pt} {n : Nat} (h : Poly P n) (hb : ∀ i, inBox (P i)) : boxS (four P n) = 2 * sm (fun j => ((P j).x + (P (j + 1)).x) * ((P (j + 1)).y - (P j).y)) 0 n := by
  have hp : P n = P 0 := by have := h.per 0; rw [Nat.zero_add] at this; exact this
  have e : boxS (four P n) = sm (fun i => boxS (E4 (P i) (P (i + 1)))) 0 n := boxS_sm (fun i => E4 (P i) (P (i + 1))) n
  rw [e, sm_congr _ (fun i => 2 * (((P i).x + (P (i + 1)).x) * ((P (i + 1)).y - (P i).y)) - 48 * ((P (i + 1)).y - (P i).y)) 0 n (fun i _ _ => by rw [edge_any _ _ (hb i) (hb (i + 1))]; grind), sm_sub, sm_mull, sm_mull]
  have c := sm_cyc (fun i => (P i).y) n (by simp only [hp])
  rw [c]
  omega

/-! The count. -/
/-- Each point of the grid is met once. -/
theorem boxS_one (q : Pt) (hq : inBox q) (c : Int) : boxS (fun p => if p = q then c else 0) = c := by
  obtain ⟨⟨x1, x2⟩, ⟨y1, y2⟩⟩ := hq
  have one : ∀ (v : Int) (d : Int), 0 ≤ v → v ≤ 24 → sm (fun u : Nat => if (u : Int) - 1 = v then d else 0) 0 27 = d := by
    intro v d v1 v2
    obtain ⟨l, hl⟩ : ∃ l : Nat, (l : Int) = v + 1 := ⟨(v + 1).toNat, by omega⟩
    obtain ⟨r, hr⟩ : ∃ r, 27 = l + (1 + r) := ⟨26 - l, by omega⟩
    rw [hr, sm_app, sm_app, sm_zero _ 0 l (fun k _ hk => by rw [if_neg (by omega)]), sm_zero _ (0 + l + 1) r (fun k hk _ => by rw [if_neg (by omega)]), sm_succ]
    rw [if_pos (by push_cast; omega)]
    simp [sm]
  unfold boxS
  rw [sm_congr _ (fun u : Nat => if (u : Int) - 1 = q.x then c else 0) 0 27 (fun u _ _ => ?_), one q.x c x1 x2]
  by_cases g : (u : Int) - 1 = q.x
  · rw [if_pos g, sm_congr _ (fun t : Nat => if (t : Int) - 1 = q.y then c else 0) 0 27 (fun t _ _ => ?_), one q.y c y1 y2]
    show (if (⟨(u : Int) - 1, (t : Int) - 1⟩ : Pt) = q then c else 0) = _
    by_cases g2 : (t : Int) - 1 = q.y
    · rw [if_pos g2, if_pos (pt_ext g g2)]
    · rw [if_neg g2, if_neg (fun e => g2 (by rw [← e]))]
  · rw [if_neg g]
    exact sm_zero _ _ _ fun t _ _ => if_neg (fun e => g (by rw [← e]))
/-- How many points are inside, and on the ring. -/
def cntIn (r : List Pt) : Int := boxS (fun p => if locate r p = 1 then 1 else 0)
def cntOn (r : List Pt) : Int := boxS (fun p => if locate r p = 0 then 1 else 0)
theorem boxS_mull (c : Int) (F : Pt → Int) : boxS (fun p => c * F p) = c * boxS F := by
  unfold boxS
  rw [← sm_mull]
  exact sm_congr _ _ _ _ fun u _ _ => sm_mull _ _ _ _
theorem sm_pick (f : Nat → Int) (n k : Nat) (hk : k < n) (h : ∀ i, i < n → i ≠ k → f i = 0) : sm f 0 n = f k := by
  obtain ⟨r, rfl⟩ : ∃ r, n = k + (1 + r) := ⟨n - k - 1, by omega⟩
  rw [sm_app, sm_app, sm_zero f 0 k (fun i _ hi => h i (by omega) (by omega)), sm_zero f (0 + k + 1) r (fun i hi1 hi2 => h i (by omega) (by omega)), sm_succ]
  simp [sm]
theorem off_of {r : List Pt} (h : Simp r) {p : Pt} (hp : hitS p (sd r) = false) (i : Nat) : off (cor r i) (cor r (i + 1)) p := by
  unfold off
  cases e : onR ⟨cor r i, cor r (i + 1)⟩ p with
  | false => rfl
  | true =>
    rw [← hitB_onR, hit_seg (h.ne' i)] at e
    rw [(hit_on h p).2 ⟨i, e⟩] at hp
    cases hp
theorem good_self {r : List Pt} (h : simple r = true) : Good r r := (rel_cases 4 (by rw [relation_self, if_pos h]) (by omega)).1
theorem mid_not_corner {r : List Pt} (h : simple r = true) (i k : Nat) {p : Pt} {a b : Int} (e : Mid (cor r i) (cor r (i + 1)) p a b) (e2 : p = cor r k) : False := by
  have g := good_self h
  have hn := e.ne (g.rs.ne' i)
  rcases meet_pt (g.pair i k) (g.rs.ne' i) (g.rs.ne' k) e (.inl e2) with ⟨c, _⟩ | ⟨_, c⟩
  · exact hn.1 (e2.trans c.symm)
  · exact hn.2 (e2.trans c.symm)
/-- PICK. -/
theorem pick (r : List Pt) (h : simple r = true) (hb : ∀ p ∈ r, inBox p) : absI (twice r) = 2 * cntIn r + cntOn r - 2 := by
  have hs := (simple_iff r).1 h
  have hp := hs.poly
  have hr : 0 < r.length := by have := hs.pos; omega
  have hbox : ∀ i, inBox (cor r i) := fun i => hb _ (List.mem_of_getElem? (at0_some r _ (Nat.mod_lt _ hr)))
  have ha := four_area hp hbox
  have hc := four_cor hp
  rw [← sumS_sm] at ha
  have ht : twice r = sumS (sd r) := by rw [twice_sd, if_pos hs.reg]
  rw [← ht] at ha
  have hw := wl_01 hp
  obtain ⟨w, hwv⟩ : ∃ w, wl (cor r) r.length 0 = w := ⟨_, rfl⟩
  -- point by point
  have key : ∀ p, four (cor r) r.length p = (2 * w - 1) * (4 * (if locate r p = 1 then 1 else 0) + 2 * (if locate r p = 0 then 1 else 0)) + sm (fun i => if p = cor r i then four (cor r) r.length (cor r i) - (4 * w - 2) else 0) 0 r.length := by
    intro p
    have hl := locate_sd r p
    rw [winS_sm] at hl
    cases hh : hitS p (sd r) with
    | false =>
      rw [hh] at hl
      simp only [Bool.false_eq_true, if_false] at hl
      rw [four_off hp p (off_of hs hh), sm_zero _ _ _ (fun i _ _ => if_neg (fun e => by rw [e, hit_corner hs] at hh; cases hh)), Int.add_zero]
      have hj := jordan hp 10000000 (by omega) (fun i => hs.bound i) p (fun i => hitS_off hr hh i)
      rw [hwv] at hj hw
      by_cases g : wnd (cor r) r.length p = 0
      · rw [if_pos g] at hl
        rw [hl, g]
        simp
      · rw [if_neg g] at hl
        rw [hl]
        simp only [if_true]
        rcases hw with e | e <;> rw [e] at hj ⊢ <;> simp <;> omega
    | true =>
      rw [hh] at hl
      simp only [if_true] at hl
      rw [hl]
      rw [if_neg (show ¬ ((0 : Int) = 1) from by omega), if_pos rfl]
      obtain ⟨i, e | ⟨m, k, e⟩⟩ := hit_cases hs hh
      · have hi : i % r.length < r.length := Nat.mod_lt _ hr
        have e2 : cor r (i % r.length) = p := by rw [(per_mod hp i).1, e]
        rw [sm_pick _ r.length (i % r.length) hi (fun k hk hne => if_neg (fun e3 => by
          have := inj_mod hp hs.inj (e2.trans e3)
          rw [Nat.mod_mod, Nat.mod_eq_of_lt hk] at this
          exact hne this.symm)), if_pos e2.symm, e2]
        grind
      · have hnc : ∀ k, p ≠ cor r k := fun k2 e3 => mid_not_corner h i k2 e e3
        rw [four_mid hp i e, hwv, sm_zero _ _ _ (fun k _ _ => if_neg (hnc k))]
        omega
  have e1 : boxS (four (cor r) r.length) = (2 * w - 1) * (4 * cntIn r + 2 * cntOn r) + sm (fun i => four (cor r) r.length (cor r i) - (4 * w - 2)) 0 r.length := by
    have : four (cor r) r.length = fun p => (2 * w - 1) * (4 * (if locate r p = 1 then 1 else 0) + 2 * (if locate r p = 0 then 1 else 0)) + sm (fun i => if p = cor r i then four (cor r) r.length (cor r i) - (4 * w - 2) else 0) 0 r.length := funext key
    rw [this, boxS_add, boxS_mull, boxS_add, boxS_mull, boxS_mull, boxS_sm (fun i p => if p = cor r i then four (cor r) r.length (cor r i) - (4 * w - 2) else 0), ← this]
    unfold cntIn cntOn
    congr 1
    exact sm_congr _ _ _ _ fun i _ _ => boxS_one _ (hbox i) _
  rw [sm_sub, sm_const, hc, hwv] at e1
  rw [abs_area h, hwv]
  rw [ha] at e1
  rw [hwv] at hw
  rcases hw with e | e <;> rw [e] at e1 ⊢ <;> omega
end Go.Proofs.PlRing
