/-
  The plain laws of layer 4 (ring): points and areas of two rings that do not cross (RingPoints). No program in sight.
-/
import Derived.Test.YtmklnioedeailaaRPlainG2
namespace Go.Proofs.PlRing
open Go.Proofs.PlGeom

theorem hit_on {r : List Pt} (h : Simp r) (p : Pt) : hitS p (sd r) = true ↔ ∃ i, onSeg (cor r i) (cor r (i + 1)) p := by
  have hr : 0 < r.length := by have := h.pos; omega
  rw [hitS_iff, side_ex r hr (fun x => hitB x p = true)]
  constructor
  · rintro ⟨i, hi⟩; exact ⟨i, (hit_seg (h.ne' i)).1 hi⟩
  · rintro ⟨i, hi⟩; exact ⟨i, (hit_seg (h.ne' i)).2 hi⟩
/-- A point on a ring is a corner, or strictly inside a side. -/
theorem hit_cases {r : List Pt} (h : Simp r) {p : Pt} (hp : hitS p (sd r) = true) : ∃ i, p = cor r i ∨ ∃ m k, Mid (cor r i) (cor r (i + 1)) p m k := by
  obtain ⟨i, e | e | e⟩ := (hit_on h p).1 hp
  · exact ⟨i, .inl e⟩
  · exact ⟨i + 1, .inl e⟩
  · exact ⟨i, .inr e⟩
theorem hit_corner {r : List Pt} (h : Simp r) (i : Nat) : hitS (cor r i) (sd r) = true := (hit_on h _).2 ⟨i, .inl rfl⟩
theorem side_hit {r : List Pt} (h : Simp r) {a b p : Pt} (hs : isSide (cor r) a b) (hp : onSeg a b p) : hitS p (sd r) = true := by
  obtain ⟨i, ⟨e1, e2⟩ | ⟨e1, e2⟩⟩ := hs
  · exact (hit_on h p).2 ⟨i, by rw [e1, e2]; exact hp⟩
  · exact (hit_on h p).2 ⟨i, by rw [e1, e2]; exact hp.swap⟩
theorem mid_k {a b p : Pt} {m k : Int} (h : Mid a b p m k) (c : Int) : Mid (sc c a) (sc c b) (sc c p) m k := by
  have h1 := h.ex
  have h2 := h.ey
  exact ⟨h.pm, h.pk, by simp only [sc]; grind, by simp only [sc]; grind⟩
theorem wnd_two (Q : Nat → Pt) (m : Nat) (p : Pt) : wnd (fun j => sc 2 (Q j)) m (sc 2 p) = wnd Q m p := by
  unfold wnd
  exact sm_congr _ _ _ _ fun j _ _ => chi_sc (by omega) _ _ _
theorem side_corner {r : List Pt} {a b : Pt} (hs : isSide (cor r) a b) : ∃ i, a = cor r i := by
  obtain ⟨i, ⟨e1, _⟩ | ⟨_, e2⟩⟩ := hs
  · exact ⟨i, e1.symm⟩
  · exact ⟨i + 1, e2.symm⟩
/-- On the outer ring, off the inner one: this one does not wind there. -/
theorem outer_pt {r s : List Pt} (g : Good r s) (ho : ¬ OutS r s) {p : Pt} (h1 : hitS p (sd r) = false) (h2 : hitS p (sd s) = true) : wnd (cor r) r.length p = 0 := by
  have hK := two_one
  have h20 : (0 : Int) < 2 := by omega
  have no : ∀ {a b : Pt}, onSeg a b p → ¬ isSide (cor r) a b := fun hs h => by rw [side_hit g.rs h hs] at h1; cases h1
  obtain ⟨j, e | ⟨m, k, e⟩⟩ := hit_cases g.ss h2
  · have hn := no (a := cor s j) (b := cor s (j + 1)) (.inl e)
    have hz := outer_zero g ho hK j (mid_two (cor s j) (cor s (j + 1)))
    rw [ww_free _ (fun h => hn ((isSide_sc h20).1 h))] at hz
    have hc := corner_const (g.symm.two 2 hK) j (mid_two (cor s j) (cor s (j + 1))) (fun i e2 => by
      have e3 := (sc_inj h20).1 e2
      rw [e, e3, hit_corner g.rs] at h1
      cases h1)
    rw [hc, wnd_two] at hz
    rw [e]
    exact hz
  · have hn := no (a := cor s j) (b := cor s (j + 1)) (.inr (.inr ⟨m, k, e⟩))
    have hz := outer_zero g ho hK j (mid_k e 2)
    rw [ww_free _ (fun h => hn ((isSide_sc h20).1 h)), wnd_two] at hz
    exact hz
/-- On the inner ring, off the outer one: this one winds there. -/
theorem inner_pt {r s : List Pt} (g : Good r s) (ho : ¬ OutS r s) {p : Pt} (h1 : hitS p (sd r) = true) (h2 : hitS p (sd s) = false) : wnd (cor s) s.length p ≠ 0 := by
  have hK := two_one
  have h20 : (0 : Int) < 2 := by omega
  have no : ∀ {a b : Pt}, onSeg a b p → ¬ isSide (cor s) a b := fun hs h => by rw [side_hit g.ss h hs] at h2; cases h2
  obtain ⟨i, e | ⟨m, k, e⟩⟩ := hit_cases g.rs h1
  · have hn := no (a := cor r i) (b := cor r (i + 1)) (.inl e)
    have hi : iw r s i ≠ 0 := fun h => ho ⟨i, hn, h⟩
    have hw := wnd_iw g hK i (mid_two (cor r i) (cor r (i + 1)))
    have hc := corner_const (g.two 2 hK) i (mid_two (cor r i) (cor r (i + 1))) (fun j e2 => by
      have e3 := (sc_inj h20).1 e2
      rw [e, e3, hit_corner g.ss] at h2
      cases h2)
    rw [hc, wnd_two] at hw
    rw [e, hw]
    exact hi
  · have hn := no (a := cor r i) (b := cor r (i + 1)) (.inr (.inr ⟨m, k, e⟩))
    have hi : iw r s i ≠ 0 := fun h => ho ⟨i, hn, h⟩
    have hw := wnd_iw g hK i (mid_k e 2)
    rw [wnd_two] at hw
    rw [hw]
    exact hi
theorem lift_r {r s : List Pt} (g : Good r s) {p : Pt} (h : hitS p (sd r) = false) : wnd (fun i => sc (dd r s * (2 * 5000000)) (cor r i)) r.length ⟨dd r s * (2 * 5000000 * p.x), dd r s * (2 * 5000000 * p.y + 1)⟩ = wnd (cor r) r.length p :=
  wnd_lift (n := r.length) (dd_pos r s) (by omega) (fun i => g.rs.bound i) p (hitS_off (by have := g.rs.pos; omega) h)
theorem lift_s {r s : List Pt} (g : Good r s) {p : Pt} (h : hitS p (sd s) = false) : wnd (fun i => sc (dd r s * (2 * 5000000)) (cor s i)) s.length ⟨dd r s * (2 * 5000000 * p.x), dd r s * (2 * 5000000 * p.y + 1)⟩ = wnd (cor s) s.length p :=
  wnd_lift (n := s.length) (dd_pos r s) (by omega) (fun i => g.ss.bound i) p (hitS_off (by have := g.ss.pos; omega) h)
/-- Where the inner ring winds, so does the outer one. -/
theorem dom_pt {r s : List Pt} (g : Good r s) (ho : ¬ OutS r s) {p : Pt} (h1 : hitS p (sd r) = false) (h2 : hitS p (sd s) = false) (hw : wnd (cor r) r.length p ≠ 0) : wnd (cor s) s.length p ≠ 0 := by
  have hE := even_dd r s 5000000 (by omega)
  rw [← lift_r g h1] at hw
  rw [← lift_s g h2]
  exact dom (g.two _ hE) (lev_r g 5000000 p.y (by omega)) (lev_s g 5000000 p.y (by omega)) (beside_in g ho hE) (fun j x a b hx => outer_zero g ho hE j hx) _ hw
/-- If no side of the first ring is outside the second one, each point is at least as far inside. -/
theorem loc_le {r s : List Pt} (g : Good r s) (ho : ¬ OutS r s) (p : Pt) : locate r p ≤ locate s p := by
  rw [locate_sd, locate_sd, winS_sm, winS_sm]
  cases h1 : hitS p (sd r) with
  | true =>
    cases h2 : hitS p (sd s) with
    | true => simp
    | false =>
      have := inner_pt g ho h1 h2
      simp [this]
  | false =>
    by_cases hw : wnd (cor r) r.length p = 0
    · simp only [hw, Bool.false_eq_true, if_false, if_true]
      (repeat' split) <;> omega
    · cases h2 : hitS p (sd s) with
      | true => exact (hw (outer_pt g ho h1 h2)).elim
      | false =>
        have := dom_pt g ho h1 h2 hw
        simp [this, hw]
/-- The one winds nowhere inside the other one, where both are outside of each other. -/
theorem apart_zero {r s : List Pt} (g : Good r s) (h1 : ¬ InS s r) (h2 : OutS r s) {K : Int} (hK : ∃ c, 0 < c ∧ K = 2 * c) (i : Nat) {x : Pt} {a b : Int} (hx : Mid (sc K (cor r i)) (sc K (cor r (i + 1))) x a b) :
    ww (1 - wl (fun j => sc K (cor r j)) r.length 0) (fun j => sc K (cor s j)) s.length (sc K (cor r i)) (sc K (cor r (i + 1))) x = 0 := by
  obtain ⟨v, hv⟩ := wall (g.symm.two K hK) _ (beside_out g.symm h1 hK)
  obtain ⟨i0, hn, h0⟩ := h2
  obtain ⟨x0, a0, b0, hx0⟩ := (g.two K hK).pm i0
  have e := hv i0 x0 a0 b0 hx0
  rw [ww_free _ (fun h => hn ((isSide_sc (K_pos hK)).1 h)), wnd_iw g hK i0 hx0, h0] at e
  rw [hv i x a b hx, ← e]
theorem apart_pt {r s : List Pt} (g : Good r s) (h1 : ¬ InS s r) (h2 : OutS r s) (p : Pt) : locate r p < 1 ∨ locate s p < 1 := by
  rw [locate_sd, locate_sd, winS_sm, winS_sm]
  cases e1 : hitS p (sd r) with
  | true => left; simp
  | false =>
    cases e2 : hitS p (sd s) with
    | true => right; simp
    | false =>
      by_cases hw : wnd (cor r) r.length p = 0
      · left; simp [hw]
      · right
        have hE := even_dd r s 5000000 (by omega)
        have hw2 := hw
        rw [← lift_r g e1] at hw2
        have := apart_law (g.two _ hE) (lev_r g 5000000 p.y (by omega)) (lev_s g 5000000 p.y (by omega)) (beside_out g.symm h1 hE) (fun i x a b hx => apart_zero g h1 h2 hE i hx) _ hw2
        rw [lift_s g e2] at this
        simp [this]

/-! Areas. -/
theorem bounded2 (X : Nat → Nat → Int) (N n : Nat) : ∃ M : Nat, ∀ t, t < N → ∀ j, j < n → -(M : Int) ≤ X t j ∧ X t j ≤ M := by
  induction N with
  | zero => exact ⟨0, fun t ht => by omega⟩
  | succ N ih =>
    obtain ⟨M, hM⟩ := ih
    obtain ⟨L, hL⟩ := bounded (X N) n
    refine ⟨M + L, fun t ht j hj => ?_⟩
    by_cases e : t = N
    · subst e; have := hL j hj; omega
    · have := hM t (by omega) j hj; omega
/-- TWICE THE AREA as a sum of winding numbers of places. -/
theorem area_wnd {P : Nat → Pt} {n : Nat} (h : Poly P n) (D : Int) (hD : 0 < D) (hdiv : ∀ j, (P (j + 1)).y - (P j).y ≠ 0 → ((P (j + 1)).y - (P j).y) ∣ D) (B M : Nat) (hB : ∀ i, -(B : Int) ≤ (P i).y ∧ (P i).y ≤ B)
    (hM : ∀ t, t < 2 * B → ∀ j, j < n → -(M : Int) ≤ xat P D 2 ((t : Int) - B) j ∧ xat P D 2 ((t : Int) - B) j ≤ M) :
    D * sm (fun j => ((P j).x + (P (j + 1)).x) * ((P (j + 1)).y - (P j).y)) 0 n = sm (fun t : Nat => sm (fun u : Nat => wnd (fun i => sc (D * 2) (P i)) n ⟨(u : Int) - M, D * (2 * ((t : Int) - B) + 1)⟩) 0 (2 * M)) 0 (2 * B) := by
  have hD2 : 0 < D * 2 := by omega
  have hl : ∀ t : Nat, Level (fun i => sc (D * 2) (P i)) n (D * (2 * ((t : Int) - B) + 1)) (xat P D 2 ((t : Int) - B)) := fun t => level_lift h D 2 _ hD (by omega) (fun j hj => hdiv j hj)
  have hsum : sm (fun t : Nat => sm (lev (fun i => sc (D * 2) (P i)) (xat P D 2 ((t : Int) - B)) (D * (2 * ((t : Int) - B) + 1))) 0 n) 0 (2 * B) = D * sm (fun j => ((P j).x + (P (j + 1)).x) * ((P (j + 1)).y - (P j).y)) 0 n := by
    rw [sm_comm (fun t j => lev (fun i => sc (D * 2) (P i)) (xat P D 2 ((t : Int) - B)) (D * (2 * ((t : Int) - B) + 1)) j) 0 (2 * B) 0 n]
    rw [sm_congr _ (fun j => (((P j).x + (P (j + 1)).x) * ((P (j + 1)).y - (P j).y)) * D) 0 n (fun j _ _ => by
      rw [side_area P D B (2 * B) j hD (hdiv j) (hB j).1 (hB (j + 1)).1 (by have := (hB j).2; push_cast; omega) (by have := (hB (j + 1)).2; push_cast; omega), Int.mul_comm]), sm_mulr, Int.mul_comm]
  rw [← hsum]
  exact sm_congr _ _ _ _ fun t _ ht => level_sum (poly_sc h hD2) (hl t) M (fun j hj => hM t (by omega) j hj)
theorem sm_mull (f : Nat → Int) (c : Int) (i n : Nat) : sm (fun k => c * f k) i n = c * sm f i n := by
  rw [Int.mul_comm, ← sm_mulr]
  exact sm_congr _ _ _ _ fun k _ _ => Int.mul_comm _ _
theorem sm_le (f g : Nat → Int) (n : Nat) (h : ∀ k, k < n → f k ≤ g k) : sm f 0 n ≤ sm g 0 n ∧ ∀ k, k < n → sm f 0 n + (g k - f k) ≤ sm g 0 n := by
  have hs := sm_nonneg (fun k => g k + -f k) 0 n (fun k _ hk => by have := h k (by omega); omega)
  have e : sm (fun k => g k + -f k) 0 n = sm g 0 n - sm f 0 n := by rw [sm_add, sm_neg]; omega
  rw [e] at hs
  refine ⟨by omega, fun k hk => ?_⟩
  have := hs.2 k (by omega) (by omega)
  omega
/-- The area without its sign. -/
def absI (x : Int) : Int := max x (-x)
theorem abs_area {r : List Pt} (h : simple r = true) : absI (twice r) = (2 * wl (cor r) r.length 0 - 1) * twice r := by
  unfold absI
  rcases simple_area r h with ⟨e1, e2⟩ | ⟨e1, e2⟩
  · rw [e1]; omega
  · rw [e1]; omega
theorem lev1_r {r s : List Pt} (g : Good r s) (y : Int) : Level (fun i => sc (dd r s * 2) (cor r i)) r.length (dd r s * (2 * y + 1)) (xat (cor r) (dd r s) 2 y) := level_lift g.rs.poly (dd r s) 2 y (dd_pos r s) (by omega) (fun j hj => dd_r g.rs s j hj)
theorem lev1_s {r s : List Pt} (g : Good r s) (y : Int) : Level (fun i => sc (dd r s * 2) (cor s i)) s.length (dd r s * (2 * y + 1)) (xat (cor s) (dd r s) 2 y) := level_lift g.ss.poly (dd r s) 2 y (dd_pos r s) (by omega) (fun j hj => dd_s g.ss r j hj)
theorem cros_one {P : Nat → Pt} {D y : Int} (hD : 0 < D) (j : Nat) : cros (fun i => sc (D * 2) (P i)) (D * (2 * y + 1)) j ↔ (((P j).y ≤ y ∧ y < (P (j + 1)).y) ∨ ((P (j + 1)).y ≤ y ∧ y < (P j).y)) := by
  have key : ∀ v : Int, (D * 2 * v < D * (2 * y + 1) ↔ v ≤ y) ∧ (D * (2 * y + 1) < D * 2 * v ↔ y < v) := by
    intro v
    rw [Int.mul_assoc]
    have g1 := lt_mul hD (2 * v) (2 * y + 1)
    have g2 := lt_mul hD (2 * y + 1) (2 * v)
    omega
  unfold cros
  simp only [sc, key]
theorem even1 (r s : List Pt) : ∃ c, 0 < c ∧ dd r s * 2 = 2 * c := ⟨dd r s, dd_pos r s, by omega⟩
/-- A place that only the outer ring winds around. -/
theorem strict_place {r s : List Pt} (g : Good r s) (ho : ¬ OutS r s) (hi : InS r s) : ∃ y x X : Int, (∃ j, (((cor r j).y ≤ y ∧ y < (cor r (j + 1)).y) ∨ ((cor r (j + 1)).y ≤ y ∧ y < (cor r j).y)) ∧ X = xat (cor r) (dd r s) 2 y (j % r.length) ∨ (((cor s j).y ≤ y ∧ y < (cor s (j + 1)).y) ∨ ((cor s (j + 1)).y ≤ y ∧ y < (cor s j).y)) ∧ X = xat (cor s) (dd r s) 2 y (j % s.length)) ∧
    (x = X ∨ x = X - 1) ∧ wnd (fun i => sc (dd r s * 2) (cor s i)) s.length ⟨x, dd r s * (2 * y + 1)⟩ ≠ 0 ∧ wnd (fun i => sc (dd r s * 2) (cor r i)) r.length ⟨x, dd r s * (2 * y + 1)⟩ = 0 := by
  have hE := even1 r s
  have hD := dd_pos r s
  have hT := g.two _ hE
  have hK := K_pos hE
  obtain ⟨i0, hn0, _⟩ := hi
  have mid : ∀ {a b : Int}, a ≠ b → ∃ y, (a ≤ y ∧ y < b) ∨ (b ≤ y ∧ y < a) := fun {a b} h => by
    rcases Int.lt_or_gt_of_ne h with g | g
    · exact ⟨a, .inl (by omega)⟩
    · exact ⟨b, .inr (by omega)⟩
  rcases nolevel hT ⟨i0, fun h => hn0 ((isSide_sc hK).1 h)⟩ with ⟨i, hni, hy⟩ | ⟨j, hnj, hy⟩
  · have hy2 : (cor r i).y ≠ (cor r (i + 1)).y := fun e => hy (by simp only [sc, e])
    obtain ⟨y, hyy⟩ := mid hy2
    obtain ⟨x, hx, h1, h2⟩ := strict_p hT (lev1_r g y) (lev1_s g y) (beside_in g ho hE) i ((cros_one hD i).2 hyy) hni
    refine ⟨y, x, _, ⟨i, .inl ⟨hyy, rfl⟩⟩, ?_, h1, h2⟩
    rw [(mod_rep hT.p (lev1_r g y) i).2.2]
    exact hx
  · have hy2 : (cor s j).y ≠ (cor s (j + 1)).y := fun e => hy (by simp only [sc, e])
    obtain ⟨y, hyy⟩ := mid hy2
    obtain ⟨x, hx, h1, h2⟩ := strict_q hT (lev1_r g y) (lev1_s g y) (fun j x a b hx => outer_zero g ho hE j hx) j ((cros_one hD j).2 hyy) hnj
    refine ⟨y, x, _, ⟨j, .inr ⟨hyy, rfl⟩⟩, ?_, h1, h2⟩
    rw [(mod_rep hT.q (lev1_s g y) j).2.2]
    exact hx
theorem area_le {r s : List Pt} (g : Good r s) (ho : ¬ OutS r s) : absI (twice r) ≤ absI (twice s) ∧ (InS r s → absI (twice r) < absI (twice s)) := by
  have hr := (simple_iff r).2 g.rs
  have hs := (simple_iff s).2 g.ss
  have hE := even1 r s
  have hD := dd_pos r s
  have hT := g.two _ hE
  have hn : 0 < r.length := by have := g.rs.pos; omega
  have hm : 0 < s.length := by have := g.ss.pos; omega
  obtain ⟨B1, hB1⟩ := bounded (fun i => (cor r i).y) r.length
  obtain ⟨B2, hB2⟩ := bounded (fun i => (cor s i).y) s.length
  obtain ⟨B, hB⟩ : ∃ B, B = B1 + B2 := ⟨_, rfl⟩
  have b1 : ∀ i, -(B : Int) ≤ (cor r i).y ∧ (cor r i).y ≤ B := fun i => by
    have := hB1 (i % r.length) (Nat.mod_lt _ hn)
    simp only [(per_mod g.rs.poly i).1] at this
    omega
  have b2 : ∀ i, -(B : Int) ≤ (cor s i).y ∧ (cor s i).y ≤ B := fun i => by
    have := hB2 (i % s.length) (Nat.mod_lt _ hm)
    simp only [(per_mod g.ss.poly i).1] at this
    omega
  obtain ⟨M1, hM1⟩ := bounded2 (fun t j => xat (cor r) (dd r s) 2 ((t : Int) - B) j) (2 * B) r.length
  obtain ⟨M2, hM2⟩ := bounded2 (fun t j => xat (cor s) (dd r s) 2 ((t : Int) - B) j) (2 * B) s.length
  obtain ⟨M, hM⟩ : ∃ M, M = M1 + M2 + 1 := ⟨_, rfl⟩
  have m1 : ∀ t, t < 2 * B → ∀ j, j < r.length → -(M : Int) < xat (cor r) (dd r s) 2 ((t : Int) - B) j ∧ xat (cor r) (dd r s) 2 ((t : Int) - B) j < M := fun t ht j hj => by have := hM1 t ht j hj; omega
  have m2 : ∀ t, t < 2 * B → ∀ j, j < s.length → -(M : Int) < xat (cor s) (dd r s) 2 ((t : Int) - B) j ∧ xat (cor s) (dd r s) 2 ((t : Int) - B) j < M := fun t ht j hj => by have := hM2 t ht j hj; omega
  have a1 := area_wnd g.rs.poly (dd r s) hD (fun j hj => dd_r g.rs s j hj) B M b1 (fun t ht j hj => by have := m1 t ht j hj; omega)
  have a2 := area_wnd g.ss.poly (dd r s) hD (fun j hj => dd_s g.ss r j hj) B M b2 (fun t ht j hj => by have := m2 t ht j hj; omega)
  rw [← sumS_sm] at a1 a2
  have t1 : twice r = sumS (sd r) := by rw [twice_sd, if_pos g.rs.reg]
  have t2 : twice s = sumS (sd s) := by rw [twice_sd, if_pos g.ss.reg]
  rw [← t1] at a1
  rw [← t2] at a2
  -- without signs
  let f : Nat → Nat → Int := fun t u => (2 * wl (cor r) r.length 0 - 1) * wnd (fun i => sc (dd r s * 2) (cor r i)) r.length ⟨(u : Int) - M, dd r s * (2 * ((t : Int) - B) + 1)⟩
  let k : Nat → Nat → Int := fun t u => (2 * wl (cor s) s.length 0 - 1) * wnd (fun i => sc (dd r s * 2) (cor s i)) s.length ⟨(u : Int) - M, dd r s * (2 * ((t : Int) - B) + 1)⟩
  have e1 : dd r s * absI (twice r) = sm (fun t => sm (f t) 0 (2 * M)) 0 (2 * B) := by
    rw [abs_area hr, ← Int.mul_assoc, Int.mul_comm (dd r s), Int.mul_assoc, a1, ← sm_mull]
    exact sm_congr _ _ _ _ fun t _ _ => (sm_mull _ _ _ _).symm
  have e2 : dd r s * absI (twice s) = sm (fun t => sm (k t) 0 (2 * M)) 0 (2 * B) := by
    rw [abs_area hs, ← Int.mul_assoc, Int.mul_comm (dd r s), Int.mul_assoc, a2, ← sm_mull]
    exact sm_congr _ _ _ _ fun t _ _ => (sm_mull _ _ _ _).symm
  have v1 : ∀ (x y : Int), wnd (fun i => sc (dd r s * 2) (cor r i)) r.length ⟨x, dd r s * (2 * y + 1)⟩ = 0 ∨ (2 * wl (cor r) r.length 0 - 1) * wnd (fun i => sc (dd r s * 2) (cor r i)) r.length ⟨x, dd r s * (2 * y + 1)⟩ = 1 := fun x y => by
    have h1 := wnd_level hT.p (lev1_r g y) x
    rw [wl_K hE] at h1
    rcases wl_01 g.rs.poly with e | e <;> rw [e] at h1 ⊢ <;> omega
  have v2 : ∀ (x y : Int), wnd (fun i => sc (dd r s * 2) (cor s i)) s.length ⟨x, dd r s * (2 * y + 1)⟩ = 0 ∨ (2 * wl (cor s) s.length 0 - 1) * wnd (fun i => sc (dd r s * 2) (cor s i)) s.length ⟨x, dd r s * (2 * y + 1)⟩ = 1 := fun x y => by
    have h1 := wnd_level hT.q (lev1_s g y) x
    rw [wl_K hE] at h1
    rcases wl_01 g.ss.poly with e | e <;> rw [e] at h1 ⊢ <;> omega
  have hle : ∀ t u, f t u ≤ k t u := by
    intro t u
    have h1 := v1 ((u : Int) - M) ((t : Int) - B)
    have h2 := v2 ((u : Int) - M) ((t : Int) - B)
    have hd := dom hT (lev1_r g ((t : Int) - B)) (lev1_s g ((t : Int) - B)) (beside_in g ho hE) (fun j x a b hx => outer_zero g ho hE j hx) ((u : Int) - M)
    show (2 * wl (cor r) r.length 0 - 1) * _ ≤ (2 * wl (cor s) s.length 0 - 1) * _
    rcases h1 with h1 | h1
    · rw [h1, Int.mul_zero]
      rcases h2 with h2 | h2
      · rw [h2, Int.mul_zero]; omega
      · rw [h2]; omega
    · rw [h1]
      have hne := hd (fun e => by rw [e, Int.mul_zero] at h1; omega)
      rw [h2.resolve_left hne]
      omega
  have hrow : ∀ t, sm (f t) 0 (2 * M) ≤ sm (k t) 0 (2 * M) := fun t => (sm_le _ _ _ fun u _ => hle t u).1
  have hall := sm_le (fun t => sm (f t) 0 (2 * M)) (fun t => sm (k t) 0 (2 * M)) (2 * B) (fun t _ => hrow t)
  rw [← e1, ← e2] at hall
  refine ⟨(lt_mul hD _ _).2.1.1 hall.1, fun hi => ?_⟩
  obtain ⟨y, x, X, ⟨j, hX⟩, hx, h1, h2⟩ := strict_place g ho hi
  have hyB : -(B : Int) ≤ y ∧ y < B := by
    rcases hX with ⟨hy, _⟩ | ⟨hy, _⟩
    · have := b1 j; have := b1 (j + 1); omega
    · have := b2 j; have := b2 (j + 1); omega
  obtain ⟨t, ht⟩ : ∃ t : Nat, (t : Int) - B = y := ⟨(y + B).toNat, by omega⟩
  have htB : t < 2 * B := by omega
  have hXM : -(M : Int) < X ∧ X < M := by
    rcases hX with ⟨_, e⟩ | ⟨_, e⟩
    · have := m1 t htB (j % r.length) (Nat.mod_lt _ hn)
      rw [ht] at this
      rw [e]; exact this
    · have := m2 t htB (j % s.length) (Nat.mod_lt _ hm)
      rw [ht] at this
      rw [e]; exact this
  obtain ⟨u, hu⟩ : ∃ u : Nat, (u : Int) - M = x := ⟨(x + M).toNat, by omega⟩
  have huM : u < 2 * M := by omega
  have fk : f t u = 0 ∧ k t u = 1 := by
    have k2 := v2 ((u : Int) - M) ((t : Int) - B)
    rw [← ht, ← hu] at h1 h2
    refine ⟨?_, ?_⟩
    · show (2 * wl (cor r) r.length 0 - 1) * _ = 0
      rw [h2, Int.mul_zero]
    · exact k2.resolve_left h1
  have hr1 := (sm_le (f t) (k t) (2 * M) fun u _ => hle t u).2 u huM
  have hr2 := hall.2 t htB
  rw [fk.1, fk.2] at hr1
  exact (lt_mul hD _ _).1.1 (by omega)

/-! The statement. -/
theorem side_simple {r : List Pt} (h : simple r = true) (p : Pt) : sideR r p = if nearB p then locate r p else -1 := by
  unfold sideR
  rw [h, Bool.true_and]
theorem rel_cases {r s : List Pt} (v : Int) (hv : relation r s = v) (hv0 : v ≠ 0) : Good r s ∧ (v = 2 → InS r s ∧ ¬ OutS r s) ∧ (v = 1 → ¬ InS r s ∧ ¬ InS s r ∧ OutS r s) ∧ (v = 4 → ¬ OutS r s ∧ ¬ OutS s r) := by
  unfold relation at hv
  by_cases hc : (simple r && simple s && !badLL (sidesL s) (sidesL r)) = true
  · rw [if_pos hc] at hv
    simp only [Bool.and_eq_true, Bool.not_eq_true'] at hc
    have g := good_of hc.1.1 hc.1.2 hc.2
    refine ⟨g, ?_⟩
    obtain ⟨b1, b2⟩ := cnt_in g
    obtain ⟨b3, b4⟩ := cnt_in g.symm
    have k := out_out g
    rw [← b1, ← b2, ← b3, ← b4] at k ⊢
    unfold relC at hv
    generalize cnt r s 1 = n1 at *
    generalize cnt r s (-1) = n2 at *
    generalize cnt s r 1 = n3 at *
    generalize cnt s r (-1) = n4 at *
    clear b1 b2 b3 b4 g hc
    split at hv
    · omega
    split at hv
    · omega
    split at hv
    · omega
    split at hv <;> omega
  · rw [if_neg hc] at hv
    exact (hv0 hv.symm).elim
/-- WHAT RingPoints SAYS. -/
theorem points_law {r s : List Pt} (h1 : simple r = true) (h2 : simple s = true) (p : Pt) :
    (relation r s = 2 → sideR r p ≤ sideR s p ∧ absI (twice r) < absI (twice s)) ∧
    (relation r s = 3 → sideR s p ≤ sideR r p ∧ absI (twice s) < absI (twice r)) ∧
    (relation r s = 1 → sideR r p < 1 ∨ sideR s p < 1) ∧
    (relation r s = 4 → sideR r p = sideR s p ∧ absI (twice r) = absI (twice s)) := by
  have two : ∀ {r s : List Pt}, simple r = true → simple s = true → relation r s = 2 → sideR r p ≤ sideR s p ∧ absI (twice r) < absI (twice s) := by
    intro r s h1 h2 hv
    obtain ⟨g, k, _, _⟩ := rel_cases 2 hv (by omega)
    obtain ⟨hi, ho⟩ := k rfl
    refine ⟨?_, (area_le g ho).2 hi⟩
    rw [side_simple h1, side_simple h2]
    have := loc_le g ho p
    split <;> omega
  refine ⟨two h1 h2, fun hv => ?_, fun hv => ?_, fun hv => ?_⟩
  · have : relation s r = 2 := by rw [relation_swap, hv]; rfl
    exact two h2 h1 this
  · obtain ⟨g, _, k, _⟩ := rel_cases 1 hv (by omega)
    obtain ⟨_, hi, ho⟩ := k rfl
    rw [side_simple h1, side_simple h2]
    have := apart_pt g hi ho p
    split <;> omega
  · obtain ⟨g, _, _, k⟩ := rel_cases 4 hv (by omega)
    obtain ⟨ho, ho2⟩ := k rfl
    have l1 := loc_le g ho p
    have l2 := loc_le g.symm ho2 p
    have m1 := (area_le g ho).1
    have m2 := (area_le g.symm ho2).1
    rw [side_simple h1, side_simple h2]
    refine ⟨?_, by omega⟩
    split <;> omega
end Go.Proofs.PlRing
