/-
  The plain laws of layer 4 (ring): two simple rings that do not cross: how the one winds beside the other one (the wall). No program in sight.
-/
import Derived.Test.YtmklnioedeailaaRPlainC2
namespace Go.Proofs.PlRing
open Go.Proofs.PlGeom

theorem Mid.symm {a b q : Pt} {m k : Int} (h : Mid a b q m k) : Mid b a q k m :=
  ⟨h.pk, h.pm, by rw [Int.add_comm k m, h.ex, Int.add_comm], by rw [Int.add_comm k m, h.ey, Int.add_comm]⟩
theorem Corner.symm {a b c : Pt} (h : Corner a b c) : Corner c b a := by
  refine ⟨h.bc.symm, h.ab.symm, fun e => ?_⟩
  have e2 : cross a b c = -cross c b a := by unfold cross; grind
  have := h.str (by omega)
  omega
/-- As sepY, from left to right. -/
def sepX (p q a b : Pt) : Prop := p.x = q.x ∨ a.x = b.x ∨ (p.x < a.x ∧ p.x < b.x ∧ q.x < a.x ∧ q.x < b.x) ∨ (a.x < p.x ∧ b.x < p.x ∧ a.x < q.x ∧ b.x < q.x)
/-- Two segments without a common point. -/
structure Apt (a b c d : Pt) : Prop where
  ap : apart a b c d
  sp : cross a b c = 0 → cross a b d = 0 → sepY a b c d
  sx : cross a b c = 0 → cross a b d = 0 → sepX a b c d
  ac : a ≠ c
  ad : a ≠ d
  bc : b ≠ c
  bd : b ≠ d
/-- One segment, in whatever direction. -/
def common (a b c d : Pt) : Prop := (a = c ∧ b = d) ∨ (a = d ∧ b = c)
/-- Two segments that are one, have no common point, or a common end alone. -/
def pairOK (a b c d : Pt) : Prop := common a b c d ∨ Apt a b c d ∨ (b = c ∧ Corner a b d) ∨ (a = c ∧ Corner b a d) ∨ (b = d ∧ Corner a b c) ∨ (a = d ∧ Corner b a c)
theorem sepY_swap {a b c d : Pt} (h : sepY a b c d) : sepY b a c d := by unfold sepY at *; omega
theorem sepY_symm {a b c d : Pt} (h : sepY a b c d) : sepY c d a b := by unfold sepY at *; omega
theorem sepX_swap {a b c d : Pt} (h : sepX a b c d) : sepX b a c d := by unfold sepX at *; omega
theorem sepX_symm {a b c d : Pt} (h : sepX a b c d) : sepX c d a b := by unfold sepX at *; omega
theorem cross_back' (c d a : Pt) : cross d c a = -cross c d a := by unfold cross; grind
theorem pairOK.swap {a b c d : Pt} (h : pairOK a b c d) : pairOK b a c d := by
  rcases h with h | h | h | h | h | h
  · exact .inl (h.elim (fun h => .inr ⟨h.2, h.1⟩) (fun h => .inl ⟨h.2, h.1⟩))
  · refine .inr (.inl ⟨apart_swap h.ap, fun e1 e2 => sepY_swap (h.sp ?_ ?_), fun e1 e2 => sepX_swap (h.sx ?_ ?_), h.bc, h.bd, h.ac, h.ad⟩)
    · rw [cross_back'] at e1; omega
    · rw [cross_back'] at e2; omega
    · rw [cross_back'] at e1; omega
    · rw [cross_back'] at e2; omega
  · exact .inr (.inr (.inr (.inl h)))
  · exact .inr (.inr (.inl h))
  · exact .inr (.inr (.inr (.inr (.inr h))))
  · exact .inr (.inr (.inr (.inr (.inl h))))
theorem pairOK.symm {a b c d : Pt} (hcd : c ≠ d) (h : pairOK a b c d) : pairOK c d a b := by
  rcases h with h | h | h | h | h | h
  · exact .inl (h.elim (fun h => .inl ⟨h.1.symm, h.2.symm⟩) (fun h => .inr ⟨h.2.symm, h.1.symm⟩))
  · refine .inr (.inl ⟨apart_symm h.ap, fun e1 e2 => ?_, fun e1 e2 => ?_, h.ac.symm, h.bc.symm, h.ad.symm, h.bd.symm⟩)
    · obtain ⟨e3, e4⟩ := line_swap c d a b hcd e1 e2
      exact sepY_symm (h.sp e3 e4)
    · obtain ⟨e3, e4⟩ := line_swap c d a b hcd e1 e2
      exact sepX_symm (h.sx e3 e4)
  · exact .inr (.inr (.inr (.inr (.inr ⟨h.1.symm, h.1 ▸ h.2.symm⟩))))
  · exact .inr (.inr (.inr (.inl ⟨h.1.symm, h.1 ▸ h.2.symm⟩)))
  · exact .inr (.inr (.inr (.inr (.inl ⟨h.1.symm, h.1 ▸ h.2.symm⟩))))
  · exact .inr (.inr (.inl ⟨h.1.symm, h.1 ▸ h.2.symm⟩))
theorem pair_end {U V A C q : Pt} {m k : Int} (h : pairOK U V A C) (hq : Mid V U q m k) (hA : V ≠ A) (hC : V ≠ C) : apart V q A C := by
  rcases h with (⟨_, h⟩ | ⟨_, h⟩) | h | ⟨h, _⟩ | ⟨h, _⟩ | ⟨h, _⟩ | ⟨h, _⟩
  · exact (hC h).elim
  · exact (hA h).elim
  · exact hq.apart (apart_swap h.ap)
  · exact (hA h).elim
  · subst h; exact hq.apart_next
  · exact (hC h).elim
  · subst h; exact apart_swap2 hq.apart_next
/-- A winding number near an end that is no corner. -/
theorem wnd_free {P : Nat → Pt} {n : Nat} (h : Poly P n) {U V q : Pt} {m k : Int} (hq : Mid V U q m k) (hp : ∀ i, pairOK U V (P i) (P (i + 1))) (hv : ∀ i, V ≠ P i) : wnd P n q = wnd P n V := by
  have e := sm_tele (fun j => chi (P j) (P (j + 1)) V) (fun j => chi (P j) (P (j + 1)) q) (fun j => hs V q (P j)) 0 n (fun j _ _ => edge_law _ _ _ _ (pair_end (hp j) hq (hv j) (hv (j + 1))))
  simp only [h.per] at e
  unfold wnd
  omega
/-- A winding number near an end that is a corner. -/
theorem wnd_corner {P : Nat → Pt} {n : Nat} (h : Poly P n) (hi : ∀ i k, 1 ≤ k → k < n → P i ≠ P (i + k)) (i : Nat) {U q : Pt} {m k : Int} (hq : Mid (P i) U q m k) (hp : ∀ j, pairOK U (P i) (P j) (P (j + 1))) :
    wnd P n q = tt P n i + jj (P (i + n - 1)) (P i) U - jj (P (i + 1)) (P i) U := by
  obtain ⟨l, rfl⟩ : ∃ l, n = l + 3 := ⟨n - 3, by have := h.three; omega⟩
  have e0 : wnd P (l + 3) q = sm (fun j => chi (P j) (P (j + 1)) q) i (l + 3) := by
    unfold wnd
    rw [sm_any (fun j => chi (P j) (P (j + 1)) q) (l + 3) (fun j => by rw [show j + (l + 3) + 1 = j + 1 + (l + 3) from by omega, h.per, h.per]) i]
  rw [e0, sm_succ, sm_last]
  have e3 := sm_tele (fun j => chi (P j) (P (j + 1)) (P i)) (fun j => chi (P j) (P (j + 1)) q) (fun j => hs (P i) q (P j)) (i + 1) (l + 1) (by
    intro j h1 h2
    have a1 := hi i (j - i) (by omega) (by omega)
    have a2 := hi i (j + 1 - i) (by omega) (by omega)
    rw [show i + (j - i) = j from by omega] at a1
    rw [show i + (j + 1 - i) = j + 1 from by omega] at a2
    exact edge_law _ _ _ _ (pair_end (hp j) hq a1 a2))
  have e5 : P (i + 1 + (l + 1) + 1) = P i := by rw [← h.per i]; congr 1; omega
  have e6 : i + 1 + (l + 1) = i + l + 2 := by omega
  have e7 : i + (l + 3) - 1 = i + l + 2 := by omega
  have e8 := jj_one (P (i + l + 2)) (P i) q
  have e9 := jj_one (P (i + 1)) (P i) q
  rw [hq.ray.jj] at e8 e9
  rw [chi_swap (P i) (P (i + 1))] at e9
  try simp only at e3
  unfold tt
  rw [e7, show l + 3 - 2 = l + 1 from by omega]
  simp only [e5]
  rw [e6] at e3 ⊢
  omega
theorem kk_flip {a b : Pt} (h : a ≠ b) : kk b a = 1 - kk a b := by
  have := pt_ne h
  unfold kk
  (repeat' split) <;> omega
theorem jjs {a b c : Pt} (h : Corner a b c) : jj a b c + jj c b a = kk a b - kk b c := by
  have h1 := jj_two a b c h
  have h2 := jj_one c b a
  rw [chi_swap b c a, hs_swap a b c] at h2
  omega
theorem jj_self (a b : Pt) : jj a b a = 0 := by
  have : cross a b a = 0 := (cross_aab a b).2
  unfold jj
  rw [this]
  (repeat' split) <;> omega

/-- What a common side adds on its one side: on the right (z = 1), on the left (z = 0). -/
def cc (z : Int) (a b c d : Pt) : Int := if a = c ∧ b = d then kk c d - z else if a = d ∧ b = c then z - kk c d else 0
def cs (z : Int) (P : Nat → Pt) (n : Nat) (c d : Pt) : Int := sm (fun i => cc z (P i) (P (i + 1)) c d) 0 n
/-- The winding number of the one ring on one side of a side of the other one. -/
def ww (z : Int) (P : Nat → Pt) (n : Nat) (c d q : Pt) : Int := wnd P n q + cs z P n c d
theorem cc_free {z : Int} {a b c d : Pt} (h : ¬ common a b c d) : cc z a b c d = 0 := by
  unfold cc common at *
  rw [if_neg (fun g => h (.inl g)), if_neg (fun g => h (.inr g))]
theorem cs_free {z : Int} {P : Nat → Pt} {n : Nat} {c d : Pt} (h : ∀ i, ¬ common (P i) (P (i + 1)) c d) : cs z P n c d = 0 :=
  sm_zero _ _ _ fun i _ _ => cc_free (h i)
theorem sm_two (f : Nat → Int) (n i : Nat) (hp : ∀ k, f (k + n) = f k) (hn : 3 ≤ n) (h : ∀ j, i + 1 ≤ j → j < i + n - 1 → f j = 0) : sm f 0 n = f i + f (i + n - 1) := by
  obtain ⟨l, rfl⟩ : ∃ l, n = l + 3 := ⟨n - 3, by omega⟩
  rw [← sm_any f (l + 3) hp i, sm_succ, sm_last, sm_zero f (i + 1) (l + 1) (fun k h1 h2 => h k h1 (by omega)), show i + 1 + (l + 1) = i + (l + 3) - 1 from by omega]
  omega
theorem inj_mod {P : Nat → Pt} {n : Nat} (h : Poly P n) (hi : ∀ i k, 1 ≤ k → k < n → P i ≠ P (i + k)) {a b : Nat} (e : P a = P b) : a % n = b % n := by
  have hn : 0 < n := by have := h.three; omega
  have e2 : P (a % n) = P (b % n) := by rw [(per_mod h a).1, (per_mod h b).1]; exact e
  have la := Nat.mod_lt a hn
  have lb := Nat.mod_lt b hn
  rcases Nat.lt_trichotomy (a % n) (b % n) with g | g | g
  · have := hi (a % n) (b % n - a % n) (by omega) (by omega)
    rw [show a % n + (b % n - a % n) = b % n from by omega] at this
    exact (this e2).elim
  · exact g
  · have := hi (b % n) (a % n - b % n) (by omega) (by omega)
    rw [show b % n + (a % n - b % n) = a % n from by omega] at this
    exact (this e2.symm).elim
theorem nxt {P : Nat → Pt} {n : Nat} (h : Poly P n) (hi : ∀ i k, 1 ≤ k → k < n → P i ≠ P (i + k)) {a b : Nat} (e : P a = P b) : P (a + 1) = P (b + 1) := by
  rw [← (per_mod h a).2, ← (per_mod h b).2, inj_mod h hi e]
theorem prv {P : Nat → Pt} {n : Nat} (h : Poly P n) (hi : ∀ i k, 1 ≤ k → k < n → P i ≠ P (i + k)) {a b : Nat} (e : P (a + 1) = P (b + 1)) : P a = P b := by
  have hn := h.three
  have g := inj_mod h hi e
  have key : ∀ c, P ((c + 1) % n + (n - 1)) = P c := by
    intro c
    have e1 := (per_mod h ((c + 1) % n + (n - 1))).1
    have e2 := (per_mod h c).1
    rw [← e1, ← e2, Nat.mod_add_mod, show c + 1 + (n - 1) = c + n from by omega, Nat.add_mod_right]
  rw [← key a, ← key b, g]
theorem cs_end {z : Int} {P : Nat → Pt} {n : Nat} (h : Poly P n) (hi : ∀ i k, 1 ≤ k → k < n → P i ≠ P (i + k)) (i : Nat) (U : Pt) (hU : U ≠ P i) :
    cs z P n U (P i) = (if P (i + n - 1) = U then kk U (P i) - z else 0) + (if P (i + 1) = U then z - kk U (P i) else 0) := by
  have hn := h.three
  have hnx := h.per i
  unfold cs
  rw [sm_two _ n i (fun k => by rw [show k + n + 1 = k + 1 + n from by omega, h.per, h.per]) hn (fun j h1 h2 => cc_free ?_)]
  · have e1 : P (i + n - 1 + 1) = P i := by rw [show i + n - 1 + 1 = i + n from by omega, hnx]
    have n1 : ¬ (P i = U) := fun g => hU g.symm
    have n2 : P (i + n - 1) ≠ P i := fun g => hi i (n - 1) (by omega) (by omega) (by rw [show i + (n - 1) = i + n - 1 from by omega]; exact g.symm)
    unfold cc
    rw [e1]
    simp only [n1, n2, false_and, if_false, true_and, and_true]
    omega
  · have a1 := hi i (j - i) (by omega) (by omega)
    have a2 := hi i (j + 1 - i) (by omega) (by omega)
    rw [show i + (j - i) = j from by omega] at a1
    rw [show i + (j + 1 - i) = j + 1 from by omega] at a2
    unfold common
    rintro (⟨_, g⟩ | ⟨g, _⟩)
    · exact a2 g.symm
    · exact a1 g.symm
theorem cs_start {z : Int} {P : Nat → Pt} {n : Nat} (h : Poly P n) (hi : ∀ i k, 1 ≤ k → k < n → P i ≠ P (i + k)) (i : Nat) (W : Pt) (hW : W ≠ P i) :
    cs z P n (P i) W = (if P (i + 1) = W then kk (P i) W - z else 0) + (if P (i + n - 1) = W then z - kk (P i) W else 0) := by
  have hn := h.three
  have hnx := h.per i
  unfold cs
  rw [sm_two _ n i (fun k => by rw [show k + n + 1 = k + 1 + n from by omega, h.per, h.per]) hn (fun j h1 h2 => cc_free ?_)]
  · have e1 : P (i + n - 1 + 1) = P i := by rw [show i + n - 1 + 1 = i + n from by omega, hnx]
    have n1 : ¬ (P i = W) := fun g => hW g.symm
    have n2 : P (i + n - 1) ≠ P i := fun g => hi i (n - 1) (by omega) (by omega) (by rw [show i + (n - 1) = i + n - 1 from by omega]; exact g.symm)
    unfold cc
    rw [e1]
    simp only [n1, n2, false_and, if_false, true_and, and_true]
  · have a1 := hi i (j - i) (by omega) (by omega)
    have a2 := hi i (j + 1 - i) (by omega) (by omega)
    rw [show i + (j - i) = j from by omega] at a1
    rw [show i + (j + 1 - i) = j + 1 from by omega] at a2
    unfold common
    rintro (⟨g, _⟩ | ⟨_, g⟩)
    · exact a1 g.symm
    · exact a2 g.symm

/-- Two closed polygons whose sides are one, have no common point, or a common end alone. -/
structure Two (P : Nat → Pt) (n : Nat) (Q : Nat → Pt) (m : Nat) : Prop where
  p : Poly P n
  q : Poly Q m
  pi : ∀ i k, 1 ≤ k → k < n → P i ≠ P (i + k)
  qi : ∀ i k, 1 ≤ k → k < m → Q i ≠ Q (i + k)
  pm : ∀ i, ∃ x a b, Mid (P i) (P (i + 1)) x a b
  qm : ∀ i, ∃ x a b, Mid (Q i) (Q (i + 1)) x a b
  pair : ∀ i j, pairOK (P i) (P (i + 1)) (Q j) (Q (j + 1))
theorem Two.symm {P : Nat → Pt} {n : Nat} {Q : Nat → Pt} {m : Nat} (h : Two P n Q m) : Two Q m P n :=
  ⟨h.q, h.p, h.qi, h.pi, h.qm, h.pm, fun i j => (h.pair j i).symm (h.q.cor i).ab⟩
/-- The side is one of the polygon. -/
def isSide (P : Nat → Pt) (c d : Pt) : Prop := ∃ i, common (P i) (P (i + 1)) c d
theorem common_swap {a b c d : Pt} (h : common a b c d) : common b a c d := h.elim (fun h => .inr ⟨h.2, h.1⟩) (fun h => .inl ⟨h.2, h.1⟩)
theorem common_symm {a b c d : Pt} (h : common a b c d) : common c d a b := h.elim (fun h => .inl ⟨h.1.symm, h.2.symm⟩) (fun h => .inr ⟨h.2.symm, h.1.symm⟩)
theorem isSide_swap {P : Nat → Pt} {c d : Pt} (h : isSide P c d) : isSide P d c := by
  obtain ⟨i, h⟩ := h
  exact ⟨i, common_symm (common_swap (common_symm h))⟩
/-- A side with an end in a corner is one of the two sides there. -/
theorem side_at {Q : Nat → Pt} {m : Nat} (h : Poly Q m) (hi : ∀ i k, 1 ≤ k → k < m → Q i ≠ Q (i + k)) (j : Nat) {X : Pt} (hs : isSide Q X (Q (j + 1))) : X = Q j ∨ X = Q (j + 2) := by
  obtain ⟨i, h1 | h1⟩ := hs
  · left; rw [← h1.1]; exact prv h hi h1.2
  · right; rw [← h1.2]; exact nxt h hi h1.1
theorem pair_corner {a b d : Pt} (h : pairOK a b b d) (hab : a ≠ b) (hbd : b ≠ d) (had : a ≠ d) : Corner a b d := by
  rcases h with (⟨h, _⟩ | ⟨h, _⟩) | h | ⟨_, h⟩ | ⟨h, _⟩ | ⟨h, _⟩ | ⟨h, _⟩
  · exact (hab h).elim
  · exact (had h).elim
  · exact (h.bc rfl).elim
  · exact h
  · exact (hab h).elim
  · exact (hbd h).elim
  · exact (had h).elim
/-- The sides of the one polygon are sides of the other one, or on one side of it. -/
def beside (z : Int) (P : Nat → Pt) (Q : Nat → Pt) (m : Nat) : Prop := ∀ i, isSide Q (P i) (P (i + 1)) ∨ ∀ x a b, Mid (P i) (P (i + 1)) x a b → wnd Q m x = wl Q m 0 + z - 1
theorem phi {P : Nat → Pt} {n : Nat} {Q : Nat → Pt} {m : Nat} (h : Two P n Q m) (z : Int) (hin : beside z P Q m) (j k : Nat) (X : Pt)
    (hk : (P k = X ∧ P (k + 1) = Q (j + 1)) ∨ (P k = Q (j + 1) ∧ P (k + 1) = X)) :
    jj X (Q (j + 1)) (Q j) - jj X (Q (j + 1)) (Q (j + 2)) + (if X = Q j then kk (Q j) (Q (j + 1)) - z else 0) - (if X = Q (j + 2) then z - kk (Q (j + 1)) (Q (j + 2)) else 0) = kk (Q j) (Q (j + 1)) - z - jj (Q j) (Q (j + 1)) (Q (j + 2)) := by
  have hc := h.q.cor j
  have hUW : Q j ≠ Q (j + 2) := h.qi j 2 (by omega) (by have := h.q.three; omega)
  by_cases e1 : X = Q j
  · rw [if_pos e1, e1, if_neg hUW, jj_self]; omega
  by_cases e2 : X = Q (j + 2)
  · rw [if_neg e1, if_pos e2, e2, jj_self]
    have := jjs hc
    omega
  rw [if_neg e1, if_neg e2]
  have hne : X ≠ Q (j + 1) := by
    have := (h.p.cor k).ab
    rcases hk with ⟨g1, g2⟩ | ⟨g1, g2⟩
    · rw [g1, g2] at this; exact this
    · rw [g1, g2] at this; exact this.symm
  have hns : ¬ isSide Q (P k) (P (k + 1)) := by
    intro hs
    have hs2 : isSide Q X (Q (j + 1)) := by
      rcases hk with ⟨g1, g2⟩ | ⟨g1, g2⟩
      · rw [g1, g2] at hs; exact hs
      · rw [g1, g2] at hs; exact isSide_swap hs
    rcases side_at h.q h.qi j hs2 with g | g
    · exact e1 g
    · exact e2 g
  obtain ⟨x, a, b, hx⟩ := h.pm k
  have hw := (hin k).resolve_left hns x a b hx
  have hp : ∀ l, pairOK X (Q (j + 1)) (Q l) (Q (l + 1)) := by
    intro l
    have := h.pair k l
    rcases hk with ⟨g1, g2⟩ | ⟨g1, g2⟩
    · rw [g1, g2] at this; exact this
    · rw [g1, g2] at this; exact this.swap
  have hm : ∃ a b, Mid (Q (j + 1)) X x a b := by
    rcases hk with ⟨g1, g2⟩ | ⟨g1, g2⟩
    · rw [g1, g2] at hx; exact ⟨_, _, hx.symm⟩
    · rw [g1, g2] at hx; exact ⟨_, _, hx⟩
  obtain ⟨a', b', hm⟩ := hm
  have hwc := wnd_corner h.q h.qi (j + 1) hm hp
  have hwl := wl_all h.q (j + 1)
  unfold wl at hwl
  have ej : Q (j + 1 + m - 1) = Q j := by rw [show j + 1 + m - 1 = j + m from by omega, h.q.per]
  rw [ej] at hwc hwl
  have c1 : Corner X (Q (j + 1)) (Q (j + 2)) := pair_corner (hp (j + 1)) hne hc.bc e2
  have c2 : Corner X (Q (j + 1)) (Q j) := by
    rcases hp j with (⟨g, _⟩ | ⟨g, _⟩) | g | ⟨g, _⟩ | ⟨g, _⟩ | ⟨_, g⟩ | ⟨g, _⟩
    · exact (e1 g).elim
    · exact (hne g).elim
    · exact (g.bd rfl).elim
    · exact (hc.ab g.symm).elim
    · exact (e1 g).elim
    · exact g
    · exact (hne g).elim
  have j1 := jjs c1
  have j2 := jjs c2
  have k1 := kk_flip hc.ab
  have hwl0 : wl Q m 0 = tt Q m 0 + jj (Q (0 + m - 1)) (Q 0) (Q (0 + 1)) + kk (Q 0) (Q (0 + 1)) := rfl
  have e3 : Q (j + 1 + 1) = Q (j + 2) := rfl
  rw [e3] at hwc hwl
  omega
/-- THE WALL: where a polygon keeps to one side of another one, its winding number on the other side of this one is the same from side to side. -/
theorem wall_step {P : Nat → Pt} {n : Nat} {Q : Nat → Pt} {m : Nat} (h : Two P n Q m) (z : Int) (hin : beside z P Q m) (j : Nat) {x y : Pt} {a b c d : Int} (hx : Mid (Q j) (Q (j + 1)) x a b) (hy : Mid (Q (j + 1)) (Q (j + 2)) y c d) :
    ww z P n (Q j) (Q (j + 1)) x = ww z P n (Q (j + 1)) (Q (j + 2)) y := by
  have hc := h.q.cor j
  have p1 : ∀ i, pairOK (Q j) (Q (j + 1)) (P i) (P (i + 1)) := fun i => h.symm.pair j i
  have p2 : ∀ i, pairOK (Q (j + 2)) (Q (j + 1)) (P i) (P (i + 1)) := fun i => (h.symm.pair (j + 1) i).swap
  unfold ww
  by_cases hv : ∃ i, Q (j + 1) = P i
  · obtain ⟨i, hi⟩ := hv
    have hn := h.p.three
    have f1 := phi h z hin j (i + n - 1) (P (i + n - 1)) (.inl ⟨rfl, by rw [show i + n - 1 + 1 = i + n from by omega, h.p.per, hi]⟩)
    have f2 := phi h z hin j i (P (i + 1)) (.inr ⟨hi.symm, rfl⟩)
    rw [hi] at p1 p2 hx hy f1 f2 ⊢
    have w1 := wnd_corner h.p h.pi i hx.symm p1
    have w2 := wnd_corner h.p h.pi i hy p2
    have n1 := hc.ab
    have n2 := hc.bc.symm
    rw [hi] at n1 n2
    rw [w1, w2, cs_end h.p h.pi i _ n1, cs_start h.p h.pi i _ n2]
    generalize jj (P (i + n - 1)) (P i) (Q j) = a1 at *
    generalize jj (P (i + n - 1)) (P i) (Q (j + 2)) = a2 at *
    generalize jj (P (i + 1)) (P i) (Q j) = a3 at *
    generalize jj (P (i + 1)) (P i) (Q (j + 2)) = a4 at *
    have t1 : (if P (i + 1) = Q j then z - kk (Q j) (P i) else 0) = -(if P (i + 1) = Q j then kk (Q j) (P i) - z else 0) := by split <;> omega
    have t2 : (if P (i + 1) = Q (j + 2) then kk (P i) (Q (j + 2)) - z else 0) = -(if P (i + 1) = Q (j + 2) then z - kk (P i) (Q (j + 2)) else 0) := by split <;> omega
    rw [t1, t2]
    omega
  · have hv' : ∀ i, Q (j + 1) ≠ P i := fun i e => hv ⟨i, e⟩
    rw [wnd_free h.p hx.symm p1 hv', wnd_free h.p hy p2 hv', cs_free, cs_free]
    · rintro i (⟨g, _⟩ | ⟨_, g⟩)
      · exact hv' i g.symm
      · exact hv' (i + 1) g.symm
    · rintro i (⟨_, g⟩ | ⟨g, _⟩)
      · exact hv' (i + 1) g.symm
      · exact hv' i g.symm
/-- The same all along. -/
theorem wall {P : Nat → Pt} {n : Nat} {Q : Nat → Pt} {m : Nat} (h : Two P n Q m) (z : Int) (hin : beside z P Q m) : ∃ v, ∀ j x a b, Mid (Q j) (Q (j + 1)) x a b → ww z P n (Q j) (Q (j + 1)) x = v := by
  obtain ⟨x0, a0, b0, h0⟩ := h.qm 0
  have key : ∀ j x a b, Mid (Q (j + 1)) (Q (j + 2)) x a b → ww z P n (Q (j + 1)) (Q (j + 2)) x = ww z P n (Q 0) (Q 1) x0 := by
    intro j
    induction j with
    | zero => intro x a b hx; exact (wall_step h z hin 0 h0 hx).symm
    | succ j ih =>
      intro x a b hx
      obtain ⟨x1, a1, b1, h1⟩ := h.qm (j + 1)
      rw [← ih x1 a1 b1 h1]
      exact (wall_step h z hin (j + 1) h1 hx).symm
  refine ⟨ww z P n (Q 0) (Q 1) x0, fun j x a b hx => ?_⟩
  cases j with
  | succ j => exact key j x a b hx
  | zero =>
    have hm := h.q.three
    have e0 : Q (m - 1 + 1) = Q 0 := by rw [show m - 1 + 1 = 0 + m from by omega, h.q.per]
    have e1 : Q (m - 1 + 2) = Q 1 := by rw [show m - 1 + 2 = 1 + m from by omega, h.q.per]
    have := key (m - 1) x a b (by rw [e0, e1]; exact hx)
    rw [e0, e1] at this
    exact this
/-! The plain laws of layer 4 (ring): two simple rings that do not cross, along a level line. No program in sight. -/

/-- If every side of the one is a side of the other one, then every side of this one is one of that. -/
theorem all_sides {P : Nat → Pt} {n : Nat} {Q : Nat → Pt} {m : Nat} (h : Two P n Q m) (ha : ∀ i, isSide Q (P i) (P (i + 1))) (j : Nat) : isSide P (Q j) (Q (j + 1)) := by
  have hn := h.p.three
  have hm := h.q.three
  have step : ∀ j, isSide P (Q j) (Q (j + 1)) → isSide P (Q (j + 1)) (Q (j + 2)) := by
    rintro j ⟨i, hi | hi⟩
    · have g := isSide_swap (ha (i + 1))
      rw [hi.2] at g
      rcases side_at h.q h.qi j g with e | e
      · have := h.pi i 2 (by omega) (by omega)
        rw [hi.1] at this
        exact (this e.symm).elim
      · exact ⟨i + 1, .inl ⟨hi.2, e⟩⟩
    · have e1 : P (i + n - 1 + 1) = P i := by rw [show i + n - 1 + 1 = i + n from by omega, h.p.per]
      have g := ha (i + n - 1)
      rw [e1, hi.1] at g
      rcases side_at h.q h.qi j g with e | e
      · have := h.pi (i + 1) (n - 2) (by omega) (by omega)
        rw [hi.2, show i + 1 + (n - 2) = i + n - 1 from by omega] at this
        exact (this e.symm).elim
      · exact ⟨i + n - 1, .inr ⟨e, by rw [e1]; exact hi.1⟩⟩
  obtain ⟨j0, hj0⟩ := ha 0
  have key : ∀ k, isSide P (Q (j0 + k)) (Q (j0 + k + 1)) := by
    intro k
    induction k with
    | zero => exact ⟨0, common_symm hj0⟩
    | succ k ih => exact step _ ih
  have hk : ∃ k, (j0 + k) % m = j % m := ⟨j + m * (j0 + 1) - j0, by
    have : j0 ≤ m * (j0 + 1) := by
      have := Nat.mul_le_mul hm (Nat.le_refl (j0 + 1))
      omega
    rw [show j0 + (j + m * (j0 + 1) - j0) = j + m * (j0 + 1) from by omega, Nat.add_mul_mod_self_left]⟩
  obtain ⟨k, hk⟩ := hk
  have := key k
  rw [← (per_mod h.q (j0 + k)).1, ← (per_mod h.q (j0 + k)).2, hk, (per_mod h.q j).1, (per_mod h.q j).2] at this
  exact this

/-! Along a level line. -/
theorem kk_cros {P : Nat → Pt} {y : Int} {i : Nat} (h : cros P y i) : ((P i).y < y ∧ y < (P (i + 1)).y ∧ kk (P i) (P (i + 1)) = 1) ∨ ((P (i + 1)).y < y ∧ y < (P i).y ∧ kk (P i) (P (i + 1)) = 0) := by
  unfold cros at h
  unfold kk
  rcases h with ⟨h1, h2⟩ | ⟨h1, h2⟩
  · left; exact ⟨h1, h2, if_pos (.inl (by omega))⟩
  · right; exact ⟨h1, h2, if_neg (by omega)⟩
theorem chi_kk {P : Nat → Pt} {n : Nat} {y : Int} {X : Nat → Int} (h : Level P n y X) (i : Nat) (x : Int) :
    (cros P y i → x < X i → chi (P i) (P (i + 1)) ⟨x, y⟩ = 2 * kk (P i) (P (i + 1)) - 1) ∧ (¬ (cros P y i ∧ x < X i) → chi (P i) (P (i + 1)) ⟨x, y⟩ = 0) := by
  rw [chi_cros h i x]
  refine ⟨fun h1 h2 => ?_, fun h1 => if_neg h1⟩
  rw [if_pos ⟨h1, h2⟩]
  rcases kk_cros h1 with ⟨g1, g2, g3⟩ | ⟨g1, g2, g3⟩
  · rw [if_pos g1, g3]; rfl
  · rw [if_neg (by omega), g3]; rfl
theorem wnd_same {P : Nat → Pt} {n : Nat} {y : Int} {X : Nat → Int} (h : Level P n y X) (x x' : Int) (hs : ∀ i, cros P y i → (x < X i ↔ x' < X i)) : wnd P n ⟨x, y⟩ = wnd P n ⟨x', y⟩ := by
  unfold wnd
  refine sm_congr _ _ _ _ fun i _ _ => ?_
  have h1 := chi_kk h i x
  have h2 := chi_kk h i x'
  by_cases g : cros P y i
  · by_cases g2 : x < X i
    · rw [h1.1 g g2, h2.1 g ((hs i g).1 g2)]
    · rw [h1.2 (fun hh => g2 hh.2), h2.2 (fun hh => g2 ((hs i g).2 hh.2))]
  · rw [h1.2 (fun hh => g hh.1), h2.2 (fun hh => g hh.1)]
theorem wnd_zero {P : Nat → Pt} {n : Nat} {y : Int} {X : Nat → Int} (h : Level P n y X) (x : Int) (hs : ∀ i, cros P y i → ¬ x < X i) : wnd P n ⟨x, y⟩ = 0 := by
  unfold wnd
  exact sm_zero _ _ _ fun i _ _ => (chi_kk h i x).2 (fun hh => hs i hh.1 hh.2)
/-- At a crossing. -/
theorem wnd_on {P : Nat → Pt} {n : Nat} (h : Poly P n) {y : Int} {X : Nat → Int} (hl : Level P n y X) (i : Nat) (hc : cros P y i) : wnd P n ⟨X i, y⟩ = wl P n 0 - kk (P i) (P (i + 1)) := by
  obtain ⟨a, b, hm⟩ := hl.mid i hc
  have h1 := others_wl h i _ hm
  have h2 := (chi_kk hl i (X i)).2 (fun hh => by omega)
  rw [wnd_at h i, h2]
  omega
/-- On the left of the next crossing. -/
theorem wnd_next {P : Nat → Pt} {n : Nat} (h : Poly P n) {y : Int} {X : Nat → Int} (hl : Level P n y X) (i : Nat) (hc : cros P y i) (x : Int) (hx : x < X i) (hmin : ∀ j, cros P y j → x < X j → X i ≤ X j) :
    wnd P n ⟨x, y⟩ = wl P n 0 + kk (P i) (P (i + 1)) - 1 := by
  obtain ⟨a, b, hm⟩ := hl.mid i hc
  have h1 := others_wl h i _ hm
  have h2 := (chi_kk hl i x).1 hc hx
  have e1 : others P n i ⟨x, y⟩ = others P n i ⟨X i, y⟩ := by
    unfold others
    refine sm_congr _ _ _ _ fun j g1 g2 => ?_
    have k1 := chi_kk hl j x
    have k2 := chi_kk hl j (X i)
    by_cases g : cros P y j ∧ x < X j
    · have l1 := hmin j g.1 g.2
      have hne := cross_far h hl i (j - i) (by omega) (by omega) hc (by rw [show i + (j - i) = j from by omega]; exact g.1)
      rw [show i + (j - i) = j from by omega] at hne
      rw [k1.1 g.1 g.2, k2.1 g.1 (by omega)]
    · rw [k1.2 g, k2.2 (fun hh => g ⟨hh.1, by omega⟩)]
  rw [wnd_at h i, h2, e1]
  omega
theorem kk_01 (a b : Pt) : kk a b = 0 ∨ kk a b = 1 := by unfold kk; split <;> omega
/-- The sides that cross the line in one point are one. -/
theorem corner_two {a b d x : Pt} {m k m' k' : Int} (h : Corner a b d) (h1 : Mid a b x m k) (h2 : Mid b d x m' k') (c1 : (a.y < x.y ∧ x.y < b.y) ∨ (b.y < x.y ∧ x.y < a.y)) (c2 : (b.y < x.y ∧ x.y < d.y) ∨ (d.y < x.y ∧ x.y < b.y)) : False := by
  have l1 := h1.on_line
  have s1 := sg_mean h2.pm h2.pk (h2.crs a b)
  have e1 : cross a b b = 0 := (cross_aab _ _).1
  have s2 := (s1.2.2.1 e1).2.2.1 l1
  have hs := h.str s2
  omega
theorem same_cross {P : Nat → Pt} {n : Nat} {Q : Nat → Pt} {m : Nat} (h : Two P n Q m) {y : Int} {X Y : Nat → Int} (lp : Level P n y X) (lq : Level Q m y Y) (i j : Nat) (hi : cros P y i) (hj : cros Q y j) (he : X i = Y j) : common (P i) (P (i + 1)) (Q j) (Q (j + 1)) := by
  obtain ⟨a, b, h1⟩ := lp.mid i hi
  obtain ⟨c, d, h2⟩ := lq.mid j hj
  rw [← he] at h2
  have hi' := hi
  have hj' := hj
  unfold cros at hi' hj'
  rcases h.pair i j with g | g | ⟨e, g⟩ | ⟨e, g⟩ | ⟨e, g⟩ | ⟨e, g⟩
  · exact g
  · obtain ⟨c1, c2⟩ := h1.two h2 g.ap
    have hs := g.sp c1 c2
    unfold sepY at hs
    omega
  · rw [← e] at h2 hj'
    exact (corner_two g h1 h2 (by simp only; omega) (by simp only; omega)).elim
  · rw [← e] at h2 hj'
    exact (corner_two g h1.symm h2 (by simp only; omega) (by simp only; omega)).elim
  · rw [← e] at h2 hj'
    exact (corner_two g h1 h2.symm (by simp only; omega) (by simp only; omega)).elim
  · rw [← e] at h2 hj'
    exact (corner_two g h1.symm h2.symm (by simp only; omega) (by simp only; omega)).elim
theorem common_cros {P Q : Nat → Pt} {y : Int} {i j : Nat} (h : common (P i) (P (i + 1)) (Q j) (Q (j + 1))) : cros P y i ↔ cros Q y j := by
  unfold cros
  rcases h with ⟨h1, h2⟩ | ⟨h1, h2⟩ <;> rw [h1, h2]
  omega
theorem common_x {P : Nat → Pt} {n : Nat} {Q : Nat → Pt} {m : Nat} {y : Int} {X Y : Nat → Int} (lp : Level P n y X) (lq : Level Q m y Y) {i j : Nat} (h : common (P i) (P (i + 1)) (Q j) (Q (j + 1))) (hi : cros P y i) : X i = Y j := by
  obtain ⟨a, b, h1⟩ := lp.mid i hi
  obtain ⟨c, d, h2⟩ := lq.mid j ((common_cros h).1 hi)
  have l1 := h1.on_line
  have l2 : cross (P i) (P (i + 1)) ⟨Y j, y⟩ = 0 := by
    rcases h with ⟨e1, e2⟩ | ⟨e1, e2⟩
    · rw [e1, e2]; exact h2.on_line
    · rw [e1, e2]; exact h2.symm.on_line
  have e : ((P (i + 1)).y - (P i).y) * (X i - Y j) = 0 := by
    unfold cross at l1 l2
    simp only at l1 l2
    grind
  unfold cros at hi
  rcases Int.mul_eq_zero.1 e with g | g <;> omega
/-- WEST of a side of the one ring, up to where the other one crosses the line. -/
theorem west {P : Nat → Pt} {n : Nat} {Q : Nat → Pt} {m : Nat} (h : Two P n Q m) {y : Int} {X Y : Nat → Int} (lp : Level P n y X) (lq : Level Q m y Y) (j : Nat) (hj : cros Q y j) (x : Int) (hx : x < Y j) (hmin : ∀ i, cros P y i → x < X i → Y j ≤ X i) :
    ww (1 - kk (Q j) (Q (j + 1))) P n (Q j) (Q (j + 1)) ⟨Y j, y⟩ = wnd P n ⟨x, y⟩ := by
  unfold ww wnd cs
  rw [← sm_add]
  refine sm_congr _ _ _ _ fun i _ _ => ?_
  have h1 := chi_kk lp i (Y j)
  have h2 := chi_kk lp i x
  by_cases hc : common (P i) (P (i + 1)) (Q j) (Q (j + 1))
  · have hi := (common_cros hc).2 hj
    have he := common_x lp lq hc hi
    rw [h1.2 (fun hh => by omega), h2.1 hi (by omega)]
    have hne := (h.q.cor j).ab
    unfold cc
    rcases hc with ⟨e1, e2⟩ | ⟨e1, e2⟩
    · rw [if_pos ⟨e1, e2⟩, e1, e2]; omega
    · have := kk_flip hne
      rw [if_neg (fun hh => hne (hh.1.symm.trans e1)), if_pos ⟨e1, e2⟩, e1, e2]; omega
  · rw [cc_free hc]
    by_cases hi : cros P y i
    · by_cases g : x < X i
      · have := hmin i hi g
        have hne : X i ≠ Y j := fun e => hc (same_cross h lp lq i j hi hj e)
        rw [h1.1 hi (by omega), h2.1 hi g]; omega
      · rw [h1.2 (fun hh => g (by omega)), h2.2 (fun hh => g hh.2)]; rfl
    · rw [h1.2 (fun hh => hi hh.1), h2.2 (fun hh => hi hh.1)]; rfl
/-- EAST of it. -/
theorem east (P : Nat → Pt) (n : Nat) (c d q : Pt) : ww (kk c d) P n c d q = wnd P n q := by
  have : cs (kk c d) P n c d = 0 := sm_zero _ _ _ fun i _ _ => by unfold cc; (repeat' split) <;> omega
  unfold ww
  omega
theorem ww_free {z : Int} {P : Nat → Pt} {n : Nat} {c d : Pt} (q : Pt) (h : ¬ isSide P c d) : ww z P n c d q = wnd P n q := by
  unfold ww
  rw [cs_free (fun i hi => h ⟨i, hi⟩)]
  omega
/-- Where a ring is inside another one, it does not wind on the outer side of this one. -/
theorem kappa {P : Nat → Pt} {n : Nat} {Q : Nat → Pt} {m : Nat} (h : Two P n Q m) {y : Int} {X Y : Nat → Int} (lp : Level P n y X) (lq : Level Q m y Y) (hin : beside (wl Q m 0) P Q m) (hq : ∃ j, j < m ∧ cros Q y j) (v : Int)
    (hv : ∀ j x a b, Mid (Q j) (Q (j + 1)) x a b → ww (wl Q m 0) P n (Q j) (Q (j + 1)) x = v) : v = 0 := by
  have hm : 0 < m := by have := h.q.three; omega
  obtain ⟨j, hj, hc, hmax⟩ := least (fun j => -Y j) _ m hq
  have hmax2 : ∀ k, cros Q y k → Y k ≤ Y j := fun k hk => by
    have := hmax (k % m) (Nat.mod_lt _ hm) ((cros_mod h.q lq k).2 hk)
    simp only [(mod_rep h.q lq k).2.2] at this
    omega
  have hw := wl_01 h.q
  have hr : ∀ i, cros P y i → ¬ Y j < X i := by
    intro i hi hlt
    obtain ⟨a, b, hmid⟩ := lp.mid i hi
    rcases hin i with ⟨k, hk⟩ | g
    · have hk2 := common_symm hk
      have := common_x lp lq hk2 hi
      have := hmax2 k ((common_cros hk2).1 hi)
      omega
    · have := g _ a b hmid
      rw [wnd_zero lq (X i) (fun k hk => by have := hmax2 k hk; omega)] at this
      omega
  have w0 := wnd_zero lp (Y j) hr
  have q0 := wnd_zero lq (Y j) (fun k hk => by have := hmax2 k hk; omega)
  have q1 := wnd_on h.q lq j hc
  obtain ⟨a, b, hmid⟩ := lq.mid j hc
  have hvj := hv j _ a b hmid
  rw [show wl Q m 0 = kk (Q j) (Q (j + 1)) from by omega, east, w0] at hvj
  exact hvj.symm
/-- INSIDE: where a ring inside another one winds, this one does. -/
theorem dom {P : Nat → Pt} {n : Nat} {Q : Nat → Pt} {m : Nat} (h : Two P n Q m) {y : Int} {X Y : Nat → Int} (lp : Level P n y X) (lq : Level Q m y Y) (hin : beside (wl Q m 0) P Q m)
    (hv : ∀ j x a b, Mid (Q j) (Q (j + 1)) x a b → ww (wl Q m 0) P n (Q j) (Q (j + 1)) x = 0) (x : Int) (hp : wnd P n ⟨x, y⟩ ≠ 0) : wnd Q m ⟨x, y⟩ ≠ 0 := by
  intro h0
  have hm : 0 < m := by have := h.q.three; omega
  have hw := wl_01 h.q
  by_cases hq : ∃ j, j < m ∧ (cros Q y j ∧ x < Y j)
  · obtain ⟨j, hj, ⟨hc, hx⟩, hmin⟩ := least Y _ m hq
    have hmin2 : ∀ k, cros Q y k → x < Y k → Y j ≤ Y k := fun k hk hxk => by
      have := hmin (k % m) (Nat.mod_lt _ hm) ⟨(cros_mod h.q lq k).2 hk, by rw [(mod_rep h.q lq k).2.2]; exact hxk⟩
      rw [(mod_rep h.q lq k).2.2] at this
      exact this
    by_cases hr : ∀ i, cros P y i → x < X i → Y j ≤ X i
    · have hwest := west h lp lq j hc x hx hr
      have hn := wnd_next h.q lq j hc x hx hmin2
      obtain ⟨a, b, hmid⟩ := lq.mid j hc
      have hvj := hv j _ a b hmid
      rw [show wl Q m 0 = 1 - kk (Q j) (Q (j + 1)) from by omega, hwest] at hvj
      exact hp hvj
    · obtain ⟨i, hi⟩ := Classical.not_forall.1 hr
      have hi1 : cros P y i := Classical.byContradiction fun g => hi (fun g2 => (g g2).elim)
      have hi2 : x < X i := Classical.byContradiction fun g => hi (fun _ g2 => (g g2).elim)
      have hi3 : X i < Y j := by
        by_cases g : X i < Y j
        · exact g
        · exact (hi (fun _ _ => by omega)).elim
      have hs := wnd_same lq x (X i) (fun k hk => by
        constructor
        · intro g; have := hmin2 k hk g; omega
        · intro g; omega)
      obtain ⟨a, b, hmid⟩ := lp.mid i hi1
      rcases hin i with ⟨k, hk⟩ | g
      · have hk2 := common_symm hk
        have e := common_x lp lq hk2 hi1
        have := hmin2 k ((common_cros hk2).1 hi1) (by omega)
        omega
      · have := g _ a b hmid
        omega
  · have hq2 : ∀ k, cros Q y k → ¬ x < Y k := fun k hk hx => hq ⟨k % m, Nat.mod_lt _ hm, (cros_mod h.q lq k).2 hk, by rw [(mod_rep h.q lq k).2.2]; exact hx⟩
    refine hp (wnd_zero lp x fun i hi hx => ?_)
    obtain ⟨a, b, hmid⟩ := lp.mid i hi
    rcases hin i with ⟨k, hk⟩ | g
    · have hk2 := common_symm hk
      have e := common_x lp lq hk2 hi
      exact hq2 k ((common_cros hk2).1 hi) (by omega)
    · have := g _ a b hmid
      rw [wnd_zero lq (X i) (fun k hk g => hq2 k hk (by omega))] at this
      omega
/-- APART: where two rings are outside of each other, no point is inside both. -/
theorem apart_law {P : Nat → Pt} {n : Nat} {Q : Nat → Pt} {m : Nat} (h : Two P n Q m) {y : Int} {X Y : Nat → Int} (lp : Level P n y X) (lq : Level Q m y Y) (hs : beside (1 - wl P n 0) Q P n)
    (hv : ∀ i x a b, Mid (P i) (P (i + 1)) x a b → ww (1 - wl P n 0) Q m (P i) (P (i + 1)) x = 0) (x : Int) (hp : wnd P n ⟨x, y⟩ ≠ 0) : wnd Q m ⟨x, y⟩ = 0 := by
  have hn : 0 < n := by have := h.p.three; omega
  have hw := wl_01 h.p
  by_cases hq : ∃ i, i < n ∧ (cros P y i ∧ x < X i)
  · obtain ⟨i, hi, ⟨hc, hx⟩, hmin⟩ := least X _ n hq
    have hmin2 : ∀ k, cros P y k → x < X k → X i ≤ X k := fun k hk hxk => by
      have := hmin (k % n) (Nat.mod_lt _ hn) ⟨(cros_mod h.p lp k).2 hk, by rw [(mod_rep h.p lp k).2.2]; exact hxk⟩
      rw [(mod_rep h.p lp k).2.2] at this
      exact this
    by_cases hr : ∀ j, cros Q y j → x < Y j → X i ≤ Y j
    · have hwest := west h.symm lq lp i hc x hx hr
      have hn := wnd_next h.p lp i hc x hx hmin2
      obtain ⟨a, b, hmid⟩ := lp.mid i hc
      have hvi := hv i _ a b hmid
      have hk := kk_01 (P i) (P (i + 1))
      rw [show (1 : Int) - wl P n 0 = 1 - kk (P i) (P (i + 1)) from by omega, hwest] at hvi
      exact hvi
    · exfalso
      obtain ⟨j, hj⟩ := Classical.not_forall.1 hr
      have hj1 : cros Q y j := Classical.byContradiction fun g => hj (fun g2 => (g g2).elim)
      have hj2 : x < Y j := Classical.byContradiction fun g => hj (fun _ g2 => (g g2).elim)
      have hj3 : Y j < X i := by
        by_cases g : Y j < X i
        · exact g
        · exact (hj (fun _ _ => by omega)).elim
      have hsm := wnd_same lp x (Y j) (fun k hk => by
        constructor
        · intro g; have := hmin2 k hk g; omega
        · intro g; omega)
      obtain ⟨a, b, hmid⟩ := lq.mid j hj1
      rcases hs j with ⟨k, hk⟩ | g
      · have e := common_x lp lq hk ((common_cros hk).2 hj1)
        have := hmin2 k ((common_cros hk).2 hj1) (by omega)
        omega
      · have := g _ a b hmid
        omega
  · exact (hp (wnd_zero lp x fun k hk hx => hq ⟨k % n, Nat.mod_lt _ hn, (cros_mod h.p lp k).2 hk, by rw [(mod_rep h.p lp k).2.2]; exact hx⟩)).elim
/-- Beside a side of the outer ring alone there is a place that only this one winds around. -/
theorem strict_q {P : Nat → Pt} {n : Nat} {Q : Nat → Pt} {m : Nat} (h : Two P n Q m) {y : Int} {X Y : Nat → Int} (lp : Level P n y X) (lq : Level Q m y Y)
    (hv : ∀ j x a b, Mid (Q j) (Q (j + 1)) x a b → ww (wl Q m 0) P n (Q j) (Q (j + 1)) x = 0) (j : Nat) (hj : cros Q y j) (hn : ¬ isSide P (Q j) (Q (j + 1))) : ∃ x, (x = Y j ∨ x = Y j - 1) ∧ wnd Q m ⟨x, y⟩ ≠ 0 ∧ wnd P n ⟨x, y⟩ = 0 := by
  have hw := wl_01 h.q
  have hk := kk_01 (Q j) (Q (j + 1))
  obtain ⟨a, b, hmid⟩ := lq.mid j hj
  have hvj := hv j _ a b hmid
  rw [ww_free _ hn] at hvj
  have ho := wnd_on h.q lq j hj
  by_cases e : wl Q m 0 = kk (Q j) (Q (j + 1))
  · refine ⟨Y j - 1, .inr rfl, ?_, ?_⟩
    · have := wnd_next h.q lq j hj (Y j - 1) (by omega) (fun k _ hk => by omega)
      omega
    · have := west h lp lq j hj (Y j - 1) (by omega) (fun k _ hk => by omega)
      rw [ww_free _ hn] at this
      omega
  · exact ⟨Y j, .inl rfl, by omega, hvj⟩
theorem strict_p {P : Nat → Pt} {n : Nat} {Q : Nat → Pt} {m : Nat} (h : Two P n Q m) {y : Int} {X Y : Nat → Int} (lp : Level P n y X) (lq : Level Q m y Y)
    (hin : beside (wl Q m 0) P Q m) (i : Nat) (hi : cros P y i) (hn : ¬ isSide Q (P i) (P (i + 1))) : ∃ x, (x = X i ∨ x = X i - 1) ∧ wnd Q m ⟨x, y⟩ ≠ 0 ∧ wnd P n ⟨x, y⟩ = 0 := by
  have hw := wl_01 h.q
  have hwp := wl_01 h.p
  have hk := kk_01 (P i) (P (i + 1))
  obtain ⟨a, b, hmid⟩ := lp.mid i hi
  have hq := (hin i).resolve_left hn _ a b hmid
  have ho := wnd_on h.p lp i hi
  by_cases e : wl P n 0 = kk (P i) (P (i + 1))
  · exact ⟨X i, .inl rfl, by omega, by omega⟩
  · refine ⟨X i - 1, .inr rfl, ?_, ?_⟩
    · rw [wnd_same lq (X i - 1) (X i) (fun k hk => by
        have : X i ≠ Y k := fun e => hn ⟨k, common_symm (same_cross h lp lq i k hi hk e)⟩
        omega)]
      omega
    · have := wnd_next h.p lp i hi (X i - 1) (by omega) (fun k _ hk => by omega)
      omega

/-! A side that only one of both has, and that is not level. -/
theorem level_corner {a b c : Pt} (h : Corner a b c) (h1 : a.y = b.y) (h2 : b.y = c.y) : (a.x < b.x ∧ b.x < c.x) ∨ (b.x < a.x ∧ c.x < b.x) := by
  have e : cross a b c = 0 := by unfold cross; rw [← h2, ← h1]; grind
  have := h.str e
  omega
theorem nolevel_core {P : Nat → Pt} {n : Nat} {Q : Nat → Pt} {m : Nat} (h : Two P n Q m) (i : Nat) (A C V : Pt) (hV : P (i + 1) = V) (hAC : (P i = A ∧ P (i + 2) = C) ∨ (P i = C ∧ P (i + 2) = A)) (hn : ¬ isSide Q A V) (hx : A.x < V.x)
    (hP : ∀ c d, isSide P c d → ¬ isSide Q c d → c.y = d.y ∧ c.x ≤ V.x) (hQ : ∀ c d, isSide Q c d → ¬ isSide P c d → c.y = d.y ∧ c.x ≤ V.x) : False := by
  have hcor : Corner A V C := by
    have := h.p.cor i
    rcases hAC with ⟨g1, g2⟩ | ⟨g1, g2⟩
    · rw [g1, hV, g2] at this; exact this
    · rw [g1, hV, g2] at this; exact this.symm
  have sA : isSide P A V := by
    rcases hAC with ⟨g1, g2⟩ | ⟨g1, g2⟩
    · exact ⟨i, .inl ⟨g1, hV⟩⟩
    · exact ⟨i + 1, .inr ⟨hV, g2⟩⟩
  have sC : isSide P C V := by
    rcases hAC with ⟨g1, g2⟩ | ⟨g1, g2⟩
    · exact ⟨i + 1, .inr ⟨hV, g2⟩⟩
    · exact ⟨i, .inl ⟨g1, hV⟩⟩
  have lA := hP A V sA hn
  by_cases hc : isSide Q C V
  · -- the corner is one of the other ring
    have hm := h.q.three
    obtain ⟨j, hj⟩ : ∃ j, Q (j + 1) = V := by
      obtain ⟨k, hk | hk⟩ := hc
      · exact ⟨k, hk.2⟩
      · exact ⟨k + m - 1, by rw [show k + m - 1 + 1 = k + m from by omega, h.q.per]; exact hk.1⟩
    have hQc := h.q.cor j
    have hne2 : Q j ≠ Q (j + 2) := h.qi j 2 (by omega) (by omega)
    rw [hj] at hQc
    have g := hc
    rw [← hj] at g
    obtain ⟨B, hB, hBC, hBV⟩ : ∃ B, isSide Q B V ∧ B ≠ C ∧ B ≠ V := by
      rcases side_at h.q h.qi j g with e | e
      · exact ⟨Q (j + 2), ⟨j + 1, .inr ⟨hj, rfl⟩⟩, by rw [e]; exact hne2.symm, hQc.bc.symm⟩
      · exact ⟨Q j, ⟨j, .inl ⟨rfl, hj⟩⟩, by rw [e]; exact hne2, hQc.ab⟩
    have hBA : B ≠ A := fun e => hn (e ▸ hB)
    have hnB : ¬ isSide P B V := by
      intro hs
      rw [← hV] at hs
      rcases side_at h.p h.pi i hs with e | e <;> rcases hAC with ⟨g1, g2⟩ | ⟨g1, g2⟩
      · exact hBA (e.trans g1)
      · exact hBC (e.trans g1)
      · exact hBC (e.trans g2)
      · exact hBA (e.trans g2)
    have lB := hQ B V hB hnB
    -- the two level sides
    obtain ⟨iA, hiA⟩ := sA
    obtain ⟨jB, hjB⟩ := hB
    have hp : pairOK A V V B := by
      have := h.pair iA jB
      have hAVne := (h.p.cor iA).ab
      have hQne := (h.q.cor jB).ab
      have p1 : pairOK A V (Q jB) (Q (jB + 1)) := by
        rcases hiA with ⟨g1, g2⟩ | ⟨g1, g2⟩
        · rw [g1, g2] at this; exact this
        · rw [g1, g2] at this; exact this.swap
      have p2 := p1.symm hQne
      rcases hjB with ⟨g1, g2⟩ | ⟨g1, g2⟩
      · rw [g1, g2] at p2; exact p2.swap.symm hcor.ab
      · rw [g1, g2] at p2; exact p2.symm hcor.ab
    have hcc := pair_corner hp hcor.ab hBV.symm hBA.symm
    have := level_corner hcc lA.1 lB.1.symm
    have := lB.2
    omega
  · have lC := hP C V sC hc
    have := level_corner hcor lA.1 lC.1.symm
    have := lC.2
    omega
theorem nolevel {P : Nat → Pt} {n : Nat} {Q : Nat → Pt} {m : Nat} (h : Two P n Q m) (hex : ∃ i, ¬ isSide Q (P i) (P (i + 1))) :
    (∃ i, ¬ isSide Q (P i) (P (i + 1)) ∧ (P i).y ≠ (P (i + 1)).y) ∨ (∃ j, ¬ isSide P (Q j) (Q (j + 1)) ∧ (Q j).y ≠ (Q (j + 1)).y) := by
  apply Classical.byContradiction
  intro hno
  have lP : ∀ i, ¬ isSide Q (P i) (P (i + 1)) → (P i).y = (P (i + 1)).y := fun i hi => by
    by_cases g : (P i).y = (P (i + 1)).y
    · exact g
    · exact (hno (.inl ⟨i, hi, g⟩)).elim
  have lQ : ∀ j, ¬ isSide P (Q j) (Q (j + 1)) → (Q j).y = (Q (j + 1)).y := fun j hj => by
    by_cases g : (Q j).y = (Q (j + 1)).y
    · exact g
    · exact (hno (.inr ⟨j, hj, g⟩)).elim
  have hn := h.p.three
  have hm := h.q.three
  -- the greatest x of all such sides
  have bdd : ∀ {R : Nat → Pt} {k : Nat}, Poly R k → ∃ M : Int, ∀ i, (R i).x ≤ M := by
    intro R k hR
    obtain ⟨B, hB⟩ := bounded (fun i => (R i).x) k
    refine ⟨B, fun i => ?_⟩
    have := hB (i % k) (Nat.mod_lt _ (by have := hR.three; omega))
    simp only [(per_mod hR i).1] at this
    omega
  -- ends of such sides
  let S : Pt → Prop := fun v => ∃ c, (isSide P c v ∧ ¬ isSide Q c v) ∨ (isSide Q c v ∧ ¬ isSide P c v)
  have hS : ∃ v, S v ∧ ∀ u, S u → u.x ≤ v.x := by
    obtain ⟨MP, hMP⟩ := bdd h.p
    obtain ⟨MQ, hMQ⟩ := bdd h.q
    have hb : ∀ u, S u → u.x ≤ max MP MQ := by
      rintro u ⟨c, ⟨⟨i, hi | hi⟩, _⟩ | ⟨⟨i, hi | hi⟩, _⟩⟩
      · have := hMP (i + 1); rw [hi.2] at this; omega
      · have := hMP i; rw [hi.1] at this; omega
      · have := hMQ (i + 1); rw [hi.2] at this; omega
      · have := hMQ i; rw [hi.1] at this; omega
    obtain ⟨i, hi⟩ := hex
    have s0 : S (P (i + 1)) := ⟨P i, .inl ⟨⟨i, .inl ⟨rfl, rfl⟩⟩, hi⟩⟩
    have key : ∀ d : Nat, ∀ v, S v → (max MP MQ - v.x).toNat ≤ d → ∃ v, S v ∧ ∀ u, S u → u.x ≤ v.x := by
      intro d
      induction d with
      | zero => intro v hv hd; exact ⟨v, hv, fun u hu => by have := hb u hu; omega⟩
      | succ d ih =>
        intro v hv hd
        by_cases g : ∃ u, S u ∧ v.x < u.x
        · obtain ⟨u, hu, hlt⟩ := g
          have := hb u hu
          exact ih u hu (by omega)
        · refine ⟨v, hv, fun u hu => ?_⟩
          by_cases g2 : v.x < u.x
          · exact (g ⟨u, hu, g2⟩).elim
          · omega
    exact key _ _ s0 (Nat.le_refl _)
  obtain ⟨v, ⟨c, hv⟩, hmax⟩ := hS
  have fP : ∀ c d, isSide P c d → ¬ isSide Q c d → c.y = d.y ∧ c.x ≤ v.x := by
    intro c d hs hns
    refine ⟨?_, hmax c ⟨d, .inl ⟨isSide_swap hs, fun g => hns (isSide_swap g)⟩⟩⟩
    obtain ⟨i, hi | hi⟩ := hs
    · have := lP i (by rw [hi.1, hi.2]; exact hns)
      rw [hi.1, hi.2] at this; exact this
    · have := lP i (by rw [hi.1, hi.2]; exact fun g => hns (isSide_swap g))
      rw [hi.1, hi.2] at this; exact this.symm
  have fQ : ∀ c d, isSide Q c d → ¬ isSide P c d → c.y = d.y ∧ c.x ≤ v.x := by
    intro c d hs hns
    refine ⟨?_, hmax c ⟨d, .inr ⟨isSide_swap hs, fun g => hns (isSide_swap g)⟩⟩⟩
    obtain ⟨i, hi | hi⟩ := hs
    · have := lQ i (by rw [hi.1, hi.2]; exact hns)
      rw [hi.1, hi.2] at this; exact this
    · have := lQ i (by rw [hi.1, hi.2]; exact fun g => hns (isSide_swap g))
      rw [hi.1, hi.2] at this; exact this.symm
  have fin : ∀ {R : Nat → Pt} {k : Nat} {T : Nat → Pt} {l : Nat}, Two R k T l → isSide R c v → ¬ isSide T c v → c.y = v.y ∧ c.x ≤ v.x → (∀ c d, isSide R c d → ¬ isSide T c d → c.y = d.y ∧ c.x ≤ v.x) → (∀ c d, isSide T c d → ¬ isSide R c d → c.y = d.y ∧ c.x ≤ v.x) → False := by
    intro R k T l hh hs hns hcv f1 f2
    have hk := hh.p.three
    obtain ⟨i, hi⟩ := hs
    have hne : c ≠ v := by
      have := (hh.p.cor i).ab
      rcases hi with ⟨g1, g2⟩ | ⟨g1, g2⟩
      · rw [g1, g2] at this; exact this
      · rw [g1, g2] at this; exact this.symm
    have hx : c.x < v.x := by have := pt_ne hne; omega
    rcases hi with ⟨g1, g2⟩ | ⟨g1, g2⟩
    · exact nolevel_core hh i c _ v g2 (.inl ⟨g1, rfl⟩) hns hx f1 f2
    · have e1 : R (i + k - 1 + 1) = R i := by rw [show i + k - 1 + 1 = i + k from by omega, hh.p.per]
      have e2 : R (i + k - 1 + 2) = R (i + 1) := by rw [show i + k - 1 + 2 = i + 1 + k from by omega, hh.p.per]
      exact nolevel_core hh (i + k - 1) c _ v (e1.trans g1) (.inr ⟨rfl, e2.trans g2⟩) hns hx f1 f2
  rcases hv with ⟨h1, h2⟩ | ⟨h1, h2⟩
  · exact fin h h1 h2 (fP c v h1 h2) fP fQ
  · exact fin h.symm h1 h2 (fQ c v h1 h2) fQ fP
/-! The plain laws of layer 4 (ring): two simple rings that do not cross as polygons, multiplied. No program in sight. -/

/-! Points on a segment. -/
def onSeg (c d q : Pt) : Prop := q = c ∨ q = d ∨ ∃ m k, Mid c d q m k
theorem hitB_onR (s : Sg) (p : Pt) : hitB s p = onR s p := by
  obtain ⟨a, b⟩ := s
  unfold hitB btwB onR
  rw [turnP_cross]
  cases (cross a b p == 0) <;> simp [Bool.and_assoc]
theorem on_seg {c d q : Pt} (hne : c ≠ d) (h : onR ⟨c, d⟩ q = true) : onSeg c d q := by
  rw [onR_iff] at h
  obtain ⟨⟨h1, h2, h3, h4⟩, h0⟩ := h
  simp only at h1 h2 h3 h4 h0
  have hp := pt_ne hne
  unfold cross at h0
  have ex : c.x ≠ d.x → q.x = c.x → q = c := fun g e => by
    have : (d.x - c.x) * (q.y - c.y) = 0 := by rw [e] at h0; grind
    rcases Int.mul_eq_zero.1 this with g2 | g2
    · omega
    · exact pt_ext e (by omega)
  have ex2 : c.x ≠ d.x → q.x = d.x → q = d := fun g e => by
    have : (d.x - c.x) * (q.y - d.y) = 0 := by rw [e] at h0; grind
    rcases Int.mul_eq_zero.1 this with g2 | g2
    · omega
    · exact pt_ext e (by omega)
  have ey : c.y ≠ d.y → q.y = c.y → q = c := fun g e => by
    have : (d.y - c.y) * (q.x - c.x) = 0 := by rw [e] at h0; grind
    rcases Int.mul_eq_zero.1 this with g2 | g2
    · omega
    · exact pt_ext (by omega) e
  have ey2 : c.y ≠ d.y → q.y = d.y → q = d := fun g e => by
    have : (d.y - c.y) * (q.x - d.x) = 0 := by rw [e] at h0; grind
    rcases Int.mul_eq_zero.1 this with g2 | g2
    · omega
    · exact pt_ext (by omega) e
  by_cases gx : c.x = d.x
  · have gy : c.y ≠ d.y := by omega
    by_cases e1 : q.y = c.y
    · exact .inl (ey gy e1)
    by_cases e2 : q.y = d.y
    · exact .inr (.inl (ey2 gy e2))
    right; right
    rcases Int.lt_or_gt_of_ne gy with g | g
    · exact ⟨d.y - q.y, q.y - c.y, by omega, by omega, by grind, by grind⟩
    · exact ⟨q.y - d.y, c.y - q.y, by omega, by omega, by grind, by grind⟩
  · by_cases e1 : q.x = c.x
    · exact .inl (ex gx e1)
    by_cases e2 : q.x = d.x
    · exact .inr (.inl (ex2 gx e2))
    right; right
    rcases Int.lt_or_gt_of_ne gx with g | g
    · exact ⟨d.x - q.x, q.x - c.x, by omega, by omega, by grind, by grind⟩
    · exact ⟨q.x - d.x, c.x - q.x, by omega, by omega, by grind, by grind⟩
/-- Strictly between, in each coordinate, or equal to both. -/
theorem mid_btw {x y z m k : Int} (hm : 0 < m) (hk : 0 < k) (h : (m + k) * z = m * x + k * y) : (x < y → x < z ∧ z < y) ∧ (y < x → y < z ∧ z < x) ∧ (x = y → z = x) := by
  have e1 : m * (z - x) = k * (y - z) := by grind
  have s := sg_eq hm hk e1
  omega
theorem seg_on {c d q : Pt} (h : onSeg c d q) : onR ⟨c, d⟩ q = true := by
  rw [onR_iff]
  rcases h with h | h | ⟨m, k, h⟩
  · rw [h]; exact ⟨⟨by simp, by simp, by simp, by simp⟩, (cross_aab c d).2⟩
  · rw [h]; exact ⟨⟨by simp, by simp, by simp, by simp⟩, (cross_aab c d).1⟩
  · have bx := mid_btw h.pm h.pk h.ex
    have by' := mid_btw h.pm h.pk h.ey
    exact ⟨⟨by simp only; omega, by simp only; omega, by simp only; omega, by simp only; omega⟩, h.on_line⟩
theorem hit_seg {c d q : Pt} (hne : c ≠ d) : hitB ⟨c, d⟩ q = true ↔ onSeg c d q := by
  rw [hitB_onR]
  exact ⟨on_seg hne, seg_on⟩
theorem Mid.ne {a b q : Pt} {m k : Int} (h : Mid a b q m k) (hab : a ≠ b) : q ≠ a ∧ q ≠ b := by
  have bx := mid_btw h.pm h.pk h.ex
  have by' := mid_btw h.pm h.pk h.ey
  have := pt_ne hab
  refine ⟨fun e => ?_, fun e => ?_⟩
  · rw [e] at bx by'; omega
  · rw [e] at bx by'; omega
/-- What is strictly inside one side, and on another one: this is the same side. -/
theorem corner_pt {a b d q : Pt} {m k : Int} (h : Corner a b d) (hq : Mid a b q m k) (ho : onSeg b d q) : False := by
  have hl := hq.on_line
  have bx := mid_btw hq.pm hq.pk hq.ex
  have by' := mid_btw hq.pm hq.pk hq.ey
  rcases ho with ho | ho | ⟨m', k', ho⟩
  · exact (hq.ne h.ab).2 ho
  · subst ho
    have := h.str hl
    omega
  · have s1 := sg_mean ho.pm ho.pk (ho.crs a b)
    have e1 : cross a b b = 0 := (cross_aab _ _).1
    have s2 := (s1.2.2.1 e1).2.2.1 hl
    have hs := h.str s2
    have cx := mid_btw ho.pm ho.pk ho.ex
    have cy := mid_btw ho.pm ho.pk ho.ey
    omega
theorem onSeg.swap {c d q : Pt} (h : onSeg c d q) : onSeg d c q := by
  rcases h with h | h | ⟨m, k, h⟩
  · exact .inr (.inl h)
  · exact .inl h
  · exact .inr (.inr ⟨k, m, h.symm⟩)
theorem line_ne {a b c d : Pt} (hcd : c ≠ d) (h1 : cross a b c = 0) (h2 : cross a b d = 0) : (a.x ≠ b.x → c.x ≠ d.x) ∧ (a.y ≠ b.y → c.y ≠ d.y) := by
  have e : (b.x - a.x) * (d.y - c.y) = (b.y - a.y) * (d.x - c.x) := by unfold cross at h1 h2; grind
  have hp := pt_ne hcd
  constructor
  · intro g e2
    rw [e2, Int.sub_self, Int.mul_zero] at e
    rcases Int.mul_eq_zero.1 e with g2 | g2 <;> omega
  · intro g e2
    rw [e2, Int.sub_self, Int.mul_zero] at e
    rcases Int.mul_eq_zero.1 e.symm with g2 | g2 <;> omega
theorem meet_pt {a b c d q : Pt} {m k : Int} (h : pairOK a b c d) (hab : a ≠ b) (hcd : c ≠ d) (hq : Mid a b q m k) (ho : onSeg c d q) : common a b c d := by
  rcases h with h | h | ⟨e, h⟩ | ⟨e, h⟩ | ⟨e, h⟩ | ⟨e, h⟩
  · exact h
  · exfalso
    have hl := hq.on_line
    have hon := seg_on ho
    rw [onR_iff] at hon
    obtain ⟨⟨b1, b2, b3, b4⟩, h0⟩ := hon
    simp only at b1 b2 b3 b4 h0
    have s2 := sg_mean hq.pm hq.pk (hq.crs c d)
    have hap := h.ap
    have col : cross a b c = 0 ∧ cross a b d = 0 := by
      unfold apart at hap
      rcases ho with e | e | ⟨m', k', ho⟩
      · have hz : cross a b c = 0 := by rw [← e]; exact hl
        rcases hap with ⟨g1, g2⟩ | ⟨g1, g2⟩ | ⟨g1, g2⟩ | ⟨g1, g2⟩ | ⟨g1, g2, _⟩
        · omega
        · omega
        · have := s2.1 g1 g2; omega
        · have := s2.2.1 g1 g2; omega
        · exact ⟨g1, g2⟩
      · have hz : cross a b d = 0 := by rw [← e]; exact hl
        rcases hap with ⟨g1, g2⟩ | ⟨g1, g2⟩ | ⟨g1, g2⟩ | ⟨g1, g2⟩ | ⟨g1, g2, _⟩
        · omega
        · omega
        · have := s2.1 g1 g2; omega
        · have := s2.2.1 g1 g2; omega
        · exact ⟨g1, g2⟩
      · exact hq.two ho hap
    have sy := h.sp col.1 col.2
    have sx := h.sx col.1 col.2
    have hn := line_ne hcd col.1 col.2
    have bx := mid_btw hq.pm hq.pk hq.ex
    have by' := mid_btw hq.pm hq.pk hq.ey
    unfold sepY at sy
    unfold sepX at sx
    clear s2 hap hl h0 ho
    rcases pt_ne hab with hp | hp
    · have hn1 := hn.1 hp
      clear sy b3 b4 by' hn
      rcases Int.lt_or_gt_of_ne hp with g | g
      · have := bx.1 g
        clear bx
        omega
      · have := bx.2.1 g
        clear bx
        omega
    · have hn1 := hn.2 hp
      clear sx b1 b2 bx hn
      rcases Int.lt_or_gt_of_ne hp with g | g
      · have := by'.1 g
        clear by'
        omega
      · have := by'.2.1 g
        clear by'
        omega
  · subst e; exact (corner_pt h hq ho).elim
  · subst e; exact (corner_pt h hq.symm ho).elim
  · subst e; exact (corner_pt h hq ho.swap).elim
  · subst e; exact (corner_pt h hq.symm ho.swap).elim

/-! How the sides of two rings meet. -/
theorem on_x (a b c : Pt) (h : cross a b c = 0) (hab : a.x ≠ b.x) (hc : (a.x ≤ c.x ∧ c.x ≤ b.x) ∨ (b.x ≤ c.x ∧ c.x ≤ a.x)) : onR ⟨a, b⟩ c = true := by
  have e : (b.x - c.x) * a.y + (c.x - a.x) * b.y = (b.x - a.x) * c.y := by unfold cross at h; grind
  have g := btw_of (b.x - a.x) 0 0 (b.x - c.x) (c.x - a.x) a.y b.y c.y (by omega) e (by omega) (by omega) rfl
  rw [onR_iff]
  exact ⟨⟨by simp only; omega, by simp only; omega, g.1, g.2⟩, h⟩
theorem pair_of_meets (a b c d : Pt) (hab : a ≠ b) (hcd : c ≠ d) (na : nearB a = true) (nb : nearB b = true) (nc : nearB c = true) (nd : nearB d = true) (h : badM (meets ⟨a, b⟩ ⟨c, d⟩) = false) : pairOK a b c d := by
  have hr := meets_range ⟨a, b⟩ ⟨c, d⟩
  have hn : nearL [a, b, c, d] = true := by rw [near4']; exact ⟨na, nb, nc, nd⟩
  unfold badM at h
  simp only [Bool.or_eq_false_iff, beq_eq_false_iff_ne] at h
  obtain ⟨⟨h2, h3⟩, h5⟩ := h
  have hk : meets ⟨a, b⟩ ⟨c, d⟩ = 0 ∨ meets ⟨a, b⟩ ⟨c, d⟩ = 1 ∨ meets ⟨a, b⟩ ⟨c, d⟩ = 4 := by omega
  rcases hk with hk | hk | hk
  · have hs := shares_law ⟨a, b⟩ ⟨c, d⟩ hn
    rw [hk] at hs
    have oa := on_end a b na nb
    have oc := on_end c d nc nd
    have e1 : a ≠ c := fun e => hs.one a na oa.1 (by rw [e]; exact oc.1) rfl
    have e2 : a ≠ d := fun e => hs.one a na oa.1 (by rw [e]; exact oc.2) rfl
    have e3 : b ≠ c := fun e => hs.one b nb oa.2 (by rw [e]; exact oc.1) rfl
    have e4 : b ≠ d := fun e => hs.one b nb oa.2 (by rw [e]; exact oc.2) rfl
    obtain ⟨g1, g2⟩ := none_apart a b c d hab hcd na nb nc nd hk
    refine .inr (.inl ⟨g1, g2, fun l1 l2 => ?_, e1, e2, e3, e4⟩)
    have l3 := line_swap a b c d hab l1 l2
    have f1 : onR ⟨c, d⟩ a = false := by
      rw [← onR_onS _ _ ((near3 _ _ _).2 ⟨nc, nd, na⟩)]
      cases e : onS ⟨c, d⟩ a with
      | false => rfl
      | true => exact (hs.one a na oa.1 e rfl).elim
    have f2 : onR ⟨c, d⟩ b = false := by
      rw [← onR_onS _ _ ((near3 _ _ _).2 ⟨nc, nd, nb⟩)]
      cases e : onS ⟨c, d⟩ b with
      | false => rfl
      | true => exact (hs.one b nb oa.2 e rfl).elim
    have f3 : onR ⟨a, b⟩ c = false := by
      rw [← onR_onS _ _ ((near3 _ _ _).2 ⟨na, nb, nc⟩)]
      cases e : onS ⟨a, b⟩ c with
      | false => rfl
      | true => exact (hs.one c nc e oc.1 rfl).elim
    have f4 : onR ⟨a, b⟩ d = false := by
      rw [← onR_onS _ _ ((near3 _ _ _).2 ⟨na, nb, nd⟩)]
      cases e : onS ⟨a, b⟩ d with
      | false => rfl
      | true => exact (hs.one d nd e oc.2 rfl).elim
    unfold sepX
    by_cases y1 : a.x = b.x
    · exact .inl y1
    by_cases y2 : c.x = d.x
    · exact .inr (.inl y2)
    have q1 : ¬ ((a.x ≤ c.x ∧ c.x ≤ b.x) ∨ (b.x ≤ c.x ∧ c.x ≤ a.x)) := fun g => by rw [on_x a b c l1 y1 g] at f3; cases f3
    have q2 : ¬ ((a.x ≤ d.x ∧ d.x ≤ b.x) ∨ (b.x ≤ d.x ∧ d.x ≤ a.x)) := fun g => by rw [on_x a b d l2 y1 g] at f4; cases f4
    have q3 : ¬ ((c.x ≤ a.x ∧ a.x ≤ d.x) ∨ (d.x ≤ a.x ∧ a.x ≤ c.x)) := fun g => by rw [on_x c d a l3.1 y2 g] at f1; cases f1
    have q4 : ¬ ((c.x ≤ b.x ∧ b.x ≤ d.x) ∨ (d.x ≤ b.x ∧ b.x ≤ c.x)) := fun g => by rw [on_x c d b l3.2 y2 g] at f2; cases f2
    omega
  · obtain ⟨e, he1, he2⟩ := (ends_law ⟨a, b⟩ ⟨c, d⟩ hn).one hk
    unfold inE at he1 he2
    simp only at he1 he2
    rcases he1 with e1 | e1 <;> rcases he2 with e2 | e2
    · have hac : a = c := e1.symm.trans e2
      subst hac
      have hm : meets ⟨b, a⟩ ⟨a, d⟩ = 1 := by rw [show (⟨b, a⟩ : Sg) = backS ⟨a, b⟩ from rfl, meets_back]; exact hk
      exact .inr (.inr (.inr (.inl ⟨rfl, end_corner b a d hab.symm hcd nb na nd hm⟩)))
    · have had : a = d := e1.symm.trans e2
      subst had
      have hm : meets ⟨b, a⟩ ⟨a, c⟩ = 1 := by rw [show (⟨b, a⟩ : Sg) = backS ⟨a, b⟩ from rfl, meets_back, show (⟨a, c⟩ : Sg) = backS ⟨c, a⟩ from rfl, meets_back2]; exact hk
      exact .inr (.inr (.inr (.inr (.inr ⟨rfl, end_corner b a c hab.symm hcd.symm nb na nc hm⟩))))
    · have hbc : b = c := e1.symm.trans e2
      subst hbc
      exact .inr (.inr (.inl ⟨rfl, end_corner a b d hab hcd na nb nd hk⟩))
    · have hbd : b = d := e1.symm.trans e2
      subst hbd
      have hm : meets ⟨a, b⟩ ⟨b, c⟩ = 1 := by rw [show (⟨b, c⟩ : Sg) = backS ⟨c, b⟩ from rfl, meets_back2]; exact hk
      exact .inr (.inr (.inr (.inr (.inl ⟨rfl, end_corner a b c hab hcd.symm na nb nc hm⟩))))
  · rcases (meets_same ⟨a, b⟩ ⟨c, d⟩ hn).1 hk with e | ⟨e1, e2⟩
    · simp only [Sg.mk.injEq] at e
      exact .inl (.inl e)
    · exact .inl (.inr ⟨e1, e2⟩)
theorem common_meets (a b c d : Pt) (na : nearB a = true) (nb : nearB b = true) (nc : nearB c = true) (nd : nearB d = true) : meets ⟨a, b⟩ ⟨c, d⟩ = 4 ↔ common a b c d := by
  rw [meets_same _ _ ((near4' _ _ _ _).2 ⟨na, nb, nc, nd⟩)]
  unfold common
  simp only [Sg.mk.injEq]

/-! Multiplied. -/
theorem sc_inj {c : Int} (hc : 0 < c) {a b : Pt} : sc c a = sc c b ↔ a = b := by
  constructor
  · intro e
    simp only [sc, Pt.mk.injEq] at e
    have h1 := lt_mul hc a.x b.x
    have h2 := lt_mul hc a.y b.y
    exact pt_ext (by omega) (by omega)
  · rintro rfl; rfl
theorem corner_sc {c : Int} (hc : 0 < c) {u v w : Pt} (h : Corner u v w) : Corner (sc c u) (sc c v) (sc c w) := by
  refine ⟨fun e => h.ab ((sc_inj hc).1 e), fun e => h.bc ((sc_inj hc).1 e), fun e => ?_⟩
  have hs := h.str ((sg_sc hc _ _ _).2.2.1 e)
  have a1 := lt_mul hc u.y v.y
  have a2 := lt_mul hc v.y u.y
  have a3 := lt_mul hc v.y w.y
  have a4 := lt_mul hc w.y v.y
  have a5 := lt_mul hc u.x v.x
  have a6 := lt_mul hc v.x u.x
  have a7 := lt_mul hc v.x w.x
  have a8 := lt_mul hc w.x v.x
  simp only [sc]
  omega
theorem apt_sc {k : Int} (hk : 0 < k) {a b c d : Pt} (h : Apt a b c d) : Apt (sc k a) (sc k b) (sc k c) (sc k d) := by
  refine ⟨?_, fun e1 e2 => ?_, fun e1 e2 => ?_, fun e => h.ac ((sc_inj hk).1 e), fun e => h.ad ((sc_inj hk).1 e), fun e => h.bc ((sc_inj hk).1 e), fun e => h.bd ((sc_inj hk).1 e)⟩
  · have hp := h.ap
    have s1 := sg_sc hk a b c
    have s2 := sg_sc hk a b d
    have s3 := sg_sc hk c d a
    have s4 := sg_sc hk c d b
    unfold apart at *
    omega
  · have hs := h.sp ((sg_sc hk _ _ _).2.2.1 e1) ((sg_sc hk _ _ _).2.2.1 e2)
    unfold sepY at *
    simp only [sc, fun x y => (lt_mul hk x y).1, fun x y => (lt_mul hk x y).2.2]
    exact hs
  · have hs := h.sx ((sg_sc hk _ _ _).2.2.1 e1) ((sg_sc hk _ _ _).2.2.1 e2)
    unfold sepX at *
    simp only [sc, fun x y => (lt_mul hk x y).1, fun x y => (lt_mul hk x y).2.2]
    exact hs
theorem common_sc {k : Int} (hk : 0 < k) {a b c d : Pt} : common (sc k a) (sc k b) (sc k c) (sc k d) ↔ common a b c d := by
  unfold common
  simp only [sc_inj hk]
theorem pair_sc {k : Int} (hk : 0 < k) {a b c d : Pt} (h : pairOK a b c d) : pairOK (sc k a) (sc k b) (sc k c) (sc k d) := by
  rcases h with h | h | ⟨e, h⟩ | ⟨e, h⟩ | ⟨e, h⟩ | ⟨e, h⟩
  · exact .inl ((common_sc hk).2 h)
  · exact .inr (.inl (apt_sc hk h))
  · exact .inr (.inr (.inl ⟨by rw [e], corner_sc hk h⟩))
  · exact .inr (.inr (.inr (.inl ⟨by rw [e], corner_sc hk h⟩)))
  · exact .inr (.inr (.inr (.inr (.inl ⟨by rw [e], corner_sc hk h⟩))))
  · exact .inr (.inr (.inr (.inr (.inr ⟨by rw [e], corner_sc hk h⟩))))
theorem isSide_sc {k : Int} (hk : 0 < k) {Q : Nat → Pt} {a b : Pt} : isSide (fun i => sc k (Q i)) (sc k a) (sc k b) ↔ isSide Q a b := by
  unfold isSide
  simp only [common_sc hk]
/-- Corners of a simple ring are different. -/
theorem Simp.inj {r : List Pt} (h : Simp r) (i k : Nat) (h1 : 1 ≤ k) (h2 : k < r.length) : cor r i ≠ cor r (i + k) := by
  by_cases e1 : k = 1
  · subst e1; exact h.ne' i
  by_cases e2 : k + 1 = r.length
  · have := h.ne' (i + k)
    rw [show i + k + 1 = i + r.length from by omega, cor_per] at this
    exact this.symm
  intro e
  have m := h.meet i k (by omega) (by omega)
  rw [if_neg (by omega)] at m
  have hs := shares_law ⟨cor r i, cor r (i + 1)⟩ ⟨cor r (i + k), cor r (i + k + 1)⟩ ((near4' _ _ _ _).2 ⟨h.nr _, h.nr _, h.nr _, h.nr _⟩)
  rw [m] at hs
  exact hs.one (cor r i) (h.nr i) (on_end _ _ (h.nr _) (h.nr _)).1 (by rw [e]; exact (on_end _ _ (h.nr _) (h.nr _)).1) rfl
/-- Two simple rings that do not cross. -/
structure Good (r s : List Pt) : Prop where
  rs : Simp r
  ss : Simp s
  nb : badLL (sidesL s) (sidesL r) = false
theorem cor_mem (r : List Pt) (hr : 0 < r.length) (i : Nat) : (⟨cor r i, cor r (i + 1)⟩ : Sg) ∈ sd r := by
  rw [← cor_side r i]
  exact List.mem_map.2 ⟨i % r.length, List.mem_range.2 (Nat.mod_lt _ hr), rfl⟩
theorem Simp.pos {r : List Pt} (h : Simp r) : 3 ≤ r.length := ((regB_iff r).1 h.reg).1
theorem Good.meets {r s : List Pt} (h : Good r s) (i j : Nat) : badM (PlGeom.meets ⟨cor r i, cor r (i + 1)⟩ ⟨cor s j, cor s (j + 1)⟩) = false := by
  cases e : badM (PlGeom.meets ⟨cor r i, cor r (i + 1)⟩ ⟨cor s j, cor s (j + 1)⟩) with
  | false => rfl
  | true =>
    have : badLL (sidesL s) (sidesL r) = true := by
      rw [badLL_iff, sd_sides, sd_sides]
      exact ⟨_, cor_mem r (by have := h.rs.pos; omega) i, _, cor_mem s (by have := h.ss.pos; omega) j, e⟩
    rw [h.nb] at this
    cases this
theorem Good.symm {r s : List Pt} (h : Good r s) : Good s r := by
  refine ⟨h.ss, h.rs, ?_⟩
  cases e : badLL (sidesL r) (sidesL s) with
  | false => rfl
  | true =>
    rw [badLL_iff, sd_sides, sd_sides] at e
    obtain ⟨x, hx, y, hy, hb⟩ := e
    have : badLL (sidesL s) (sidesL r) = true := by
      rw [badLL_iff, sd_sides, sd_sides]
      exact ⟨y, hy, x, hx, by rw [meets_symm]; exact hb⟩
    rw [h.nb] at this
    cases this
theorem Good.pair {r s : List Pt} (h : Good r s) (i j : Nat) : pairOK (cor r i) (cor r (i + 1)) (cor s j) (cor s (j + 1)) :=
  pair_of_meets _ _ _ _ (h.rs.ne' i) (h.ss.ne' j) (h.rs.nr _) (h.rs.nr _) (h.ss.nr _) (h.ss.nr _) (h.meets i j)
theorem mid_sc {c : Int} (a b : Pt) : Mid (sc (2 * c) a) (sc (2 * c) b) (sc c (midP ⟨a, b⟩)) 1 1 :=
  ⟨by omega, by omega, by simp only [sc, midP]; grind, by simp only [sc, midP]; grind⟩
theorem Good.two {r s : List Pt} (h : Good r s) (K : Int) (hK : ∃ c, 0 < c ∧ K = 2 * c) : Two (fun i => sc K (cor r i)) r.length (fun i => sc K (cor s i)) s.length := by
  obtain ⟨c, hc, rfl⟩ := hK
  have hk : 0 < 2 * c := by omega
  exact ⟨poly_sc h.rs.poly hk, poly_sc h.ss.poly hk, fun i k h1 h2 e => h.rs.inj i k h1 h2 ((sc_inj hk).1 e), fun i k h1 h2 e => h.ss.inj i k h1 h2 ((sc_inj hk).1 e),
    fun i => ⟨_, _, _, mid_sc _ _⟩, fun i => ⟨_, _, _, mid_sc _ _⟩, fun i j => pair_sc hk (h.pair i j)⟩
/-- A side's winding number does not depend on the point of it. -/
theorem mid_const {P : Nat → Pt} {n : Nat} {Q : Nat → Pt} {m : Nat} (h : Two P n Q m) (i : Nat) {x y : Pt} {a b c d : Int} (hx : Mid (P i) (P (i + 1)) x a b) (hy : Mid (P i) (P (i + 1)) y c d) : wnd Q m x = wnd Q m y := by
  have hp : ∀ j, pairOK (P (i + 1)) (P i) (Q j) (Q (j + 1)) := fun j => (h.pair i j).swap
  by_cases hv : ∃ j, P i = Q j
  · obtain ⟨j, hj⟩ := hv
    rw [hj] at hp hx hy
    rw [wnd_corner h.q h.qi j hx hp, wnd_corner h.q h.qi j hy hp]
  · have hv' : ∀ j, P i ≠ Q j := fun j e => hv ⟨j, e⟩
    rw [wnd_free h.q hx hp hv', wnd_free h.q hy hp hv']
/-- A corner that the other ring does not have. -/
theorem corner_const {P : Nat → Pt} {n : Nat} {Q : Nat → Pt} {m : Nat} (h : Two P n Q m) (i : Nat) {x : Pt} {a b : Int} (hx : Mid (P i) (P (i + 1)) x a b) (hv : ∀ j, P i ≠ Q j) : wnd Q m x = wnd Q m (P i) :=
  wnd_free h.q hx (fun j => (h.pair i j).swap) hv
/-! The plain laws of layer 4 (ring): how two rings are related: the reference's answer is the program's; both rings exchanged (RingSymmetry). No program in sight. -/

theorem dbl_len (s : List Pt) : (dblR s).length = s.length := by simp [dblR]
theorem cor_dbl (s : List Pt) (hs : 0 < s.length) (j : Nat) : cor (dblR s) j = sc 2 (cor s j) := by
  have hl : j % s.length < s.length := Nat.mod_lt _ hs
  unfold cor at0
  rw [dbl_len]
  unfold dblR
  rw [List.getElem?_map, List.getElem?_eq_getElem hl]
  rfl
theorem mid_two (a b : Pt) : Mid (sc 2 a) (sc 2 b) (midP ⟨a, b⟩) 1 1 :=
  ⟨by omega, by omega, by simp only [sc, midP]; grind, by simp only [sc, midP]; grind⟩
/-- How often the one ring winds around the middle of a side of the other one. -/
def iw (r s : List Pt) (i : Nat) : Int := wnd (fun j => sc 2 (cor s j)) s.length (midP ⟨cor r i, cor r (i + 1)⟩)
theorem sd_mem (r : List Pt) (x : Sg) : x ∈ sd r ↔ ∃ i, i < r.length ∧ x = ⟨cor r i, cor r (i + 1)⟩ := by
  unfold sd
  rw [List.mem_map]
  constructor
  · rintro ⟨i, hi, rfl⟩
    rw [List.mem_range] at hi
    refine ⟨i, hi, ?_⟩
    have := cor_side r i
    rw [Nat.mod_eq_of_lt hi] at this
    exact this
  · rintro ⟨i, hi, rfl⟩
    refine ⟨i, List.mem_range.2 hi, ?_⟩
    have := cor_side r i
    rw [Nat.mod_eq_of_lt hi] at this
    exact this
theorem hit_dbl {r s : List Pt} (g : Good r s) (i : Nat) : hitS (midP ⟨cor r i, cor r (i + 1)⟩) (sd (dblR s)) = true ↔ isSide (cor s) (cor r i) (cor r (i + 1)) := by
  have hs : 0 < s.length := by have := g.ss.pos; omega
  have h2 : (0 : Int) < 2 := by omega
  rw [hitS_iff]
  have hne : ∀ j, sc 2 (cor s j) ≠ sc 2 (cor s (j + 1)) := fun j e => g.ss.ne' j ((sc_inj h2).1 e)
  constructor
  · rintro ⟨x, hx, hh⟩
    obtain ⟨j, _, rfl⟩ := (sd_mem _ _).1 hx
    rw [cor_dbl s hs, cor_dbl s hs, hit_seg (hne j)] at hh
    exact ⟨j, common_symm ((common_sc h2).1 (meet_pt (pair_sc h2 (g.pair i j)) (fun e => g.rs.ne' i ((sc_inj h2).1 e)) (hne j) (mid_two _ _) hh))⟩
  · rintro ⟨j, hj⟩
    have hl : j % s.length < s.length := Nat.mod_lt _ hs
    refine ⟨⟨cor (dblR s) j, cor (dblR s) (j + 1)⟩, ?_, ?_⟩
    · exact cor_mem (dblR s) (by rw [dbl_len]; exact hs) j
    · rw [cor_dbl s hs, cor_dbl s hs, hit_seg (hne j)]
      right; right
      rcases hj with ⟨e1, e2⟩ | ⟨e1, e2⟩
      · rw [e1, e2]; exact ⟨1, 1, mid_two _ _⟩
      · rw [e1, e2]; exact ⟨1, 1, (mid_two _ _).symm⟩
theorem wnd_dbl (s : List Pt) (hs : 0 < s.length) (p : Pt) : winS p (sd (dblR s)) = wnd (fun j => sc 2 (cor s j)) s.length p := by
  rw [winS_sm, dbl_len]
  unfold wnd
  exact sm_congr _ _ _ _ fun j _ _ => by rw [cor_dbl s hs, cor_dbl s hs]
theorem dbl_off {s : List Pt} (h : Simp s) {p : Pt} (hp : hitS p (sd (dblR s)) = false) (i : Nat) : offS (sc 2 (cor s i)) (sc 2 (cor s (i + 1))) p := by
  have hs : 0 < s.length := by have := h.pos; omega
  have := hitS_off (r := dblR s) (by rw [dbl_len]; exact hs) hp i
  rw [cor_dbl s hs, cor_dbl s hs] at this
  exact this
theorem dbl_bound {s : List Pt} (h : Simp s) (i : Nat) : (sc 2 (cor s (i + 1))).x - (sc 2 (cor s i)).x < 20000000 ∧ -20000000 < (sc 2 (cor s (i + 1))).x - (sc 2 (cor s i)).x := by
  have := h.bound i
  simp only [sc]
  omega
theorem dbl_jordan {s : List Pt} (h : Simp s) {p : Pt} (hp : hitS p (sd (dblR s)) = false) : wnd (fun j => sc 2 (cor s j)) s.length p = 0 ∨ wnd (fun j => sc 2 (cor s j)) s.length p = 2 * wl (cor s) s.length 0 - 1 := by
  have h2 : (0 : Int) < 2 := by omega
  have := jordan (poly_sc h.poly h2) 20000000 (by omega) (dbl_bound h) p (dbl_off h hp)
  rw [wl_sc h2] at this
  have hw := wl_01 h.poly
  omega
/-- The reference's side of the doubled ring is the program's. -/
theorem parS_dbl {s : List Pt} (h : Simp s) (p : Pt) : parS p (sd (dblR s)) (-1) = locate (dblR s) p := by
  have hs : 0 < s.length := by have := h.pos; omega
  refine parS_locate _ _ fun hp => ?_
  rw [wnd_dbl s hs]
  have := dbl_jordan h hp
  have hw := wl_01 h.poly
  omega
theorem iw_val {r s : List Pt} (g : Good r s) (i : Nat) (hn : ¬ isSide (cor s) (cor r i) (cor r (i + 1))) : iw r s i = 0 ∨ iw r s i = 2 * wl (cor s) s.length 0 - 1 := by
  refine dbl_jordan g.ss ?_
  cases e : hitS (midP ⟨cor r i, cor r (i + 1)⟩) (sd (dblR s)) with
  | false => rfl
  | true => exact (hn ((hit_dbl g i).1 e)).elim
theorem loc_mid {r s : List Pt} (g : Good r s) (i : Nat) : (isSide (cor s) (cor r i) (cor r (i + 1)) → locate (dblR s) (midP ⟨cor r i, cor r (i + 1)⟩) = 0) ∧
    (¬ isSide (cor s) (cor r i) (cor r (i + 1)) → iw r s i = 0 → locate (dblR s) (midP ⟨cor r i, cor r (i + 1)⟩) = -1) ∧ (¬ isSide (cor s) (cor r i) (cor r (i + 1)) → iw r s i ≠ 0 → locate (dblR s) (midP ⟨cor r i, cor r (i + 1)⟩) = 1) := by
  have hs : 0 < s.length := by have := g.ss.pos; omega
  rw [locate_sd, wnd_dbl s hs]
  refine ⟨fun h => ?_, fun h h1 => ?_, fun h h1 => ?_⟩
  · rw [(hit_dbl g i).2 h]; rfl
  · unfold iw at h1
    rw [if_neg (fun e => h ((hit_dbl g i).1 e)), if_pos h1]
  · unfold iw at h1
    rw [if_neg (fun e => h ((hit_dbl g i).1 e)), if_neg h1]
/-- A side of the one ring is inside, or outside, the other one. -/
def InS (r s : List Pt) : Prop := ∃ i, ¬ isSide (cor s) (cor r i) (cor r (i + 1)) ∧ iw r s i ≠ 0
def OutS (r s : List Pt) : Prop := ∃ i, ¬ isSide (cor s) (cor r i) (cor r (i + 1)) ∧ iw r s i = 0
theorem loc_iff {r s : List Pt} (g : Good r s) (i : Nat) : (locate (dblR s) (midP ⟨cor r i, cor r (i + 1)⟩) = 1 ↔ (¬ isSide (cor s) (cor r i) (cor r (i + 1)) ∧ iw r s i ≠ 0)) ∧ (locate (dblR s) (midP ⟨cor r i, cor r (i + 1)⟩) = -1 ↔ (¬ isSide (cor s) (cor r i) (cor r (i + 1)) ∧ iw r s i = 0)) := by
  obtain ⟨h1, h2, h3⟩ := loc_mid g i
  by_cases a : isSide (cor s) (cor r i) (cor r (i + 1))
  · have := h1 a
    simp only [a, not_true, false_and, iff_false]
    omega
  · by_cases b : iw r s i = 0
    · have := h2 a b
      simp only [a, b, not_false_eq_true, true_and, ne_eq, not_true, iff_false, iff_true]
      omega
    · have := h3 a b
      simp only [a, b, not_false_eq_true, true_and, ne_eq, iff_false, iff_true]
      omega
theorem cnt_pos (big : List Pt) (v : Int) (l : List Sg) : 0 < cntS big v l ↔ ∃ x ∈ l, locate big (midP x) = v := by
  have nn : ∀ l, 0 ≤ cntS big v l := by
    intro l
    induction l with
    | nil => exact Int.le_refl _
    | cons x l ih => unfold cntS; split <;> omega
  induction l with
  | nil => simp [cntS]
  | cons x l ih =>
    have := nn l
    unfold cntS
    by_cases e : locate big (midP x) = v
    · rw [if_pos e]
      exact ⟨fun _ => ⟨x, List.mem_cons_self, e⟩, fun _ => by omega⟩
    · rw [if_neg e, Int.zero_add]
      refine Iff.trans ih ?_
      constructor
      · rintro ⟨y, hy, h⟩; exact ⟨y, List.mem_cons_of_mem _ hy, h⟩
      · rintro ⟨y, hy, h⟩
        rcases List.mem_cons.1 hy with e2 | e2
        · rw [e2] at h; exact (e h).elim
        · exact ⟨y, e2, h⟩
theorem side_ex (r : List Pt) (hr : 0 < r.length) (F : Sg → Prop) : (∃ x ∈ sd r, F x) ↔ ∃ i, F ⟨cor r i, cor r (i + 1)⟩ := by
  constructor
  · rintro ⟨x, hx, h⟩
    obtain ⟨i, _, rfl⟩ := (sd_mem _ _).1 hx
    exact ⟨i, h⟩
  · rintro ⟨i, h⟩
    exact ⟨_, cor_mem r hr i, h⟩
theorem cnt_in {r s : List Pt} (g : Good r s) : (0 < cnt r s 1 ↔ InS r s) ∧ (0 < cnt r s (-1) ↔ OutS r s) := by
  have hr : 0 < r.length := by have := g.rs.pos; omega
  rw [cnt_sd, cnt_sd, cnt_pos, cnt_pos, side_ex r hr (fun x => locate (dblR s) (midP x) = 1), side_ex r hr (fun x => locate (dblR s) (midP x) = -1)]
  unfold InS OutS
  simp only [fun i => (loc_iff g i).1, fun i => (loc_iff g i).2, and_self]
theorem same_side {r s : List Pt} (g : Good r s) (i : Nat) : sameB ⟨cor r i, cor r (i + 1)⟩ (sd s) = true ↔ isSide (cor s) (cor r i) (cor r (i + 1)) := by
  have hs : 0 < s.length := by have := g.ss.pos; omega
  rw [sameB_iff, side_ex s hs (fun y => PlGeom.meets ⟨cor r i, cor r (i + 1)⟩ y = 4)]
  unfold isSide
  constructor
  · rintro ⟨j, h⟩
    exact ⟨j, common_symm ((common_meets _ _ _ _ (g.rs.nr _) (g.rs.nr _) (g.ss.nr _) (g.ss.nr _)).1 h)⟩
  · rintro ⟨j, h⟩
    exact ⟨j, (common_meets _ _ _ _ (g.rs.nr _) (g.rs.nr _) (g.ss.nr _) (g.ss.nr _)).2 (common_symm h)⟩
theorem in_R {r s : List Pt} (g : Good r s) : (inR r s = true ↔ InS r s) ∧ (outR r s = true ↔ OutS r s) := by
  have hr : 0 < r.length := by have := g.rs.pos; omega
  unfold inR outR
  rw [anyB_iff, anyB_iff, side_ex r hr (fun x => inB (dblR s) (sd s) x = true), side_ex r hr (fun x => outB (dblR s) (sd s) x = true)]
  unfold InS OutS
  have key : ∀ i, (inB (dblR s) (sd s) ⟨cor r i, cor r (i + 1)⟩ = true ↔ (¬ isSide (cor s) (cor r i) (cor r (i + 1)) ∧ iw r s i ≠ 0)) ∧ (outB (dblR s) (sd s) ⟨cor r i, cor r (i + 1)⟩ = true ↔ (¬ isSide (cor s) (cor r i) (cor r (i + 1)) ∧ iw r s i = 0)) := by
    intro i
    obtain ⟨h1, h2, h3⟩ := loc_mid g i
    unfold inB outB
    rw [parS_dbl g.ss]
    have hss := same_side g i
    by_cases a : isSide (cor s) (cor r i) (cor r (i + 1))
    · rw [hss.2 a]
      simp [a]
    · have e : sameB ⟨cor r i, cor r (i + 1)⟩ (sd s) = false := by
        cases e : sameB ⟨cor r i, cor r (i + 1)⟩ (sd s) with
        | false => rfl
        | true => exact (a (hss.1 e)).elim
      rw [e]
      by_cases b : iw r s i = 0
      · rw [h2 a b]; simp [a, b]
      · rw [h3 a b]; simp [a, b]
  simp only [fun i => (key i).1, fun i => (key i).2, and_self]
theorem bad_eq (r s : List Pt) : badB r s = badLL (sidesL s) (sidesL r) := by
  rw [Bool.eq_iff_iff, badLL_iff, sd_sides, sd_sides]
  unfold badB
  rw [anyB_iff]
  simp only [anyB_iff]
  have key : ∀ x y : Sg, (!(decide (meets x y = 0) || decide (meets x y = 1) || decide (meets x y = 4))) = badM (meets x y) := by
    intro x y
    have := meets_range x y
    unfold badM
    have : meets x y = 0 ∨ meets x y = 1 ∨ meets x y = 2 ∨ meets x y = 3 ∨ meets x y = 4 ∨ meets x y = 5 := by omega
    rcases this with e | e | e | e | e | e <;> rw [e] <;> rfl
  simp only [key]
theorem good_of {r s : List Pt} (h1 : simple r = true) (h2 : simple s = true) (h3 : badLL (sidesL s) (sidesL r) = false) : Good r s := ⟨(simple_iff r).1 h1, (simple_iff s).1 h2, h3⟩
theorem two_one : ∃ c : Int, 0 < c ∧ (2 : Int) = 2 * c := ⟨1, by omega, by omega⟩
theorem none_out {r s : List Pt} (h1 : ¬ InS r s) (h2 : ¬ OutS r s) (i : Nat) : isSide (cor s) (cor r i) (cor r (i + 1)) := by
  apply Classical.byContradiction
  intro hn
  by_cases e : iw r s i = 0
  · exact h2 ⟨i, hn, e⟩
  · exact h1 ⟨i, hn, e⟩
theorem all_both {r s : List Pt} (g : Good r s) (h : ∀ i, isSide (cor s) (cor r i) (cor r (i + 1))) (j : Nat) : isSide (cor r) (cor s j) (cor s (j + 1)) := by
  have h2 : (0 : Int) < 2 := by omega
  have := all_sides (g.two 2 two_one) (fun i => (isSide_sc h2).2 (h i)) j
  exact (isSide_sc h2).1 this
theorem out_out {r s : List Pt} (g : Good r s) (h1 : ¬ InS r s) (h2 : ¬ OutS r s) : ¬ InS s r ∧ ¬ OutS s r := by
  have := all_both g (none_out h1 h2)
  exact ⟨fun ⟨j, hj, _⟩ => hj (this j), fun ⟨j, hj, _⟩ => hj (this j)⟩
/-- THE REFERENCE'S RELATION IS THE PROGRAM'S. -/
theorem relX_relation (r s : List Pt) : relX r s = relation r s := by
  unfold relX relation
  rw [bad_eq]
  by_cases hc : (simple r && simple s && !badLL (sidesL s) (sidesL r)) = true
  · rw [if_pos hc, if_pos hc]
    simp only [Bool.and_eq_true, Bool.not_eq_true'] at hc
    have g := good_of hc.1.1 hc.1.2 hc.2
    have g' := g.symm
    obtain ⟨a1, a2⟩ := in_R g
    obtain ⟨a3, a4⟩ := in_R g'
    obtain ⟨b1, b2⟩ := cnt_in g
    obtain ⟨b3, b4⟩ := cnt_in g'
    have k := out_out g
    unfold relC
    rw [← b1, ← b2, ← b3, ← b4] at k
    rw [← b1] at a1
    rw [← b2] at a2
    rw [← b3] at a3
    rw [← b4] at a4
    have c1 : ∀ (b : Bool) (n : Int), (b = true ↔ 0 < n) → b = decide (0 < n) := fun b n h => by cases b <;> simp_all
    rw [c1 _ _ a1, c1 _ _ a2, c1 _ _ a3, c1 _ _ a4]
    generalize cnt r s 1 = n1 at *
    generalize cnt r s (-1) = n2 at *
    generalize cnt s r 1 = n3 at *
    generalize cnt s r (-1) = n4 at *
    simp only [Bool.or_eq_true, Bool.and_eq_true, decide_eq_true_eq]
    clear a1 a2 a3 a4 b1 b2 b3 b4 c1
    (repeat' split) <;> first | rfl | omega
  · rw [if_neg hc, if_neg hc]

/-! Which ring is inside the other one. -/
theorem wnd_iw {r s : List Pt} (g : Good r s) {K : Int} (hK : ∃ c, 0 < c ∧ K = 2 * c) (i : Nat) {x : Pt} {a b : Int} (hx : Mid (sc K (cor r i)) (sc K (cor r (i + 1))) x a b) : wnd (fun j => sc K (cor s j)) s.length x = iw r s i := by
  have hT := g.two K hK
  obtain ⟨c, hc, rfl⟩ := hK
  rw [mid_const hT i hx (mid_sc _ _)]
  unfold iw wnd
  refine sm_congr _ _ _ _ fun j _ _ => ?_
  have e : ∀ v : Pt, sc (2 * c) v = sc c (sc 2 v) := fun v => by simp only [sc, Pt.mk.injEq]; constructor <;> grind
  simp only [e]
  exact chi_sc hc _ _ _
theorem wl_K {Q : Nat → Pt} {m : Nat} {K : Int} (hK : ∃ c, 0 < c ∧ K = 2 * c) : wl (fun j => sc K (Q j)) m 0 = wl Q m 0 := by
  obtain ⟨c, hc, rfl⟩ := hK
  exact wl_sc (by omega) 0
theorem K_pos {K : Int} (hK : ∃ c, 0 < c ∧ K = 2 * c) : 0 < K := by obtain ⟨c, hc, rfl⟩ := hK; omega
theorem beside_in {r s : List Pt} (g : Good r s) (ho : ¬ OutS r s) {K : Int} (hK : ∃ c, 0 < c ∧ K = 2 * c) : beside (wl (fun j => sc K (cor s j)) s.length 0) (fun i => sc K (cor r i)) (fun j => sc K (cor s j)) s.length := by
  intro i
  by_cases hs : isSide (cor s) (cor r i) (cor r (i + 1))
  · exact .inl ((isSide_sc (K_pos hK)).2 hs)
  · right
    intro x a b hx
    rw [wnd_iw g hK i hx, wl_K hK]
    have h1 := iw_val g i hs
    have h2 : iw r s i ≠ 0 := fun e => ho ⟨i, hs, e⟩
    omega
theorem beside_out {r s : List Pt} (g : Good r s) (hi : ¬ InS r s) {K : Int} (hK : ∃ c, 0 < c ∧ K = 2 * c) : beside (1 - wl (fun j => sc K (cor s j)) s.length 0) (fun i => sc K (cor r i)) (fun j => sc K (cor s j)) s.length := by
  intro i
  by_cases hs : isSide (cor s) (cor r i) (cor r (i + 1))
  · exact .inl ((isSide_sc (K_pos hK)).2 hs)
  · right
    intro x a b hx
    rw [wnd_iw g hK i hx, wl_K hK]
    have h2 : iw r s i = 0 := by
      by_cases e : iw r s i = 0
      · exact e
      · exact (hi ⟨i, hs, e⟩).elim
    omega
/-- A common multiple of the heights of the sides of both. -/
def dd (r s : List Pt) : Int := ((dyp (cor r) r.length).natAbs : Int) * ((dyp (cor s) s.length).natAbs : Int)
theorem dd_pos (r s : List Pt) : 0 < dd r s := Int.mul_pos (dyp_pos _ _) (dyp_pos _ _)
theorem dd_r {r : List Pt} (h : Simp r) (s : List Pt) (j : Nat) (hj : (cor r (j + 1)).y - (cor r j).y ≠ 0) : ((cor r (j + 1)).y - (cor r j).y) ∣ dd r s := Int.dvd_trans (dyp_all h.poly j hj) (Int.dvd_mul_right _ _)
theorem dd_s {s : List Pt} (h : Simp s) (r : List Pt) (j : Nat) (hj : (cor s (j + 1)).y - (cor s j).y ≠ 0) : ((cor s (j + 1)).y - (cor s j).y) ∣ dd r s := Int.dvd_trans (dyp_all h.poly j hj) (Int.dvd_mul_left _ _)
theorem even_dd (r s : List Pt) (m : Int) (hm : 0 < m) : ∃ c, 0 < c ∧ dd r s * (2 * m) = 2 * c := ⟨dd r s * m, Int.mul_pos (dd_pos r s) hm, by grind⟩
theorem lev_r {r s : List Pt} (g : Good r s) (m y : Int) (hm : 0 < m) : Level (fun i => sc (dd r s * (2 * m)) (cor r i)) r.length (dd r s * (2 * m * y + 1)) (xat (cor r) (dd r s) (2 * m) y) :=
  level_lift g.rs.poly (dd r s) (2 * m) y (dd_pos r s) (by omega) (fun j hj => dd_r g.rs s j hj)
theorem lev_s {r s : List Pt} (g : Good r s) (m y : Int) (hm : 0 < m) : Level (fun i => sc (dd r s * (2 * m)) (cor s i)) s.length (dd r s * (2 * m * y + 1)) (xat (cor s) (dd r s) (2 * m) y) :=
  level_lift g.ss.poly (dd r s) (2 * m) y (dd_pos r s) (by omega) (fun j hj => dd_s g.ss r j hj)
/-- Which half heights a side crosses. -/
theorem cros_lift {P : Nat → Pt} {D m y : Int} (hD : 0 < D) (hm : 0 < m) (j : Nat) : cros (fun i => sc (D * (2 * m)) (P i)) (D * (2 * m * y + 1)) j ↔ (((P j).y ≤ y ∧ y < (P (j + 1)).y) ∨ ((P (j + 1)).y ≤ y ∧ y < (P j).y)) := by
  have key : ∀ v : Int, (D * (2 * m) * v < D * (2 * m * y + 1) ↔ v ≤ y) ∧ (D * (2 * m * y + 1) < D * (2 * m) * v ↔ y < v) := by
    intro v
    rw [Int.mul_assoc]
    have g1 := lt_mul hD (2 * m * v) (2 * m * y + 1)
    have g2 := lt_mul hD (2 * m * y + 1) (2 * m * v)
    have k1 := lt_mul (c := 2 * m) (by omega) v y
    have k2 := lt_mul (c := 2 * m) (by omega) (y + 1) v
    have k3 : 2 * m * (y + 1) = 2 * m * y + 2 * m := by grind
    rw [k3] at k2
    have : v ≤ y ∨ y + 1 ≤ v := by omega
    omega
  unfold cros
  simp only [sc, key]
theorem cros_ex {s : List Pt} (h : Simp s) (D m : Int) (hD : 0 < D) (hm : 0 < m) : ∃ y j, j < s.length ∧ cros (fun i => sc (D * (2 * m)) (cor s i)) (D * (2 * m * y + 1)) j := by
  obtain ⟨j, hj, hne⟩ := not_level h.poly
  rcases Int.lt_or_gt_of_ne hne with g | g
  · exact ⟨(cor s j).y, j, hj, (cros_lift hD hm j).2 (.inl (by omega))⟩
  · exact ⟨(cor s (j + 1)).y, j, hj, (cros_lift hD hm j).2 (.inr (by omega))⟩
/-- On the outer side of a ring, the one inside it does not wind. -/
theorem outer_zero {r s : List Pt} (g : Good r s) (ho : ¬ OutS r s) {K : Int} (hK : ∃ c, 0 < c ∧ K = 2 * c) (j : Nat) {x : Pt} {a b : Int} (hx : Mid (sc K (cor s j)) (sc K (cor s (j + 1))) x a b) :
    ww (wl (fun j => sc K (cor s j)) s.length 0) (fun i => sc K (cor r i)) r.length (sc K (cor s j)) (sc K (cor s (j + 1))) x = 0 := by
  have hD := dd_pos r s
  have hE := even_dd r s 1 (by omega)
  obtain ⟨v, hv⟩ := wall (g.two _ hE) _ (beside_in g ho hE)
  obtain ⟨y, jj, hjj, hcr⟩ := cros_ex g.ss (dd r s) 1 hD (by omega)
  have hv0 := kappa (g.two _ hE) (lev_r g 1 y (by omega)) (lev_s g 1 y (by omega)) (beside_in g ho hE) ⟨jj, hjj, hcr⟩ v hv
  -- the same at every multiple
  have key : ∀ {K' : Int}, (∃ c, 0 < c ∧ K' = 2 * c) → ∀ {x' : Pt} {a' b' : Int}, Mid (sc K' (cor s j)) (sc K' (cor s (j + 1))) x' a' b' →
      ww (wl (fun j => sc K' (cor s j)) s.length 0) (fun i => sc K' (cor r i)) r.length (sc K' (cor s j)) (sc K' (cor s (j + 1))) x' = iw s r j + cs (wl (cor s) s.length 0) (cor r) r.length (cor s j) (cor s (j + 1)) := by
    intro K' hK' x' a' b' hx'
    unfold ww
    rw [wnd_iw g.symm hK' j hx', wl_K hK']
    congr 1
    unfold cs
    refine sm_congr _ _ _ _ fun i _ _ => ?_
    have hp := K_pos hK'
    unfold cc
    simp only [sc_inj hp, kk_sc hp]
  obtain ⟨x1, a1, b1, h1⟩ := (g.two _ hE).qm j
  rw [key hK hx, ← key hE h1, hv j x1 a1 b1 h1, hv0]
/-- If no side of the one is outside the other one, no side of this one is inside that. -/
theorem not_in {r s : List Pt} (g : Good r s) (ho : ¬ OutS r s) : ¬ InS s r := by
  rintro ⟨j, hn, hi⟩
  have hE : ∃ c : Int, 0 < c ∧ (2 : Int) = 2 * c := two_one
  have h0 := outer_zero g ho hE j (mid_two (cor s j) (cor s (j + 1)))
  rw [ww_free _ (fun h => hn ((isSide_sc (K_pos hE)).1 h)), wnd_iw g.symm hE j (mid_two _ _)] at h0
  exact hi h0

/-! Both rings exchanged. -/
def swapR (v : Int) : Int := if v = 2 then 3 else if v = 3 then 2 else v
theorem relation_swap (r s : List Pt) : relation s r = swapR (relation r s) := by
  unfold relation
  have hb : badLL (sidesL r) (sidesL s) = badLL (sidesL s) (sidesL r) := by
    rw [← bad_eq, ← bad_eq, Bool.eq_iff_iff]
    unfold badB
    simp only [anyB_iff]
    constructor
    · rintro ⟨x, hx, y, hy, h⟩; exact ⟨y, hy, x, hx, by rw [meets_symm]; exact h⟩
    · rintro ⟨x, hx, y, hy, h⟩; exact ⟨y, hy, x, hx, by rw [meets_symm]; exact h⟩
  rw [hb, Bool.and_comm (simple s)]
  by_cases hc : (simple r && simple s && !badLL (sidesL s) (sidesL r)) = true
  · rw [if_pos hc, if_pos hc]
    simp only [Bool.and_eq_true, Bool.not_eq_true'] at hc
    have g := good_of hc.1.1 hc.1.2 hc.2
    have g' := g.symm
    obtain ⟨b1, b2⟩ := cnt_in g
    obtain ⟨b3, b4⟩ := cnt_in g'
    have k1 := out_out g
    have k2 := out_out g'
    have k3 := not_in g
    have k4 := not_in g'
    rw [← b1, ← b2, ← b3, ← b4] at k1 k2
    rw [← b2, ← b3] at k3
    rw [← b4, ← b1] at k4
    unfold relC swapR
    generalize cnt r s 1 = n1 at *
    generalize cnt r s (-1) = n2 at *
    generalize cnt s r 1 = n3 at *
    generalize cnt s r (-1) = n4 at *
    clear b1 b2 b3 b4 g g' hb hc
    (repeat' split) <;> omega
  · rw [if_neg hc, if_neg hc]; rfl
/-- A simple ring has the same inside as itself. -/
theorem relation_self (r : List Pt) : relation r r = if simple r then 4 else 0 := by
  by_cases h : simple r = true
  · rw [if_pos h]
    have hs := (simple_iff r).1 h
    have hr : 0 < r.length := by have := hs.pos; omega
    have hb : badLL (sidesL r) (sidesL r) = false := by
      cases e : badLL (sidesL r) (sidesL r) with
      | false => rfl
      | true =>
        rw [badLL_iff, sd_sides] at e
        obtain ⟨x, hx, y, hy, hm⟩ := e
        unfold sd at hx hy
        obtain ⟨i, hi, rfl⟩ := List.mem_map.1 hx
        obtain ⟨k, hk, rfl⟩ := List.mem_map.1 hy
        rw [List.mem_range] at hi hk
        by_cases ek : i = k
        · subst ek
          have e2 := cor_side r i
          rw [Nat.mod_eq_of_lt hi] at e2
          rw [e2, meets_self _ ((near4' _ _ _ _).2 ⟨hs.nr _, hs.nr _, hs.nr _, hs.nr _⟩)] at hm
          cases hm
        · by_cases ha : adj r.length i k
          · rw [hs.near i k hi hk ek ha] at hm; cases hm
          · rw [hs.far i k hi hk ek ha] at hm; cases hm
    have g : Good r r := ⟨hs, hs, hb⟩
    obtain ⟨b1, b2⟩ := cnt_in g
    have n1 : ¬ InS r r := fun ⟨i, hi, _⟩ => hi ⟨i, .inl ⟨rfl, rfl⟩⟩
    have n2 : ¬ OutS r r := fun ⟨i, hi, _⟩ => hi ⟨i, .inl ⟨rfl, rfl⟩⟩
    rw [← b1] at n1
    rw [← b2] at n2
    unfold relation
    rw [if_pos (by rw [h, hb]; rfl)]
    unfold relC
    rw [if_neg (by omega), if_neg n1, if_neg n1, if_neg n2]
  · rw [if_neg h]
    unfold relation
    rw [if_neg (by simp [h])]
theorem relation_not {r s : List Pt} (h : simple r = false) : relation r s = 0 := by
  unfold relation
  rw [if_neg (by simp [h])]
end Go.Proofs.PlRing
