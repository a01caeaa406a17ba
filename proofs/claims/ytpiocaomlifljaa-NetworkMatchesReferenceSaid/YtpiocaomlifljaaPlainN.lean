/-
  Few objects. No program in sight.
-/
import Derived.Test.YtpiocaomlifljaaPlain6
namespace Go.Proofs.PlNet
open Go Go.Proofs.PlLex

def fewR (l : List BA) : Bool := l.all (fun s => decide (s.size ≤ 60))
def fewG (l : List Tg) : Bool := l.all (fun t => decide (IntKind.i64.wrap ((t.k.size : Int) + t.v.size) ≤ 300))
def fewO (o : Ob) : Bool := decide (o.refs.length ≤ 12) && decide (o.tags.length ≤ 20) && decide (o.id.size ≤ 60) && (fewR o.refs && fewG o.tags)
def fewM (n : Nat) (l : List Ob) : Bool := decide (l.length ≤ n) && l.all fewO
theorem fewM_ok {n : Nat} {l : List Ob} (h : fewM n l = true) (hs : ∀ o ∈ l, ∀ t ∈ o.tags, t.k.size ≤ maxLen ∧ t.v.size ≤ maxLen) : l.length ≤ n ∧ ∀ o ∈ l, okO o := by
  unfold fewM at h
  rw [Bool.and_eq_true, decide_eq_true_eq, List.all_eq_true] at h
  refine ⟨h.1, fun o ho => ?_⟩
  have h2 := h.2 o ho
  unfold fewO fewR at h2
  simp only [Bool.and_eq_true, decide_eq_true_eq, List.all_eq_true] at h2
  obtain ⟨⟨⟨h3, h4⟩, h5⟩, h6, _⟩ := h2
  exact ⟨by omega, by omega, fun s hs => by have := h6 s hs; omega, by omega, hs o ho⟩
end Go.Proofs.PlNet

/-! Lists of strings in order. No program in sight. -/
namespace Go.Proofs.PlNet
open Go Go.Proofs.PlLex

def beforeB : List BA → List BA → Bool
  | a :: r, b :: s => if a = b then beforeB r s else Go.Op.bytesLess a.toList b.toList
  | [], _ :: _ => true
  | _, [] => false
def idsB (a b : List BA) : Bool := !beforeB a b && !beforeB b a
theorem beforeB_irrefl (a : List BA) : beforeB a a = false := by
  induction a with
  | nil => rfl
  | cons x r ih => unfold beforeB; rw [if_pos rfl]; exact ih
theorem beforeB_total : ∀ (a b : List BA), beforeB a b = false → beforeB b a = false → a = b
  | [], [], _, _ => rfl
  | [], _ :: _, h, _ => by cases h
  | _ :: _, [], _, h => by cases h
  | x :: r, y :: s, h1, h2 => by
    unfold beforeB at h1 h2
    by_cases e : x = y
    · subst e
      rw [if_pos rfl] at h1 h2
      rw [beforeB_total r s h1 h2]
    · rw [if_neg e] at h1
      rw [if_neg (fun e2 => e e2.symm)] at h2
      exact absurd (less_tri h1 (fun e2 => e (toList_inj.1 e2))) (by rw [h2]; decide)
theorem idsB_eq (a b : List BA) : idsB a b = decide (a = b) := by
  unfold idsB
  by_cases e : a = b
  · subst e
    rw [beforeB_irrefl]
    simp
  · rw [decide_eq_false e]
    cases h1 : beforeB a b with
    | true => rfl
    | false => cases h2 : beforeB b a with
      | true => rfl
      | false => exact (e (beforeB_total a b h1 h2)).elim
end Go.Proofs.PlNet

/-! The chapter's example, as plain data. No program in sight. -/
namespace Go.Proofs.PlNet
open Go Go.Proofs.PlLex

def nd (id : BA) (x y : Int) : Ob := ⟨id, 1, x, y, [], []⟩
def obj (k : Int) (id : BA) (r : List BA) : Ob := ⟨id, k, 0, 0, r, []⟩
def exL : List Ob := [nd ⟨#[97]⟩ 0 0, nd ⟨#[98]⟩ 3 4, nd ⟨#[99]⟩ 9 9, nd ⟨#[100]⟩ 0 9,
  obj 4 ⟨#[114, 49]⟩ [⟨#[118]⟩, ⟨#[119]⟩, ⟨#[120]⟩], obj 4 ⟨#[114, 50]⟩ [⟨#[118]⟩, ⟨#[120]⟩], obj 5 ⟨#[116, 49]⟩ [⟨#[118]⟩, ⟨#[98]⟩, ⟨#[119]⟩], obj 5 ⟨#[116, 50]⟩ [⟨#[118]⟩, ⟨#[97]⟩, ⟨#[119]⟩],
  obj 2 ⟨#[118]⟩ [⟨#[97]⟩, ⟨#[98]⟩], obj 2 ⟨#[119]⟩ [⟨#[99]⟩, ⟨#[98]⟩], obj 2 ⟨#[120]⟩ [⟨#[99]⟩, ⟨#[100]⟩]]
theorem exL_ok : ∀ o ∈ exL, okO o := by
  intro o ho
  simp only [exL, nd, obj, List.mem_cons, List.not_mem_nil, or_false] at ho
  rcases ho with rfl | rfl | rfl | rfl | rfl | rfl | rfl | rfl | rfl | rfl | rfl <;> exact ⟨by decide, by decide, by decide, by decide, fun t ht => nomatch ht⟩
theorem exL_map : mapB exL = true := by decide +kernel
theorem exL_check : (if mapB exL then checkL exL else []) = [(5, ⟨#[114, 50]⟩), (6, ⟨#[116, 50]⟩)] := by decide +kernel
theorem exL_arcs : (if mapB exL then arcsL exL else []) = [⟨⟨#[97]⟩, ⟨#[98]⟩, ⟨#[118]⟩, 5⟩, ⟨⟨#[98]⟩, ⟨#[97]⟩, ⟨#[118]⟩, 5⟩, ⟨⟨#[99]⟩, ⟨#[98]⟩, ⟨#[119]⟩, 7⟩, ⟨⟨#[98]⟩, ⟨#[99]⟩, ⟨#[119]⟩, 7⟩, ⟨⟨#[99]⟩, ⟨#[100]⟩, ⟨#[120]⟩, 9⟩, ⟨⟨#[100]⟩, ⟨#[99]⟩, ⟨#[120]⟩, 9⟩] := by decide +kernel
theorem exL_used : usedL exL exL = [⟨#[97]⟩, ⟨#[98]⟩, ⟨#[99]⟩, ⟨#[100]⟩] := by decide +kernel
theorem exL_parts (R : BA → BA) (h : ∀ x y, R x = R y ↔ Con (ER exL) x y) : (partsG R (usedL exL exL)).map (·.2) = [[⟨#[97]⟩, ⟨#[98]⟩, ⟨#[99]⟩, ⟨#[100]⟩]] := by
  have e1 : ER exL ⟨#[98]⟩ ⟨#[97]⟩ := ⟨obj 2 ⟨#[118]⟩ [⟨#[97]⟩, ⟨#[98]⟩], List.mem_filter.2 ⟨by simp [exL], by decide +kernel⟩, by simp [obj], rfl⟩
  have e2 : ER exL ⟨#[98]⟩ ⟨#[99]⟩ := ⟨obj 2 ⟨#[119]⟩ [⟨#[99]⟩, ⟨#[98]⟩], List.mem_filter.2 ⟨by simp [exL], by decide +kernel⟩, by simp [obj], rfl⟩
  have e3 : ER exL ⟨#[100]⟩ ⟨#[99]⟩ := ⟨obj 2 ⟨#[120]⟩ [⟨#[99]⟩, ⟨#[100]⟩], List.mem_filter.2 ⟨by simp [exL], by decide +kernel⟩, by simp [obj], rfl⟩
  have r1 := (h _ _).2 (.base e1)
  have r2 := (h _ _).2 (.base e2)
  have r3 := (h _ _).2 (.base e3)
  rw [exL_used]
  unfold partsG
  simp only [List.foldl_cons, List.foldl_nil]
  rw [r3, ← r2, r1]
  simp [addG]
theorem exL_no1 : (mapB exL && (hasS ⟨#[98]⟩ ((wayAt exL ⟨#[118]⟩).getD []) && hasS ⟨#[98]⟩ ((wayAt exL ⟨#[119]⟩).getD []) && !exL.any (fun o => decide (o.kind = 5) && decide (o.refs = [⟨#[118]⟩, ⟨#[98]⟩, ⟨#[119]⟩])))) = false := by decide +kernel
theorem exL_yes : (mapB exL && (hasS ⟨#[98]⟩ ((wayAt exL ⟨#[119]⟩).getD []) && hasS ⟨#[98]⟩ ((wayAt exL ⟨#[118]⟩).getD []) && !exL.any (fun o => decide (o.kind = 5) && decide (o.refs = [⟨#[119]⟩, ⟨#[98]⟩, ⟨#[118]⟩])))) = true := by decide +kernel
theorem exL_no2 : (mapB exL && (hasS ⟨#[97]⟩ ((wayAt exL ⟨#[118]⟩).getD []) && hasS ⟨#[97]⟩ ((wayAt exL ⟨#[119]⟩).getD []) && !exL.any (fun o => decide (o.kind = 5) && decide (o.refs = [⟨#[118]⟩, ⟨#[97]⟩, ⟨#[119]⟩])))) = false := by decide +kernel
end Go.Proofs.PlNet

/-! Where an object stands. No program in sight. -/
namespace Go.Proofs.PlNet
open Go Go.Proofs.PlLex

def findN (s : BA) : List Ob → Option Nat
  | [] => none
  | o :: l => if o.id = s then some 0 else (findN s l).map (· + 1)
def findI (l : List Ob) (s : BA) : Int := match findN s l with | some i => (i : Int) | none => -1
theorem findN_some (s : BA) (l : List Ob) : ∀ i, findN s l = some i → ∃ o, l[i]? = some o ∧ o.id = s ∧ i < l.length ∧ findO l s = some o := by
  induction l with
  | nil => intro i h; cases h
  | cons x l ih =>
    intro i h
    unfold findN at h
    by_cases e : x.id = s
    · rw [if_pos e] at h
      cases h
      exact ⟨x, rfl, e, by simp, by simp [findO, e]⟩
    · rw [if_neg e] at h
      obtain ⟨j, hj, rfl⟩ := Option.map_eq_some_iff.1 h
      obtain ⟨o, h1, h2, h3, h4⟩ := ih j hj
      refine ⟨o, by simpa using h1, h2, by simp; omega, ?_⟩
      unfold findO at h4 ⊢
      rw [List.find?_cons, decide_eq_false e]
      exact h4
theorem findN_none (s : BA) (l : List Ob) (h : findN s l = none) : ∀ o ∈ l, o.id ≠ s := by
  induction l with
  | nil => intro o ho; cases ho
  | cons x l ih =>
    unfold findN at h
    by_cases e : x.id = s
    · rw [if_pos e] at h; cases h
    · rw [if_neg e] at h
      intro o ho
      rcases List.mem_cons.1 ho with rfl | ho
      · exact e
      · exact ih (by simpa using h) o ho
theorem findN_of {l : List Ob} (hu : uniq l) {o : Ob} (ho : o ∈ l) : ∃ i, findN o.id l = some i ∧ l[i]? = some o := by
  cases h : findN o.id l with
  | none => exact (findN_none _ l h o ho rfl).elim
  | some i =>
    obtain ⟨o', h1, h2, _, _⟩ := findN_some _ l i h
    refine ⟨i, rfl, ?_⟩
    rw [h1, hu.eq (List.mem_of_getElem? h1) ho h2]
/-- Walking on: the rest behind k objects that are not the one. -/
theorem findN_rest (s : BA) (l : List Ob) : ∀ k, k ≤ l.length → (∀ (i : Nat) o, i < k → l[i]? = some o → o.id ≠ s) → findN s l = (findN s (l.drop k)).map (· + k) := by
  intro k
  induction k with
  | zero => intro _ _; rw [List.drop_zero]; cases findN s l <;> rfl
  | succ k ih =>
    intro hk h
    have h0 := ih (by omega) (fun i o hi ho => h i o (by omega) ho)
    rw [List.drop_eq_getElem_cons (show k < l.length by omega)] at h0
    have hne : ¬ l[k].id = s := h k _ (by omega) (List.getElem?_eq_getElem (by omega))
    rw [h0, findN, if_neg hne]
    cases findN s (l.drop (k + 1)) with
    | none => rfl
    | some j => simp; omega
end Go.Proofs.PlNet

/-! The arcs of a network: what holds of each. No program in sight. -/
namespace Go.Proofs.PlNet
open Go Go.Proofs.PlLex Go.Proofs.PlGeom

theorem mem_onceA (l : List Ar) : ∀ (acc : List Ar) (x : Ar), x ∈ onceA acc l ↔ x ∈ acc ∨ x ∈ l := by
  induction l with
  | nil => intro acc x; simp [onceA]
  | cons a l ih =>
    intro acc x
    unfold onceA
    split
    · rename_i h
      rw [ih, List.mem_cons]
      constructor
      · rintro (h1 | h1)
        · exact .inl h1
        · exact .inr (.inr h1)
      · rintro (h1 | rfl | h1)
        · exact .inl h1
        · exact .inl h
        · exact .inr h1
    · rw [ih, List.mem_append, List.mem_cons]
      simp only [List.mem_cons, List.not_mem_nil, or_false]
      constructor
      · rintro ((h1 | h1) | h1)
        · exact .inl h1
        · exact .inr (.inl h1)
        · exact .inr (.inr h1)
      · rintro (h1 | h1 | h1)
        · exact .inl (.inl h1)
        · exact .inl (.inr h1)
        · exact .inr h1
theorem onceA_nodup (l : List Ar) : ∀ acc : List Ar, acc.Nodup → (onceA acc l).Nodup := by
  induction l with
  | nil => intro acc h; exact h
  | cons a l ih =>
    intro acc h
    unfold onceA
    split
    · exact ih _ h
    · rename_i h2
      refine ih _ ?_
      rw [List.nodup_append]
      refine ⟨h, by simp, ?_⟩
      intro x hx y hy e
      simp at hy
      subst hy
      subst e
      exact h2 hx
/-- Two that follow each other. -/
def nextTo (r : List BA) (a b : BA) : Prop := ∃ k, r[k]? = some a ∧ r[k + 1]? = some b
theorem mem_arcsP (l : List Ob) (id : BA) (r : List BA) (x : Ar) : x ∈ arcsP l id r ↔ x.w = id ∧ ((nextTo r x.f x.t ∧ x.n = lenA l x.f x.t) ∨ (nextTo r x.t x.f ∧ x.n = lenA l x.t x.f)) := by
  have none1 : ∀ a b, ¬ nextTo [] a b := by rintro a b ⟨k, h, _⟩; simp at h
  have none2 : ∀ y a b, ¬ nextTo [y] a b := by rintro y a b ⟨k, _, h⟩; simp at h
  induction r with
  | nil => simp [arcsP, none1]
  | cons y r ih =>
    cases r with
    | nil => simp [arcsP, none2]
    | cons z r =>
      have step : ∀ a b, nextTo (y :: z :: r) a b ↔ (a = y ∧ b = z) ∨ nextTo (z :: r) a b := by
        intro a b
        constructor
        · rintro ⟨k, h1, h2⟩
          cases k with
          | zero => simp at h1 h2; exact .inl ⟨h1.symm, h2.symm⟩
          | succ k => exact .inr ⟨k, by simpa using h1, by simpa using h2⟩
        · rintro (⟨rfl, rfl⟩ | ⟨k, h1, h2⟩)
          · exact ⟨0, rfl, rfl⟩
          · exact ⟨k + 1, by simpa using h1, by simpa using h2⟩
      simp only [arcsP, List.mem_cons]
      rw [show (x ∈ arcsP l id (z :: r)) ↔ _ from ih, step, step]
      constructor
      · rintro (rfl | rfl | ⟨h, h2⟩)
        · exact ⟨rfl, .inl ⟨.inl ⟨rfl, rfl⟩, rfl⟩⟩
        · exact ⟨rfl, .inr ⟨.inl ⟨rfl, rfl⟩, rfl⟩⟩
        · exact ⟨h, h2.imp (fun h => ⟨.inr h.1, h.2⟩) (fun h => ⟨.inr h.1, h.2⟩)⟩
      · rintro ⟨h, ⟨⟨h1, h2⟩ | h1, h3⟩ | ⟨⟨h1, h2⟩ | h1, h3⟩⟩
        · exact .inl (Ar.ext' h1 h2 h (by rw [h3, h1, h2]))
        · exact .inr (.inr ⟨h, .inl ⟨h1, h3⟩⟩)
        · exact .inr (.inl (Ar.ext' h2 h1 h (by rw [h3, h1, h2])))
        · exact .inr (.inr ⟨h, .inr ⟨h1, h3⟩⟩)
theorem obB_grid {o : Ob} (h : obB o = true) (hk : o.kind = 1) : 0 ≤ o.x ∧ o.x < 1048576 ∧ 0 ≤ o.y ∧ o.y < 1048576 := by
  unfold obB at h
  rw [Bool.and_eq_true] at h
  have h2 := h.2
  unfold tailB at h2
  rw [if_pos hk, Bool.and_eq_true] at h2
  simpa [gridB] using h2.2
/-- A node of a map. -/
structure NodeIn (l : List Ob) (s : BA) (p : Ob) : Prop where
  mem : p ∈ l
  id : p.id = s
  kind : p.kind = 1
  at' : ptAt l s = ⟨p.x, p.y⟩
theorem node_in {l : List Ob} {s : BA} (h : isNode l s = true) : ∃ p, NodeIn l s p := by
  unfold isNode at h
  obtain ⟨p, hp⟩ := Option.isSome_iff_exists.1 h
  obtain ⟨h1, h2⟩ := findO_some hp
  unfold nodesO at h1
  rw [List.mem_filter, decide_eq_true_eq] at h1
  exact ⟨p, h1.1, h2, h1.2, by unfold ptAt nodeAt; rw [hp]; rfl⟩
theorem near_grid {p q : Ob} (hp : 0 ≤ p.x ∧ p.x < 1048576 ∧ 0 ≤ p.y ∧ p.y < 1048576) (hq : 0 ≤ q.x ∧ q.x < 1048576 ∧ 0 ≤ q.y ∧ q.y < 1048576) : nearL [⟨p.x, p.y⟩, ⟨q.x, q.y⟩] = true := by
  simp only [nearL, Bool.and_true, Bool.and_eq_true, nearB_iff]
  omega
/-- The squared distance of two nodes. -/
def sqD (p q : Ob) : Int := (p.x - q.x) * (p.x - q.x) + (p.y - q.y) * (p.y - q.y)
theorem sqD_comm (p q : Ob) : sqD p q = sqD q p := by unfold sqD; grind
theorem lenA_of {l : List Ob} {a b : BA} {p q : Ob} (h1 : NodeIn l a p) (h2 : NodeIn l b q) (g1 : 0 ≤ p.x ∧ p.x < 1048576 ∧ 0 ≤ p.y ∧ p.y < 1048576) (g2 : 0 ≤ q.x ∧ q.x < 1048576 ∧ 0 ≤ q.y ∧ q.y < 1048576) : lenA l a b = max 1 (isq (sqD p q).toNat : Int) := by
  unfold lenA dist
  rw [h1.at', h2.at', near_grid g1 g2, if_pos rfl]
  rw [show ((q.x - p.x) * (q.x - p.x) + (q.y - p.y) * (q.y - p.y) : Int) = sqD p q from by unfold sqD; grind]
theorem sqD_bd {p q : Ob} (g1 : 0 ≤ p.x ∧ p.x < 1048576 ∧ 0 ≤ p.y ∧ p.y < 1048576) (g2 : 0 ≤ q.x ∧ q.x < 1048576 ∧ 0 ≤ q.y ∧ q.y < 1048576) : 0 ≤ sqD p q ∧ sqD p q ≤ 2 * 1099511627776 := by
  have sq : ∀ a : Int, 0 ≤ a * a := fun a => by
    rcases Int.le_total 0 a with h | h
    · exact Int.mul_nonneg h h
    · have := Int.mul_nonneg (show (0 : Int) ≤ -a by omega) (show (0 : Int) ≤ -a by omega); grind
  have e1 := sq (p.x - q.x)
  have e2 := sq (p.y - q.y)
  have e3 := prod_bd 1048576 (p.x - q.x) (p.x - q.x) (by omega) (by omega) (by omega) (by omega)
  have e4 := prod_bd 1048576 (p.y - q.y) (p.y - q.y) (by omega) (by omega) (by omega) (by omega)
  unfold sqD
  omega
/-- The length is the root, rounded down, or 1. -/
structure RootOf (n D : Int) : Prop where
  one : 1 ≤ n
  le : n ≤ 2097152
  sq : 0 < D → n * n ≤ D
  lt : D < (n + 1) * (n + 1)
  zero : D = 0 → n = 1
theorem root_of (D : Int) (h0 : 0 ≤ D) (h1 : D ≤ 2 * 1099511627776) : RootOf (max 1 (isq D.toNat : Int)) D := by
  obtain ⟨e, he⟩ : ∃ e : Nat, D.toNat = e := ⟨_, rfl⟩
  have hD : D = (e : Int) := by omega
  rw [he]
  obtain ⟨s1, s2⟩ := isq_spec e (by omega)
  generalize isq e = s at *
  have hs : s ≤ 2097151 := by
    rcases Nat.lt_or_ge 2097151 s with h | h
    · have := Nat.mul_le_mul (show 2097152 ≤ s from h) (show 2097152 ≤ s from h)
      omega
    · exact h
  have c1 : ((s * s : Nat) : Int) = (s : Int) * s := by push_cast; rfl
  have c2 : (((s + 1) * (s + 1) : Nat) : Int) = ((s : Int) + 1) * ((s : Int) + 1) := by push_cast; rfl
  rcases Nat.eq_zero_or_pos s with rfl | hp
  · rw [show max (1 : Int) ((0 : Nat) : Int) = 1 from rfl]
    have he0 : e = 0 := by omega
    subst he0
    exact ⟨by omega, by omega, fun h => by omega, by omega, fun _ => rfl⟩
  · have hm : max (1 : Int) (s : Int) = s := by omega
    rw [hm, hD]
    refine ⟨by omega, by omega, fun _ => by rw [← c1]; omega, by rw [← c2]; omega, fun h => ?_⟩
    have := Nat.mul_le_mul hp hp
    omega
structure ArcIs (l : List Ob) (x : Ar) (o p q : Ob) : Prop where
  mem : o ∈ l
  id : o.id = x.w
  kind : o.kind = 2
  from' : NodeIn l x.f p
  to' : NodeIn l x.t q
  next : nextTo o.refs x.f x.t ∨ nextTo o.refs x.t x.f
  root : RootOf x.n (sqD p q)
theorem mem_arcsL {l : List Ob} {x : Ar} : x ∈ arcsL l ↔ ∃ o ∈ l, o.kind = 2 ∧ x ∈ arcsP l o.id ((wayAt l o.id).getD []) := by
  unfold arcsL allArcs
  rw [mem_onceA]
  simp only [List.not_mem_nil, false_or, List.mem_flatMap]
  constructor
  · rintro ⟨o, ho, h⟩
    unfold arcsO at h
    split at h
    · rename_i hk; exact ⟨o, ho, hk, h⟩
    · cases h
  · rintro ⟨o, ho, hk, h⟩
    exact ⟨o, ho, by unfold arcsO; rw [if_pos hk]; exact h⟩
theorem nextTo_mem {r : List BA} {a b : BA} (h : nextTo r a b) : a ∈ r ∧ b ∈ r := by
  obtain ⟨k, h1, h2⟩ := h
  exact ⟨List.mem_of_getElem? h1, List.mem_of_getElem? h2⟩
theorem arc_is {l : List Ob} (hm : mapB l = true) {x : Ar} (hx : x ∈ arcsL l) : ∃ o p q, ArcIs l x o p q := by
  obtain ⟨o, ho, hk, h⟩ := mem_arcsL.1 hx
  obtain ⟨hw, h0⟩ := (mem_arcsP l _ _ x).1 h
  clear h
  have h := h0
  clear h0
  cases e : wayAt l o.id with
  | none =>
    rw [e] at h
    rcases h with ⟨⟨k, h, _⟩, _⟩ | ⟨⟨k, h, _⟩, _⟩ <;> simp at h
  | some r =>
    rw [e] at h
    simp only [Option.getD_some] at h
    obtain ⟨o', h1, h2, _, h4, h5⟩ := wayAt_some e
    obtain rfl : o' = o := (mapB_uniq hm).eq h1 ho h2
    have hb := mapB_obs hm
    have gr : ∀ p : Ob, p ∈ l → p.kind = 1 → 0 ≤ p.x ∧ p.x < 1048576 ∧ 0 ≤ p.y ∧ p.y < 1048576 := fun p hp hk => obB_grid (hb p hp) hk
    have hft : isNode l x.f = true ∧ isNode l x.t = true := by
      rcases h with ⟨h, _⟩ | ⟨h, _⟩
      · exact ⟨h5 _ (nextTo_mem h).1, h5 _ (nextTo_mem h).2⟩
      · exact ⟨h5 _ (nextTo_mem h).2, h5 _ (nextTo_mem h).1⟩
    obtain ⟨p, hp⟩ := node_in hft.1
    obtain ⟨q, hq⟩ := node_in hft.2
    have g1 := gr p hp.mem hp.kind
    have g2 := gr q hq.mem hq.kind
    have hr : RootOf x.n (sqD p q) := by
      have := sqD_bd g1 g2
      rcases h with ⟨_, h⟩ | ⟨_, h⟩
      · rw [h, lenA_of hp hq g1 g2]
        exact root_of _ this.1 this.2
      · rw [h, lenA_of hq hp g2 g1, sqD_comm q p]
        exact root_of _ this.1 this.2
    exact ⟨o', p, q, h1, by rw [hw], hk, hp, hq, by rw [h4]; exact h.imp And.left And.left, hr⟩
theorem arc_back {l : List Ob} {x : Ar} (hx : x ∈ arcsL l) : (⟨x.t, x.f, x.w, x.n⟩ : Ar) ∈ arcsL l := by
  obtain ⟨o, ho, hk, h⟩ := mem_arcsL.1 hx
  refine mem_arcsL.2 ⟨o, ho, hk, ?_⟩
  obtain ⟨hw, h⟩ := (mem_arcsP l _ _ x).1 h
  exact (mem_arcsP l _ _ _).2 ⟨hw, h.symm⟩
theorem lenA_comm {l : List Ob} (hm : mapB l = true) {a b : BA} (ha : isNode l a = true) (hb : isNode l b = true) : lenA l a b = lenA l b a := by
  obtain ⟨p, hp⟩ := node_in ha
  obtain ⟨q, hq⟩ := node_in hb
  have g1 := obB_grid (mapB_obs hm p hp.mem) hp.kind
  have g2 := obB_grid (mapB_obs hm q hq.mem) hq.kind
  rw [lenA_of hp hq g1 g2, lenA_of hq hp g2 g1, sqD_comm]
theorem arc_once {l : List Ob} (hm : mapB l = true) {x y : Ar} (hx : x ∈ arcsL l) (hy : y ∈ arcsL l) (hf : y.f = x.f) (ht : y.t = x.t) (hw : y.w = x.w) : y = x := by
  refine Ar.ext' hf ht hw ?_
  have key : ∀ z ∈ arcsL l, isNode l z.f = true ∧ isNode l z.t = true ∧ z.n = lenA l z.f z.t := by
    intro z hz
    obtain ⟨o, ho, hk, h⟩ := mem_arcsL.1 hz
    obtain ⟨_, h⟩ := (mem_arcsP l _ _ z).1 h
    cases e : wayAt l o.id with
    | none =>
      rw [e] at h
      rcases h with ⟨⟨k, h, _⟩, _⟩ | ⟨⟨k, h, _⟩, _⟩ <;> simp at h
    | some r =>
      rw [e] at h
      simp only [Option.getD_some] at h
      obtain ⟨_, _, _, _, _, h5⟩ := wayAt_some e
      rcases h with ⟨h, h2⟩ | ⟨h, h2⟩
      · exact ⟨h5 _ (nextTo_mem h).1, h5 _ (nextTo_mem h).2, h2⟩
      · have n1 := h5 _ (nextTo_mem h).2
        have n2 := h5 _ (nextTo_mem h).1
        exact ⟨n1, n2, by rw [h2, lenA_comm hm n2 n1]⟩
  rw [(key x hx).2.2, (key y hy).2.2, hf, ht]
theorem arcsL_nodup (l : List Ob) : (arcsL l).Nodup := onceA_nodup _ _ (by simp)
end Go.Proofs.PlNet
