/-
  Joined sets and the parts of a network as plain data (layer 16). No program in sight.
-/
import Derived.Test.YtpiocaomlifljaaPlain5
import Derived.Test.YtpiocaomlifljaaPlain2
namespace Go.Proofs.PlNet
open Go Go.Proofs.PlLex

abbrev BA := ByteArray
/-- The least equivalence with given pairs. -/
inductive Con (E : BA → BA → Prop) : BA → BA → Prop
  | refl (x : BA) : Con E x x
  | symm {x y : BA} : Con E x y → Con E y x
  | trans {x y z : BA} : Con E x y → Con E y z → Con E x z
  | base {x y : BA} : E x y → Con E x y
theorem Con.mono {E E' : BA → BA → Prop} (h : ∀ x y, E x y → Con E' x y) {x y : BA} (hc : Con E x y) : Con E' x y := by
  induction hc with
  | refl x => exact .refl x
  | symm _ ih => exact .symm ih
  | trans _ _ ih1 ih2 => exact .trans ih1 ih2
  | base h' => exact h _ _ h'
/-- What stands for what: each element's representative, and how far it is. -/
structure UF (up : BA → Option BA) (R : BA → BA) (d : BA → Nat) : Prop where
  none : ∀ x, up x = none → R x = x ∧ d x = 0
  self : ∀ x, up x = some x → R x = x ∧ d x = 0
  step : ∀ x y, up x = some y → y ≠ x → R x = R y ∧ d x = d y + 1
  closed : ∀ x y, up x = some y → (up y).isSome = true
theorem UF.root {up : BA → Option BA} {R : BA → BA} {d : BA → Nat} (h : UF up R d) : ∀ n x, d x ≤ n → R (R x) = R x ∧ d (R x) = 0 ∧ (up (R x) = Option.none ∨ up (R x) = some (R x)) ∧ ((up x).isSome = true → (up (R x)).isSome = true) := by
  intro n
  induction n with
  | zero =>
    intro x hx
    cases e : up x with
    | none =>
      obtain ⟨h1, h2⟩ := h.none x e
      rw [h1]
      exact ⟨h1, h2, .inl e, fun h => by simp at h⟩
    | some y =>
      by_cases hy : y = x
      · subst hy
        obtain ⟨h1, h2⟩ := h.self y e
        rw [h1]
        exact ⟨h1, h2, .inr e, fun _ => by rw [e]; rfl⟩
      · have := (h.step x y e hy).2
        omega
  | succ n ih =>
    intro x hx
    cases e : up x with
    | none =>
      obtain ⟨h1, h2⟩ := h.none x e
      rw [h1]
      exact ⟨h1, h2, .inl e, fun h => by simp at h⟩
    | some y =>
      by_cases hy : y = x
      · subst hy
        obtain ⟨h1, h2⟩ := h.self y e
        rw [h1]
        exact ⟨h1, h2, .inr e, fun _ => by rw [e]; rfl⟩
      · obtain ⟨h1, h2⟩ := h.step x y e hy
        obtain ⟨i1, i2, i3, i4⟩ := ih y (by omega)
        rw [h1]
        exact ⟨i1, i2, i3, fun _ => i4 (h.closed x y e)⟩
def joinR (R : BA → BA) (a b x : BA) : BA := if R x = R a then R b else R x
def joinD (R : BA → BA) (d : BA → Nat) (a b x : BA) : Nat := if R a = R b then d x else if R x = R a then d x + 1 else d x
def joinU (up : BA → Option BA) (A B x : BA) : Option BA := if x = A then some B else up x
theorem UF.join {up : BA → Option BA} {R : BA → BA} {d : BA → Nat} (h : UF up R d) (a b : BA) (hb : b = a ∨ (up b).isSome = true) : UF (joinU up (R a) (R b)) (joinR R a b) (joinD R d a b) := by
  obtain ⟨a1, a2, a3, a4⟩ := h.root _ a (Nat.le_refl _)
  obtain ⟨b1, b2, b3, b4⟩ := h.root _ b (Nat.le_refl _)
  refine ⟨fun x hx => ?_, fun x hx => ?_, fun x y hx hy => ?_, fun x y hx => ?_⟩
  · unfold joinU at hx
    by_cases e : x = R a
    · rw [if_pos e] at hx; cases hx
    · rw [if_neg e] at hx
      obtain ⟨h1, h2⟩ := h.none x hx
      unfold joinR joinD
      rw [h1, if_neg e, h2]
      simp [e]
  · unfold joinU at hx
    by_cases e : x = R a
    · subst e
      rw [if_pos rfl] at hx
      have hx : R b = R a := by simpa using hx
      unfold joinR joinD
      rw [a1, if_pos rfl, hx, if_pos rfl]
      exact ⟨rfl, a2⟩
    · rw [if_neg e] at hx
      obtain ⟨h1, h2⟩ := h.self x hx
      unfold joinR joinD
      rw [h1, if_neg e, h2]
      simp [e]
  · unfold joinU at hx
    by_cases e : x = R a
    · subst e
      rw [if_pos rfl] at hx
      have hx : R b = y := by simpa using hx
      subst hx
      unfold joinR joinD
      have hne : ¬ R a = R b := fun e2 => hy e2.symm
      rw [a1, if_pos rfl, b1, if_neg hy, if_neg hne, if_neg hne, if_neg hy, if_pos rfl, a2, b2]
      exact ⟨rfl, rfl⟩
    · rw [if_neg e] at hx
      obtain ⟨h1, h2⟩ := h.step x y hx hy
      unfold joinR joinD
      rw [h1]
      refine ⟨rfl, ?_⟩
      by_cases e2 : R a = R b
      · rw [if_pos e2, if_pos e2]; exact h2
      · rw [if_neg e2, if_neg e2]
        split
        · omega
        · exact h2
  · unfold joinU at hx ⊢
    by_cases e : x = R a
    · rw [if_pos e] at hx
      have hx : R b = y := by simpa using hx
      subst hx
      by_cases e2 : R b = R a
      · rw [if_pos e2]; rfl
      · rw [if_neg e2]
        rcases hb with hb | hb
        · rw [hb] at e2; exact (e2 rfl).elim
        · exact b4 hb
    · rw [if_neg e] at hx
      have := h.closed x y hx
      by_cases e2 : y = R a
      · rw [if_pos e2]; rfl
      · rw [if_neg e2]; exact this
theorem joinU_some {up : BA → Option BA} {R : BA → BA} {d : BA → Nat} (h : UF up R d) (a b x : BA) : (joinU up (R a) (R b) x).isSome = true ↔ (up x).isSome = true ∨ x = a := by
  obtain ⟨a1, a2, a3, a4⟩ := h.root _ a (Nat.le_refl _)
  unfold joinU
  by_cases e : x = R a
  · rw [if_pos e]
    constructor
    · intro _
      cases ea : up a with
      | none => right; rw [e]; exact (h.none a ea).1
      | some y => left; rw [e]; exact a4 (by rw [ea]; rfl)
    · intro _; rfl
  · rw [if_neg e]
    constructor
    · exact .inl
    · rintro (h2 | h2)
      · exact h2
      · subst h2
        cases ea : up x with
        | none => exact (e (h.none x ea).1.symm).elim
        | some y => rfl
/-- Who is joined is one. -/
theorem joinR_con {E : BA → BA → Prop} {R : BA → BA} (hR : ∀ x y, R x = R y ↔ Con E x y) (a b : BA) : ∀ x y, joinR R a b x = joinR R a b y ↔ Con (fun x y => E x y ∨ x = a ∧ y = b) x y := by
  intro x y
  have up : ∀ {x y}, Con E x y → Con (fun x y => E x y ∨ x = a ∧ y = b) x y := fun h => h.mono (fun x y h => .base (.inl h))
  have hab : Con (fun x y => E x y ∨ x = a ∧ y = b) a b := .base (.inr ⟨rfl, rfl⟩)
  constructor
  · unfold joinR
    intro h
    by_cases e1 : R x = R a
    · have h1 := up ((hR x a).1 e1)
      rw [if_pos e1] at h
      by_cases e2 : R y = R a
      · exact .trans h1 (.symm (up ((hR y a).1 e2)))
      · rw [if_neg e2] at h
        exact .trans h1 (.trans hab (up ((hR b y).1 h)))
    · rw [if_neg e1] at h
      by_cases e2 : R y = R a
      · rw [if_pos e2] at h
        exact .trans (up ((hR x b).1 h)) (.trans (.symm hab) (.symm (up ((hR y a).1 e2))))
      · rw [if_neg e2] at h
        exact up ((hR x y).1 h)
  · intro h
    induction h with
    | refl x => rfl
    | symm _ ih => exact ih.symm
    | trans _ _ ih1 ih2 => exact ih1.trans ih2
    | base h =>
      rename_i x y
      rcases h with h | ⟨rfl, rfl⟩
      · have : R x = R y := (hR x y).2 (.base h)
        unfold joinR
        rw [this]
      · unfold joinR
        rw [if_pos rfl]
        split
        · rfl
        · rfl
end Go.Proofs.PlNet

/-! The parts of a network, in plain Lean. No program in sight. -/
namespace Go.Proofs.PlNet
open Go Go.Proofs.PlLex

def headR (r : List BA) : BA := r.headD ⟨#[]⟩
/-- A node of a way, and the way's first one. -/
def ER (l : List Ob) (x y : BA) : Prop := ∃ o ∈ waysO l, x ∈ o.refs ∧ y = headR o.refs
/-- The pairs that were joined so far, and the sets that came of them. -/
structure SetI (up : BA → Option BA) (R : BA → BA) (d : BA → Nat) (p : List (BA × BA)) : Prop where
  uf : UF up R d
  con : ∀ x y, R x = R y ↔ Con (fun x y => (x, y) ∈ p) x y
  dom : ∀ x, (up x).isSome = true ↔ ∃ y, (x, y) ∈ p
theorem con_none {x y : BA} (h : Con (fun x y => (x, y) ∈ ([] : List (BA × BA))) x y) : x = y := by
  induction h with
  | refl x => rfl
  | symm _ ih => exact ih.symm
  | trans _ _ ih1 ih2 => exact ih1.trans ih2
  | base h => cases h
theorem SetI.nil : SetI (fun _ => none) id (fun _ => 0) [] :=
  ⟨⟨fun x _ => ⟨rfl, rfl⟩, fun x h => (by cases h), fun x y h => (by cases h), fun x y h => (by cases h)⟩, fun x y => ⟨fun h => by have h : x = y := h; rw [h]; exact .refl _, con_none⟩, fun x => ⟨fun h => (by cases h), fun ⟨y, h⟩ => (by cases h)⟩⟩
theorem SetI.join {up : BA → Option BA} {R : BA → BA} {d : BA → Nat} {p : List (BA × BA)} (h : SetI up R d p) (a b : BA) (hb : b = a ∨ ∃ y, (b, y) ∈ p) : SetI (joinU up (R a) (R b)) (joinR R a b) (joinD R d a b) (p ++ [(a, b)]) := by
  have e : ∀ x y, (x, y) ∈ p ++ [(a, b)] ↔ ((x, y) ∈ p ∨ x = a ∧ y = b) := fun x y => by simp
  refine ⟨h.uf.join a b (hb.imp id (fun h2 => (h.dom b).2 h2)), fun x y => ?_, fun x => ?_⟩
  · rw [joinR_con h.con a b x y]
    constructor
    · exact fun hc => hc.mono (fun x y hxy => .base ((e x y).2 hxy))
    · exact fun hc => hc.mono (fun x y hxy => .base ((e x y).1 hxy))
  · rw [joinU_some h.uf a b x, h.dom x]
    constructor
    · rintro (⟨y, hy⟩ | rfl)
      · exact ⟨y, (e x y).2 (.inl hy)⟩
      · exact ⟨b, (e x b).2 (.inr ⟨rfl, rfl⟩)⟩
    · rintro ⟨y, hy⟩
      rcases (e x y).1 hy with h1 | h1
      · exact .inl ⟨y, h1⟩
      · exact .inr h1.1
theorem con_iff {E E' : BA → BA → Prop} (h : ∀ x y, E x y ↔ E' x y) (x y : BA) : Con E x y ↔ Con E' x y :=
  ⟨fun hc => hc.mono (fun x y hxy => .base ((h x y).1 hxy)), fun hc => hc.mono (fun x y hxy => .base ((h x y).2 hxy))⟩
end Go.Proofs.PlNet

/-! Grouping the nodes of a network, in plain Lean. No program in sight. -/
namespace Go.Proofs.PlNet
open Go Go.Proofs.PlLex

def addG (t id : BA) : List (BA × List BA) → List (BA × List BA)
  | [] => [(t, [id])]
  | p :: r => if p.1 = t then (t, p.2 ++ [id]) :: r else p :: addG t id r
def partsG (R : BA → BA) (ids : List BA) : List (BA × List BA) := ids.foldl (fun acc id => addG (R id) id acc) []
def idxG (t : BA) : List (BA × List BA) → Option Nat
  | [] => none
  | p :: r => if p.1 = t then some 0 else (idxG t r).map (· + 1)
theorem addG_none (t id : BA) (acc : List (BA × List BA)) (h : idxG t acc = none) : addG t id acc = acc ++ [(t, [id])] := by
  induction acc with
  | nil => rfl
  | cons p r ih =>
    unfold idxG at h
    by_cases e : p.1 = t
    · rw [if_pos e] at h; cases h
    · rw [if_neg e] at h
      unfold addG
      rw [if_neg e, ih (by simpa using h)]
      rfl
theorem addG_some (t id : BA) (acc : List (BA × List BA)) : ∀ i, idxG t acc = some i → ∃ g, acc[i]? = some (t, g) ∧ addG t id acc = acc.set i (t, g ++ [id]) := by
  induction acc with
  | nil => intro i h; cases h
  | cons p r ih =>
    intro i h
    unfold idxG at h
    by_cases e : p.1 = t
    · rw [if_pos e] at h
      cases h
      refine ⟨p.2, by simp [← e], ?_⟩
      unfold addG
      rw [if_pos e]
      rfl
    · rw [if_neg e] at h
      obtain ⟨j, hj, rfl⟩ := Option.map_eq_some_iff.1 h
      obtain ⟨g, h1, h2⟩ := ih j hj
      refine ⟨g, by simpa using h1, ?_⟩
      unfold addG
      rw [if_neg e, h2]
      rfl
theorem idxG_snoc (t t' : BA) (g : List BA) (acc : List (BA × List BA)) (h : idxG t acc = none) : idxG t' (acc ++ [(t, g)]) = if t' = t then some acc.length else idxG t' acc := by
  induction acc with
  | nil =>
    simp only [List.nil_append, idxG, List.length_nil]
    by_cases e : t' = t
    · simp [e]
    · have this : ¬ t = t' := fun e2 => e e2.symm
      simp [e, this]
  | cons p r ih =>
    unfold idxG at h
    by_cases e : p.1 = t
    · rw [if_pos e] at h; cases h
    · rw [if_neg e] at h
      have ih := ih (by simpa using h)
      simp only [List.cons_append, idxG, ih, List.length_cons]
      by_cases e1 : p.1 = t'
      · have : ¬ t' = t := fun e2 => e (by rw [e1, e2])
        simp [e1, this]
      · by_cases e2 : t' = t
        · simp [e2]
          exact fun e3 => (e1 (by rw [e2]; exact e3)).elim
        · simp [e1, e2]
theorem idxG_set (t t' : BA) (g : List BA) (acc : List (BA × List BA)) : ∀ i, (acc[i]?).map (·.1) = some t → idxG t' (acc.set i (t, g)) = idxG t' acc := by
  induction acc with
  | nil => intro i h; simp at h
  | cons p r ih =>
    intro i h
    cases i with
    | zero =>
      simp at h
      simp only [List.set_cons_zero, idxG, h]
    | succ i =>
      simp only [List.set_cons_succ, idxG, ih i (by simpa using h)]
theorem idxG_lt (t : BA) (acc : List (BA × List BA)) : ∀ i, idxG t acc = some i → i < acc.length := by
  intro i h
  obtain ⟨g, h1, _⟩ := addG_some t t acc i h
  exact (List.getElem?_eq_some_iff.1 h1).1
theorem partsG_snoc (R : BA → BA) (ids : List BA) (id : BA) : partsG R (ids ++ [id]) = addG (R id) id (partsG R ids) := by
  unfold partsG
  rw [List.foldl_append]
  rfl
theorem addG_len (t id : BA) (acc : List (BA × List BA)) : (addG t id acc).length ≤ acc.length + 1 := by
  induction acc with
  | nil => simp [addG]
  | cons p r ih =>
    unfold addG
    split
    · simp
    · simp only [List.length_cons]; omega
theorem addG_fold_len (R : BA → BA) (ids : List BA) : ∀ acc : List (BA × List BA), (ids.foldl (fun acc id => addG (R id) id acc) acc).length ≤ acc.length + ids.length := by
  induction ids with
  | nil => intro acc; simp
  | cons a l ih =>
    intro acc
    have h1 := ih (addG (R a) a acc)
    have h2 := addG_len (R a) a acc
    simp only [List.foldl_cons, List.length_cons]
    omega
theorem partsG_len (R : BA → BA) (ids : List BA) : (partsG R ids).length ≤ ids.length := by
  have h := addG_fold_len R ids []
  simp only [List.length_nil] at h
  unfold partsG
  omega
theorem addG_sum (t id : BA) (acc : List (BA × List BA)) (n : Nat) (h : ∀ p ∈ acc, p.2.length ≤ n) : ∀ p ∈ addG t id acc, p.2.length ≤ n + 1 := by
  induction acc with
  | nil => intro p hp; simp [addG] at hp; rw [hp]; simp
  | cons q r ih =>
    intro p hp
    unfold addG at hp
    split at hp
    · rcases List.mem_cons.1 hp with e | e
      · rw [e]; have := h q (List.mem_cons_self ..); simp; omega
      · have := h p (List.mem_cons_of_mem _ e); omega
    · rcases List.mem_cons.1 hp with e | e
      · rw [e]; have := h q (List.mem_cons_self ..); omega
      · exact ih (fun p hp => h p (List.mem_cons_of_mem _ hp)) p e
theorem addG_fold_each (R : BA → BA) (ids : List BA) : ∀ (acc : List (BA × List BA)) (n : Nat), (∀ p ∈ acc, p.2.length ≤ n) → ∀ p ∈ ids.foldl (fun acc id => addG (R id) id acc) acc, p.2.length ≤ n + ids.length := by
  induction ids with
  | nil => intro acc n h p hp; exact h p hp
  | cons a l ih =>
    intro acc n h p hp
    have h2 := ih (addG (R a) a acc) (n + 1) (addG_sum _ _ _ _ h) p hp
    simp only [List.length_cons]
    omega
theorem partsG_each (R : BA → BA) (ids : List BA) : ∀ p ∈ partsG R ids, p.2.length ≤ ids.length := by
  intro p hp
  have h := addG_fold_each R ids [] 0 (fun p hp => by cases hp) p hp
  omega
/-- Does a way go through it? -/
def inWays (l : List Ob) (x : BA) : Bool := (waysO l).any (fun o => o.refs.any (fun r => decide (r = x)))
theorem inWays_iff (l : List Ob) (x : BA) : inWays l x = true ↔ ∃ y, ER l x y := by
  unfold inWays ER
  rw [List.any_eq_true]
  constructor
  · rintro ⟨o, ho, h⟩
    rw [List.any_eq_true] at h
    obtain ⟨r, hr, e⟩ := h
    rw [decide_eq_true_eq] at e
    exact ⟨_, o, ho, by rw [← e]; exact hr, rfl⟩
  · rintro ⟨y, o, ho, hx, _⟩
    exact ⟨o, ho, List.any_eq_true.2 ⟨x, hx, by simp⟩⟩
def usedL (L l : List Ob) : List BA := (l.filter (fun o => decide (o.kind = 1) && inWays L o.id)).map (·.id)
theorem usedL_snoc (L l : List Ob) (k : Nat) (h : k < l.length) : usedL L (l.take (k + 1)) = usedL L (l.take k) ++ (if (decide (l[k].kind = 1) && inWays L l[k].id) = true then [l[k].id] else []) := by
  unfold usedL
  rw [List.take_succ_eq_append_getElem h, List.filter_append, List.map_append]
  congr 1
  simp only [List.filter_cons, List.filter_nil]
  split <;> rfl
theorem usedL_len (L l : List Ob) : (usedL L l).length ≤ l.length := by
  unfold usedL
  rw [List.length_map]
  exact List.length_filter_le _ _
end Go.Proofs.PlNet

/-! Ranging over maps in memory that are lists of pairs. -/
namespace Go.Proofs.PlMap
open Go Go.Maps Go.ChangeMaps
open Go.WideElems (Fit rd rg pl rd_val rd_key rg_of)

section
variable {P : Program} {k : TypeId} {K : Type} [DecidableEq K]
/-- 'for k, v := range m' under way: what is still to come. -/
structure RangeL (B : KeyBy P k K) (w : World) (b r : Nat) (l : List (K × Value)) (left : K → Bool) (cnt : Nat) : Prop where
  own : ∃ D lf, w.ranges P k hv b r l.length D lf cnt ∧ Maps.size D = l.length ∧ (∀ x, B.ok x → Maps.has D (B.lit x) = (getL l x).isSome) ∧ (∀ x, B.ok x → ∀ v, getL l x = some v → ∀ z, D.atKey (B.lit x) z = .held v) ∧ (∀ q, Maps.has D q = true → ∃ p ∈ l, q = B.lit p.1) ∧ (∀ x, B.ok x → lf (B.lit x) = left x)
  okk : ∀ p ∈ l, B.ok p.1
theorem RangeL.map {B : KeyBy P k K} {w : World} {b r : Nat} {l : List (K × Value)} {left : K → Bool} {cnt : Nat} (h : RangeL B w b r l left cnt) : MapL B w b l := by
  obtain ⟨⟨D, lf, h1, h2, h3, h4, h5, _⟩, h6⟩ := h
  exact ⟨⟨D, h1.owns, h2, h3, h4, h5⟩, h6⟩
theorem RangeL.kept {B : KeyBy P k K} {w w' : World} {row : Option Nat} {b r : Nat} {l : List (K × Value)} {left : K → Bool} {cnt : Nat} (h : RangeL B w b r l left cnt) (hg : w.grownBy w' row) (h1 : some b ≠ row) (h2 : some r ≠ row) : RangeL B w' b r l left cnt := by
  obtain ⟨⟨D, lf, h3, h4⟩, h6⟩ := h
  exact ⟨⟨D, lf, h3.kept hg h1 h2, h4⟩, h6⟩
theorem RangeL.left_eq {B : KeyBy P k K} {w : World} {b r : Nat} {l : List (K × Value)} {left : K → Bool} {cnt : Nat} (h : RangeL B w b r l left cnt) : w.rangeLeft b r = cnt := by
  obtain ⟨⟨D, lf, h3, h4⟩, h6⟩ := h
  exact h3.left_eq
theorem RangeL.lt {B : KeyBy P k K} {w : World} {b r : Nat} {l : List (K × Value)} {left : K → Bool} {cnt : Nat} (h : RangeL B w b r l left cnt) : r < w.heap.size := by
  obtain ⟨⟨D, lf, h3, h4⟩, h6⟩ := h
  exact h3.lt
theorem MapL.range {B : KeyBy P k K} {w : World} {b : Nat} {l : List (K × Value)} (h : MapL B w b l) {t e : TypeId} (ht : P.underlying t = some (.map k e)) :
    ∃ w', (Instr.range t (.map (some b))).run P w = .ok (.pointer (some ⟨w.heap.size, 0, none⟩)) w' ∧ RangeL B w' b w.heap.size l (fun x => (getL l x).isSome) l.length ∧ w.grownBy w' none ∧ w'.heap.size = w.heap.size + 1 := by
  obtain ⟨⟨D, h1, h2, h3, h4, h5⟩, h6⟩ := h
  obtain ⟨w', e1, e2, e3, e4⟩ := h1.range B.keyed ht
  rw [h2] at e2
  exact ⟨w', e1, ⟨⟨D, _, e2, h2, h3, h4, h5, h3⟩, h6⟩, e3, e4⟩
theorem left_has {w : World} {b r n : Nat} {D : DataW Value} {lf : Lit → Bool} {cnt : Nat} (KK : Keyed P k) (h : w.ranges P k hv b r n D lf cnt) {q : Lit} (hq : lf q = true) : Maps.has D q = true := by
  obtain ⟨es, clock, since, seen, c0, hb, F, hs, rfl, hr, hold, hc, hl1, hl2, _⟩ := h
  obtain ⟨x, hx, rfl⟩ := hl2 q hq
  obtain ⟨y, hy⟩ := F.reads x hx
  exact List.any_eq_true.2 ⟨rg P k hv x, mem_sorted.2 (List.mem_map.2 ⟨x, hx, rfl⟩), WideAt.sameKey_self (by rw [rg_of hy]; exact KK.key (rd_key hy))⟩
theorem RangeL.next {B : KeyBy P k K} {w : World} {b r : Nat} {l : List (K × Value)} {left : K → Bool} {cnt : Nat} (h : RangeL B w b r l left cnt) :
    (cnt = 0 ∧ (∀ x, B.ok x → left x = false) ∧ ∀ ty, (Instr.next (.pointer (some ⟨r, 0, none⟩)) false ty).run P w = .ok (.tuple #[.bool false]) w) ∨
    ∃ x v w' cnt', B.ok x ∧ left x = true ∧ getL l x = some v ∧ (∀ ty, (Instr.next (.pointer (some ⟨r, 0, none⟩)) false ty).run P w = .ok (.tuple #[.bool true, B.val x, v]) w') ∧
      RangeL B w' b r l (fun y => left y && !decide (y = x)) cnt' ∧ cnt' < cnt ∧ w.grownBy w' (some r) ∧ w'.heap.size = w.heap.size ∧ (Instr.entry (.pointer (some ⟨r, 0, none⟩))).run P w' = .ok (.tuple #[B.val x, v]) w' := by
  obtain ⟨⟨D, lf, h1, h2, h3, h4, h5, h7⟩, h6⟩ := h
  -- one law for every type: the type plays no part
  have key : ∀ ty ty', (Instr.next (.pointer (some ⟨r, 0, none⟩)) false ty).run P w = (Instr.next (.pointer (some ⟨r, 0, none⟩)) false ty').run P w := fun ty ty' => rfl
  rcases h1.next B.keyed 0 with ⟨e0, e1, e2⟩ | ⟨key', v, kl, y, w', cnt', k1, k2, k3, k4, k5, k6, k7, k8, k9, k10⟩
  · exact .inl ⟨e0, fun x hx => by rw [← h7 x hx]; exact e1 _, fun ty => (key ty 0).trans e2⟩
  · obtain ⟨p, hp, rfl⟩ := h5 kl (left_has B.keyed h1 k2)
    have hok := h6 p hp
    obtain rfl : key' = B.val p.1 := B.keyed.inj k1 (B.key p.1 hok)
    have hy : y.1 = .held v := by
      have : (DataW.held v, []) = y := by simpa [hv] using k3
      rw [← this]
    cases e : getL l p.1 with
    | none => rw [getL_none] at e; exact (e p hp rfl).elim
    | some v' =>
      have hvv : v' = v := by
        have e1 := h4 p.1 hok v' e (.held v)
        rw [k4 (.held v), hy] at e1
        simpa using e1.symm
      subst hvv
      refine .inr ⟨p.1, v', w', cnt', hok, by rw [← h7 _ hok]; exact k2, e, fun ty => (key ty 0).trans k5, ⟨⟨D, _, k6, h2, h3, h4, h5, fun x hx => ?_⟩, h6⟩, k7, k8, k9, k10⟩
      rw [h7 x hx]
      congr 1
      by_cases ex : x = p.1
      · subst ex
        rw [WideAt.sameKey_self (lit_key hok)]
        simp
      · rw [sameKey_ne (fun e => ex (B.inj x p.1 hx hok e))]
        simp [ex]
end
end Go.Proofs.PlMap
