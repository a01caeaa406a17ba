/-
  The reference's search by halves, and which objects it calls sound. No program in sight.
-/
import Derived.Test.YtpiocaomlifljaaPlainN
import Derived.Test.YtpiocaomlifljaaPlainT
namespace Go.Proofs.PlNet
open Go Go.Proofs.PlLex

def ltB (a b : BA) : Bool := Go.Op.bytesLess a.toList b.toList
theorem mapB_sorted {l : List Ob} (h : mapB l = true) {i j : Nat} {a b : Ob} (hij : i < j) (ha : l[i]? = some a) (hb : l[j]? = some b) : ltB a.id b.id = true := by
  unfold mapB at h
  rw [Bool.and_eq_true] at h
  have hp := (mapL_incr l _ h.1).1
  obtain ⟨h1, rfl⟩ := List.getElem?_eq_some_iff.1 ha
  obtain ⟨h2, rfl⟩ := List.getElem?_eq_some_iff.1 hb
  exact (List.pairwise_iff_getElem.1 hp) i j h1 h2 hij
theorem ltB_irrefl (a : BA) : ltB a a = false := less_irrefl _
theorem ltB_trans {a b c : BA} (h1 : ltB a b = true) (h2 : ltB b c = true) : ltB a c = true := less_trans h1 h2
/-- Where the halving ends. -/
theorem half_end {l : List Ob} (h : mapB l = true) {s : BA} {k : Nat} (hk : k ≤ l.length) (h1 : ∀ (i : Nat) o, i < k → l[i]? = some o → ltB o.id s = true) (h2 : ∀ (i : Nat) o, k ≤ i → l[i]? = some o → ltB o.id s = false) :
    (∀ o, l[k]? = some o → o.id = s → findI l s = k) ∧ ((∀ o, l[k]? = some o → o.id ≠ s) → findI l s = -1) := by
  constructor
  · intro o ho e
    subst e
    obtain ⟨i, hi1, hi2⟩ := findN_of (mapB_uniq h) (List.mem_of_getElem? ho)
    unfold findI
    rw [hi1]
    show (i : Int) = k
    rcases Nat.lt_trichotomy i k with c | c | c
    · have := mapB_sorted h c hi2 ho
      rw [ltB_irrefl] at this
      cases this
    · rw [c]
    · have := mapB_sorted h c ho hi2
      rw [ltB_irrefl] at this
      cases this
  · intro hne
    unfold findI
    cases e : findN s l with
    | none => rfl
    | some i =>
      obtain ⟨o, h3, h4, h5, _⟩ := findN_some s l i e
      exfalso
      subst h4
      rcases Nat.lt_trichotomy i k with c | c | c
      · have := h1 i o c h3
        rw [ltB_irrefl] at this
        cases this
      · subst c; exact hne o h3 rfl
      · obtain ⟨x, hx⟩ : ∃ x, l[k]? = some x := ⟨_, List.getElem?_eq_getElem (by omega)⟩
        have h6 := mapB_sorted h c hx h3
        rw [h2 k x (Nat.le_refl _) hx] at h6
        cases h6
theorem half_left {l : List Ob} (h : mapB l = true) {s : BA} {k : Nat} {x : Ob} (hx : l[k]? = some x) (hl : ltB x.id s = true) : ∀ (i : Nat) o, i < k + 1 → l[i]? = some o → ltB o.id s = true := by
  intro i o hi ho
  rcases Nat.lt_or_ge i k with c | c
  · exact ltB_trans (mapB_sorted h c ho hx) hl
  · obtain rfl : i = k := by omega
    rw [ho] at hx
    cases hx
    exact hl
theorem half_right {l : List Ob} (h : mapB l = true) {s : BA} {k : Nat} {x : Ob} (hx : l[k]? = some x) (hl : ltB x.id s = false) : ∀ (i : Nat) o, k ≤ i → l[i]? = some o → ltB o.id s = false := by
  intro i o hi ho
  rcases Nat.lt_or_ge k i with c | c
  · cases e : ltB o.id s with
    | false => rfl
    | true =>
      have := ltB_trans (mapB_sorted h c hx ho) e
      rw [hl] at this
      cases this
  · obtain rfl : i = k := by omega
    rw [ho] at hx
    cases hx
    exact hl

/-! Which objects the reference calls sound. -/
def kindR (k : Int) (i : Nat) : Int := if k = 4 ∨ (k = 5 ∧ i ≠ 1) then 2 else 1
/-- Sound, for a valid object of a valid map. -/
def soundW (l : List Ob) (o : Ob) : Bool :=
  if o.kind = 1 then true else if o.kind = 2 ∨ o.kind = 3 then o.refs.all (isNode l) else soundB l o
def stepS (l : List Ob) (k : Int) (i : Nat) (s : BA) : Bool :=
  match findO l s with
  | none => false
  | some p => decide (p.kind = kindR k i) && soundW l p
def refS (l : List Ob) (k : Int) : Nat → List BA → Bool
  | _, [] => true
  | i, s :: r => stepS l k i s && refS l k (i + 1) r
theorem find_node {l : List Ob} (h : uniq l) (s : BA) : isNode l s = (match findO l s with | none => false | some p => decide (p.kind = 1)) := by
  unfold isNode
  cases e : findO l s with
  | none =>
    have : findO (nodesO l) s = none := by
      cases e2 : findO (nodesO l) s with
      | none => rfl
      | some p =>
        obtain ⟨h1, h2⟩ := findO_some e2
        exact (findO_none e p (List.mem_filter.1 h1).1 h2).elim
    rw [this]; rfl
  | some p =>
    obtain ⟨h1, h2⟩ := findO_some e
    show (findO (nodesO l) s).isSome = decide (p.kind = 1)
    by_cases hk : p.kind = 1
    · have : p ∈ nodesO l := List.mem_filter.2 ⟨h1, by simpa using hk⟩
      rw [← h2, show findO (nodesO l) p.id = some p from findO_mem (h.filter _) this]
      simp [hk]
    · cases e2 : findO (nodesO l) s with
      | none => simp [hk]
      | some q =>
        obtain ⟨h3, h4⟩ := findO_some e2
        have h5 := List.mem_filter.1 h3
        have := h.eq h5.1 h1 (by rw [h4, h2])
        subst this
        exact (hk (by simpa using h5.2)).elim
theorem find_way {l : List Ob} (h : uniq l) (s : BA) : (wayAt l s).isSome = (match findO l s with | none => false | some p => wayB l p) := by
  unfold wayAt
  rw [Option.isSome_map]
  cases e : findO l s with
  | none =>
    have : findO (waysO l) s = none := by
      cases e2 : findO (waysO l) s with
      | none => rfl
      | some p =>
        obtain ⟨h1, h2⟩ := findO_some e2
        exact (findO_none e p (List.mem_filter.1 h1).1 h2).elim
    rw [this]; rfl
  | some p =>
    obtain ⟨h1, h2⟩ := findO_some e
    show (findO (waysO l) s).isSome = wayB l p
    cases hk : wayB l p with
    | true =>
      have : p ∈ waysO l := List.mem_filter.2 ⟨h1, hk⟩
      rw [← h2, show findO (waysO l) p.id = some p from findO_mem (h.filter _) this]
      rfl
    | false =>
      cases e2 : findO (waysO l) s with
      | none => rfl
      | some q =>
        obtain ⟨h3, h4⟩ := findO_some e2
        have h5 := List.mem_filter.1 h3
        have := h.eq h5.1 h1 (by rw [h4, h2])
        subst this
        rw [hk] at h5
        cases h5.2
theorem stepS_one {l : List Ob} (h : uniq l) {k : Int} {i : Nat} (hk : kindR k i = 1) (s : BA) : stepS l k i s = isNode l s := by
  rw [find_node h]
  unfold stepS
  rw [hk]
  cases findO l s with
  | none => rfl
  | some p =>
    by_cases e : p.kind = 1
    · simp [e, soundW]
    · simp [e]
theorem stepS_two {l : List Ob} (h : uniq l) {k : Int} {i : Nat} (hk : kindR k i = 2) (s : BA) : stepS l k i s = (wayAt l s).isSome := by
  rw [find_way h]
  unfold stepS
  rw [hk]
  cases findO l s with
  | none => rfl
  | some p =>
    unfold wayB
    by_cases e : p.kind = 2
    · simp [e, soundW]
    · simp [e]
theorem refS_node {l : List Ob} (h : uniq l) {k : Int} (hk : k ≠ 4) (h5 : k ≠ 5) (r : List BA) : ∀ i, refS l k i r = r.all (isNode l) := by
  induction r with
  | nil => intro i; rfl
  | cons s r ih =>
    intro i
    rw [refS, ih, stepS_one h (by unfold kindR; rw [if_neg (by rintro (e | e); exact hk e; exact h5 e.1)]), List.all_cons]
theorem refS_soundL {l : List Ob} (h : uniq l) {k : Int} (hk : k = 4 ∨ k = 5) (r : List BA) : ∀ i, refS l k i r = soundL l k i r := by
  induction r with
  | nil => intro i; rfl
  | cons s r ih =>
    intro i
    rw [refS, soundL, ih]
    congr 1
    by_cases c : k = 5 ∧ i = 1
    · rw [if_pos c, stepS_one h (by unfold kindR; rw [if_neg (by rintro (e | e); omega; exact e.2 c.2)])]
    · rw [if_neg c, stepS_two h (by unfold kindR; rw [if_pos (by rcases hk with e | e; exact .inl e; exact .inr ⟨e, fun e2 => c ⟨e, e2⟩⟩)])]
theorem refS_sound {l : List Ob} (h : uniq l) {o : Ob} (ho : obB o = true) : refS l o.kind 0 o.refs = soundW l o := by
  unfold soundW
  by_cases h1 : o.kind = 1
  · rw [if_pos h1]
    have : o.refs = [] := by
      unfold obB tailB at ho
      rw [if_pos h1] at ho
      simp only [Bool.and_eq_true, decide_eq_true_eq] at ho
      exact List.length_eq_zero_iff.1 ho.2.1
    rw [this]; rfl
  · rw [if_neg h1]
    by_cases h2 : o.kind = 2 ∨ o.kind = 3
    · rw [if_pos h2]
      exact refS_node h (by omega) (by omega) _ 0
    · rw [if_neg h2]
      unfold soundB
      refine refS_soundL h ?_ _ 0
      unfold obB headB at ho
      simp only [Bool.and_eq_true, decide_eq_true_eq] at ho
      have := ho.1.1.1.1.1.1
      omega
def rankK (k : Int) : Nat := if k = 1 then 0 else if k = 2 ∨ k = 3 then 1 else 2
theorem rank_less {k : Int} {i : Nat} (hk : k ≠ 1) : rankK (kindR k i) < rankK k := by
  unfold rankK kindR
  by_cases h2 : k = 2 ∨ k = 3
  · rw [if_neg (show ¬ (k = 4 ∨ k = 5 ∧ i ≠ 1) by omega), if_pos rfl, if_neg hk, if_pos h2]; omega
  · rw [if_neg hk, if_neg h2]
    split
    · rw [if_neg (by omega), if_pos (by omega)]; omega
    · rw [if_pos rfl]; omega
theorem refS_cut (l : List Ob) (k : Int) : ∀ (r : List BA) (i j : Nat) (s : BA), r[j]? = some s → refS l k i r = (refS l k i (r.take j) && (stepS l k (i + j) s && refS l k (i + j + 1) (r.drop (j + 1)))) := by
  intro r
  induction r with
  | nil => intro i j s h; simp at h
  | cons x r ih =>
    intro i j s h
    cases j with
    | zero =>
      simp at h
      subst h
      simp [refS]
    | succ j =>
      have := ih (i + 1) j s (by simpa using h)
      rw [refS, this, List.take_succ_cons, refS, List.drop_succ_cons, Bool.and_assoc, show i + 1 + j = i + (j + 1) by omega]
theorem refS_snoc (l : List Ob) (k : Int) (r : List BA) (i j : Nat) (s : BA) (h : r[j]? = some s) : refS l k i (r.take (j + 1)) = (refS l k i (r.take j) && stepS l k (i + j) s) := by
  have hj := (List.getElem?_eq_some_iff.1 h).1
  have h2 := refS_cut l k (r.take (j + 1)) i j s (by rw [List.getElem?_take_of_lt (by omega)]; exact h)
  rw [h2, List.take_take, Nat.min_eq_left (by omega), List.drop_eq_nil_of_le (by rw [List.length_take]; omega)]
  simp [refS]
end Go.Proofs.PlNet
