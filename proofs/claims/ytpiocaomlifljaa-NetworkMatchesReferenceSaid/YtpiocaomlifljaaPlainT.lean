/-
  Passing the ways of a route, as plain data; and what stays where routes and ways are turned round. No program in sight.
-/
import Derived.Test.YtpiocaomlifljaaPlain6
namespace Go.Proofs.PlNet
open Go Go.Proofs.PlLex

/-- From a node through ways, each in one of its directions, to a node. -/
def Walk (F L : BA → BA) (a : BA) : List BA → BA → Prop
  | [], b => a = b
  | s :: r, b => (a = F s ∧ Walk F L (L s) r b) ∨ (a = L s ∧ Walk F L (F s) r b)
theorem Walk.snoc {F L : BA → BA} {s : BA} : ∀ {r : List BA} {a b : BA}, Walk F L a (r ++ [s]) b ↔ ∃ c, Walk F L a r c ∧ ((c = F s ∧ b = L s) ∨ (c = L s ∧ b = F s)) := by
  intro r
  induction r with
  | nil =>
    intro a b
    simp only [List.nil_append, Walk]
    constructor
    · rintro (⟨h1, h2⟩ | ⟨h1, h2⟩)
      · exact ⟨a, rfl, .inl ⟨h1, h2.symm⟩⟩
      · exact ⟨a, rfl, .inr ⟨h1, h2.symm⟩⟩
    · rintro ⟨c, rfl, ⟨h1, h2⟩ | ⟨h1, h2⟩⟩
      · exact .inl ⟨h1, h2.symm⟩
      · exact .inr ⟨h1, h2.symm⟩
  | cons x r ih =>
    intro a b
    simp only [List.cons_append, Walk, ih]
    constructor
    · rintro (⟨h1, c, h2, h3⟩ | ⟨h1, c, h2, h3⟩)
      · exact ⟨c, .inl ⟨h1, h2⟩, h3⟩
      · exact ⟨c, .inr ⟨h1, h2⟩, h3⟩
    · rintro ⟨c, ⟨h1, h2⟩ | ⟨h1, h2⟩, h3⟩
      · exact .inl ⟨h1, c, h2, h3⟩
      · exact .inr ⟨h1, c, h2, h3⟩
theorem Walk.back {F L : BA → BA} : ∀ {r : List BA} {a b : BA}, Walk F L a r b ↔ Walk F L b r.reverse a := by
  intro r
  induction r with
  | nil => intro a b; exact eq_comm
  | cons x r ih =>
    intro a b
    rw [List.reverse_cons, Walk.snoc]
    simp only [Walk]
    constructor
    · rintro (⟨h1, h2⟩ | ⟨h1, h2⟩)
      · exact ⟨L x, ih.1 h2, .inr ⟨rfl, h1⟩⟩
      · exact ⟨F x, ih.1 h2, .inl ⟨rfl, h1⟩⟩
    · rintro ⟨c, h2, ⟨rfl, h1⟩ | ⟨rfl, h1⟩⟩
      · exact .inr ⟨h1, ih.2 h2⟩
      · exact .inl ⟨h1, ih.2 h2⟩
/-- Ways may be turned round. -/
theorem Walk.turn {F L F' L' : BA → BA} (h : ∀ s, (F' s = F s ∧ L' s = L s) ∨ (F' s = L s ∧ L' s = F s)) : ∀ {r : List BA} {a b : BA}, Walk F' L' a r b ↔ Walk F L a r b := by
  intro r
  induction r with
  | nil => intro a b; exact Iff.rfl
  | cons x r ih =>
    intro a b
    simp only [Walk, ih]
    rcases h x with ⟨h1, h2⟩ | ⟨h1, h2⟩
    · rw [h1, h2]
    · rw [h1, h2]; exact or_comm
theorem reachB_iff (a b : BA) (p q : Bool) (n : BA) : reachB a b p q n = true ↔ (p = true ∧ a = n) ∨ (q = true ∧ b = n) := by
  unfold reachB
  simp [toList_inj]
theorem connM_walk (l : List Ob) : ∀ (r : List BA) (a b : BA) (p q : Bool), connM l a b p q r = true ↔ (p = true ∧ ∃ c, Walk (firstN l) (lastN l) a r c) ∨ (q = true ∧ ∃ c, Walk (firstN l) (lastN l) b r c) := by
  intro r
  induction r with
  | nil => intro a b p q; simp [connM, Walk]
  | cons s r ih =>
    intro a b p q
    rw [connM, ih, reachB_iff, reachB_iff]
    simp only [Walk]
    constructor
    · rintro (⟨⟨hp, rfl⟩ | ⟨hq, rfl⟩, c, h⟩ | ⟨⟨hp, rfl⟩ | ⟨hq, rfl⟩, c, h⟩)
      · exact .inl ⟨hp, c, .inr ⟨rfl, h⟩⟩
      · exact .inr ⟨hq, c, .inr ⟨rfl, h⟩⟩
      · exact .inl ⟨hp, c, .inl ⟨rfl, h⟩⟩
      · exact .inr ⟨hq, c, .inl ⟨rfl, h⟩⟩
    · rintro (⟨hp, c, ⟨rfl, h⟩ | ⟨rfl, h⟩⟩ | ⟨hq, c, ⟨rfl, h⟩ | ⟨rfl, h⟩⟩)
      · exact .inr ⟨.inl ⟨hp, rfl⟩, c, h⟩
      · exact .inl ⟨.inl ⟨hp, rfl⟩, c, h⟩
      · exact .inr ⟨.inr ⟨hq, rfl⟩, c, h⟩
      · exact .inl ⟨.inr ⟨hq, rfl⟩, c, h⟩
theorem connB_walk (l : List Ob) (r : List BA) : connB l r = true ↔ ∃ a c, Walk (firstN l) (lastN l) a r c := by
  cases r with
  | nil => simp [connB, Walk]
  | cons s r =>
    rw [connB, connM_walk]
    simp only [Walk, true_and]
    constructor
    · rintro (⟨c, h⟩ | ⟨c, h⟩)
      · exact ⟨_, c, .inr ⟨rfl, h⟩⟩
      · exact ⟨_, c, .inl ⟨rfl, h⟩⟩
    · rintro ⟨a, c, ⟨_, h⟩ | ⟨_, h⟩⟩
      · exact .inr ⟨c, h⟩
      · exact .inl ⟨c, h⟩

/-! A map turned: some objects with their references in the opposite order. -/
def turnO (q : Bool) (o : Ob) : Ob := if q then { o with refs := o.refs.reverse } else o
/-- The objects from an index on. -/
def turnL (q : Nat → Ob → Bool) : Nat → List Ob → List Ob
  | _, [] => []
  | i, o :: l => turnO (q i o) o :: turnL q (i + 1) l
theorem turnO_id (q : Bool) (o : Ob) : (turnO q o).id = o.id := by unfold turnO; split <;> rfl
theorem turnO_kind (q : Bool) (o : Ob) : (turnO q o).kind = o.kind := by unfold turnO; split <;> rfl
theorem turnO_x (q : Bool) (o : Ob) : (turnO q o).x = o.x := by unfold turnO; split <;> rfl
theorem turnO_y (q : Bool) (o : Ob) : (turnO q o).y = o.y := by unfold turnO; split <;> rfl
theorem turnO_tags (q : Bool) (o : Ob) : (turnO q o).tags = o.tags := by unfold turnO; split <;> rfl
theorem turnO_refs (q : Bool) (o : Ob) : (turnO q o).refs = o.refs ∨ (turnO q o).refs = o.refs.reverse := by unfold turnO; split <;> simp
theorem turnO_mem (q : Bool) (o : Ob) (s : BA) : s ∈ (turnO q o).refs ↔ s ∈ o.refs := by
  rcases turnO_refs q o with h | h <;> rw [h]
  exact List.mem_reverse
theorem turnO_len (q : Bool) (o : Ob) : (turnO q o).refs.length = o.refs.length := by
  rcases turnO_refs q o with h | h <;> rw [h]
  exact List.length_reverse
/-- Only routes and ways are turned. -/
def fitQ (q : Nat → Ob → Bool) : Prop := ∀ i o, q i o = true → o.kind = 2 ∨ o.kind = 4
theorem turnL_length (q : Nat → Ob → Bool) (l : List Ob) : ∀ i, (turnL q i l).length = l.length := by
  induction l with
  | nil => intro i; rfl
  | cons o l ih => intro i; simp [turnL, ih]
theorem turnL_mem (q : Nat → Ob → Bool) (l : List Ob) : ∀ i o', o' ∈ turnL q i l → ∃ j o, o ∈ l ∧ o' = turnO (q j o) o := by
  induction l with
  | nil => intro i o' h; cases h
  | cons o l ih =>
    intro i o' h
    rw [turnL, List.mem_cons] at h
    rcases h with rfl | h
    · exact ⟨i, o, by simp, rfl⟩
    · obtain ⟨j, p, h1, h2⟩ := ih _ _ h
      exact ⟨j, p, by simp [h1], h2⟩
theorem name_nil : name ([] : List UInt8) = false := by decide
theorem refsB2_iff (r : List BA) : ∀ (seen : List BA) (last : BA), refsB 2 seen last r = true ↔ (∀ s ∈ r, name s.data.toList = true) ∧ (∀ s, r.head? = some s → s ≠ last) ∧ ∀ k a b, r[k]? = some a → r[k + 1]? = some b → a ≠ b := by
  induction r with
  | nil => intro seen last; simp [refsB]
  | cons x r ih =>
    intro seen last
    rw [refsB, Bool.and_eq_true, ih]
    have hw : (!wrongB 2 seen last x) = true ↔ name x.data.toList = true ∧ x ≠ last := by
      unfold wrongB
      simp [toList_inj, and_comm]
    rw [hw]
    constructor
    · rintro ⟨⟨h1, h2⟩, h3, h4, h5⟩
      refine ⟨fun s hs => ?_, fun s hs => ?_, fun k a b ha hb => ?_⟩
      · rcases List.mem_cons.1 hs with rfl | hs
        · exact h1
        · exact h3 s hs
      · simp at hs
        subst hs
        exact h2
      · cases k with
        | zero =>
          simp at ha hb
          subst ha
          exact (h4 b (by rw [List.head?_eq_getElem?]; exact hb)).symm
        | succ k => exact h5 k a b (by simpa using ha) (by simpa using hb)
    · rintro ⟨h1, h2, h3⟩
      refine ⟨⟨h1 x (by simp), h2 x (by simp)⟩, fun s hs => h1 s (by simp [hs]), fun s hs => ?_, fun k a b ha hb => h3 (k + 1) a b (by simpa using ha) (by simpa using hb)⟩
      exact (h3 0 x s (by simp) (by rw [List.head?_eq_getElem?] at hs; simpa using hs)).symm
theorem refsB4_iff (r : List BA) : ∀ (seen : List BA) (last : BA), refsB 4 seen last r = true ↔ ∀ s ∈ r, name s.data.toList = true := by
  induction r with
  | nil => intro seen last; simp [refsB]
  | cons x r ih =>
    intro seen last
    rw [refsB, Bool.and_eq_true, ih]
    have hw : (!wrongB 4 seen last x) = true ↔ name x.data.toList = true := by
      unfold wrongB
      simp
    rw [hw, List.forall_mem_cons]
theorem refsB2_rev {r : List BA} (h : refsB 2 [] ⟨#[]⟩ r = true) : refsB 2 [] ⟨#[]⟩ r.reverse = true := by
  rw [refsB2_iff] at h ⊢
  obtain ⟨h1, _, h3⟩ := h
  refine ⟨fun s hs => h1 s (List.mem_reverse.1 hs), fun s hs e => ?_, fun k a b ha hb => ?_⟩
  · have := h1 s (List.mem_reverse.1 (List.mem_of_mem_head? hs))
    subst e
    rw [show name (⟨#[]⟩ : BA).data.toList = false from name_nil] at this
    cases this
  · have hk : k + 1 < r.reverse.length := (List.getElem?_eq_some_iff.1 hb).1
    rw [List.length_reverse] at hk
    rw [List.getElem?_reverse (by omega)] at ha hb
    exact (h3 (r.length - 1 - (k + 1)) b a hb (by rw [show r.length - 1 - (k + 1) + 1 = r.length - 1 - k from by omega]; exact ha)).symm
theorem refsB4_rev {r : List BA} (h : refsB 4 [] ⟨#[]⟩ r = true) : refsB 4 [] ⟨#[]⟩ r.reverse = true := by
  rw [refsB4_iff] at h ⊢
  exact fun s hs => h s (List.mem_reverse.1 hs)
theorem turnO_ob {q : Bool} {o : Ob} (hq : q = true → o.kind = 2 ∨ o.kind = 4) (h : obB o = true) : obB (turnO q o) = true := by
  cases q with
  | false => exact h
  | true =>
    unfold obB at h ⊢
    simp only [Bool.and_eq_true] at h ⊢
    have e1 : headB (turnO true o) = headB o := by unfold headB turnO; simp
    have e2 : tailB (turnO true o) = tailB o := by unfold tailB turnO; simp
    rw [e1, e2]
    refine ⟨⟨h.1.1, ?_⟩, h.2⟩
    have hr := h.1.2
    show refsB o.kind [] ⟨#[]⟩ o.refs.reverse = true
    rcases hq rfl with e | e <;> rw [e] at hr ⊢
    · exact refsB2_rev hr
    · exact refsB4_rev hr
theorem turnL_map (q : Nat → Ob → Bool) (hq : fitQ q) (l : List Ob) : ∀ (i : Nat) (last : BA), mapL last l = true → mapL last (turnL q i l) = true := by
  induction l with
  | nil => intro i last h; rfl
  | cons o l ih =>
    intro i last h
    simp only [turnL, mapL, Bool.and_eq_true, turnO_id] at h ⊢
    exact ⟨⟨⟨turnO_ob (hq i o) h.1.1.1, h.1.1.2⟩, h.1.2⟩, ih _ _ h.2⟩
theorem turn_mapB {q : Nat → Ob → Bool} (hq : fitQ q) {l : List Ob} (h : mapB l = true) : mapB (turnL q 0 l) = true := by
  unfold mapB at h ⊢
  rw [Bool.and_eq_true] at h ⊢
  exact ⟨turnL_map q hq l 0 _ h.1, by rw [turnL_length]; exact h.2⟩
/-- A filter that turning does not change. -/
theorem turnL_filter {q : Nat → Ob → Bool} {P P' : Ob → Bool} (l : List Ob) (h : ∀ i, ∀ o ∈ l, P' (turnO (q i o) o) = P o) {α : Type} (g : Ob → α) (hg : ∀ i o, P o = true → g (turnO (q i o) o) = g o) : ∀ i, ((turnL q i l).filter P').map g = (l.filter P).map g := by
  induction l with
  | nil => intro i; rfl
  | cons o l ih =>
    intro i
    have ih := ih (fun i o ho => h i o (by simp [ho])) (i + 1)
    have h0 := h i o (by simp)
    rw [turnL]
    cases e : P o with
    | true =>
      rw [List.filter_cons_of_pos (by rw [h0, e]), List.filter_cons_of_pos (by rw [e]), List.map_cons, List.map_cons, ih, hg i o e]
    | false =>
      rw [List.filter_cons_of_neg (by rw [h0, e]; simp), List.filter_cons_of_neg (by rw [e]; simp), ih]
theorem turn_false {q : Nat → Ob → Bool} (hq : fitQ q) {i : Nat} {o : Ob} (h2 : o.kind ≠ 2) (h4 : o.kind ≠ 4) : turnO (q i o) o = o := by
  cases e : q i o with
  | false => rfl
  | true => exact ((hq i o e).elim h2 h4).elim
section
variable {q : Nat → Ob → Bool} (hq : fitQ q) (l : List Ob)
include hq
theorem turn_nodes : nodesO (turnL q 0 l) = nodesO l := by
  have h := turnL_filter (q := q) (P := fun o => decide (o.kind = 1)) (P' := fun o => decide (o.kind = 1)) l (fun i o _ => by rw [turnO_kind]) id (fun i o h => by
    have hk : o.kind = 1 := of_decide_eq_true h
    exact turn_false hq (by omega) (by omega)) 0
  rwa [List.map_id, List.map_id] at h
theorem turn_isNode (s : BA) : isNode (turnL q 0 l) s = isNode l s := by unfold isNode; rw [turn_nodes hq]
theorem turn_wayB (b : Bool) (o : Ob) : wayB (turnL q 0 l) (turnO b o) = wayB l o := by
  unfold wayB
  rw [turnO_kind]
  congr 1
  rw [Bool.eq_iff_iff, List.all_eq_true, List.all_eq_true]
  simp only [turnO_mem, turn_isNode hq]
omit hq in
theorem turn_find (P : Ob → Bool) (hP : ∀ b o, P (turnO b o) = P o) (s : BA) : ∀ (l : List Ob) (i : Nat), (findO (l.filter P) s = none ∧ findO ((turnL q i l).filter P) s = none) ∨ ∃ o b, findO (l.filter P) s = some o ∧ findO ((turnL q i l).filter P) s = some (turnO b o) := by
  intro l
  induction l with
  | nil => intro i; exact .inl ⟨rfl, rfl⟩
  | cons o l ih =>
    intro i
    rw [turnL]
    cases e : P o with
    | true =>
      rw [List.filter_cons_of_pos e, List.filter_cons_of_pos (by rw [hP]; exact e)]
      by_cases hs : o.id = s
      · refine .inr ⟨o, q i o, ?_, ?_⟩
        · unfold findO; rw [List.find?_cons_of_pos (by simpa using hs)]
        · unfold findO; rw [List.find?_cons_of_pos (by simpa [turnO_id] using hs)]
      · have h := ih (i + 1)
        unfold findO at h ⊢
        rw [List.find?_cons_of_neg (by simpa using hs), List.find?_cons_of_neg (by simpa [turnO_id] using hs)]
        exact h
    | false =>
      rw [List.filter_cons_of_neg (by rw [e]; simp), List.filter_cons_of_neg (by rw [hP, e]; simp)]
      exact ih _
theorem turn_wayAt (s : BA) : (wayAt l s = none ∧ wayAt (turnL q 0 l) s = none) ∨ ∃ r, wayAt l s = some r ∧ (wayAt (turnL q 0 l) s = some r ∨ wayAt (turnL q 0 l) s = some r.reverse) := by
  have hw : waysO (turnL q 0 l) = (turnL q 0 l).filter (wayB l) := by
    unfold waysO
    refine List.filter_congr fun o ho => ?_
    obtain ⟨j, p, _, rfl⟩ := turnL_mem q l 0 o ho
    have e : wayB l (turnO (q j p) p) = wayB l p := by
      unfold wayB
      rw [turnO_kind]
      congr 1
      rw [Bool.eq_iff_iff, List.all_eq_true, List.all_eq_true]
      simp only [turnO_mem]
    rw [turn_wayB hq, e]
  have hP : ∀ b o, wayB l (turnO b o) = wayB l o := fun b o => by
    unfold wayB
    rw [turnO_kind]
    congr 1
    rw [Bool.eq_iff_iff, List.all_eq_true, List.all_eq_true]
    simp only [turnO_mem]
  unfold wayAt
  rw [hw]
  unfold waysO
  rcases turn_find (q := q) (wayB l) hP s l 0 with ⟨h1, h2⟩ | ⟨o, b, h1, h2⟩
  · rw [h1, h2]; exact .inl ⟨rfl, rfl⟩
  · rw [h1, h2]
    refine .inr ⟨o.refs, rfl, ?_⟩
    rcases turnO_refs b o with h | h
    · exact .inl (by rw [← h]; rfl)
    · exact .inr (by rw [← h]; rfl)
theorem turn_some (s : BA) : (wayAt (turnL q 0 l) s).isSome = (wayAt l s).isSome := by
  rcases turn_wayAt hq l s with ⟨h1, h2⟩ | ⟨r, h1, h2 | h2⟩ <;> rw [h1, h2] <;> rfl
theorem turn_in (n s : BA) : hasS n ((wayAt (turnL q 0 l) s).getD []) = hasS n ((wayAt l s).getD []) := by
  rcases turn_wayAt hq l s with ⟨h1, h2⟩ | ⟨r, h1, h2 | h2⟩ <;> rw [h1, h2]
  rw [Bool.eq_iff_iff, hasS_mem, hasS_mem]
  exact List.mem_reverse
theorem turn_ends (s : BA) : (firstN (turnL q 0 l) s = firstN l s ∧ lastN (turnL q 0 l) s = lastN l s) ∨ (firstN (turnL q 0 l) s = lastN l s ∧ lastN (turnL q 0 l) s = firstN l s) := by
  unfold firstN lastN
  rcases turn_wayAt hq l s with ⟨h1, h2⟩ | ⟨r, h1, h2 | h2⟩ <;> rw [h1, h2]
  · exact .inl ⟨rfl, rfl⟩
  · exact .inl ⟨rfl, rfl⟩
  · refine .inr ⟨?_, ?_⟩
    · simp only [Option.getD_some, List.headD_eq_head?_getD, List.getLastD_eq_getLast?, List.head?_reverse]
    · simp only [Option.getD_some, List.headD_eq_head?_getD, List.getLastD_eq_getLast?, List.getLast?_reverse]
theorem turn_soundL (k : Int) (r : List BA) : ∀ i, soundL (turnL q 0 l) k i r = soundL l k i r := by
  induction r with
  | nil => intro i; rfl
  | cons s r ih => intro i; simp only [soundL, turn_some hq, turn_isNode hq, ih]
omit hq in
theorem sound4 (r : List BA) : ∀ i, soundL l 4 i r = true ↔ ∀ s ∈ r, (wayAt l s).isSome = true := by
  induction r with
  | nil => intro i; simp [soundL]
  | cons s r ih =>
    intro i
    rw [soundL, if_neg (fun h => by omega), Bool.and_eq_true, ih, List.forall_mem_cons]
theorem turn_conn (r r' : List BA) (h : r' = r ∨ r' = r.reverse) : connB (turnL q 0 l) r' = connB l r := by
  rw [Bool.eq_iff_iff, connB_walk, connB_walk]
  simp only [Walk.turn (turn_ends hq l)]
  rcases h with rfl | rfl
  · exact Iff.rfl
  · constructor
    · rintro ⟨a, c, h⟩
      exact ⟨c, a, Walk.back.2 h⟩
    · rintro ⟨a, c, h⟩
      exact ⟨c, a, Walk.back.1 h⟩
theorem turn_badRoute (b : Bool) (o : Ob) : badRoute (turnL q 0 l) (turnO b o) = badRoute l o := by
  unfold badRoute soundB
  rw [turnO_kind]
  by_cases hk : o.kind = 4
  · rw [hk, turn_soundL hq, turn_conn hq l o.refs (turnO b o).refs (turnO_refs b o)]
    congr 2
    rw [Bool.eq_iff_iff, sound4, sound4]
    simp only [turnO_mem]
  · simp [hk]
theorem turn_badTurn (i : Nat) (o : Ob) : badTurn (turnL q 0 l) (turnO (q i o) o) = badTurn l o := by
  by_cases hk : o.kind = 5
  · rw [turn_false hq (by omega) (by omega)]
    unfold badTurn soundB meetsB
    rw [turn_soundL hq, turn_in hq, turn_in hq]
  · unfold badTurn
    rw [turnO_kind]
    simp [hk]
theorem turn_check : checkL (turnL q 0 l) = checkL l := by
  unfold checkL
  rw [turnL_filter l (fun i o _ => turn_badRoute hq l (q i o) o) (fun o => ((5 : Int), o.id)) (fun i o _ => by rw [turnO_id]) 0,
    turnL_filter l (fun i o _ => turn_badTurn hq l i o) (fun o => ((6 : Int), o.id)) (fun i o _ => by rw [turnO_id]) 0]
end

/-! The parts of a network: what of the sets' heads they hang on. -/
theorem Con.flip {E : BA → BA → Prop} {x y : BA} (h : Con E x y) : Con E y x := .symm h
/-- Two groupings that differ in their heads alone. -/
def sameG (R R' : BA → BA) : List (BA × List BA) → List (BA × List BA) → Prop
  | [], [] => True
  | p :: a, p' :: a' => p.2 = p'.2 ∧ (∃ z, p.1 = R z ∧ p'.1 = R' z) ∧ sameG R R' a a'
  | _, _ => False
theorem sameG_map {R R' : BA → BA} : ∀ {a a' : List (BA × List BA)}, sameG R R' a a' → a.map (·.2) = a'.map (·.2)
  | [], [], _ => rfl
  | p :: a, p' :: a', h => by rw [List.map_cons, List.map_cons, h.1, sameG_map h.2.2]
theorem sameG_add {R R' : BA → BA} (hk : ∀ x y, R x = R y ↔ R' x = R' y) (id : BA) : ∀ {a a' : List (BA × List BA)}, sameG R R' a a' → sameG R R' (addG (R id) id a) (addG (R' id) id a')
  | [], [], _ => ⟨rfl, ⟨id, rfl, rfl⟩, trivial⟩
  | p :: a, p' :: a', h => by
    obtain ⟨h1, ⟨z, h2, h3⟩, h4⟩ := h
    have e : p.1 = R id ↔ p'.1 = R' id := by rw [h2, h3]; exact hk z id
    unfold addG
    by_cases c : p.1 = R id
    · rw [if_pos c, if_pos (e.1 c)]
      exact ⟨by rw [h1], ⟨id, rfl, rfl⟩, h4⟩
    · rw [if_neg c, if_neg (fun h => c (e.2 h))]
      exact ⟨h1, ⟨z, h2, h3⟩, sameG_add hk id h4⟩
theorem partsG_same {R R' : BA → BA} (hk : ∀ x y, R x = R y ↔ R' x = R' y) (ids : List BA) : (partsG R ids).map (·.2) = (partsG R' ids).map (·.2) := by
  have key : ∀ (ids : List BA) (a a' : List (BA × List BA)), sameG R R' a a' → sameG R R' (ids.foldl (fun acc id => addG (R id) id acc) a) (ids.foldl (fun acc id => addG (R' id) id acc) a') := by
    intro ids
    induction ids with
    | nil => intro a a' h; exact h
    | cons x l ih => intro a a' h; exact ih _ _ (sameG_add hk x h)
  exact sameG_map (key ids [] [] trivial)
/-- The parts hang on which nodes are used and on which of them hang together. -/
theorem parts_eq {l l' : List Ob} {R R' : BA → BA} (h : ∀ x y, R x = R y ↔ Con (ER l) x y) (h' : ∀ x y, R' x = R' y ↔ Con (ER l') x y) (hc : ∀ x y, Con (ER l) x y ↔ Con (ER l') x y) (hu : usedL l l = usedL l' l') : (partsG R (usedL l l)).map (·.2) = (partsG R' (usedL l' l')).map (·.2) := by
  rw [hu]
  exact partsG_same (fun x y => by rw [h, h', hc]) _
section
variable {q : Nat → Ob → Bool} (hq : fitQ q) (l : List Ob)
include hq
theorem turn_ways1 {o' : Ob} (h : o' ∈ waysO (turnL q 0 l)) : ∃ o b, o ∈ waysO l ∧ o' = turnO b o := by
  unfold waysO at h ⊢
  rw [List.mem_filter] at h
  obtain ⟨j, o, h1, rfl⟩ := turnL_mem q l 0 _ h.1
  rw [turn_wayB hq] at h
  exact ⟨o, q j o, List.mem_filter.2 ⟨h1, h.2⟩, rfl⟩
omit hq in
theorem turnL_has (o : Ob) : ∀ (l : List Ob) (i : Nat), o ∈ l → ∃ b, turnO b o ∈ turnL q i l := by
  intro l
  induction l with
  | nil => intro i h; cases h
  | cons p l ih =>
    intro i h
    rw [turnL]
    rcases List.mem_cons.1 h with rfl | h
    · exact ⟨q i o, by simp⟩
    · obtain ⟨b, hb⟩ := ih (i + 1) h
      exact ⟨b, by simp [hb]⟩
theorem turn_ways2 {o : Ob} (h : o ∈ waysO l) : ∃ b, turnO b o ∈ waysO (turnL q 0 l) := by
  unfold waysO at h ⊢
  rw [List.mem_filter] at h
  obtain ⟨b, hb⟩ := turnL_has (q := q) o l 0 h.1
  exact ⟨b, List.mem_filter.2 ⟨hb, by rw [turn_wayB hq]; exact h.2⟩⟩
omit hq in
theorem headR_mem {r : List BA} {x : BA} (h : x ∈ r) : headR r ∈ r := by
  cases r with
  | nil => cases h
  | cons a r => simp [headR]
omit hq in
/-- Two nodes of a way hang together. -/
theorem way_con {o : Ob} (ho : o ∈ waysO l) {x y : BA} (hx : x ∈ o.refs) (hy : y ∈ o.refs) : Con (ER l) x y :=
  .trans (.base ⟨o, ho, hx, rfl⟩) (.symm (.base ⟨o, ho, hy, rfl⟩))
theorem turn_con (x y : BA) : Con (ER l) x y ↔ Con (ER (turnL q 0 l)) x y := by
  constructor
  · refine Con.mono fun x y h => ?_
    obtain ⟨o, ho, hx, rfl⟩ := h
    obtain ⟨b, hb⟩ := turn_ways2 hq l ho
    exact way_con _ hb ((turnO_mem b o x).2 hx) ((turnO_mem b o _).2 (headR_mem hx))
  · refine Con.mono fun x y h => ?_
    obtain ⟨o', ho, hx, rfl⟩ := h
    obtain ⟨o, b, ho2, rfl⟩ := turn_ways1 hq l ho
    exact way_con _ ho2 ((turnO_mem b o x).1 hx) ((turnO_mem b o _).1 (headR_mem hx))
omit hq in
theorem inWays_mem (x : BA) : inWays l x = true ↔ ∃ o ∈ waysO l, x ∈ o.refs := by
  unfold inWays
  simp
theorem turn_inWays (x : BA) : inWays (turnL q 0 l) x = inWays l x := by
  rw [Bool.eq_iff_iff, inWays_mem, inWays_mem]
  constructor
  · rintro ⟨o', ho, hx⟩
    obtain ⟨o, b, ho2, rfl⟩ := turn_ways1 hq l ho
    exact ⟨o, ho2, (turnO_mem b o x).1 hx⟩
  · rintro ⟨o, ho, hx⟩
    obtain ⟨b, hb⟩ := turn_ways2 hq l ho
    exact ⟨_, hb, (turnO_mem b o x).2 hx⟩
theorem turn_used : usedL (turnL q 0 l) (turnL q 0 l) = usedL l l := by
  unfold usedL
  rw [turnL_filter (P := fun o => decide (o.kind = 1) && inWays l o.id) l (fun i o _ => by rw [turnO_kind, turnO_id, turn_inWays hq]) (fun o => o.id) (fun i o _ => by rw [turnO_id]) 0]
theorem turn_parts {R R' : BA → BA} (h : ∀ x y, R x = R y ↔ Con (ER l) x y) (h' : ∀ x y, R' x = R' y ↔ Con (ER (turnL q 0 l)) x y) : (partsG R (usedL l l)).map (·.2) = (partsG R' (usedL (turnL q 0 l) (turnL q 0 l))).map (·.2) :=
  parts_eq h h' (turn_con hq l) (turn_used hq l).symm
end
end Go.Proofs.PlNet
