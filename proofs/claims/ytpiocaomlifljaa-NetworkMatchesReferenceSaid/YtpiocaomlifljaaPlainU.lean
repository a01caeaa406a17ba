/-
  Passing a route by one choice of directions, and how many violations there are. No program in sight.
-/
import Derived.Test.YtpiocaomlifljaaPlainS
namespace Go.Proofs.PlNet
open Go Go.Proofs.PlLex

/-- The ways are passed in the directions that the bits of a number say, from the lowest on. The flag says that nothing was passed yet. -/
def passP (l : List Ob) : Nat → Bool → BA → List BA → Bool
  | _, _, _, [] => true
  | b, fl, at', s :: r =>
    match findO l s with
    | none => false
    | some p =>
      if p.refs = [] then false
      else if b % 2 = 1 then (fl || decide (p.refs.getLastD ⟨#[]⟩ = at')) && passP l (b / 2) false (p.refs.headD ⟨#[]⟩) r
      else (fl || decide (p.refs.headD ⟨#[]⟩ = at')) && passP l (b / 2) false (p.refs.getLastD ⟨#[]⟩) r
theorem way_find {l : List Ob} (h : uniq l) {s : BA} (hs : (wayAt l s).isSome = true) : ∃ p, findO l s = some p ∧ wayAt l s = some p.refs ∧ wayB l p = true := by
  have h2 := hs
  rw [find_way h] at h2
  cases e : findO l s with
  | none => rw [e] at h2; cases h2
  | some p =>
    rw [e] at h2
    have h2 : wayB l p = true := h2
    obtain ⟨h3, h4⟩ := findO_some e
    refine ⟨p, rfl, ?_, h2⟩
    unfold wayAt
    have : p ∈ waysO l := List.mem_filter.2 ⟨h3, h2⟩
    rw [← h4, show findO (waysO l) p.id = some p from findO_mem (h.filter _) this]
    rfl
theorem wayB_ne {l : List Ob} (hm : mapB l = true) {p : Ob} (hp : p ∈ l) (h : wayB l p = true) : p.refs ≠ [] := by
  have := obB_least (mapB_obs hm p hp)
  unfold wayB at h
  rw [Bool.and_eq_true, decide_eq_true_eq] at h
  rw [h.1] at this
  intro e
  rw [e] at this
  simp [leastK] at this
theorem pass_walk {l : List Ob} (hm : mapB l = true) : ∀ (r : List BA) (a : BA), (∀ s ∈ r, (wayAt l s).isSome = true) → ((∃ b, b < 2 ^ r.length ∧ passP l b false a r = true) ↔ ∃ c, Walk (firstN l) (lastN l) a r c) := by
  intro r
  induction r with
  | nil => intro a _; simp [passP, Walk]
  | cons s r ih =>
    intro a h
    obtain ⟨p, h1, h2, h3⟩ := way_find (mapB_uniq hm) (h s (by simp))
    have hne := wayB_ne hm (findO_some h1).1 h3
    have hF : firstN l s = p.refs.headD ⟨#[]⟩ := by unfold firstN; rw [h2]; rfl
    have hL : lastN l s = p.refs.getLastD ⟨#[]⟩ := by unfold lastN; rw [h2]; rfl
    have ih1 := ih (lastN l s) (fun x hx => h x (by simp [hx]))
    have ih2 := ih (firstN l s) (fun x hx => h x (by simp [hx]))
    simp only [Walk]
    rw [hF, hL] at *
    constructor
    · rintro ⟨b, hb, hp⟩
      simp only [passP, h1, if_neg hne] at hp
      have hb2 : b / 2 < 2 ^ r.length := by rw [List.length_cons, Nat.pow_succ] at hb; omega
      split at hp
      · simp only [Bool.false_or, Bool.and_eq_true, decide_eq_true_eq] at hp
        obtain ⟨c, hc⟩ := ih2.1 ⟨_, hb2, hp.2⟩
        exact ⟨c, .inr ⟨hp.1.symm, hc⟩⟩
      · simp only [Bool.false_or, Bool.and_eq_true, decide_eq_true_eq] at hp
        obtain ⟨c, hc⟩ := ih1.1 ⟨_, hb2, hp.2⟩
        exact ⟨c, .inl ⟨hp.1.symm, hc⟩⟩
    · rintro ⟨c, ⟨h5, hc⟩ | ⟨h5, hc⟩⟩
      · obtain ⟨b, hb, hp⟩ := ih1.2 ⟨c, hc⟩
        refine ⟨2 * b, by rw [List.length_cons, Nat.pow_succ]; omega, ?_⟩
        simp only [passP, h1, if_neg hne]
        rw [if_neg (by omega), show 2 * b / 2 = b by omega, hp, h5]
        simp
      · obtain ⟨b, hb, hp⟩ := ih2.2 ⟨c, hc⟩
        refine ⟨2 * b + 1, by rw [List.length_cons, Nat.pow_succ]; omega, ?_⟩
        simp only [passP, h1, if_neg hne]
        rw [if_pos (by omega), show (2 * b + 1) / 2 = b by omega, hp, h5]
        simp
/-- A sound route is connected where some choice of directions leads through it. -/
theorem pass_conn {l : List Ob} (hm : mapB l = true) (r : List BA) (h : ∀ s ∈ r, (wayAt l s).isSome = true) (a0 : BA) : connB l r = true ↔ ∃ b, b < 2 ^ r.length ∧ passP l b true a0 r = true := by
  rw [connB_walk]
  cases r with
  | nil => simp [passP, Walk]
  | cons s r =>
    obtain ⟨p, h1, h2, h3⟩ := way_find (mapB_uniq hm) (h s (by simp))
    have hne := wayB_ne hm (findO_some h1).1 h3
    have key : ∀ a b, passP l b false a (s :: r) = true → passP l b true a0 (s :: r) = true := by
      intro a b hp
      simp only [passP, h1, if_neg hne, Bool.true_or, Bool.true_and] at hp ⊢
      split at hp
      · rename_i e; rw [if_pos e]; exact (Bool.and_eq_true _ _ ▸ hp).2
      · rename_i e; rw [if_neg e]; exact (Bool.and_eq_true _ _ ▸ hp).2
    constructor
    · rintro ⟨a, c, hw⟩
      obtain ⟨b, hb, hp⟩ := (pass_walk hm (s :: r) a h).2 ⟨c, hw⟩
      exact ⟨b, hb, key a b hp⟩
    · rintro ⟨b, hb, hp⟩
      have : ∃ a, passP l b false a (s :: r) = true := by
        simp only [passP, h1, if_neg hne, Bool.true_or, Bool.true_and] at hp ⊢
        split at hp
        · rename_i e; exact ⟨p.refs.getLastD ⟨#[]⟩, by rw [if_pos e, hp, decide_eq_true rfl]; rfl⟩
        · rename_i e; exact ⟨p.refs.headD ⟨#[]⟩, by rw [if_neg e, hp, decide_eq_true rfl]; rfl⟩
      obtain ⟨a, ha⟩ := this
      obtain ⟨c, hw⟩ := (pass_walk hm (s :: r) a h).1 ⟨b, hb, ha⟩
      exact ⟨a, c, hw⟩
theorem soundL_way2 {l : List Ob} {k : Int} (hk : k ≠ 5) : ∀ (r : List BA) i, soundL l k i r = true → ∀ s ∈ r, (wayAt l s).isSome = true := by
  intro r
  induction r with
  | nil => intro i _ s hs; cases hs
  | cons x r ih =>
    intro i h s hs
    rw [soundL, if_neg (by rintro ⟨e, _⟩; exact hk e), Bool.and_eq_true] at h
    rcases List.mem_cons.1 hs with rfl | hs
    · exact h.1
    · exact ih _ h.2 s hs
/-- Which objects are named. -/
theorem named_route {l : List Ob} (hu : uniq l) {o : Ob} (ho : o ∈ l) (h4 : o.kind = 4) : (checkL l).any (fun x => decide (x.1 = 5) && decide (x.2 = o.id)) = (soundB l o && !connB l o.refs) := by
  rw [Bool.eq_iff_iff, List.any_eq_true]
  unfold checkL
  constructor
  · rintro ⟨x, hx, h⟩
    rw [Bool.and_eq_true, decide_eq_true_eq, decide_eq_true_eq] at h
    rcases List.mem_append.1 hx with hx | hx
    · obtain ⟨p, hp, rfl⟩ := List.mem_map.1 hx
      rw [List.mem_filter] at hp
      obtain rfl := hu.eq hp.1 ho h.2
      have := hp.2
      unfold badRoute at this
      simpa [h4] using this
    · obtain ⟨p, hp, rfl⟩ := List.mem_map.1 hx
      exact absurd h.1 (by simp)
  · intro h
    refine ⟨(5, o.id), List.mem_append_left _ (List.mem_map.2 ⟨o, List.mem_filter.2 ⟨ho, ?_⟩, rfl⟩), by simp⟩
    unfold badRoute
    simpa [h4] using h
theorem named_turn {l : List Ob} (hu : uniq l) {o : Ob} (ho : o ∈ l) (h5 : o.kind = 5) : (checkL l).any (fun x => decide (x.1 = 6) && decide (x.2 = o.id)) = (soundB l o && !meetsB l o) := by
  rw [Bool.eq_iff_iff, List.any_eq_true]
  unfold checkL
  constructor
  · rintro ⟨x, hx, h⟩
    rw [Bool.and_eq_true, decide_eq_true_eq, decide_eq_true_eq] at h
    rcases List.mem_append.1 hx with hx | hx
    · obtain ⟨p, hp, rfl⟩ := List.mem_map.1 hx
      exact absurd h.1 (by simp)
    · obtain ⟨p, hp, rfl⟩ := List.mem_map.1 hx
      rw [List.mem_filter] at hp
      obtain rfl := hu.eq hp.1 ho h.2
      have := hp.2
      unfold badTurn at this
      simpa [h5] using this
  · intro h
    refine ⟨(6, o.id), List.mem_append_right _ (List.mem_map.2 ⟨o, List.mem_filter.2 ⟨ho, ?_⟩, rfl⟩), by simp⟩
    unfold badTurn
    simpa [h5] using h
def badB (l : List Ob) (o : Ob) : Bool := badRoute l o || badTurn l o
theorem check_len (l : List Ob) : (checkL l).length = (l.filter (badB l)).length := by
  unfold checkL
  rw [List.length_append, List.length_map, List.length_map]
  have key : ∀ m : List Ob, (m.filter (badRoute l)).length + (m.filter (badTurn l)).length = (m.filter (badB l)).length := by
    intro m
    induction m with
    | nil => rfl
    | cons o m ih =>
      simp only [List.filter_cons]
      cases e1 : badRoute l o with
      | true =>
        have e2 : badTurn l o = false := by
          unfold badRoute at e1
          unfold badTurn
          simp only [Bool.and_eq_true, decide_eq_true_eq] at e1
          rw [decide_eq_false (by omega)]; rfl
        have e3 : badB l o = true := by unfold badB; rw [e1]; rfl
        simp only [e2, e3, if_true, List.length_cons, Bool.false_eq_true, if_false]
        omega
      | false =>
        have e3 : badB l o = badTurn l o := by unfold badB; rw [e1]; rfl
        rw [e3]
        cases e2 : badTurn l o with
        | true => simp only [if_true, List.length_cons, Bool.false_eq_true, if_false]; omega
        | false => simp only [Bool.false_eq_true, if_false]; omega
  exact key l
theorem badB_snoc (l : List Ob) (k : Nat) (h : k < l.length) : ((l.take (k + 1)).filter (badB l)).length = ((l.take k).filter (badB l)).length + (if badB l l[k] then 1 else 0) := by
  rw [List.take_succ_eq_append_getElem h, List.filter_append, List.length_append]
  congr 1
  simp only [List.filter_cons, List.filter_nil]
  split <;> rfl
end Go.Proofs.PlNet
