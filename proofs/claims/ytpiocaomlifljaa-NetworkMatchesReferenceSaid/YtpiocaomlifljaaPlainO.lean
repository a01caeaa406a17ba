/-
  What stays of a network without tags, areas and nodes that nothing refers to. No program in sight.
-/
import Derived.Test.YtpiocaomlifljaaPlainT
import Derived.Test.YtpiocaomlifljaaPlain5
namespace Go.Proofs.PlNet
open Go Go.Proofs.PlLex

/-- Does an object refer to an Id? -/
def refd (l : List Ob) (s : BA) : Bool := l.any (fun o => hasS s o.refs)
def keepO (l : List Ob) (o : Ob) : Bool := decide (o.kind ≠ 3) && (decide (o.kind ≠ 1) || refd l o.id)
def bareO (o : Ob) : Ob := { o with tags := [] }
def bareL (l : List Ob) : List Ob := (l.filter (keepO l)).map bareO
theorem refd_of {l : List Ob} {o : Ob} (ho : o ∈ l) {s : BA} (hs : s ∈ o.refs) : refd l s = true := by
  unfold refd
  rw [List.any_eq_true]
  exact ⟨o, ho, (hasS_mem s o.refs).2 hs⟩
theorem mem_bare {l : List Ob} {o' : Ob} : o' ∈ bareL l ↔ ∃ o ∈ l, keepO l o = true ∧ o' = bareO o := by
  unfold bareL
  rw [List.mem_map]
  constructor
  · rintro ⟨o, h, rfl⟩
    rw [List.mem_filter] at h
    exact ⟨o, h.1, h.2, rfl⟩
  · rintro ⟨o, h1, h2, rfl⟩
    exact ⟨o, List.mem_filter.2 ⟨h1, h2⟩, rfl⟩
theorem keep_of {l : List Ob} {o : Ob} (h3 : o.kind ≠ 3) (h1 : o.kind = 1 → refd l o.id = true) : keepO l o = true := by
  unfold keepO
  by_cases e : o.kind = 1
  · simp [h1 e]; omega
  · simp [e, h3]
theorem bare_ob {o : Ob} (h : obB o = true) : obB (bareO o) = true := by
  unfold obB headB tailB bareO at *
  simp only [Bool.and_eq_true] at *
  refine ⟨⟨⟨⟨⟨h.1.1.1.1.1, ?_⟩, h.1.1.1.2⟩, h.1.1.2⟩, h.1.2⟩, h.2⟩
  rfl
theorem bare_mapB {l : List Ob} (h : mapB l = true) : mapB (bareL l) = true := by
  unfold mapB at h ⊢
  rw [Bool.and_eq_true, decide_eq_true_eq] at h ⊢
  obtain ⟨h1, h2, h3⟩ := mapL_incr l _ h.1
  refine ⟨mapL_of _ _ ?_ (fun o ho => ?_) (fun o ho => ?_), ?_⟩
  · unfold bareL
    rw [List.pairwise_map]
    exact List.Pairwise.filter _ h1
  · obtain ⟨p, hp, _, rfl⟩ := mem_bare.1 ho
    exact h2 p hp
  · obtain ⟨p, hp, _, rfl⟩ := mem_bare.1 ho
    exact bare_ob (h3 p hp)
  · unfold bareL
    rw [List.length_map]
    exact Nat.le_trans (List.length_filter_le _ _) h.2
theorem filt_bare {K P P' : Ob → Bool} (l : List Ob) (h1 : ∀ o ∈ l, P o = true → K o = true) (h2 : ∀ o ∈ l, K o = true → P' (bareO o) = P o) : (((l.filter K).map bareO).filter P') = (l.filter P).map bareO := by
  induction l with
  | nil => rfl
  | cons o l ih =>
    have ih := ih (fun o ho => h1 o (by simp [ho])) (fun o ho => h2 o (by simp [ho]))
    have e1 := h1 o (by simp)
    have e2 := h2 o (by simp)
    cases ep : P o with
    | true =>
      rw [List.filter_cons_of_pos (e1 ep), List.map_cons, List.filter_cons_of_pos (by rw [e2 (e1 ep), ep]), List.filter_cons_of_pos ep, List.map_cons, ih]
    | false =>
      rw [List.filter_cons_of_neg (p := P) (by rw [ep]; simp)]
      cases ek : K o with
      | true => rw [List.filter_cons_of_pos ek, List.map_cons, List.filter_cons_of_neg (by rw [e2 ek, ep]; simp), ih]
      | false => rw [List.filter_cons_of_neg (by rw [ek]; simp), ih]
theorem find_bare (m : List Ob) (s : BA) : findO (m.map bareO) s = (findO m s).map bareO := by
  unfold findO
  rw [List.find?_map]
  rfl
theorem bare_nodes (l : List Ob) (s : BA) (hs : refd l s = true) : findO (nodesO (bareL l)) s = (findO (nodesO l) s).map bareO := by
  have e : nodesO (bareL l) = ((l.filter (fun o => decide (o.kind = 1) && refd l o.id))).map bareO := by
    unfold nodesO bareL
    refine filt_bare l (fun o _ h => ?_) (fun o _ hk => ?_)
    · simp only [Bool.and_eq_true, decide_eq_true_eq] at h
      exact keep_of (by omega) (fun _ => h.2)
    · unfold keepO at hk
      by_cases h1 : o.kind = 1
      · simpa [h1, bareO] using hk
      · simp [h1, bareO]
  rw [e, find_bare]
  congr 1
  unfold findO nodesO
  rw [List.find?_filter, List.find?_filter]
  congr 1
  funext o
  by_cases h : o.id = s
  · subst h; simp [hs]
  · simp [h]
theorem bare_isNode (l : List Ob) (s : BA) (hs : refd l s = true) : isNode (bareL l) s = isNode l s := by
  unfold isNode
  rw [bare_nodes l s hs, Option.isSome_map]
theorem bare_nodeAt (l : List Ob) (s : BA) (hs : refd l s = true) : nodeAt (bareL l) s = nodeAt l s := by
  unfold nodeAt
  rw [bare_nodes l s hs, Option.map_map]
  rfl
theorem all_congr {r : List BA} {f g : BA → Bool} (h : ∀ s ∈ r, f s = g s) : r.all f = r.all g := by
  rw [Bool.eq_iff_iff, List.all_eq_true, List.all_eq_true]
  exact ⟨fun h2 s hs => by rw [← h s hs]; exact h2 s hs, fun h2 s hs => by rw [h s hs]; exact h2 s hs⟩
theorem bare_wayB (l : List Ob) {o : Ob} (ho : o ∈ l) : wayB (bareL l) (bareO o) = wayB l o := by
  unfold wayB
  show (decide (o.kind = 2) && o.refs.all (isNode (bareL l))) = _
  congr 1
  exact all_congr fun s hs => bare_isNode l s (refd_of ho hs)
theorem bare_ways (l : List Ob) : waysO (bareL l) = (waysO l).map bareO := by
  unfold waysO
  refine filt_bare l (fun o _ h => ?_) (fun o ho _ => bare_wayB l ho)
  unfold wayB at h
  rw [Bool.and_eq_true, decide_eq_true_eq] at h
  exact keep_of (by omega) (by omega)
theorem bare_wayAt (l : List Ob) (s : BA) : wayAt (bareL l) s = wayAt l s := by
  unfold wayAt
  rw [bare_ways, find_bare, Option.map_map]
  rfl
theorem bare_soundL (l : List Ob) (k : Int) (r : List BA) : ∀ i, (∀ s ∈ r, refd l s = true) → soundL (bareL l) k i r = soundL l k i r := by
  induction r with
  | nil => intro i _; rfl
  | cons s r ih =>
    intro i h
    simp only [soundL, bare_wayAt, bare_isNode l s (h s (by simp)), ih (i + 1) (fun x hx => h x (by simp [hx]))]
theorem bare_sound (l : List Ob) {o : Ob} (ho : o ∈ l) : soundB (bareL l) (bareO o) = soundB l o :=
  bare_soundL l o.kind o.refs 0 (fun _ hs => refd_of ho hs)
theorem bare_firstN (l : List Ob) : firstN (bareL l) = firstN l := by funext s; unfold firstN; rw [bare_wayAt]
theorem bare_lastN (l : List Ob) : lastN (bareL l) = lastN l := by funext s; unfold lastN; rw [bare_wayAt]
theorem bare_conn (l : List Ob) (r : List BA) : connB (bareL l) r = connB l r := by
  rw [Bool.eq_iff_iff, connB_walk, connB_walk, bare_firstN, bare_lastN]
theorem bare_check (l : List Ob) : checkL (bareL l) = checkL l := by
  have e1 : (bareL l).filter (badRoute (bareL l)) = (l.filter (badRoute l)).map bareO := by
    refine filt_bare l (fun o _ h => ?_) (fun o ho _ => ?_)
    · unfold badRoute at h
      simp only [Bool.and_eq_true, decide_eq_true_eq] at h
      exact keep_of (by omega) (by omega)
    · unfold badRoute
      rw [bare_sound l ho]
      show (decide (o.kind = 4) && soundB l o && !connB (bareL l) o.refs) = _
      rw [bare_conn]
  have e2 : (bareL l).filter (badTurn (bareL l)) = (l.filter (badTurn l)).map bareO := by
    refine filt_bare l (fun o _ h => ?_) (fun o ho _ => ?_)
    · unfold badTurn at h
      simp only [Bool.and_eq_true, decide_eq_true_eq] at h
      exact keep_of (by omega) (by omega)
    · unfold badTurn
      rw [bare_sound l ho]
      have : meetsB (bareL l) (bareO o) = meetsB l o := by
        unfold meetsB
        rw [bare_wayAt, bare_wayAt]
        rfl
      rw [this]
      rfl
  unfold checkL
  rw [e1, e2, List.map_map, List.map_map]
  rfl
theorem bare_arcsP (l : List Ob) (id : BA) (r : List BA) (h : ∀ s ∈ r, refd l s = true) : arcsP (bareL l) id r = arcsP l id r := by
  induction r with
  | nil => rfl
  | cons a r ih =>
    cases r with
    | nil => rfl
    | cons b r =>
      have ih := ih (fun s hs => h s (by simp [hs]))
      have e : lenA (bareL l) a b = lenA l a b := by
        unfold lenA ptAt
        rw [bare_nodeAt l a (h a (by simp)), bare_nodeAt l b (h b (by simp))]
      simp only [arcsP, ih, e]
theorem bare_arcsO (l : List Ob) (o : Ob) : arcsO (bareL l) (bareO o) = arcsO l o := by
  unfold arcsO
  show (if o.kind = 2 then arcsP (bareL l) o.id ((wayAt (bareL l) o.id).getD []) else []) = _
  rw [bare_wayAt]
  split
  · refine bare_arcsP l _ _ (fun s hs => ?_)
    cases e : wayAt l o.id with
    | none => rw [e] at hs; cases hs
    | some r =>
      rw [e] at hs
      obtain ⟨p, hp, _, _, hr, _⟩ := wayAt_some e
      exact refd_of hp (by rw [hr]; exact hs)
  · rfl
theorem bare_arcs (l : List Ob) : arcsL (bareL l) = arcsL l := by
  have key : ∀ m : List Ob, ((m.filter (keepO l)).map bareO).flatMap (arcsO (bareL l)) = m.flatMap (arcsO l) := by
    intro m
    induction m with
    | nil => rfl
    | cons o m ih =>
      cases e : keepO l o with
      | true => rw [List.filter_cons_of_pos e, List.map_cons, List.flatMap_cons, List.flatMap_cons, ih, bare_arcsO]
      | false =>
        rw [List.filter_cons_of_neg (by rw [e]; simp), List.flatMap_cons, ih]
        have : arcsO l o = [] := by
          unfold arcsO
          rw [if_neg]
          intro hk
          rw [keep_of (by omega) (by omega)] at e
          cases e
        rw [this, List.nil_append]
  unfold arcsL allArcs bareL
  have := key l
  unfold bareL at this
  rw [this]
theorem bare_inWays (l : List Ob) (x : BA) : inWays (bareL l) x = inWays l x := by
  rw [Bool.eq_iff_iff, inWays_mem, inWays_mem, bare_ways]
  constructor
  · rintro ⟨o', ho, hx⟩
    obtain ⟨o, ho2, rfl⟩ := List.mem_map.1 ho
    exact ⟨o, ho2, hx⟩
  · rintro ⟨o, ho, hx⟩
    exact ⟨bareO o, List.mem_map.2 ⟨o, ho, rfl⟩, hx⟩
theorem bare_ER (l : List Ob) (x y : BA) : ER l x y ↔ ER (bareL l) x y := by
  unfold ER
  rw [bare_ways]
  constructor
  · rintro ⟨o, ho, hx, hy⟩
    exact ⟨bareO o, List.mem_map.2 ⟨o, ho, rfl⟩, hx, hy⟩
  · rintro ⟨o', ho, hx, hy⟩
    obtain ⟨o, ho2, rfl⟩ := List.mem_map.1 ho
    exact ⟨o, ho2, hx, hy⟩
theorem bare_used (l : List Ob) : usedL (bareL l) (bareL l) = usedL l l := by
  have e : (bareL l).filter (fun o => decide (o.kind = 1) && inWays (bareL l) o.id) = (l.filter (fun o => decide (o.kind = 1) && inWays l o.id)).map bareO := by
    refine filt_bare l (fun o _ h => ?_) (fun o _ _ => ?_)
    · rw [Bool.and_eq_true, decide_eq_true_eq] at h
      refine keep_of (by omega) (fun _ => ?_)
      obtain ⟨p, hp, hx⟩ := (inWays_mem l _).1 h.2
      exact refd_of (List.mem_filter.1 hp).1 hx
    · rw [bare_inWays]
      rfl
  unfold usedL
  rw [e, List.map_map]
  rfl
theorem bare_parts {l : List Ob} {R R' : BA → BA} (h : ∀ x y, R x = R y ↔ Con (ER l) x y) (h' : ∀ x y, R' x = R' y ↔ Con (ER (bareL l)) x y) : (partsG R (usedL l l)).map (·.2) = (partsG R' (usedL (bareL l) (bareL l))).map (·.2) :=
  parts_eq h h' (con_iff (bare_ER l)) (bare_used l).symm
end Go.Proofs.PlNet
