/-
  The parts of a network: their order, and what the arcs reach. No program in sight.
-/
import Derived.Test.YtpiocaomlifljaaPlainU
namespace Go.Proofs.PlNet
open Go Go.Proofs.PlLex

/-- The groups so far. -/
structure GrpI (R : BA → BA) (ids : List BA) (acc : List (BA × List BA)) : Prop where
  nodup : acc.Pairwise (fun p q => p.1 ≠ q.1)
  grp : ∀ p ∈ acc, p.2 = ids.filter (fun x => decide (R x = p.1))
  ne : ∀ p ∈ acc, p.2 ≠ []
  all : ∀ x ∈ ids, ∃ p ∈ acc, p.1 = R x
  ord : acc.Pairwise (fun p q => ltB (headR p.2) (headR q.2) = true)
theorem headR_app {r s : List BA} (h : r ≠ []) : headR (r ++ s) = headR r := by
  cases r with
  | nil => exact (h rfl).elim
  | cons x r => rfl
theorem headR_in {r : List BA} (h : r ≠ []) : headR r ∈ r := by
  cases r with
  | nil => exact (h rfl).elim
  | cons x r => exact List.mem_cons_self ..
theorem idxG_none {t : BA} {acc : List (BA × List BA)} (h : idxG t acc = none) : ∀ p ∈ acc, p.1 ≠ t := by
  induction acc with
  | nil => intro p hp; cases hp
  | cons q acc ih =>
    intro p hp e
    unfold idxG at h
    split at h
    · cases h
    · rename_i hq
      rcases List.mem_cons.1 hp with rfl | hp
      · exact hq e
      · exact ih (by simpa using h) p hp e
theorem GrpI.step {R : BA → BA} {ids : List BA} {acc : List (BA × List BA)} (h : GrpI R ids acc) (id : BA) (hid : ∀ x ∈ ids, ltB x id = true) : GrpI R (ids ++ [id]) (addG (R id) id acc) := by
  cases e : idxG (R id) acc with
  | none =>
    have hno := idxG_none e
    rw [addG_none _ _ _ e]
    have hmem : ∀ p, p ∈ acc ++ [(R id, [id])] → p ∈ acc ∨ p = (R id, [id]) := fun p hp => by
      rcases List.mem_append.1 hp with hp | hp
      · exact .inl hp
      · exact .inr (by simpa using hp)
    refine ⟨?_, fun p hp => ?_, fun p hp => ?_, fun x hx => ?_, ?_⟩
    · rw [List.pairwise_append]
      refine ⟨h.nodup, by simp, fun p hp q hq => ?_⟩
      simp only [List.mem_singleton] at hq
      subst hq
      exact hno p hp
    · rw [List.filter_append]
      rcases hmem p hp with hp | rfl
      · rw [← h.grp p hp, List.filter_cons_of_neg (by simpa using (hno p hp).symm)]
        simp
      · have : ids.filter (fun x => decide (R x = (R id, [id]).1)) = [] := by
          rw [List.filter_eq_nil_iff]
          intro x hx hc
          obtain ⟨p, hp, hp2⟩ := h.all x hx
          exact hno p hp (hp2.trans (by simpa using hc))
        rw [this]
        simp
    · rcases hmem p hp with hp | rfl
      · exact h.ne p hp
      · simp
    · rcases List.mem_append.1 hx with hx | hx
      · obtain ⟨p, hp, h2⟩ := h.all x hx
        exact ⟨p, List.mem_append_left _ hp, h2⟩
      · simp only [List.mem_singleton] at hx
        subst hx
        exact ⟨(R x, [x]), by simp, rfl⟩
    · rw [List.pairwise_append]
      refine ⟨h.ord, by simp, fun p hp q hq => ?_⟩
      simp only [List.mem_singleton] at hq
      subst hq
      refine hid _ ?_
      have h1 := headR_in (h.ne p hp)
      rw [h.grp p hp] at h1 ⊢
      exact (List.mem_filter.1 h1).1
  | some i =>
    obtain ⟨g, hg, hadd⟩ := addG_some (R id) id acc i e
    rw [hadd]
    have hi := (List.getElem?_eq_some_iff.1 hg).1
    have hgi := (List.getElem?_eq_some_iff.1 hg).2
    have hgm : (R id, g) ∈ acc := List.mem_of_getElem? hg
    have hgn := h.ne _ hgm
    have hgf := h.grp _ hgm
    simp only at hgn hgf
    have hat : ∀ j (hj : j < (acc.set i (R id, g ++ [id])).length), ((acc.set i (R id, g ++ [id]))[j]).1 = (acc[j]'(by simpa using hj)).1 ∧ headR ((acc.set i (R id, g ++ [id]))[j]).2 = headR (acc[j]'(by simpa using hj)).2 := by
      intro j hj
      rw [List.getElem_set]
      split
      · rename_i c
        subst c
        rw [hgi]
        exact ⟨rfl, headR_app hgn⟩
      · exact ⟨rfl, rfl⟩
    have hmem : ∀ p, p ∈ acc.set i (R id, g ++ [id]) → (p ∈ acc ∧ p.1 ≠ R id) ∨ p = (R id, g ++ [id]) := fun p hp => by
      obtain ⟨j, hj⟩ := List.getElem?_of_mem hp
      rw [List.getElem?_set] at hj
      split at hj
      · exact .inr (Option.some.inj hj).symm
      · rename_i hne
        refine .inl ⟨List.mem_of_getElem? hj, fun e2 => ?_⟩
        obtain ⟨hj1, hj2⟩ := List.getElem?_eq_some_iff.1 hj
        have hn := List.pairwise_iff_getElem.1 h.nodup
        rcases Nat.lt_or_gt_of_ne hne with c | c
        · exact hn i j hi hj1 c (by rw [hgi, hj2, e2])
        · exact hn j i hj1 hi c (by rw [hgi, hj2, e2])
    refine ⟨?_, fun p hp => ?_, fun p hp => ?_, fun x hx => ?_, ?_⟩
    · rw [List.pairwise_iff_getElem]
      intro a b ha hb hab
      rw [(hat a ha).1, (hat b hb).1]
      exact List.pairwise_iff_getElem.1 h.nodup a b _ _ hab
    · rw [List.filter_append]
      rcases hmem p hp with ⟨hp, hne⟩ | rfl
      · rw [← h.grp p hp, List.filter_cons_of_neg (by simpa using hne.symm)]
        simp
      · rw [← hgf]
        simp
    · rcases hmem p hp with ⟨hp, hne⟩ | rfl
      · exact h.ne p hp
      · simp
    · rcases List.mem_append.1 hx with hx | hx
      · obtain ⟨p, hp, h2⟩ := h.all x hx
        obtain ⟨j, hj1, hj2⟩ := List.getElem_of_mem hp
        refine ⟨(acc.set i (R id, g ++ [id]))[j]'(by simpa using hj1), List.getElem_mem _, ?_⟩
        rw [(hat j _).1, hj2, h2]
      · simp only [List.mem_singleton] at hx
        subst hx
        exact ⟨_, List.mem_set hi _, rfl⟩
    · rw [List.pairwise_iff_getElem]
      intro a b ha hb hab
      rw [(hat a ha).2, (hat b hb).2]
      exact List.pairwise_iff_getElem.1 h.ord a b _ _ hab
theorem grpI_of (R : BA → BA) (ids : List BA) (h : ids.Pairwise (fun a b => ltB a b = true)) : GrpI R ids (partsG R ids) := by
  have key : ∀ n, n ≤ ids.length → GrpI R (ids.take n) (partsG R (ids.take n)) := by
    intro n
    induction n with
    | zero =>
      intro _
      exact ⟨.nil, (fun _ h => nomatch h), (fun _ h => nomatch h), (fun _ h => by simp at h), .nil⟩
    | succ n ih =>
      intro hn
      have hl : n < ids.length := hn
      rw [List.take_succ_eq_append_getElem hl, partsG_snoc]
      refine (ih (by omega)).step _ (fun x hx => ?_)
      obtain ⟨j, hj1, hj2⟩ := List.getElem_of_mem hx
      rw [List.length_take] at hj1
      rw [List.getElem_take] at hj2
      rw [← hj2]
      exact List.pairwise_iff_getElem.1 h j n _ hl (by omega)
  have := key ids.length (Nat.le_refl _)
  rwa [List.take_length] at this
theorem used_sorted {l : List Ob} (h : mapB l = true) (L : List Ob) : (usedL L l).Pairwise (fun a b => ltB a b = true) := by
  unfold mapB at h
  rw [Bool.and_eq_true] at h
  unfold usedL
  rw [List.pairwise_map]
  exact (mapL_incr l _ h.1).1.filter _
theorem sorted_nodup {r : List BA} (h : r.Pairwise (fun a b => ltB a b = true)) : r.Nodup := by
  refine h.imp (fun {a b} h2 e => ?_)
  rw [e, ltB_irrefl] at h2
  cases h2
/-- The parts of a network. -/
structure PtsI (l : List Ob) (P : List (List BA)) : Prop where
  ne : ∀ r ∈ P, r ≠ []
  ord : P.Pairwise (fun r s => ltB (headR r) (headR s) = true)
  srt : ∀ r ∈ P, r.Pairwise (fun a b => ltB a b = true)
  used : ∀ r ∈ P, ∀ x ∈ r, inWays l x = true
  con : ∀ r ∈ P, ∀ x ∈ r, ∀ y, inWays l y = true → (y ∈ r ↔ Con (ER l) x y)
  all : ∀ x, inWays l x = true → ∃ r ∈ P, x ∈ r
  nodup : P.flatten.Nodup
theorem inWays_node {l : List Ob} {x : BA} (h : inWays l x = true) : isNode l x = true := by
  obtain ⟨o, ho, hx⟩ := (inWays_mem l x).1 h
  have h2 := (List.mem_filter.1 ho).2
  unfold wayB at h2
  rw [Bool.and_eq_true, List.all_eq_true] at h2
  exact h2.2 x hx
theorem mem_usedL {l : List Ob} (x : BA) : x ∈ usedL l l ↔ inWays l x = true := by
  unfold usedL
  rw [List.mem_map]
  constructor
  · rintro ⟨o, ho, rfl⟩
    have := (List.mem_filter.1 ho).2
    rw [Bool.and_eq_true] at this
    exact this.2
  · intro h
    obtain ⟨o, ho⟩ := Option.isSome_iff_exists.1 (inWays_node h)
    obtain ⟨h1, h2⟩ := findO_some ho
    have h3 := List.mem_filter.1 h1
    exact ⟨o, List.mem_filter.2 ⟨h3.1, by rw [Bool.and_eq_true]; exact ⟨h3.2, by rw [h2]; exact h⟩⟩, h2⟩
theorem pts_of {l : List Ob} (hm : mapB l = true) {R : BA → BA} (hR : ∀ x y, R x = R y ↔ Con (ER l) x y) : PtsI l ((partsG R (usedL l l)).map (·.2)) := by
  have hs := used_sorted hm l
  have h := grpI_of R (usedL l l) hs
  have hmem : ∀ r ∈ (partsG R (usedL l l)).map (·.2), ∃ t, (t, r) ∈ partsG R (usedL l l) ∧ r = (usedL l l).filter (fun x => decide (R x = t)) := by
    intro r hr
    obtain ⟨p, hp, rfl⟩ := List.mem_map.1 hr
    exact ⟨p.1, hp, h.grp p hp⟩
  refine ⟨fun r hr => ?_, ?_, fun r hr => ?_, fun r hr x hx => ?_, fun r hr x hx y hy => ?_, fun x hx => ?_, ?_⟩
  · obtain ⟨p, hp, rfl⟩ := List.mem_map.1 hr
    exact h.ne p hp
  · rw [List.pairwise_map]
    exact h.ord
  · obtain ⟨t, _, rfl⟩ := hmem r hr
    exact hs.filter _
  · obtain ⟨t, _, rfl⟩ := hmem r hr
    exact (mem_usedL x).1 (List.mem_filter.1 hx).1
  · obtain ⟨t, _, rfl⟩ := hmem r hr
    have h1 := (List.mem_filter.1 hx).2
    rw [decide_eq_true_eq] at h1
    rw [List.mem_filter, decide_eq_true_eq, ← hR, h1, mem_usedL]
    exact ⟨fun h2 => h2.2.symm, fun h2 => ⟨hy, h2.symm⟩⟩
  · obtain ⟨p, hp, h2⟩ := h.all x ((mem_usedL x).2 hx)
    refine ⟨p.2, List.mem_map.2 ⟨p, hp, rfl⟩, ?_⟩
    rw [h.grp p hp]
    exact List.mem_filter.2 ⟨(mem_usedL x).2 hx, by rw [h2]; simp⟩
  · rw [List.Nodup, List.pairwise_flatten]
    refine ⟨fun r hr => ?_, ?_⟩
    · obtain ⟨t, _, rfl⟩ := hmem r hr
      exact sorted_nodup (hs.filter _)
    · rw [List.pairwise_map]
      refine List.Pairwise.imp_of_mem ?_ h.nodup
      intro p q hp hq hne x hx y hy e
      subst e
      rw [h.grp p hp] at hx
      rw [h.grp q hq] at hy
      have h1 := (List.mem_filter.1 hx).2
      have h2 := (List.mem_filter.1 hy).2
      rw [decide_eq_true_eq] at h1 h2
      exact hne (h1.symm.trans h2)
theorem way_of {l : List Ob} (hm : mapB l = true) {o : Ob} (ho : o ∈ waysO l) : o ∈ l ∧ o.kind = 2 ∧ wayAt l o.id = some o.refs ∧ 2 ≤ o.refs.length := by
  obtain ⟨h1, h2⟩ := List.mem_filter.1 ho
  have h3 : o.kind = 2 := by
    unfold wayB at h2
    rw [Bool.and_eq_true, decide_eq_true_eq] at h2
    exact h2.1
  refine ⟨h1, h3, ?_, ?_⟩
  · unfold wayAt
    rw [show findO (waysO l) o.id = some o from findO_mem ((mapB_uniq hm).filter _) ho]
    rfl
  · have := obB_least (mapB_obs hm o h1)
    rw [h3] at this
    exact this
theorem arc_of {l : List Ob} (hm : mapB l = true) {o : Ob} (ho : o ∈ waysO l) {a b : BA} (h : nextTo o.refs a b ∨ nextTo o.refs b a) : ∃ x ∈ arcsL l, x.f = a ∧ x.t = b := by
  obtain ⟨h1, h2, h3, _⟩ := way_of hm ho
  rcases h with h | h
  · exact ⟨⟨a, b, o.id, lenA l a b⟩, mem_arcsL.2 ⟨o, h1, h2, (mem_arcsP l _ _ _).2 ⟨rfl, .inl ⟨by rw [h3]; exact h, rfl⟩⟩⟩, rfl, rfl⟩
  · exact ⟨⟨a, b, o.id, lenA l b a⟩, mem_arcsL.2 ⟨o, h1, h2, (mem_arcsP l _ _ _).2 ⟨rfl, .inr ⟨by rw [h3]; exact h, rfl⟩⟩⟩, rfl, rfl⟩
theorem arc_way {l : List Ob} {x : Ar} (hx : x ∈ arcsL l) : ∃ o ∈ waysO l, x.f ∈ o.refs ∧ x.t ∈ o.refs := by
  obtain ⟨o, ho, hk, h⟩ := mem_arcsL.1 hx
  obtain ⟨_, h⟩ := (mem_arcsP l _ _ x).1 h
  cases e : wayAt l o.id with
  | none =>
    rw [e] at h
    rcases h with ⟨⟨k, h, _⟩, _⟩ | ⟨⟨k, h, _⟩, _⟩ <;> simp at h
  | some r =>
    rw [e] at h
    simp only [Option.getD_some] at h
    obtain ⟨p, h1, h2⟩ : ∃ p, findO (waysO l) o.id = some p ∧ p.refs = r := by
      unfold wayAt at e
      obtain ⟨p, hp, h2⟩ := Option.map_eq_some_iff.1 e
      exact ⟨p, hp, h2⟩
    refine ⟨p, (findO_some h1).1, ?_⟩
    rw [h2]
    rcases h with ⟨h, _⟩ | ⟨h, _⟩
    · exact nextTo_mem h
    · exact (nextTo_mem h).symm
/-- An arc leads to a node of the same part. -/
theorem arc_con {l : List Ob} {x : Ar} (hx : x ∈ arcsL l) : inWays l x.f = true ∧ inWays l x.t = true ∧ Con (ER l) x.f x.t := by
  obtain ⟨o, ho, h1, h2⟩ := arc_way hx
  exact ⟨(inWays_mem l _).2 ⟨o, ho, h1⟩, (inWays_mem l _).2 ⟨o, ho, h2⟩, (Con.base ⟨o, ho, h1, rfl⟩).trans (.symm (.base ⟨o, ho, h2, rfl⟩))⟩
/-- Each node of a way is where an arc begins. -/
theorem arc_from {l : List Ob} (hm : mapB l = true) {x : BA} (hx : inWays l x = true) : ∃ a ∈ arcsL l, a.f = x := by
  obtain ⟨o, ho, h⟩ := (inWays_mem l x).1 hx
  obtain ⟨_, _, _, h2⟩ := way_of hm ho
  obtain ⟨k, hk, rfl⟩ := List.getElem_of_mem h
  by_cases hl : k + 1 < o.refs.length
  · obtain ⟨a, ha, h3, _⟩ := arc_of hm ho (a := o.refs[k]) (b := o.refs[k + 1]) (.inl ⟨k, List.getElem?_eq_getElem hk, List.getElem?_eq_getElem hl⟩)
    exact ⟨a, ha, h3⟩
  · obtain ⟨j, rfl⟩ : ∃ j, k = j + 1 := ⟨k - 1, by omega⟩
    obtain ⟨a, ha, h3, _⟩ := arc_of hm ho (a := o.refs[j + 1]) (b := o.refs[j]) (.inr ⟨j, List.getElem?_eq_getElem (by omega), List.getElem?_eq_getElem hk⟩)
    exact ⟨a, ha, h3⟩
/-- What is closed under the arcs is closed under being connected. -/
theorem closed_con {l : List Ob} (hm : mapB l = true) {K : BA → Prop} (h : ∀ a ∈ arcsL l, K a.f → K a.t) {x y : BA} (hc : Con (ER l) x y) : K x ↔ K y := by
  have hb : ∀ a ∈ arcsL l, K a.f ↔ K a.t := fun a ha => ⟨h a ha, fun h2 => h _ (arc_back ha) h2⟩
  induction hc with
  | refl x => exact Iff.rfl
  | symm _ ih => exact ih.symm
  | trans _ _ ih1 ih2 => exact ih1.trans ih2
  | base h' =>
    rename_i x y
    obtain ⟨o, ho, hx, rfl⟩ := h'
    obtain ⟨_, _, _, h2⟩ := way_of hm ho
    have key : ∀ k (hk : k < o.refs.length), K o.refs[k] ↔ K (o.refs[0]'(by omega)) := by
      intro k
      induction k with
      | zero => intro _; exact Iff.rfl
      | succ k ih =>
        intro hk
        rw [← ih (by omega)]
        obtain ⟨a, ha, h3, h4⟩ := arc_of hm ho (a := o.refs[k + 1]) (b := o.refs[k]) (.inr ⟨k, List.getElem?_eq_getElem (by omega), List.getElem?_eq_getElem hk⟩)
        rw [← h3, ← h4]
        exact hb a ha
    obtain ⟨k, hk, rfl⟩ := List.getElem_of_mem hx
    have h00 : ∀ (r : List BA) (hr : 0 < r.length), headR r = r[0] := by
      intro r hr
      cases r with
      | nil => simp at hr
      | cons z r => rfl
    have h0 := h00 o.refs (by omega)
    rw [h0]
    exact key k hk
theorem len_same {a b : List BA} (ha : a.Nodup) (hb : b.Nodup) (h1 : ∀ x ∈ a, x ∈ b) (h2 : ∀ x ∈ b, x ∈ a) : a.length = b.length :=
  Nat.le_antisymm (ha.length_le_of_subset h1) (hb.length_le_of_subset h2)
theorem len_le {a b : List BA} (ha : a.Nodup) (h1 : ∀ x ∈ a, x ∈ b) : a.length ≤ b.length := ha.length_le_of_subset h1
end Go.Proofs.PlNet
