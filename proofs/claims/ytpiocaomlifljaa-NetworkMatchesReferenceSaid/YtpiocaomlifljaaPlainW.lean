/-
  The parts of a network as the reference finds them: what grows from a node, way by way. No program in sight.
-/
import Derived.Test.YtpiocaomlifljaaPlainV
namespace Go.Proofs.PlNet
open Go Go.Proofs.PlLex

/-- What grows from a node. -/
structure ClI (l : List Ob) (id : BA) (P : List BA) : Prop where
  own : id ∈ P
  con : ∀ x ∈ P, Con (ER l) id x
  used : ∀ x ∈ P, inWays l x = true
  nodup : P.Nodup
def closedO (P : List BA) (o : Ob) : Prop := ∀ r ∈ o.refs, r ∈ P → ∀ s ∈ o.refs, s ∈ P
def closedP (l : List Ob) (P : List BA) : Prop := ∀ o ∈ waysO l, closedO P o
theorem ClI.one {l : List Ob} {id : BA} (h : inWays l id = true) : ClI l id [id] :=
  ⟨by simp, fun x hx => by rw [List.mem_singleton] at hx; subst hx; exact .refl _, fun x hx => by rw [List.mem_singleton] at hx; subst hx; exact h, by simp⟩
theorem ClI.more {l : List Ob} {id : BA} {P : List BA} (h : ClI l id P) {o : Ob} (ho : o ∈ waysO l) {r s : BA} (hr : r ∈ o.refs) (hrP : r ∈ P) (hs : s ∈ o.refs) (hn : ¬ s ∈ P) : ClI l id (P ++ [s]) := by
  refine ⟨List.mem_append_left _ h.own, fun x hx => ?_, fun x hx => ?_, ?_⟩
  · rcases List.mem_append.1 hx with hx | hx
    · exact h.con x hx
    · rw [List.mem_singleton] at hx; subst hx
      exact .trans (h.con r hrP) (way_con _ ho hr hs)
  · rcases List.mem_append.1 hx with hx | hx
    · exact h.used x hx
    · rw [List.mem_singleton] at hx; subst hx
      exact (inWays_mem l x).2 ⟨o, ho, hs⟩
  · rw [List.nodup_append]
    refine ⟨h.nodup, by simp, fun x hx y hy e => ?_⟩
    rw [List.mem_singleton] at hy
    subst hy
    subst e
    exact hn hx
theorem closed_iff {l : List Ob} {P : List BA} (h : closedP l P) {x y : BA} (hc : Con (ER l) x y) : x ∈ P ↔ y ∈ P := by
  induction hc with
  | refl => exact Iff.rfl
  | base he =>
    obtain ⟨o, ho, hx, rfl⟩ := he
    exact ⟨fun hp => h o ho _ hx hp _ (headR_mem hx), fun hp => h o ho _ (headR_mem hx) hp _ hx⟩
  | symm _ ih => exact ih.symm
  | trans _ _ ih1 ih2 => exact ih1.trans ih2
theorem ClI.mem {l : List Ob} {id : BA} {P : List BA} (h : ClI l id P) (hc : closedP l P) (y : BA) : y ∈ P ↔ Con (ER l) id y :=
  ⟨h.con y, fun k => (closed_iff hc k).1 h.own⟩
theorem ClI.len {l : List Ob} {id : BA} {P : List BA} (h : ClI l id P) : P.length ≤ (nodesO l).length := by
  refine Nat.le_trans (len_le h.nodup (b := usedL l l) (fun x hx => (mem_usedL x).2 (h.used x hx))) ?_
  unfold usedL nodesO
  rw [List.length_map]
  rw [show (l.filter fun o => decide (o.kind = 1) && inWays l o.id) = (l.filter fun o => decide (o.kind = 1)).filter (fun o => inWays l o.id) from by rw [List.filter_filter]; apply List.filter_congr; intro o _; rw [Bool.and_comm]]
  exact List.length_filter_le _ _

/-- The parts of the nodes so far. -/
structure PrP (l : List Ob) (M : List BA) (out : List (List BA)) : Prop where
  ne : ∀ r ∈ out, r ≠ []
  ord : out.Pairwise (fun r s => ltB (headR r) (headR s) = true)
  srt : ∀ r ∈ out, r.Pairwise (fun a b => ltB a b = true)
  used : ∀ r ∈ out, ∀ x ∈ r, inWays l x = true
  con : ∀ r ∈ out, ∀ x ∈ r, ∀ y, inWays l y = true → (y ∈ r ↔ Con (ER l) x y)
  all : ∀ x ∈ M, inWays l x = true → ∃ r ∈ out, x ∈ r
  hd : ∀ r ∈ out, headR r ∈ M
theorem PrP.nil (l : List Ob) : PrP l [] [] := ⟨(fun _ h => nomatch h), .nil, (fun _ h => nomatch h), (fun _ h => nomatch h), (fun _ h => nomatch h), (fun _ h => nomatch h), (fun _ h => nomatch h)⟩
theorem PrP.skip {l : List Ob} {M : List BA} {out : List (List BA)} {id : BA} (h : PrP l M out) (hi : inWays l id = true → ∃ r ∈ out, id ∈ r) : PrP l (M ++ [id]) out := by
  refine ⟨h.ne, h.ord, h.srt, h.used, h.con, fun x hx hw => ?_, fun r hr => List.mem_append_left _ (h.hd r hr)⟩
  rcases List.mem_append.1 hx with hx | hx
  · exact h.all x hx hw
  · rw [List.mem_singleton] at hx; subst hx; exact hi hw
/-- The nodes of a part, in order. -/
def ordL (ids P : List BA) : List BA := ids.filter (fun x => hasS x P)
theorem mem_ordL (ids P : List BA) (x : BA) : x ∈ ordL ids P ↔ x ∈ ids ∧ x ∈ P := by
  unfold ordL
  rw [List.mem_filter, hasS_mem]
theorem ordL_snoc (ids P : List BA) (k : Nat) (x : BA) (h : ids[k]? = some x) : ordL (ids.take (k + 1)) P = ordL (ids.take k) P ++ (if hasS x P then [x] else []) := by
  unfold ordL
  rw [List.take_add_one, h, List.filter_append]
  congr 1
  simp only [Option.toList_some, List.filter_cons, List.filter_nil]
def idsN (l : List Ob) : List BA := (nodesO l).map Ob.id
theorem idsN_sorted {l : List Ob} (h : mapB l = true) : (idsN l).Pairwise (fun a b => ltB a b = true) := by
  unfold mapB at h
  rw [Bool.and_eq_true] at h
  unfold idsN nodesO
  rw [List.pairwise_map]
  exact (mapL_incr l _ h.1).1.filter _
theorem mem_idsN {l : List Ob} {x : BA} (h : inWays l x = true) : x ∈ idsN l := by
  obtain ⟨o, ho⟩ := Option.isSome_iff_exists.1 (inWays_node h)
  obtain ⟨h1, h2⟩ := findO_some ho
  exact List.mem_map.2 ⟨o, h1, h2⟩
theorem head_least {r : List BA} (hs : r.Pairwise (fun a b => ltB a b = true)) {x : BA} (hx : x ∈ r) : headR r = x ∨ ltB (headR r) x = true := by
  cases r with
  | nil => cases hx
  | cons a r =>
    rcases List.mem_cons.1 hx with rfl | hx
    · exact .inl rfl
    · exact .inr ((List.pairwise_cons.1 hs).1 x hx)
theorem PrP.add {l : List Ob} {M rest : List BA} {out : List (List BA)} {id : BA} {P : List BA} (h : PrP l M out) (hs : (idsN l).Pairwise (fun a b => ltB a b = true)) (hM : idsN l = M ++ id :: rest) (hi : inWays l id = true) (hno : ∀ r ∈ out, ¬ id ∈ r) (hc : ClI l id P) (hcl : closedP l P) :
    PrP l (M ++ [id]) (out ++ [ordL (idsN l) P]) := by
  have hmem : ∀ x, x ∈ ordL (idsN l) P ↔ Con (ER l) id x ∧ inWays l x = true := fun x => by
    rw [mem_ordL]
    constructor
    · rintro ⟨_, h2⟩
      exact ⟨hc.con x h2, hc.used x h2⟩
    · rintro ⟨h1, h2⟩
      exact ⟨mem_idsN h2, (hc.mem hcl x).2 h1⟩
  have hid : id ∈ ordL (idsN l) P := (hmem id).2 ⟨.refl _, hi⟩
  have hsr : (ordL (idsN l) P).Pairwise (fun a b => ltB a b = true) := hs.filter _
  have hsplit := hs
  rw [hM, List.pairwise_append] at hsplit
  have hhead : headR (ordL (idsN l) P) = id := by
    rcases head_least hsr hid with e | hlt
    · exact e
    · exfalso
      have hin := headR_mem hid
      obtain ⟨hcn, hw⟩ := (hmem _).1 hin
      have h3 : headR (ordL (idsN l) P) ∈ M := by
        have h4 := ((mem_ordL _ _ _).1 hin).1
        generalize headR (ordL (idsN l) P) = hh at *
        rw [hM] at h4
        rcases List.mem_append.1 h4 with h5 | h5
        · exact h5
        · exfalso
          rcases List.mem_cons.1 h5 with e | h5
          · rw [e, ltB_irrefl] at hlt; cases hlt
          · have := (List.pairwise_cons.1 hsplit.2.1).1 _ h5
            have := ltB_trans hlt this
            rw [ltB_irrefl] at this; cases this
      obtain ⟨r, hr, hxr⟩ := h.all _ h3 hw
      exact hno r hr ((h.con r hr _ hxr id hi).2 (.symm hcn))
  have hcase : ∀ r, r ∈ out ++ [ordL (idsN l) P] → r ∈ out ∨ r = ordL (idsN l) P := fun r hr => by
    rcases List.mem_append.1 hr with hr | hr
    · exact .inl hr
    · exact .inr (by simpa using hr)
  refine ⟨fun r hr => ?_, ?_, fun r hr => ?_, fun r hr x hx => ?_, fun r hr x hx y hy => ?_, fun x hx hw => ?_, fun r hr => ?_⟩
  · rcases hcase r hr with hr | rfl
    · exact h.ne r hr
    · exact List.ne_nil_of_mem hid
  · rw [List.pairwise_append]
    refine ⟨h.ord, by simp, fun r hr s hs2 => ?_⟩
    rw [List.mem_singleton] at hs2
    subst hs2
    rw [hhead]
    exact hsplit.2.2 _ (h.hd r hr) _ (List.mem_cons_self ..)
  · rcases hcase r hr with hr | rfl
    · exact h.srt r hr
    · exact hsr
  · rcases hcase r hr with hr | rfl
    · exact h.used r hr x hx
    · exact ((hmem x).1 hx).2
  · rcases hcase r hr with hr | rfl
    · exact h.con r hr x hx y hy
    · rw [hmem]
      have := ((hmem x).1 hx).1
      exact ⟨fun k => .trans (.symm this) k.1, fun k => ⟨.trans this k, hy⟩⟩
  · rcases List.mem_append.1 hx with hx | hx
    · obtain ⟨r, hr, h2⟩ := h.all x hx hw
      exact ⟨r, List.mem_append_left _ hr, h2⟩
    · rw [List.mem_singleton] at hx; subst hx
      exact ⟨_, List.mem_append_right _ (List.mem_singleton.2 rfl), hid⟩
  · rcases hcase r hr with hr | rfl
    · exact List.mem_append_left _ (h.hd r hr)
    · rw [hhead]; simp
/-- Sorted lists with the same members are equal. -/
theorem sorted_ext : ∀ {a b : List BA}, a.Pairwise (fun x y => ltB x y = true) → b.Pairwise (fun x y => ltB x y = true) → (∀ x, x ∈ a ↔ x ∈ b) → a = b := by
  intro a
  induction a with
  | nil =>
    intro b _ _ h
    cases b with
    | nil => rfl
    | cons y b => exact absurd ((h y).2 (List.mem_cons_self ..)) (by simp)
  | cons x a ih =>
    intro b ha hb h
    cases b with
    | nil => exact absurd ((h x).1 (List.mem_cons_self ..)) (by simp)
    | cons y b =>
      obtain ⟨ha1, ha2⟩ := List.pairwise_cons.1 ha
      obtain ⟨hb1, hb2⟩ := List.pairwise_cons.1 hb
      have e : x = y := by
        rcases List.mem_cons.1 ((h x).1 (List.mem_cons_self ..)) with e | h1
        · exact e
        · rcases List.mem_cons.1 ((h y).2 (List.mem_cons_self ..)) with e | h2
          · exact e.symm
          · have := ltB_trans (ha1 y h2) (hb1 x h1)
            rw [ltB_irrefl] at this; cases this
      subst e
      congr 1
      refine ih ha2 hb2 (fun z => ?_)
      have nx : ∀ {c : List BA}, (∀ w ∈ c, ltB x w = true) → ¬ x ∈ c := fun hc hx => by
        have := hc x hx
        rw [ltB_irrefl] at this; cases this
      constructor
      · intro hz
        rcases List.mem_cons.1 ((h z).1 (List.mem_cons_of_mem _ hz)) with e | h1
        · subst e; exact absurd hz (nx ha1)
        · exact h1
      · intro hz
        rcases List.mem_cons.1 ((h z).2 (List.mem_cons_of_mem _ hz)) with e | h1
        · subst e; exact absurd hz (nx hb1)
        · exact h1
theorem parts_ext : ∀ {P Q : List (List BA)}, P.Pairwise (fun r s => ltB (headR r) (headR s) = true) → Q.Pairwise (fun r s => ltB (headR r) (headR s) = true) → (∀ r, r ∈ P ↔ r ∈ Q) → P = Q := by
  intro P
  induction P with
  | nil =>
    intro Q _ _ h
    cases Q with
    | nil => rfl
    | cons y b => exact absurd ((h y).2 (List.mem_cons_self ..)) (by simp)
  | cons x a ih =>
    intro b ha hb h
    cases b with
    | nil => exact absurd ((h x).1 (List.mem_cons_self ..)) (by simp)
    | cons y b =>
      obtain ⟨ha1, ha2⟩ := List.pairwise_cons.1 ha
      obtain ⟨hb1, hb2⟩ := List.pairwise_cons.1 hb
      have e : x = y := by
        rcases List.mem_cons.1 ((h x).1 (List.mem_cons_self ..)) with e | h1
        · exact e
        · rcases List.mem_cons.1 ((h y).2 (List.mem_cons_self ..)) with e | h2
          · exact e.symm
          · have := ltB_trans (ha1 y h2) (hb1 x h1)
            rw [ltB_irrefl] at this; cases this
      subst e
      congr 1
      refine ih ha2 hb2 (fun z => ?_)
      have nx : ∀ {c : List (List BA)}, (∀ w ∈ c, ltB (headR x) (headR w) = true) → ¬ x ∈ c := fun hc hx => by
        have := hc x hx
        rw [ltB_irrefl] at this; cases this
      constructor
      · intro hz
        rcases List.mem_cons.1 ((h z).1 (List.mem_cons_of_mem _ hz)) with e | h1
        · subst e; exact absurd hz (nx ha1)
        · exact h1
      · intro hz
        rcases List.mem_cons.1 ((h z).2 (List.mem_cons_of_mem _ hz)) with e | h1
        · subst e; exact absurd hz (nx hb1)
        · exact h1
theorem PrP.sub {l : List Ob} {out : List (List BA)} {P : List (List BA)} (h : PrP l (idsN l) out) (hne : ∀ r ∈ P, r ≠ []) (hsrt : ∀ r ∈ P, r.Pairwise (fun a b => ltB a b = true)) (hus : ∀ r ∈ P, ∀ x ∈ r, inWays l x = true) (hcn : ∀ r ∈ P, ∀ x ∈ r, ∀ y, inWays l y = true → (y ∈ r ↔ Con (ER l) x y)) : ∀ r ∈ P, r ∈ out := by
  intro r hr
  have hx := headR_in (hne r hr)
  have hw := hus r hr _ hx
  obtain ⟨s, hs, hxs⟩ := h.all _ (mem_idsN hw) hw
  have : r = s := sorted_ext (hsrt r hr) (h.srt s hs) (fun z => by
    constructor
    · intro hz
      have hzw := hus r hr z hz
      exact (h.con s hs _ hxs z hzw).2 ((hcn r hr _ hx z hzw).1 hz)
    · intro hz
      have hzw := h.used s hs z hz
      exact (hcn r hr _ hx z hzw).2 ((h.con s hs _ hxs z hzw).1 hz))
  rw [this]
  exact hs
theorem PrP.unique {l : List Ob} {out P : List (List BA)} (h : PrP l (idsN l) out) (k : PtsI l P) : out = P := by
  refine parts_ext h.ord k.ord (fun r => ⟨fun hr => ?_, h.sub k.ne k.srt k.used k.con r⟩)
  have hx := headR_in (h.ne r hr)
  have hw := h.used r hr _ hx
  obtain ⟨s, hs, hxs⟩ := k.all _ hw
  have : r = s := sorted_ext (h.srt r hr) (k.srt s hs) (fun z => by
    constructor
    · intro hz
      have hzw := h.used r hr z hz
      exact (k.con s hs _ hxs z hzw).2 ((h.con r hr _ hx z hzw).1 hz)
    · intro hz
      have hzw := k.used s hs z hz
      exact (h.con r hr _ hx z hzw).2 ((k.con s hs _ hxs z hzw).1 hz))
  rw [this]
  exact hs
/-- The nodes of the parts so far. -/
structure DnI (l : List Ob) (D : List BA) (out : List (List BA)) : Prop where
  mem : ∀ x, inWays l x = true → (x ∈ D ↔ ∃ r ∈ out, x ∈ r)
  used : ∀ x ∈ D, inWays l x = true
  nodup : D.Nodup
theorem DnI.nil (l : List Ob) : DnI l [] [] := ⟨fun x _ => by simp, (fun _ h => nomatch h), by simp⟩
theorem DnI.add {l : List Ob} {M D : List BA} {out : List (List BA)} {id : BA} {P : List BA} (h : DnI l D out) (hp : PrP l M out) (hi : inWays l id = true) (hno : ∀ r ∈ out, ¬ id ∈ r) (hc : ClI l id P) : DnI l (D ++ P) (out ++ [ordL (idsN l) P]) := by
  refine ⟨fun x hx => ?_, fun x hx => ?_, ?_⟩
  · rw [List.mem_append, h.mem x hx]
    constructor
    · rintro (⟨r, hr, h2⟩ | h2)
      · exact ⟨r, List.mem_append_left _ hr, h2⟩
      · exact ⟨_, List.mem_append_right _ (List.mem_singleton.2 rfl), (mem_ordL _ _ _).2 ⟨mem_idsN hx, h2⟩⟩
    · rintro ⟨r, hr, h2⟩
      rcases List.mem_append.1 hr with hr | hr
      · exact .inl ⟨r, hr, h2⟩
      · rw [List.mem_singleton] at hr; subst hr
        exact .inr ((mem_ordL _ _ _).1 h2).2
  · rcases List.mem_append.1 hx with hx | hx
    · exact h.used x hx
    · exact hc.used x hx
  · rw [List.nodup_append]
    refine ⟨h.nodup, hc.nodup, fun x hx y hy e => ?_⟩
    subst e
    obtain ⟨r, hr, hxr⟩ := (h.mem x (h.used x hx)).1 hx
    exact hno r hr ((hp.con r hr x hxr id hi).2 (.symm (hc.con x hy)))
theorem DnI.len {l : List Ob} {D : List BA} {out : List (List BA)} (h : DnI l D out) : D.length ≤ (nodesO l).length := by
  have := len_le h.nodup (b := idsN l) (fun x hx => mem_idsN (h.used x hx))
  unfold idsN at this
  rwa [List.length_map] at this
theorem PrP.len {l : List Ob} {M : List BA} {out : List (List BA)} (h : PrP l M out) : out.length ≤ M.length := by
  have hnd : (out.map headR).Nodup := by
    rw [List.Nodup, List.pairwise_map]
    exact h.ord.imp (fun {a b} h2 e => by rw [e, ltB_irrefl] at h2; cases h2)
  have := len_le hnd (b := M) (fun x hx => by obtain ⟨r, hr, rfl⟩ := List.mem_map.1 hx; exact h.hd r hr)
  rwa [List.length_map] at this
end Go.Proofs.PlNet
