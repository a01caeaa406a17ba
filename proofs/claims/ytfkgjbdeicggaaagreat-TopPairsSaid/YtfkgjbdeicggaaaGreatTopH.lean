/-
  The parcel's small functions, walked: nodes, point; texts in order.
-/
import Derived.Test.YtfkgjbdeicggaaaGreatTopG
namespace Go.Proofs.YtfkgjbdeicggaaaGreat
open Go.RowKit Go.Proofs.PlLex Go.Proofs.PlNet Go.Proofs.PlMap Go.Proofs.PlGeom Go.Proofs.PlTop
attribute [local go_sem] Oper.semAt_some run_makeMap

/-- How texts are compared. -/
def cmpS (a b : BA) : Int := if ltB a b = true then -1 else if ltB b a = true then 1 else 0
set_option maxRecDepth 100000 in
theorem nans_any (a : BA) (w : World) : Calls Tryz.prog 143 #[.string a] w fun e w' => e = .returned (.bool false) ∧ w = w' := by
  have ea := eqS (rfl : a = a)
  go_enter Tryz.func143, Tryz.ntmps143
  go_wp2_with fail
  go_ret
  exact ⟨rfl, rfl⟩
set_option maxRecDepth 100000 in
set_option maxHeartbeats 4000000 in
theorem cmps_any (a b : BA) (w : World) : Calls Tryz.prog 92 #[.string a, .string b] w fun e w' => e = .returned (.int .i64 (cmpS a b)) ∧ w = w' := by
  unfold cmpS
  cases h1 : ltB a b with
  | true =>
    rw [if_pos rfl]
    unfold ltB at h1
    go_enter Tryz.func92, Tryz.ntmps92
    go_wp2_with (go_at_call 143; refine (nans_any _ _).mono ?_; rintro _ _ ⟨rfl, rfl⟩)
    go_ret
    exact ⟨rfl, rfl⟩
  | false =>
    rw [if_neg (by simp)]
    unfold ltB at h1
    cases h2 : ltB b a with
    | true =>
      rw [if_pos rfl]
      obtain ⟨n1, n2⟩ := neS (show a ≠ b from fun e => by rw [e, ltB_irrefl] at h2; cases h2)
      unfold ltB at h2
      go_enter Tryz.func92, Tryz.ntmps92
      go_wp2_with (go_at_call 143; refine (nans_any _ _).mono ?_; rintro _ _ ⟨rfl, rfl⟩)
      go_ret
      exact ⟨rfl, rfl⟩
    | false =>
      rw [if_neg (by simp)]
      obtain rfl : a = b := by
        rcases Classical.em (a = b) with e | e
        · exact e
        · rw [ltB_tri h1 e] at h2; cases h2
      have ea := eqS (rfl : a = a)
      go_enter Tryz.func92, Tryz.ntmps92
      go_wp2_with (go_at_call 143; refine (nans_any _ _).mono ?_; rintro _ _ ⟨rfl, rfl⟩)
      go_ret
      exact ⟨rfl, rfl⟩
theorem cmpS_lt (a b : BA) : cmpS a b < 0 ↔ ltB a b = true := by
  unfold cmpS
  cases ltB a b <;> cases ltB b a <;> simp
theorem cmpS_zero (a b : BA) : cmpS a b = 0 ↔ a = b := by
  unfold cmpS
  cases h1 : ltB a b with
  | true =>
    simp only [if_true]
    refine ⟨fun h => by omega, fun e => ?_⟩
    rw [e, ltB_irrefl] at h1
    cases h1
  | false =>
    cases h2 : ltB b a with
    | true =>
      refine ⟨fun h => by simp at h, fun e => ?_⟩
      rw [e, ltB_irrefl] at h2
      cases h2
    | false =>
      refine ⟨fun _ => ?_, fun _ => by simp⟩
      rcases Classical.em (a = b) with e | e
      · exact e
      · rw [ltB_tri h1 e] at h2
        cases h2
/-- How pairs of texts are compared. -/
def cfP (p q : Pr) : Int := if cmpS p.1 q.1 = 0 then cmpS p.2 q.2 else cmpS p.1 q.1
theorem cfP_lt (p q : Pr) : cfP p q < 0 ↔ ltP p q := by
  unfold cfP ltP
  by_cases h : cmpS p.1 q.1 = 0
  · rw [if_pos h, cmpS_lt]
    rw [cmpS_zero] at h
    rw [h, ltB_irrefl]
    simp
  · rw [if_neg h, cmpS_lt]
    rw [cmpS_zero] at h
    simp [h]
set_option maxRecDepth 100000 in
set_option maxHeartbeats 8000000 in
theorem compare_four (g c : Nat) (p q : Pr) (w : World) (h0 : w.cell? ⟨g, 0, none⟩ = some (.string p.1)) (h1 : w.cell? ⟨g, 1, none⟩ = some (.string q.1)) (h2 : w.cell? ⟨g, 2, none⟩ = some (.string p.2)) (h3 : w.cell? ⟨g, 3, none⟩ = some (.string q.2)) :
    Calls Tryz.prog 88 #[.slice (some ⟨g, 0, none⟩) 4 c] w fun e w' => e = .returned (.int .i64 (cfP p q)) ∧ Grows w w' := by
  have HX := hide (fun W => (cmps_any p.1 q.1 W).mono (fun _ _ h => (⟨h.1, h.2.symm⟩ : _ ∧ _)))
  have HY := hide (fun W => (cmps_any p.2 q.2 W).mono (fun _ _ h => (⟨h.1, h.2.symm⟩ : _ ∧ _)))
  unfold cfP
  obtain ⟨p1, p2⟩ := p
  obtain ⟨q1, q2⟩ := q
  simp only at h0 h1 h2 h3 HX HY ⊢
  generalize cmpS p1 q1 = x at *
  generalize cmpS p2 q2 = y at *
  by_cases hx : x = 0
  · rw [if_pos hx]
    subst hx
    by_cases hy : y = 0
    · subst hy
      go_enter Tryz.func88, Tryz.ntmps88
      go_wp2_with fail
      refine wp_loop_rounds 3 ?_
      rw [rounds_succ]
      go_wp2_with fail
      go_quiet (first | (go_at_call 92; exact Calls.quiet_of_same (HX.out _)))
      have h2' : (w.drewN nq).cell? ⟨g, 2, none⟩ = some (.string p2) := h2
      have h3' : (w.drewN nq).cell? ⟨g, 3, none⟩ = some (.string q2) := h3
      have HG1 : Hid (Grows w (w.drewN nq)) := hide ((Grows.refl _).drewN _)
      clear h0 h1 h2 h3
      generalize w.drewN nq = w2 at *
      go_wp2_with fail
      rw [rounds_succ]
      go_wp2_with fail
      go_quiet (first | (go_at_call 92; exact Calls.quiet_of_same (HY.out _)))
      go_wp2_with fail
      rw [rounds_succ]
      go_wp2_with fail
      go_ret
      exact ⟨rfl, HG1.out.drewN _⟩
    · have e1 : (y == 0) = false := beq_eq_false_iff_ne.2 hy
      have e2 : (y != 0) = true := by rw [bne, e1]; rfl
      clear hy
      go_enter Tryz.func88, Tryz.ntmps88
      go_wp2_with fail
      refine wp_loop_rounds 3 ?_
      rw [rounds_succ]
      go_wp2_with fail
      go_quiet (first | (go_at_call 92; exact Calls.quiet_of_same (HX.out _)))
      have h2' : (w.drewN nq).cell? ⟨g, 2, none⟩ = some (.string p2) := h2
      have h3' : (w.drewN nq).cell? ⟨g, 3, none⟩ = some (.string q2) := h3
      have HG1 : Hid (Grows w (w.drewN nq)) := hide ((Grows.refl _).drewN _)
      clear h0 h1 h2 h3
      generalize w.drewN nq = w2 at *
      go_wp2_with fail
      rw [rounds_succ]
      go_wp2_with fail
      go_quiet (first | (go_at_call 92; exact Calls.quiet_of_same (HY.out _)))
      go_wp2_with fail
      go_ret
      exact ⟨rfl, HG1.out.drewN _⟩
  · rw [if_neg hx]
    have e1 : (x == 0) = false := beq_eq_false_iff_ne.2 hx
    have e2 : (x != 0) = true := by rw [bne, e1]; rfl
    clear hx
    go_enter Tryz.func88, Tryz.ntmps88
    go_wp2_with fail
    refine wp_loop_rounds 3 ?_
    rw [rounds_succ]
    go_wp2_with fail
    go_quiet (first | (go_at_call 92; exact Calls.quiet_of_same (HX.out _)))
    go_wp2_with fail
    go_ret
    exact ⟨rfl, (Grows.refl _).drewN _⟩
/-- The closure of nodes: is a reference no node? -/
def pcB (w0 W : World) (l : List Ob) (bp : Nat) : Prop := ∃ v bm ml, W.heap[bp]? = some (.cells #[v, .map (some bm)] 81 (0, 0)) ∧ MapI W v l ∧ MapS W bm ml ∧ (∀ s, getL ml s = (findN s l).map (fun i => Value.int .i64 (i : Nat))) ∧ Below w0.heap.size w0 W
theorem pcB.below {w0 W W' : World} {l : List Ob} {bp : Nat} (h : pcB w0 W l bp) (hb : Below W.heap.size W W') : pcB w0 W' l bp := by
  obtain ⟨v, bm, ml, h1, h2, h3, h4, h5⟩ := h
  exact ⟨v, bm, ml, blkB hb h1, h2.below hb, h3.kept (bgrow hb) (by simp), h4, bto h5 hb⟩
theorem pcB.self {w0 W : World} {l : List Ob} {bp : Nat} (h : pcB w0 W l bp) : pcB W W l bp := by
  obtain ⟨v, bm, ml, h1, h2, h3, h4, h5⟩ := h
  exact ⟨v, bm, ml, h1, h2, h3, h4, Below.refl _ _⟩
theorem zero_int2 (w : World) : (zeroValue 3).run Tryz.prog w = .ok (.int .i64 0) w := by kernel_rfl
set_option maxRecDepth 100000 in
set_option maxHeartbeats 4000000 in
theorem notnode_any (l : List Ob) (hu : uniq l) (bp : Nat) (s : BA) (hs : s.size ≤ 100000) (w : World) (h : pcB w w l bp) :
    Calls Tryz.prog 131 #[.string s, .pointer (some ⟨bp, 0, none⟩)] w fun e w' => e = .returned (.bool (!isNode l s)) ∧ Below w.heap.size w w' := by
  obtain ⟨v, bm, ml, hb, hi, hm, hf, _⟩ := h
  have hsz : s.size ≤ maxLen := Nat.le_trans hs (by unfold maxLen; omega)
  have hlook : (Instr.lookup 37 (.map (some bm)) (.string s) true).run Tryz.prog w = _ := hm.look_ok Tryz.underlying37 zero_int2 (x := s) hsz
  rw [hf] at hlook
  have b0 := (blk2 hb).1.1
  have b1 := (blk2 hb).1.2
  have HN := hide (find_node hu s)
  cases e : findN s l with
  | none =>
    have hz : findO l s = none := by
      cases e2 : findO l s with
      | none => rfl
      | some o =>
        obtain ⟨h1, h2⟩ := findO_some e2
        exact absurd h2 (findN_none s l e o h1)
    rw [hz] at HN
    rw [e] at hlook
    simp only [Option.map_none, Option.getD_none, Option.isSome_none] at hlook
    have HN2 := hide (show (true : Bool) = !isNode l s by rw [HN.out]; rfl)
    clear hz e hf HN hm hi hu
    go_enter Tryz.func131, Tryz.ntmps131
    go_wp2_with fail
    go_ret
    exact ⟨ret_bool HN2.out, Below.refl _ _⟩
  | some i =>
    obtain ⟨o, h1, h2, h3, h4⟩ := findN_some s l i e
    rw [h4] at HN
    rw [e] at hlook
    simp only [Option.map_some, Option.getD_some, Option.isSome_some] at hlook
    obtain ⟨A, c, rfl, _, hA⟩ := hi.obs
    obtain ⟨g, off, rfl, hg, hp⟩ := hA.resolve_left (by rintro rfl; simp at h3)
    obtain ⟨rv, tv, hoa⟩ := hp i _ h1
    have c1 := hoa.c1
    have i0 : (0 : Int) ≤ (i : Int) := by omega
    have i1 : (i : Int) < l.length := by omega
    have HL := hide hi.len
    clear hp hoa hA hi hm hf hu h1 h2 h3 h4 e hg
    by_cases hk : o.kind = 1
    · have HN2 := hide (show (false : Bool) = !isNode l s by rw [HN.out]; simp [hk])
      rw [hk] at c1
      clear HN
      go_enter Tryz.func131, Tryz.ntmps131
      go_wp2_with fail
      go_ret
      exact ⟨ret_bool HN2.out, Below.refl _ _⟩
    · have HN2 := hide (show (true : Bool) = !isNode l s by rw [HN.out]; simp [hk])
      have e1 : (o.kind == 1) = false := beq_eq_false_iff_ne.2 hk
      have e2 : (o.kind != 1) = true := by rw [bne, e1]; rfl
      clear HN
      go_enter Tryz.func131, Tryz.ntmps131
      go_wp2_with fail
      go_ret
      exact ⟨ret_bool HN2.out, Below.refl _ _⟩
/-- A map of a small size. -/
def smallL (l : List Ob) : Prop := l.length ≤ 20 ∧ ∀ o ∈ l, o.id.size ≤ 60 ∧ o.refs.length ≤ 12 ∧ ∀ s ∈ o.refs, s.size ≤ 60
theorem small_few {l : List Ob} (h : fewM 20 l = true) : smallL l := by
  unfold fewM at h
  rw [Bool.and_eq_true, decide_eq_true_eq, List.all_eq_true] at h
  refine ⟨h.1, fun o ho => ?_⟩
  have h2 := h.2 o ho
  unfold fewO fewR at h2
  simp only [Bool.and_eq_true, decide_eq_true_eq, List.all_eq_true] at h2
  exact ⟨h2.1.2, h2.1.1.1, h2.2.1⟩
set_option maxRecDepth 100000 in
set_option maxHeartbeats 8000000 in
theorem index_nodes (l : List Ob) (hu : uniq l) (bp : Nat) (w : World) (h : pcB w w l bp) (r : List BA) (v : Value) (hr : StS w v r) (hl : r.length ≤ 100000) (hs : ∀ s ∈ r, s.size ≤ 100000) :
    Calls Tryz.prog 130 #[v, .func (.func 131) #[] #[.pointer (some ⟨bp, 0, none⟩)]] w fun e w' => ∃ i : Int, e = .returned (.int .i64 i) ∧ decide (0 ≤ i) = r.any (fun s => !isNode l s) ∧ Below w.heap.size w w' := by
  have HT := hide h
  have HOK := hide hs
  have HU := hide hu
  obtain ⟨A, c, rfl, _, hA⟩ := hr
  have HA := hide hA
  obtain ⟨R, hR⟩ : ∃ R, r.any (fun s => !isNode l s) = R := ⟨_, rfl⟩
  rw [hR]
  have HR := hide hR
  clear hA hR h hu hs
  go_enter Tryz.func130, Tryz.ntmps130
  go_wp2_with fail
  go_loopw [8] (fun i wr => ∃ (k : Nat), k ≤ r.length ∧ i = .int .i64 k ∧ Hid (Below w.heap.size w wr) ∧ Hid ((r.drop k).any (fun s => !isNode l s) = R)) (fun i _ => r.length - (intOf i).toNat)
  case atStart => exact ⟨0, Nat.zero_le _, rfl, Below.refl _ _, HR⟩
  case round =>
    obtain ⟨k, hk, rfl, hw, hr⟩ := hrel
    by_cases hlt : k < r.length
    · obtain ⟨g, off, rfl, hg, hp⟩ := HA.out.resolve_left (by rintro rfl; simp at hlt)
      have c1 := (hp.below hg hw.out) k _ (List.getElem?_eq_getElem hlt)
      have hr2 := hr.out
      rw [List.drop_eq_getElem_cons hlt, List.any_cons] at hr2
      have hok := HOK.out _ (List.getElem_mem hlt)
      generalize r[k] = x at *
      have HX := hide (notnode_any l HU.out bp x hok wr ((HT.out.below hw.out).self))
      have k0 : (0 : Int) ≤ k := by omega
      have k1 : (k : Int) < r.length := by omega
      have HL := hide hlt
      have HM := hide (show r.length - (k + 1) < r.length - k from by omega)
      have HBW := hide hw.out
      clear hr hlt hp hw hok
      cases hb : isNode l x with
      | false =>
        rw [hb] at hr2 HX
        have HR2 := hide hr2
        clear hr2 hb
        go_wp2_with fail
        refine HX.out.mono ?_
        rintro _ w2 ⟨rfl, h2⟩
        have HW2 := hide (bto HBW.out h2)
        clear h2 HX HBW c1
        go_wp2_with fail
        go_ret
        refine ⟨_, rfl, ?_, HW2.out⟩
        rw [← HR2.out]
        simp
      | true =>
        rw [hb] at hr2 HX
        have HR2 := hide hr2
        clear hr2 hb
        go_wp2_with fail
        refine HX.out.mono ?_
        rintro _ w2 ⟨rfl, h2⟩
        have HW2 := hide (bto HBW.out h2)
        clear h2 HX HBW c1
        go_wp2_with fail
        refine ⟨⟨k + 1, HL.out, by go_num, HW2, hide (by simpa using HR2.out)⟩, ?_⟩
        have := HM.out
        simp [intOf]; omega
    · have hz : R = false := by rw [← hr.out, List.drop_eq_nil_of_le (by omega)]; rfl
      have HZ := hide hz
      have HW2 := hide hw.out
      clear hr hz hw
      go_wp2_with fail
      go_ret
      exact ⟨_, rfl, by rw [HZ.out]; rfl, HW2.out⟩
set_option maxRecDepth 100000 in
set_option maxHeartbeats 4000000 in
theorem contains_nodes (l : List Ob) (hu : uniq l) (bp : Nat) (w : World) (h : pcB w w l bp) (r : List BA) (v : Value) (hr : StS w v r) (hl : r.length ≤ 100000) (hs : ∀ s ∈ r, s.size ≤ 100000) :
    Calls Tryz.prog 83 #[v, .func (.func 131) #[] #[.pointer (some ⟨bp, 0, none⟩)]] w fun e w' => e = .returned (.bool (r.any (fun s => !isNode l s))) ∧ Below w.heap.size w w' := by
  have HI := hide (index_nodes l hu bp w h r v hr hl hs)
  clear hr h hu hs
  obtain ⟨R, hR⟩ : ∃ R, r.any (fun s => !isNode l s) = R := ⟨_, rfl⟩
  rw [hR] at HI ⊢
  clear hR
  go_enter Tryz.func83, Tryz.ntmps83
  go_wp2_with fail
  refine HI.out.mono ?_
  rintro _ w2 ⟨r, rfl, hr, hw⟩
  have HR := hide hr
  have HW := hide hw
  clear hr hw HI
  go_wp2_with fail
  go_ret
  exact ⟨ret_bool HR.out, HW.out⟩
set_option maxRecDepth 100000 in
set_option maxHeartbeats 4000000 in
theorem nodes_any (l : List Ob) (hu : uniq l) (o : Ob) (rv tv pv : Value) (w : World) (h : PcS w l pv) (hr : StS w rv o.refs) (hl : o.refs.length ≤ 100000) (hs : ∀ s ∈ o.refs, s.size ≤ 100000) :
    Calls Tryz.prog 85 #[pv, .agg (obV o rv tv)] w fun e w' => e = .returned (.bool (o.refs.all (isNode l))) ∧ Below w.heap.size w w' := by
  obtain ⟨v, bm, ml, rfl, h1, h2, h3⟩ := h
  obtain ⟨w2, hw2⟩ : ∃ w2, (w.alloc (.cells #[v, .map (some bm)] 81)).alloc (.cells (obV o rv tv) 47) = w2 := ⟨_, rfl⟩
  have hb : Below w.heap.size w w2 := by rw [← hw2]; exact ((Below.refl _ _).alloc (Nat.le_refl _) _).alloc (by simp) _
  have hbp : w2.heap[w.heap.size]? = some (.cells #[v, .map (some bm)] 81 (0, 0)) := by
    rw [← hw2]; exact blkB ((Below.refl _ _).alloc (Nat.le_refl _) _) (heap_alloc_new w _)
  have hbo : w2.heap[w.heap.size + 1]? = some (.cells (obV o rv tv) 47 (0, 0)) := by
    rw [← hw2]
    have := heap_alloc_new (w.alloc (.cells #[v, .map (some bm)] 81)) (.cells (obV o rv tv) 47)
    simpa using this
  have HX := hide (contains_nodes l hu w.heap.size w2 ⟨v, bm, ml, hbp, h1.below hb, h2.kept (bgrow hb) (by simp), h3, Below.refl _ _⟩ o.refs rv (hr.below hb) hl hs)
  have HB := hide hb
  have HN : Hid ((!(o.refs.any (fun s => !isNode l s))) = o.refs.all (isNode l)) := hide (by
    rw [List.not_any_eq_all_not]
    simp)
  unfold obV at hw2 hbo ⊢
  have c3 : w2.cell? ⟨w.heap.size + 1, 4, none⟩ = some rv := cell_of_row w2 _ 4 _ _ _ hbo
  clear hb hbp h1 h2 h3 hr hs hbo hu
  go_enter Tryz.func85, Tryz.ntmps85
  go_wp2_with fail
  refine HX.out.mono ?_
  rintro _ w3 ⟨rfl, hb3⟩
  have HB3 := hide (bto HB.out hb3)
  clear hb3 hw2 c3
  go_wp2_with fail
  go_ret
  exact ⟨ret_bool HN.out, HB3.out⟩
end Go.Proofs.YtfkgjbdeicggaaaGreat
