/-
  What network.of builds, in memory; its closure, walked.
-/
import Derived.Test.YtpiocaomlifljaaNetF
import Derived.Test.YtpiocaomlifljaaPlain2
import Derived.StillTailTactics
namespace Go.Proofs.Ytpiocaomlifljaa
open Go.RowKit Go.Proofs.PlLex Go.Proofs.PlNet Go.Proofs.PlMap

def ptV (x y : Int) : Value := .agg #[.int .i64 x, .int .i64 y]
theorem zero_point (w : World) : (zeroValue 38).run Try.prog w = .ok (ptV 0 0) w := by kernel_rfl
theorem zero_strs (w : World) : (zeroValue 39).run Try.prog w = .ok (.slice none 0 0) w := by kernel_rfl
structure NodeRel (nl : List (ByteArray × Value)) (L : List Ob) : Prop where
  has : ∀ s v, getL nl s = some v → ∃ o ∈ L, o.id = s ∧ v = ptV o.x o.y
  hasnt : ∀ s, getL nl s = none → ∀ o ∈ L, o.id ≠ s
  len : nl.length ≤ L.length
structure WayRel (w : World) (wl : List (ByteArray × Value)) (L : List Ob) : Prop where
  has : ∀ s v, getL wl s = some v → ∃ o ∈ L, o.id = s ∧ StS w v o.refs
  hasnt : ∀ s, getL wl s = none → ∀ o ∈ L, o.id ≠ s
  len : wl.length ≤ L.length
theorem nodeRel_nil : NodeRel [] [] := ⟨(fun _ _ h => by cases h), (fun _ _ _ h => nomatch h), Nat.le_refl _⟩
theorem wayRel_nil (w : World) : WayRel w [] [] := ⟨(fun _ _ h => by cases h), (fun _ _ _ h => nomatch h), Nat.le_refl _⟩
theorem NodeRel.put {nl : List (ByteArray × Value)} {L : List Ob} (h : NodeRel nl L) (o : Ob) : NodeRel (putL nl o.id (ptV o.x o.y)) (L ++ [o]) := by
  refine ⟨fun s v hv => ?_, fun s hs x hx => ?_, ?_⟩
  · rw [getL_put] at hv
    by_cases e : s = o.id
    · rw [if_pos e] at hv
      cases hv
      exact ⟨o, by simp, e.symm, rfl⟩
    · rw [if_neg e] at hv
      obtain ⟨x, hx, h2⟩ := h.has s v hv
      exact ⟨x, List.mem_append_left _ hx, h2⟩
  · rw [getL_put] at hs
    by_cases e : s = o.id
    · rw [if_pos e] at hs; cases hs
    · rw [if_neg e] at hs
      rcases List.mem_append.1 hx with hx | hx
      · exact h.hasnt s hs x hx
      · simp at hx
        rw [hx]
        exact fun e2 => e e2.symm
  · rw [putL_len, List.length_append]
    have := h.len
    simp only [List.length_cons, List.length_nil]
    split <;> omega
theorem WayRel.put {w : World} {wl : List (ByteArray × Value)} {L : List Ob} (h : WayRel w wl L) (o : Ob) (v : Value) (hv : StS w v o.refs) : WayRel w (putL wl o.id v) (L ++ [o]) := by
  refine ⟨fun s v hv => ?_, fun s hs x hx => ?_, ?_⟩
  · rw [getL_put] at hv
    by_cases e : s = o.id
    · rw [if_pos e] at hv
      cases hv
      exact ⟨o, by simp, e.symm, by assumption⟩
    · rw [if_neg e] at hv
      obtain ⟨x, hx, h2⟩ := h.has s v hv
      exact ⟨x, List.mem_append_left _ hx, h2⟩
  · rw [getL_put] at hs
    by_cases e : s = o.id
    · rw [if_pos e] at hs; cases hs
    · rw [if_neg e] at hs
      rcases List.mem_append.1 hx with hx | hx
      · exact h.hasnt s hs x hx
      · simp at hx
        rw [hx]
        exact fun e2 => e e2.symm
  · rw [putL_len, List.length_append]
    have := h.len
    simp only [List.length_cons, List.length_nil]
    split <;> omega
/-- Is there a node, where the nodes so far are all? -/
theorem NodeRel.is {nl : List (ByteArray × Value)} {l : List Ob} (h : NodeRel nl (nodesO l)) (s : ByteArray) : (getL nl s).isSome = isNode l s := by
  unfold isNode
  cases e : getL nl s with
  | none =>
    cases e2 : findO (nodesO l) s with
    | none => rfl
    | some o => exact (h.hasnt s e o (findO_some e2).1 (findO_some e2).2).elim
  | some v =>
    obtain ⟨o, ho, h1, _⟩ := h.has s v e
    cases e2 : findO (nodesO l) s with
    | none => exact (findO_none e2 o ho h1).elim
    | some o => rfl
theorem NodeRel.at {nl : List (ByteArray × Value)} {l : List Ob} (h : NodeRel nl (nodesO l)) (hu : uniq l) (s : ByteArray) : (getL nl s).getD (ptV 0 0) = ptV (nodeAt l s).1 (nodeAt l s).2 := by
  unfold nodeAt
  cases e : getL nl s with
  | none =>
    cases e2 : findO (nodesO l) s with
    | none => rfl
    | some o => exact (h.hasnt s e o (findO_some e2).1 (findO_some e2).2).elim
  | some v =>
    obtain ⟨o, ho, h1, rfl⟩ := h.has s v e
    rw [← h1, findO_mem (show uniq (nodesO l) from hu.filter _) ho]
    rfl
theorem NodeRel.val {nl : List (ByteArray × Value)} {L : List Ob} (h : NodeRel nl L) (s : ByteArray) : ∃ x y, (getL nl s).getD (ptV 0 0) = ptV x y := by
  cases e : getL nl s with
  | none => exact ⟨0, 0, rfl⟩
  | some v =>
    obtain ⟨o, ho, h1, rfl⟩ := h.has s v e
    exact ⟨o.x, o.y, rfl⟩
theorem WayRel.at {w : World} {wl : List (ByteArray × Value)} {l : List Ob} (h : WayRel w wl (waysO l)) (hu : uniq l) (s : ByteArray) : ((getL wl s).getD (.slice none 0 0) = .slice none 0 0 ∧ wayAt l s = none) ∨ ∃ v refs, getL wl s = some v ∧ wayAt l s = some refs ∧ StS w v refs := by
  unfold wayAt
  cases e : getL wl s with
  | none =>
    cases e2 : findO (waysO l) s with
    | none => exact .inl ⟨rfl, rfl⟩
    | some o => exact (h.hasnt s e o (findO_some e2).1 (findO_some e2).2).elim
  | some v =>
    obtain ⟨o, ho, h1, hst⟩ := h.has s v e
    refine .inr ⟨v, o.refs, rfl, ?_, hst⟩
    rw [← h1, findO_mem (show uniq (waysO l) from hu.filter _) ho]
    rfl

/-- The closure of network.of: is there no such node? -/
structure NdI (w : World) (bv bn bd : Nat) (nl : List (ByteArray × Value)) (v wv : Value) (W : World) : Prop where
  vb : W.heap[bv]? = some (.cells #[.pointer (some ⟨bn, 0, none⟩)] 61 (0, 0))
  nb : W.heap[bn]? = some (.cells #[v, .map (some bd), wv] 67 (0, 0))
  ml : MapS W bd nl
  below : Below w.heap.size w W
theorem NdI.lift {w : World} {bv bn bd : Nat} {nl : List (ByteArray × Value)} {v wv : Value} {W W' : World} (h : NdI w bv bn bd nl v wv W) (hb : Below W.heap.size W W') : NdI w bv bn bd nl v wv W' :=
  ⟨blkB hb h.vb, blkB hb h.nb, h.ml.kept (row := none) ⟨hb.os, hb.tape, hb.output, hb.size, fun i hi _ => hb.block i hi⟩ (by simp), bto h.below hb⟩
set_option maxRecDepth 100000 in
set_option maxHeartbeats 4000000 in
theorem of1_any (w : World) (bv bn bd : Nat) (nl : List (ByteArray × Value)) (v wv : Value) (W : World) (h : NdI w bv bn bd nl v wv W) (L : List Ob) (hr : NodeRel nl L) (s : ByteArray) (hs : s.size ≤ 100000) :
    Calls Try.prog 56 #[.string s, .pointer (some ⟨bv, 0, none⟩)] W fun e W' => e = .returned (.bool (!(getL nl s).isSome)) ∧ Below W.heap.size W W' := by
  have hok : s.size ≤ maxLen := Nat.le_trans hs (by unfold maxLen; omega)
  have hlook := h.ml.look_ok Try.underlying64 zero_point (x := s) hok
  obtain ⟨x, y, hxy⟩ := hr.val s
  rw [hxy] at hlook
  change (Instr.lookup 64 (.map (some bd)) (.string s) true).run _ _ = _ at hlook
  obtain ⟨R, hR⟩ : ∃ R, (getL nl s).isSome = R := ⟨_, rfl⟩
  rw [hR] at hlook ⊢
  have c1 := (blk1 h.vb).1
  have c2 : W.cell? ⟨bn, 1, none⟩ = some (.map (some bd)) := cell_of_row W _ 1 _ _ _ h.nb
  clear h hr hxy hR
  unfold ptV at hlook
  go_enter Try.func56, Try.ntmps56
  go_wp2_with fail
  go_ret
  exact ⟨rfl, (Below.refl _ _).alloc (Nat.le_refl _) _⟩
set_option maxRecDepth 100000 in
set_option maxHeartbeats 4000000 in
theorem indexf_of (w : World) (bv bn bd : Nat) (nl : List (ByteArray × Value)) (v wv : Value) (W : World) (h : NdI w bv bn bd nl v wv W) (L : List Ob) (hrl : NodeRel nl L) (rv : Value) (l : List ByteArray) (hv : StS w rv l) (hl : l.length ≤ 100000) (hs : ∀ s ∈ l, s.size ≤ 100000) :
    Calls Try.prog 74 #[rv, .func (.func 56) #[] #[.pointer (some ⟨bv, 0, none⟩)]] W fun e W' => ∃ r : Int, e = .returned (.int .i64 r) ∧ decide (0 ≤ r) = !l.all (fun s => (getL nl s).isSome) ∧ Below W.heap.size W W' := by
  obtain ⟨A, c, rfl, _, hA⟩ := hv
  have HA := hide hA
  have HS := hide hs
  obtain ⟨R, hR⟩ : ∃ R, l.all (fun s => (getL nl s).isSome) = R := ⟨_, rfl⟩
  rw [hR]
  have HR := hide hR
  have H0 := hide h
  have HRL := hide hrl
  clear hA hs hR h hrl
  go_enter Try.func74, Try.ntmps74
  go_wp2_with fail
  go_loopw [8] (fun i wr => ∃ (k : Nat), k ≤ l.length ∧ i = .int .i64 k ∧ Hid (Below W.heap.size W wr) ∧ Hid ((l.drop k).all (fun s => (getL nl s).isSome) = R)) (fun i _ => l.length - (intOf i).toNat)
  case atStart => exact ⟨0, Nat.zero_le _, rfl, Below.refl _ _, HR⟩
  case round =>
    obtain ⟨k, hk, rfl, hw, hr⟩ := hrel
    by_cases hlt : k < l.length
    · obtain ⟨g, off, rfl, hg, hp⟩ := HA.out.resolve_left (by rintro rfl; simp at hlt)
      have c1 := (hp.below hg (bto H0.out.below hw.out)) k _ (List.getElem?_eq_getElem hlt)
      have hr2 := hr.out
      rw [List.drop_eq_getElem_cons hlt, List.all_cons] at hr2
      have hsz := HS.out _ (List.getElem_mem hlt)
      generalize l[k] = x at *
      have HX := hide (of1_any w bv bn bd nl v wv wr (H0.out.lift hw.out) L HRL.out x hsz)
      have k0 : (0 : Int) ≤ k := by omega
      have k1 : (k : Int) < l.length := by omega
      have HL := hide hlt
      have HM := hide (show l.length - (k + 1) < l.length - k from by omega)
      have HBW := hide hw.out
      clear hr hlt hp hw
      cases hb : (getL nl x).isSome with
      | false =>
        rw [hb] at hr2 HX
        have HR2 := hide hr2
        clear hr2 hb
        go_wp2_with fail
        refine HX.out.mono ?_
        rintro _ w2 ⟨rfl, h2⟩
        have HW2 := hide (bto HBW.out h2)
        clear h2 HX HBW
        go_wp2_with fail
        go_ret
        refine ⟨_, rfl, ?_, HW2.out⟩
        rw [← HR2.out]
        simp
      | true =>
        rw [hb] at hr2 HX
        have HR2 := hide hr2
        clear hr2 hb
        go_wp2_with fail
        refine HX.out.mono ?_
        rintro _ w2 ⟨rfl, h2⟩
        have HW2 := hide (bto HBW.out h2)
        clear h2 HX HBW
        go_wp2_with fail
        refine ⟨⟨k + 1, HL.out, by go_num, HW2, hide (by simpa using HR2.out)⟩, ?_⟩
        have := HM.out
        simp [intOf]; omega
    · have hz : R = true := by rw [← hr.out, List.drop_eq_nil_of_le (by omega)]; rfl
      have HZ := hide hz
      have HW2 := hide hw.out
      clear hr hz hw
      go_wp2_with fail
      go_ret
      exact ⟨_, rfl, by rw [HZ.out]; rfl, HW2.out⟩
set_option maxRecDepth 100000 in
set_option maxHeartbeats 4000000 in
theorem containsf_of (w : World) (bv bn bd : Nat) (nl : List (ByteArray × Value)) (v wv : Value) (W : World) (h : NdI w bv bn bd nl v wv W) (L : List Ob) (hrl : NodeRel nl L) (rv : Value) (l : List ByteArray) (hv : StS w rv l) (hl : l.length ≤ 100000) (hs : ∀ s ∈ l, s.size ≤ 100000) :
    Calls Try.prog 55 #[rv, .func (.func 56) #[] #[.pointer (some ⟨bv, 0, none⟩)]] W fun e W' => e = .returned (.bool (!l.all (fun s => (getL nl s).isSome))) ∧ Below W.heap.size W W' := by
  have HI := hide (indexf_of w bv bn bd nl v wv W h L hrl rv l hv hl hs)
  clear hv hs h hrl
  obtain ⟨R, hR⟩ : ∃ R, l.all (fun s => (getL nl s).isSome) = R := ⟨_, rfl⟩
  rw [hR] at HI ⊢
  clear hR
  go_enter Try.func55, Try.ntmps55
  go_wp2_with fail
  refine HI.out.mono ?_
  rintro _ w2 ⟨r, rfl, hr, hw⟩
  have HR := hide hr
  have HW := hide hw
  clear hr hw HI
  go_wp2_with fail
  go_ret
  refine ⟨ret_bool ?_, HW.out⟩
  rw [← HR.out]
end Go.Proofs.Ytpiocaomlifljaa

/-! network.of, walked. -/
namespace Go.Proofs.Ytpiocaomlifljaa
open Go.RowKit Go.Proofs.PlLex Go.Proofs.PlNet Go.Proofs.PlMap
attribute [local go_sem] run_makeMap

theorem below_drew (w : World) : Below w.heap.size w w.drew := (Below.refl _ _).drew
/-- What network.of has built so far. -/
structure OfI (w : World) (v : Value) (s : Nat) (nl wl : List (ByteArray × Value)) (W : World) : Prop where
  box : W.heap[w.heap.size]? = some (.cells #[v] 24 (0, 0))
  nb : W.heap[s + 2]? = some (.cells #[v, .map (some s), .map (some (s + 1))] 67 (0, 0))
  vb : W.heap[s + 3]? = some (.cells #[.pointer (some ⟨s + 2, 0, none⟩)] 61 (0, 0))
  nodes : MapS W s nl
  ways : MapS W (s + 1) wl
  lo : w.heap.size < s
  below : Below w.heap.size w W
theorem grown_none {W W' : World} (hb : Below W.heap.size W W') : W.grownBy W' none := ⟨hb.os, hb.tape, hb.output, hb.size, fun i hi _ => hb.block i hi⟩
theorem OfI.lift {w : World} {v : Value} {s : Nat} {nl wl : List (ByteArray × Value)} {W W' : World} (h : OfI w v s nl wl W) (hb : Below W.heap.size W W') : OfI w v s nl wl W' :=
  ⟨blkB hb h.box, blkB hb h.nb, blkB hb h.vb, h.nodes.kept (grown_none hb) (by simp), h.ways.kept (grown_none hb) (by simp), h.lo, bto h.below hb⟩
theorem OfI.node {w : World} {v : Value} {s : Nat} {nl wl nl' : List (ByteArray × Value)} {W W' : World} (h : OfI w v s nl wl W) (hm : MapS W' s nl') (ht : W.mapTurned W' s) : OfI w v s nl' wl W' :=
  ⟨turned_blk ht h.box (by have := h.lo; omega), turned_blk ht h.nb (by omega), turned_blk ht h.vb (by omega), hm, h.ways.kept ht.grown (by simp), h.lo, belowK_map h.below (by have := h.lo; omega) ht⟩
theorem OfI.way {w : World} {v : Value} {s : Nat} {nl wl wl' : List (ByteArray × Value)} {W W' : World} (h : OfI w v s nl wl W) (hm : MapS W' (s + 1) wl') (ht : W.mapTurned W' (s + 1)) : OfI w v s nl wl' W' :=
  ⟨turned_blk ht h.box (by have := h.lo; omega), turned_blk ht h.nb (by omega), turned_blk ht h.vb (by omega), h.nodes.kept ht.grown (by simp), hm, h.lo, belowK_map h.below (by have := h.lo; omega) ht⟩
theorem OfI.ndi {w : World} {v : Value} {s : Nat} {nl wl : List (ByteArray × Value)} {W : World} (h : OfI w v s nl wl W) : NdI w (s + 3) (s + 2) s nl v (.map (some (s + 1))) W := ⟨h.vb, h.nb, h.nodes, h.below⟩

/-- The network of a map, in memory. -/
structure NetR (w : World) (v : Value) (l : List Ob) (bn bd bw : Nat) (nl wl : List (ByteArray × Value)) (W : World) : Prop where
  nb : W.heap[bn]? = some (.cells #[v, .map (some bd), .map (some bw)] 67 (0, 0))
  nodes : MapS W bd nl
  ways : MapS W bw wl
  nr : NodeRel nl (nodesO l)
  wr : WayRel w wl (waysO l)
  below : Below w.heap.size w W
theorem NetR.lift {w : World} {v : Value} {l : List Ob} {bn bd bw : Nat} {nl wl : List (ByteArray × Value)} {W W' : World} (h : NetR w v l bn bd bw nl wl W) (hb : Below W.heap.size W W') : NetR w v l bn bd bw nl wl W' :=
  ⟨blkB hb h.nb, h.nodes.kept (grown_none hb) (by simp), h.ways.kept (grown_none hb) (by simp), h.nr, h.wr, bto h.below hb⟩
theorem nodesO_snoc (l : List Ob) (k : Nat) (h : k < l.length) : nodesO (l.take (k + 1)) = nodesO (l.take k) ++ (if l[k].kind = 1 then [l[k]] else []) := by
  unfold nodesO
  rw [List.take_succ_eq_append_getElem h, List.filter_append]
  congr 1
  simp only [List.filter_cons, List.filter_nil, decide_eq_true_eq]
theorem waysO_snoc (L l : List Ob) (k : Nat) (h : k < l.length) : (l.take (k + 1)).filter (wayB L) = (l.take k).filter (wayB L) ++ (if wayB L l[k] then [l[k]] else []) := by
  rw [List.take_succ_eq_append_getElem h, List.filter_append]
  congr 1
  simp only [List.filter_cons, List.filter_nil]
theorem filter_len (l : List Ob) (p : Ob → Bool) : (l.filter p).length ≤ l.length := List.length_filter_le _ _
set_option maxRecDepth 100000 in
set_option maxHeartbeats 8000000 in
theorem of_any (l : List Ob) (v : Value) (w : World) (hv : ObsS w v l) (hl : l.length ≤ 100000) (hs : ∀ o ∈ l, okO o) :
    Calls Try.prog 33 #[.agg #[v]] w fun e w' => (mapB l = false ∧ e = .returned (.tuple #[.pointer none, .bool false]) ∧ Below w.heap.size w w') ∨ (mapB l = true ∧ ∃ s nl wl, e = .returned (.tuple #[.pointer (some ⟨s + 2, 0, none⟩), .bool true]) ∧ NetR w v l (s + 2) s (s + 1) nl wl w') := by
  have HV := hide (fun w' hw' => avalid_any l v w' hw' hl hs)
  have HO := hide hv
  obtain ⟨A, c, rfl, _, hA⟩ := hv
  have HA := hide hA
  have HS := hide hs
  obtain ⟨wa, hwa⟩ : ∃ wa, w.alloc (.cells #[.slice A l.length c] 24) = wa := ⟨_, rfl⟩
  have ha : Below w.heap.size w wa := by rw [← hwa]; exact (Below.refl _ _).alloc (Nat.le_refl _) _
  have hm : wa.heap[w.heap.size]? = some (.cells #[.slice A l.length c] 24 (0, 0)) := by rw [← hwa]; exact heap_alloc_new w _
  have HV2 := hide (HV.out wa (HO.out.below ha))
  clear hA hs
  cases hmb : mapB l with
  | false =>
    rw [hmb] at HV2
    have dm := (blk1 hm).1
    clear hmb
    go_enter Try.func33, Try.ntmps33
    go_wp2_with fail
    refine HV2.out.mono ?_
    rintro _ w1 ⟨rfl, hb⟩
    have HB := hide (bto ha hb)
    clear hwa ha hm dm hb
    go_wp2_with fail
    go_ret2
    exact .inl ⟨trivial, rfl, HB.out⟩
  | true =>
    rw [hmb] at HV2
    have HMB := hide hmb
    have dm := (blk1 hm).1
    clear hmb
    go_enter Try.func33, Try.ntmps33
    go_wp2_with fail
    refine HV2.out.mono ?_
    rintro _ w1 ⟨rfl, hb⟩
    have hm1 := blkB hb hm
    have dm1 := (blk1 hm1).1
    have hb1 := bto ha hb
    clear hwa ha hm dm hb HV2
    have e1 : ∀ o1 o2 o3 o4 : Obj, ((((w1.alloc o1).alloc o2).alloc o3).alloc o4).cell? ⟨w.heap.size, 0, none⟩ = some (.slice A l.length c) := fun o1 o2 o3 o4 =>
      (blk1 (blkB ((((Below.refl w1.heap.size w1).alloc (Nat.le_refl _) o1).alloc (by simp) o2).alloc (by simp; omega) o3 |>.alloc (by simp; omega) o4) hm1)).1
    have HF : Hid (OfI w (.slice A l.length c) w1.heap.size [] [] ((((w1.alloc (.map #[] 0)).alloc (.map #[] 0)).alloc (.cells #[.slice A l.length c, .map (some w1.heap.size), .map (some (w1.heap.size + 1))] 67)).alloc (.cells #[.pointer (some ⟨w1.heap.size + 2, 0, none⟩)] 61))) := by
      have b4 := (((Below.refl w1.heap.size w1).alloc (Nat.le_refl _) (.map #[] 0)).alloc (by simp) (.map #[] 0)).alloc (by simp; omega) (.cells #[.slice A l.length c, .map (some w1.heap.size), .map (some (w1.heap.size + 1))] 67) |>.alloc (by simp; omega) (.cells #[.pointer (some ⟨w1.heap.size + 2, 0, none⟩)] 61)
      have q2 := heap_alloc_new ((w1.alloc (.map #[] 0)).alloc (.map #[] 0)) (.cells #[.slice A l.length c, .map (some w1.heap.size), .map (some (w1.heap.size + 1))] 67)
      have q3 := heap_alloc_new (((w1.alloc (.map #[] 0)).alloc (.map #[] 0)).alloc (.cells #[.slice A l.length c, .map (some w1.heap.size), .map (some (w1.heap.size + 1))] 67)) (.cells #[.pointer (some ⟨w1.heap.size + 2, 0, none⟩)] 61)
      refine ⟨blkB b4 hm1, ?_, ?_, ?_, ?_, lt_of_block hm1, bto hb1 b4⟩
      · refine blkB ((Below.refl _ _).alloc (Nat.le_refl _) _) ?_
        simpa using q2
      · simpa using q3
      · exact (((mapL_made _ w1).alloc _).alloc _).alloc _
      · have := (((mapL_made (strKeys Try.prog 9 Try.underlying9) (w1.alloc (.map #[] 0))).alloc (.cells #[.slice A l.length c, .map (some w1.heap.size), .map (some (w1.heap.size + 1))] 67)).alloc (.cells #[.pointer (some ⟨w1.heap.size + 2, 0, none⟩)] 61))
        simpa using this
    go_wp2_with fail
    go_loopw [21] (fun i wr => ∃ (k : Nat) (nl : List (ByteArray × Value)), k ≤ l.length ∧ i = .int .i64 k ∧ Hid (NodeRel nl (nodesO (l.take k))) ∧ Hid (OfI w (.slice A l.length c) w1.heap.size nl [] wr)) (fun i _ => l.length - (intOf i).toNat)
    case atStart => exact ⟨0, [], Nat.zero_le _, rfl, nodeRel_nil, HF⟩
    case round =>
      obtain ⟨k, nl, hk, rfl, hnr, hof⟩ := hrel
      by_cases hlt : k < l.length
      · obtain ⟨g, o, rfl, hg, hp⟩ := HA.out.resolve_left (by rintro rfl; simp at hlt)
        obtain ⟨rv, tv, hoa⟩ := hp k _ (List.getElem?_eq_getElem hlt)
        obtain ⟨Ar, cr, hrv, _⟩ := id hoa.refs
        obtain ⟨At, ct, htv, _⟩ := id hoa.tags
        subst hrv
        subst htv
        obtain ⟨c0, c1, c2, c3, c4, c5, _, _⟩ := hoa.below hg hof.out.below
        have hsn := nodesO_snoc l k hlt
        have hok := HS.out _ (List.getElem_mem hlt)
        have hlen : nl.length ≤ l.length := Nat.le_trans hnr.out.len (Nat.le_trans (filter_len _ _) (by rw [List.length_take]; omega))
        generalize l[k] = t at *
        have k0 : (0 : Int) ≤ k := by omega
        have k1 : (k : Int) < l.length := by omega
        have HL := hide hlt
        have HMS := hide (show l.length - (k + 1) < l.length - k from by omega)
        obtain ⟨wo, hwo⟩ : ∃ wo, wr.alloc (.cells #[.string t.id, .int .i64 t.kind, .int .i64 t.x, .int .i64 t.y, .slice Ar t.refs.length cr, .slice At t.tags.length ct] 42) = wo := ⟨_, rfl⟩
        have hblk : wo.heap[wr.heap.size]? = some (.cells #[.string t.id, .int .i64 t.kind, .int .i64 t.x, .int .i64 t.y, .slice Ar t.refs.length cr, .slice At t.tags.length ct] 42 (0, 0)) := by rw [← hwo]; exact heap_alloc_new _ _
        have ho2 : OfI w (.slice (some ⟨g, o, none⟩) l.length c) w1.heap.size nl [] wo := hof.out.lift (by rw [← hwo]; exact (Below.refl _ _).alloc (Nat.le_refl _) _)
        have d0 : wo.cell? ⟨wr.heap.size, 0, none⟩ = some (.string t.id) := cell_of_row wo _ 0 _ _ _ hblk
        have d1 : wo.cell? ⟨wr.heap.size, 1, none⟩ = some (.int .i64 t.kind) := cell_of_row wo _ 1 _ _ _ hblk
        have d2 : wo.cell? ⟨wr.heap.size, 2, none⟩ = some (.int .i64 t.x) := cell_of_row wo _ 2 _ _ _ hblk
        have d3 : wo.cell? ⟨wr.heap.size, 3, none⟩ = some (.int .i64 t.y) := cell_of_row wo _ 3 _ _ _ hblk
        have v0 := (blk1 ho2.vb).1
        have v1 : wo.cell? ⟨w1.heap.size + 2, 1, none⟩ = some (.map (some w1.heap.size)) := cell_of_row wo _ 1 _ _ _ ho2.nb
        have HSN := hide hsn
        have HO2 := hide ho2
        have HBL := hide hblk
        have HNR := hide hnr.out
        have HOK := hide hok
        have HLE := hide hlen
        clear hlt hp hoa hof hnr hok hsn ho2 hblk hlen
        by_cases h1 : t.kind = 1
        · rw [h1] at c1 d1 hwo HBL
          have hn2 := HSN.out
          rw [if_pos h1] at hn2
          have HNN := hide (HNR.out.put t)
          rw [← hn2] at HNN
          have hok : t.id.size ≤ maxLen := Nat.le_trans HOK.out.1 (by unfold maxLen; omega)
          obtain ⟨W3, hst, hml, htu⟩ := HO2.out.nodes.drew.store Try.underlying64 (by have := HLE.out; unfold maxLen; omega) (x := t.id) hok (ptV t.x t.y)
          change (Instr.mapUpdate 64 (.map (some w1.heap.size)) (.string t.id) (ptV t.x t.y)).run _ _ = _ at hst
          unfold ptV at hst
          have HO3 := hide ((HO2.out.lift (below_drew wo)).node hml htu)
          have HST := hide hst
          clear hn2 HSN hok hml htu hst
          go_wp2_with fail
          go_still_tail 8, (by kernel_rfl)
          change wpList _ _ _ _ _ wo.drew
          have hst := HST.out
          clear HST
          go_wp2_with fail
          refine ⟨⟨k + 1, _, HL.out, by go_num, HNN, HO3⟩, ?_⟩
          have := HMS.out
          simp [intOf]; omega
        · have h1b : (t.kind == 1) = false := beq_eq_false_iff_ne.2 h1
          have hn2 := HSN.out
          rw [if_neg h1, List.append_nil] at hn2
          rw [← hn2] at HNR
          clear hn2 HSN
          go_wp2_with fail
          refine ⟨⟨k + 1, nl, HL.out, by go_num, HNR, HO2⟩, ?_⟩
          have := HMS.out
          simp [intOf]; omega
      · obtain rfl : k = l.length := by omega
        have HNR : Hid (NodeRel nl (nodesO l)) := by have := hnr.out; rw [List.take_length] at this; exact this
        have HO2 := hide hof.out
        have dm := (blk1 hof.out.box).1
        clear hnr hof HF e1
        go_wp2_with fail
        clear dm
        go_loopw [40] (fun i wr => ∃ (k : Nat) (wl : List (ByteArray × Value)), k ≤ l.length ∧ i = .int .i64 k ∧ Hid (WayRel w wl ((l.take k).filter (wayB l))) ∧ Hid (OfI w (.slice A l.length c) w1.heap.size nl wl wr)) (fun i _ => l.length - (intOf i).toNat)
        case atStart => exact ⟨0, [], Nat.zero_le _, rfl, wayRel_nil w, HO2⟩
        case round =>
          obtain ⟨k, wl, hk, rfl, hwr, hof⟩ := hrel
          by_cases hlt : k < l.length
          · obtain ⟨g, o, rfl, hg, hp⟩ := HA.out.resolve_left (by rintro rfl; simp at hlt)
            obtain ⟨rv, tv, hoa⟩ := hp k _ (List.getElem?_eq_getElem hlt)
            obtain ⟨Ar, cr, hrv, _⟩ := id hoa.refs
            obtain ⟨At, ct, htv, _⟩ := id hoa.tags
            subst hrv
            subst htv
            obtain ⟨c0, c1, c2, c3, c4, c5, _, _⟩ := hoa.below hg hof.out.below
            have HST := hide hoa.refs
            have hsn := waysO_snoc l l k hlt
            have hok := HS.out _ (List.getElem_mem hlt)
            have hlen : wl.length ≤ l.length := Nat.le_trans hwr.out.len (Nat.le_trans (filter_len _ _) (by rw [List.length_take]; omega))
            generalize l[k] = t at *
            have k0 : (0 : Int) ≤ k := by omega
            have k1 : (k : Int) < l.length := by omega
            have HL := hide hlt
            have HMS := hide (show l.length - (k + 1) < l.length - k from by omega)
            obtain ⟨wo, hwo⟩ : ∃ wo, wr.alloc (.cells #[.string t.id, .int .i64 t.kind, .int .i64 t.x, .int .i64 t.y, .slice Ar t.refs.length cr, .slice At t.tags.length ct] 42) = wo := ⟨_, rfl⟩
            have hblk : wo.heap[wr.heap.size]? = some (.cells #[.string t.id, .int .i64 t.kind, .int .i64 t.x, .int .i64 t.y, .slice Ar t.refs.length cr, .slice At t.tags.length ct] 42 (0, 0)) := by rw [← hwo]; exact heap_alloc_new _ _
            have ho2 : OfI w (.slice (some ⟨g, o, none⟩) l.length c) w1.heap.size nl wl wo := hof.out.lift (by rw [← hwo]; exact (Below.refl _ _).alloc (Nat.le_refl _) _)
            have d0 : wo.cell? ⟨wr.heap.size, 0, none⟩ = some (.string t.id) := cell_of_row wo _ 0 _ _ _ hblk
            have d1 : wo.cell? ⟨wr.heap.size, 1, none⟩ = some (.int .i64 t.kind) := cell_of_row wo _ 1 _ _ _ hblk
            have d4 : wo.cell? ⟨wr.heap.size, 4, none⟩ = some (.slice Ar t.refs.length cr) := cell_of_row wo _ 4 _ _ _ hblk
            have HSN := hide hsn
            have HO3 := hide ho2
            have HBL := hide hblk
            have HWR := hide hwr.out
            have HLE := hide hlen
            have hok1 : t.id.size ≤ maxLen := Nat.le_trans hok.1 (by unfold maxLen; omega)
            by_cases h1 : t.kind = 2
            · rw [h1] at c1 d1 hwo HBL
              have HCF := hide (containsf_of w (w1.heap.size + 3) (w1.heap.size + 2) w1.heap.size nl _ _ wo ho2.ndi _ HNR.out _ _ HST.out hok.2.1 hok.2.2.1)
              have hfe : t.refs.all (fun s => (getL nl s).isSome) = t.refs.all (isNode l) := by
                congr 1
                funext s
                exact HNR.out.is s
              rw [hfe] at HCF
              have hwb : wayB l t = t.refs.all (isNode l) := by unfold wayB; rw [h1]; simp
              rw [hwb] at HSN
              clear hlt hp hoa hof hwr hsn ho2 hblk hlen hok hfe hwb
              cases hall : t.refs.all (isNode l) with
              | true =>
                rw [hall] at HCF HSN
                have hn2 := HSN.out
                rw [if_pos rfl] at hn2
                have HNN := hide (HWR.out.put t _ HST.out)
                rw [← hn2] at HNN
                clear hn2 HSN hall
                go_wp2_with fail
                refine HCF.out.mono ?_
                rintro _ w5 ⟨rfl, hb5⟩
                have HO4 := hide (HO3.out.lift hb5)
                have hbl5 := blkB hb5 HBL.out
                obtain ⟨W3, hst, hml, htu⟩ := HO4.out.ways.drew.store Try.underlying65 (by have := HLE.out; unfold maxLen; omega) (x := t.id) hok1 (.slice Ar t.refs.length cr)
                change (Instr.mapUpdate 65 (.map (some (w1.heap.size + 1))) (.string t.id) (.slice Ar t.refs.length cr)).run _ _ = _ at hst
                have HO5 := hide ((HO4.out.lift (below_drew w5)).way hml htu)
                have HST := hide hst
                have v0 := (blk1 HO4.out.vb).1
                have v1 : w5.cell? ⟨w1.heap.size + 2, 2, none⟩ = some (.map (some (w1.heap.size + 1))) := cell_of_row w5 _ 2 _ _ _ HO4.out.nb
                have f0 : w5.cell? ⟨wr.heap.size, 0, none⟩ = some (.string t.id) := cell_of_row w5 _ 0 _ _ _ hbl5
                have f4 : w5.cell? ⟨wr.heap.size, 4, none⟩ = some (.slice Ar t.refs.length cr) := cell_of_row w5 _ 4 _ _ _ hbl5
                clear hwo c0 c1 c2 c3 c4 c5 d0 d1 d4 HCF hb5 hml htu hst hbl5
                go_wp2_with fail
                go_still_tail 8, (by kernel_rfl)
                change wpList _ _ _ _ _ w5.drew
                have hst := HST.out
                clear HST v0 v1 f0 f4
                go_wp2_with fail
                refine ⟨⟨k + 1, _, HL.out, by go_num, HNN, HO5⟩, ?_⟩
                have := HMS.out
                simp [intOf]; omega
              | false =>
                rw [hall] at HCF HSN
                have hn2 := HSN.out
                rw [if_neg (by decide), List.append_nil] at hn2
                rw [← hn2] at HWR
                clear hn2 HSN hall
                go_wp2_with fail
                refine HCF.out.mono ?_
                rintro _ w5 ⟨rfl, hb5⟩
                have HO4 := hide (HO3.out.lift hb5)
                clear hwo c0 c1 c2 c3 c4 c5 d0 d1 d4 HCF hb5
                go_wp2_with fail
                refine ⟨⟨k + 1, wl, HL.out, by go_num, HWR, HO4⟩, ?_⟩
                have := HMS.out
                simp [intOf]; omega
            · have h1b : (t.kind == 2) = false := beq_eq_false_iff_ne.2 h1
              have hwb : wayB l t = false := by unfold wayB; rw [decide_eq_false h1]; rfl
              have hn2 := HSN.out
              rw [hwb, if_neg (by decide), List.append_nil] at hn2
              rw [← hn2] at HWR
              clear hn2 HSN hlt hp hoa hof hwr hsn ho2 hblk hlen hok hwb
              go_wp2_with fail
              refine ⟨⟨k + 1, wl, HL.out, by go_num, HWR, HO3⟩, ?_⟩
              have := HMS.out
              simp [intOf]; omega
          · obtain rfl : k = l.length := by omega
            have HWR : Hid (WayRel w wl (waysO l)) := by have := hwr.out; rw [List.take_length] at this; exact this
            have HO3 := hide hof.out
            have v0 := (blk1 hof.out.vb).1
            clear hwr hof
            go_wp2_with fail
            go_ret2
            exact .inr ⟨trivial, _, _, _, rfl, HO3.out.nb, HO3.out.nodes, HO3.out.ways, HNR.out, HWR.out, HO3.out.below⟩
end Go.Proofs.Ytpiocaomlifljaa
