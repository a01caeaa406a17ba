/-
  sound, connected and meets, walked.
-/
import Derived.Test.YtpiocaomlifljaaNetH
import Derived.Test.YtpiocaomlifljaaPlain2
import Derived.Lib.SliceRun
import Derived.Test.YtpiocaomlifljaaShelf
namespace Go.Proofs.Ytpiocaomlifljaa
open Go.RowKit Go.Proofs.PlLex Go.Proofs.PlNet Go.Proofs.PlMap

theorem NetR.node_look {w W : World} {v : Value} {l : List Ob} {bn bd bw : Nat} {nl wl : List (ByteArray × Value)} (h : NetR w v l bn bd bw nl wl W) (hm : mapB l = true) {s : ByteArray} (hs : s.size ≤ 100000) :
    (Instr.lookup 64 (.map (some bd)) (.string s) true).run Try.prog W = .ok (.tuple #[.agg #[.int .i64 (nodeAt l s).1, .int .i64 (nodeAt l s).2], .bool (isNode l s)]) W := by
  have := h.nodes.look_ok Try.underlying64 zero_point (x := s) (Nat.le_trans hs (by unfold maxLen; omega))
  rw [h.nr.at (mapB_uniq hm), h.nr.is] at this
  exact this
theorem NetR.node_get {w W : World} {v : Value} {l : List Ob} {bn bd bw : Nat} {nl wl : List (ByteArray × Value)} (h : NetR w v l bn bd bw nl wl W) (hm : mapB l = true) {s : ByteArray} (hs : s.size ≤ 100000) :
    (Instr.lookup 64 (.map (some bd)) (.string s) false).run Try.prog W = .ok (.agg #[.int .i64 (nodeAt l s).1, .int .i64 (nodeAt l s).2]) W := by
  have := h.nodes.look Try.underlying64 zero_point (x := s) (Nat.le_trans hs (by unfold maxLen; omega))
  rw [h.nr.at (mapB_uniq hm)] at this
  exact this
/-- What is known of a way's nodes. -/
structure WayO (w : World) (g o c : Nat) (refs : List ByteArray) : Prop where
  lt : g < w.heap.size
  strs : StrsO w g o refs
  two : 2 ≤ refs.length
  cap : refs.length ≤ c
  many : refs.length ≤ 100000
  size : ∀ x ∈ refs, x.size ≤ 100000
theorem NetR.way_get {w W : World} {v : Value} {l : List Ob} {bn bd bw : Nat} {nl wl : List (ByteArray × Value)} (h : NetR w v l bn bd bw nl wl W) {s : ByteArray} (hs : s.size ≤ 100000) :
    (Instr.lookup 65 (.map (some bw)) (.string s) false).run Try.prog W = .ok ((getL wl s).getD (.slice none 0 0)) W :=
  h.ways.look Try.underlying65 zero_strs (x := s) (Nat.le_trans hs (by unfold maxLen; omega))
theorem NetR.way_val {w W : World} {v : Value} {l : List Ob} {bn bd bw : Nat} {nl wl : List (ByteArray × Value)} (h : NetR w v l bn bd bw nl wl W) (hm : mapB l = true) (hok : ∀ o ∈ l, okO o) (s : ByteArray) :
    ((getL wl s).getD (.slice none 0 0) = .slice none 0 0 ∧ wayAt l s = none) ∨
    ∃ g o c refs, (getL wl s).getD (.slice none 0 0) = .slice (some ⟨g, o, none⟩) refs.length c ∧ wayAt l s = some refs ∧ WayO w g o c refs := by
  rcases h.wr.at (mapB_uniq hm) s with ⟨h1, h2⟩ | ⟨v1, refs, h1, h2, h3⟩
  · exact .inl ⟨h1, h2⟩
  · rw [h1]
    obtain ⟨ob, ho, _, hk, hr, _⟩ := wayAt_some h2
    have hl := obB_least (mapB_obs hm ob ho)
    rw [hk, hr] at hl
    have hl2 : 2 ≤ refs.length := hl
    obtain ⟨A, c, rfl, hc, h4⟩ := h3
    obtain ⟨g, o, rfl, hg, hp⟩ := h4.resolve_left (by rintro rfl; simp at hl2)
    refine .inr ⟨g, o, c, refs, rfl, h2, hg, hp, hl2, hc, ?_, ?_⟩
    · rw [← hr]; exact (hok ob ho).2.1
    · rw [← hr]; exact (hok ob ho).2.2.1
theorem NetR.way_look {w W : World} {v : Value} {l : List Ob} {bn bd bw : Nat} {nl wl : List (ByteArray × Value)} (h : NetR w v l bn bd bw nl wl W) (hm : mapB l = true) (hok : ∀ o ∈ l, okO o) {s : ByteArray} (hs : s.size ≤ 100000) :
    ((Instr.lookup 65 (.map (some bw)) (.string s) false).run Try.prog W = .ok (.slice none 0 0) W ∧ wayAt l s = none) ∨
    ∃ g o c refs, (Instr.lookup 65 (.map (some bw)) (.string s) false).run Try.prog W = .ok (.slice (some ⟨g, o, none⟩) refs.length c) W ∧ wayAt l s = some refs ∧ WayO w g o c refs := by
  have := h.way_get hs
  rcases h.way_val hm hok s with ⟨h1, h2⟩ | ⟨g, o, c, refs, h1, h2⟩
  · rw [h1] at this
    exact .inl ⟨this, h2⟩
  · rw [h1] at this
    exact .inr ⟨g, o, c, refs, this, h2⟩

set_option maxRecDepth 100000 in
set_option maxHeartbeats 8000000 in
theorem sound_any (w W : World) (v : Value) (l : List Ob) (bn bd bw : Nat) (nl wl : List (ByteArray × Value)) (h : NetR w v l bn bd bw nl wl W) (hm : mapB l = true) (hall : ∀ o ∈ l, okO o) (o : Ob) (rv tv : Value) (hr : StS w rv o.refs) (ht : TgS w tv o.tags) (ho : okO o) :
    Calls Try.prog 34 #[.pointer (some ⟨bn, 0, none⟩), .agg (obV o rv tv)] W fun e W' => e = .returned (.bool (soundB l o)) ∧ Below W.heap.size W W' := by
  obtain ⟨R, hR⟩ : ∃ R, soundB l o = R := ⟨_, rfl⟩
  rw [hR]
  have HR := hide hR
  have H0 := hide h
  have HMB := hide hm
  have HOK := hide hall
  obtain ⟨A, c, rfl, _, hA⟩ := hr
  obtain ⟨A2, c2, rfl, _⟩ := ht
  have HA := hide hA
  have HSZ := hide ho.2.2.1
  have HLN := ho.2.1
  obtain ⟨oid, kd, x, y, refs, tags⟩ := o
  unfold obV
  simp only at *
  obtain ⟨wo, hwo⟩ : ∃ wo, W.alloc (.cells #[.string oid, .int .i64 kd, .int .i64 x, .int .i64 y, .slice A refs.length c, .slice A2 tags.length c2] 42) = wo := ⟨_, rfl⟩
  have hb0 : Below W.heap.size W wo := by rw [← hwo]; exact (Below.refl _ _).alloc (Nat.le_refl _) _
  have hblk : wo.heap[W.heap.size]? = some (.cells #[.string oid, .int .i64 kd, .int .i64 x, .int .i64 y, .slice A refs.length c, .slice A2 tags.length c2] 42 (0, 0)) := by rw [← hwo]; exact heap_alloc_new _ _
  have d3 : wo.cell? ⟨W.heap.size, 4, none⟩ = some (.slice A refs.length c) := cell_of_row wo _ 4 _ _ _ hblk
  clear hR h hm hall hA ho
  go_enter Try.func34, Try.ntmps34
  go_wp2_with fail
  have HB0 := hide hb0
  have HBL := hide hblk
  clear hwo hb0 hblk d3
  go_loopw [12] (fun i wr => ∃ k : Nat, k ≤ refs.length ∧ i = .int .i64 k ∧ Hid (Below wo.heap.size wo wr) ∧ Hid (soundL l kd k (refs.drop k) = R)) (fun i _ => refs.length - (intOf i).toNat)
  case atStart => exact ⟨0, Nat.zero_le _, rfl, Below.refl _ _, HR⟩
  case round =>
    obtain ⟨k, hk, rfl, hw, hr⟩ := hrel
    by_cases hlt : k < refs.length
    · obtain ⟨g, off, rfl, hg, hp⟩ := HA.out.resolve_left (by rintro rfl; simp at hlt)
      have hbw := bto HB0.out hw.out
      have c1 := (hp.below hg (bto H0.out.below hbw)) k _ (List.getElem?_eq_getElem hlt)
      have c2 : wr.cell? ⟨W.heap.size, 1, none⟩ = some (.int .i64 kd) := cell_of_row wr _ 1 _ _ _ (blkB hw.out HBL.out)
      have hr2 := hr.out
      rw [List.drop_eq_getElem_cons hlt, soundL] at hr2
      have hsz := HSZ.out _ (List.getElem_mem hlt)
      generalize refs[k] = s at *
      have hn := H0.out.lift hbw
      have n1 : wr.cell? ⟨bn, 1, none⟩ = some (.map (some bd)) := cell_of_row wr _ 1 _ _ _ hn.nb
      have n2 : wr.cell? ⟨bn, 2, none⟩ = some (.map (some bw)) := cell_of_row wr _ 2 _ _ _ hn.nb
      have k0 : (0 : Int) ≤ k := by omega
      have k1 : (k : Int) < refs.length := by omega
      have HL := hide hlt
      have HM := hide (show refs.length - (k + 1) < refs.length - k from by omega)
      have HBW := hide hw.out
      have HBB := hide hbw
      by_cases hcase : kd = 5 ∧ k = 1
      · obtain ⟨hk5, hk1⟩ := hcase
        have hl1 := hn.node_look HMB.out hsz
        rw [if_pos ⟨hk5, hk1⟩] at hr2
        rw [hk5] at c2
        subst hk1
        clear hr hlt hp hw hbw hn
        cases hb : isNode l s with
        | true =>
          rw [hb] at hr2 hl1
          have HR2 := hide hr2
          clear hr2 hb
          go_wp2_with fail
          refine ⟨⟨1 + 1, HL.out, by go_num, hide (HBW.out.alloc HBW.out.size _), hide (by simpa using HR2.out)⟩, ?_⟩
          have := HM.out
          simp [intOf]; omega
        | false =>
          rw [hb] at hr2 hl1
          have HR2 := hide hr2
          clear hr2 hb
          go_wp2_with fail
          go_ret
          refine ⟨ret_bool (by rw [← HR2.out]; rfl), HBB.out.alloc HBB.out.size _⟩
      · rw [if_neg hcase] at hr2
        have hwl := hn.way_look HMB.out HOK.out hsz
        have hkk : ¬ kd = 5 ∨ (kd = 5 ∧ ¬ (k : Int) = 1) := by
          by_cases h5 : kd = 5
          · exact .inr ⟨h5, fun e => hcase ⟨h5, by omega⟩⟩
          · exact .inl h5
        clear hr hlt hp hw hbw hn hcase
        have qeq : ∀ (w : World) (a : Option Addr) (n c : Nat), (binOp .eql 39 (.slice a n c) (.slice none 0 0)).run Try.prog w = .ok (.bool a.isNone) w := fun w a n c => Go.Lib.run_eql_slice_nil w _ _ a n c 0 0 Try.underlying39
        rcases hwl with ⟨hl1, hw1⟩ | ⟨g2, o2, c3, r2, hl1, hw1, _⟩
        · rw [hw1] at hr2
          have HR2 := hide hr2
          clear hr2 hw1
          rcases hkk with h5 | ⟨h5, hk1⟩
          · have h5b : (kd == 5) = false := beq_eq_false_iff_ne.2 h5
            go_wp2_with fail
            go_ret
            exact ⟨ret_bool (by rw [← HR2.out]; rfl), HBB.out⟩
          · rw [h5] at c2
            have hk1b : ((k : Int) == 1) = false := beq_eq_false_iff_ne.2 hk1
            go_wp2_with fail
            go_ret
            exact ⟨ret_bool (by rw [← HR2.out]; rfl), HBB.out⟩
        · rw [hw1] at hr2
          have HR2 := hide hr2
          clear hr2 hw1
          rcases hkk with h5 | ⟨h5, hk1⟩
          · have h5b : (kd == 5) = false := beq_eq_false_iff_ne.2 h5
            go_wp2_with fail
            refine ⟨⟨k + 1, HL.out, by go_num, HBW, hide (by simpa using HR2.out)⟩, ?_⟩
            have := HM.out
            simp [intOf]; omega
          · rw [h5] at c2
            have hk1b : ((k : Int) == 1) = false := beq_eq_false_iff_ne.2 hk1
            go_wp2_with fail
            refine ⟨⟨k + 1, HL.out, by go_num, HBW, hide (by simpa using HR2.out)⟩, ?_⟩
            have := HM.out
            simp [intOf]; omega
    · have hz : R = true := by rw [← hr.out, List.drop_eq_nil_of_le (by omega)]; rfl
      have HZ := hide hz
      have HBB := hide (bto HB0.out hw.out)
      clear hr hz hw
      go_wp2_with fail
      go_ret
      exact ⟨ret_bool HZ.out.symm, HBB.out⟩
end Go.Proofs.Ytpiocaomlifljaa

/-! connected, walked. -/
namespace Go.Proofs.Ytpiocaomlifljaa
open Go.RowKit Go.Proofs.PlLex Go.Proofs.PlNet Go.Proofs.PlMap

set_option maxRecDepth 100000 in
set_option maxHeartbeats 4000000 in
theorem reach_any (be bo : Nat) (a b n : ByteArray) (p q : Bool) (W : World) (he : W.heap[be]? = some (.cells #[.string a, .string b] 92 (0, 0))) (ho : W.heap[bo]? = some (.cells #[.bool p, .bool q] 93 (0, 0))) :
    Calls Try.prog 57 #[.string n, .pointer (some ⟨bo, 0, none⟩), .pointer (some ⟨be, 0, none⟩)] W fun e W' => e = .returned (.bool (reachB a b p q n)) ∧ W = W' := by
  obtain ⟨⟨e0, e1⟩, _⟩ := blk2 he
  obtain ⟨⟨o0, o1⟩, _⟩ := blk2 ho
  obtain ⟨R, hR⟩ : ∃ R, reachB a b p q n = R := ⟨_, rfl⟩
  rw [hR]
  unfold reachB at hR
  cases p <;> cases q <;> cases ha : (a.toList == n.toList) <;> cases hb : (b.toList == n.toList)
  all_goals
    rw [ha, hb] at hR
    have HR := hide hR
    clear hR
    try (have ha3 : a.toList = n.toList := by simpa using ha)
    try (have ha4 : ¬ a.toList = n.toList := by simpa using ha)
    try (have hb3 : b.toList = n.toList := by simpa using hb)
    try (have hb4 : ¬ b.toList = n.toList := by simpa using hb)
    go_enter Try.func57, Try.ntmps57
    go_wp2_with fail
    go_ret
    exact ⟨ret_bool (by rw [← HR.out]; rfl), rfl⟩

/-- The boxes of connected. -/
structure CnI (W : World) (cs : Array Value) (a b : ByteArray) (p q : Bool) (wr : World) : Prop where
  ob : wr.heap[W.heap.size]? = some (.cells cs 42 (0, 0))
  en : wr.heap[W.heap.size + 1]? = some (.cells #[.string a, .string b] 92 (0, 0))
  op : wr.heap[W.heap.size + 2]? = some (.cells #[.bool p, .bool q] 93 (0, 0))
  below : Below W.heap.size W wr
theorem CnI.drew {W : World} {cs : Array Value} {a b : ByteArray} {p q : Bool} {wr : World} (h : CnI W cs a b p q wr) (n : Nat) : CnI W cs a b p q (wr.drewN n) := ⟨h.ob, h.en, h.op, below_drewN' h.below n⟩
theorem blk_set2 {W : World} {b : Nat} {a0 a1 x y : Value} {t : TypeId} (h : W.heap[b]? = some (.cells #[a0, a1] t (0, 0))) : ((W.setCell ⟨b, 0, none⟩ x).setCell ⟨b, 1, none⟩ y).heap[b]? = some (.cells #[x, y] t (0, 0)) := by
  have e1 : (W.setCell ⟨b, 0, none⟩ x).heap[b]? = some (.cells #[x, a1] t (0, 0)) := by
    obtain ⟨hlt, hk⟩ := Array.getElem?_eq_some_iff.1 h
    show (W.heap.modify b _)[b]? = _
    rw [Array.getElem?_eq_getElem (by simpa using hlt), Array.getElem_modify_self, hk]
    rfl
  obtain ⟨hlt, hk⟩ := Array.getElem?_eq_some_iff.1 e1
  show ((W.setCell ⟨b, 0, none⟩ x).heap.modify b _)[b]? = _
  rw [Array.getElem?_eq_getElem (by simpa using hlt), Array.getElem_modify_self, hk]
  rfl
theorem CnI.ends {W : World} {cs : Array Value} {a b : ByteArray} {p q : Bool} {wr : World} (h : CnI W cs a b p q wr) (x y : ByteArray) : CnI W cs x y p q ((wr.setCell ⟨W.heap.size + 1, 0, none⟩ (.string x)).setCell ⟨W.heap.size + 1, 1, none⟩ (.string y)) :=
  ⟨blk_other (blk_other h.ob (by omega)) (by omega), blk_set2 h.en, blk_other (blk_other h.op (by omega)) (by omega), (h.below.setCell (p := ⟨W.heap.size + 1, 0, none⟩) (by show _ ≤ W.heap.size + 1; omega) _).setCell (p := ⟨W.heap.size + 1, 1, none⟩) (by show _ ≤ W.heap.size + 1; omega) _⟩
theorem CnI.opens {W : World} {cs : Array Value} {a b : ByteArray} {p q : Bool} {wr : World} (h : CnI W cs a b p q wr) (x y : Bool) : CnI W cs a b x y ((wr.setCell ⟨W.heap.size + 2, 0, none⟩ (.bool x)).setCell ⟨W.heap.size + 2, 1, none⟩ (.bool y)) :=
  ⟨blk_other (blk_other h.ob (by omega)) (by omega), blk_other (blk_other h.en (by omega)) (by omega), blk_set2 h.op, (h.below.setCell (p := ⟨W.heap.size + 2, 0, none⟩) (by show _ ≤ W.heap.size + 2; omega) _).setCell (p := ⟨W.heap.size + 2, 1, none⟩) (by show _ ≤ W.heap.size + 2; omega) _⟩
/-- What is left of the question, ahead of the k-th way. -/
def leftC (l : List Ob) (refs : List ByteArray) (k : Nat) (a b : ByteArray) (p q : Bool) : Bool := if k = 0 then connB l refs else connM l a b p q (refs.drop k)
theorem leftC_step (l : List Ob) (refs : List ByteArray) (k : Nat) (s a b : ByteArray) (p q : Bool) (h : refs.drop k = s :: refs.drop (k + 1)) :
    leftC l refs k a b p q = leftC l refs (k + 1) (firstN l s) (lastN l s) (if k = 0 then true else reachB a b p q (lastN l s)) (if k = 0 then true else reachB a b p q (firstN l s)) := by
  unfold leftC
  rw [if_neg (Nat.succ_ne_zero k)]
  by_cases h0 : k = 0
  · subst h0
    rw [if_pos rfl, if_pos rfl, if_pos rfl]
    rw [List.drop_zero] at h
    conv => lhs; rw [h]
    rfl
  · rw [if_neg h0, if_neg h0, if_neg h0, h]
    rfl
theorem first_way {l : List Ob} {s : ByteArray} {r : List ByteArray} (h : wayAt l s = some r) (h2 : 2 ≤ r.length) : r[0]? = some (firstN l s) ∧ r[r.length - 1]? = some (lastN l s) := by
  unfold firstN lastN
  rw [h]
  cases r with
  | nil => simp at h2
  | cons x r =>
    refine ⟨rfl, ?_⟩
    simp only [Option.getD_some]
    rw [← List.getLast?_eq_getElem?, List.getLastD_eq_getLast?]
    cases e : (x :: r).getLast? with
    | none => simp at e
    | some y => rfl

set_option maxRecDepth 100000 in
set_option maxHeartbeats 8000000 in
theorem connected_any (w W : World) (v : Value) (l : List Ob) (bn bd bw : Nat) (nl wl : List (ByteArray × Value)) (h : NetR w v l bn bd bw nl wl W) (hm : mapB l = true) (hall : ∀ o ∈ l, okO o) (o : Ob) (rv tv : Value) (hr : StS w rv o.refs) (ht : TgS w tv o.tags) (ho : okO o) (hsd : ∀ s ∈ o.refs, (wayAt l s).isSome = true) :
    Calls Try.prog 35 #[.pointer (some ⟨bn, 0, none⟩), .agg (obV o rv tv)] W fun e W' => e = .returned (.bool (connB l o.refs)) ∧ Below W.heap.size W W' := by
  obtain ⟨R, hR⟩ : ∃ R, connB l o.refs = R := ⟨_, rfl⟩
  rw [hR]
  have H0 := hide h
  have HMB := hide hm
  have HOK := hide hall
  have HSD := hide hsd
  obtain ⟨A, c, rfl, _, hA⟩ := hr
  obtain ⟨A2, c2, rfl, _⟩ := ht
  have HA := hide hA
  have HSZ := hide ho.2.2.1
  have HLN := ho.2.1
  obtain ⟨oid, kd, x, y, refs, tags⟩ := o
  unfold obV
  simp only at *
  have HR : Hid (leftC l refs 0 ⟨#[]⟩ ⟨#[]⟩ true true = R) := hR
  obtain ⟨wo, hwo⟩ : ∃ wo, ((W.alloc (.cells #[.string oid, .int .i64 kd, .int .i64 x, .int .i64 y, .slice A refs.length c, .slice A2 tags.length c2] 42)).alloc (.cells #[.string ⟨#[]⟩, .string ⟨#[]⟩] 92)).alloc (.cells #[.bool true, .bool true] 93) = wo := ⟨_, rfl⟩
  have hcn : CnI W #[.string oid, .int .i64 kd, .int .i64 x, .int .i64 y, .slice A refs.length c, .slice A2 tags.length c2] ⟨#[]⟩ ⟨#[]⟩ true true wo := by
    rw [← hwo]
    have q1 := heap_alloc_new W (.cells #[.string oid, .int .i64 kd, .int .i64 x, .int .i64 y, .slice A refs.length c, .slice A2 tags.length c2] 42)
    have q2 := heap_alloc_new (W.alloc (.cells #[.string oid, .int .i64 kd, .int .i64 x, .int .i64 y, .slice A refs.length c, .slice A2 tags.length c2] 42)) (.cells #[.string ⟨#[]⟩, .string ⟨#[]⟩] 92)
    have q3 := heap_alloc_new ((W.alloc (.cells #[.string oid, .int .i64 kd, .int .i64 x, .int .i64 y, .slice A refs.length c, .slice A2 tags.length c2] 42)).alloc (.cells #[.string ⟨#[]⟩, .string ⟨#[]⟩] 92)) (.cells #[.bool true, .bool true] 93)
    refine ⟨blkB ((Below.refl _ _).alloc (Nat.le_refl _) _) (blkB ((Below.refl _ _).alloc (Nat.le_refl _) _) q1), ?_, ?_, (((Below.refl W.heap.size W).alloc (Nat.le_refl _) _).alloc (by simp) _).alloc (by simp; omega) _⟩
    · refine blkB ((Below.refl _ _).alloc (Nat.le_refl _) _) ?_
      simpa using q2
    · simpa using q3
  have d3 : wo.cell? ⟨W.heap.size, 4, none⟩ = some (.slice A refs.length c) := cell_of_row wo _ 4 _ _ _ hcn.ob
  clear hR h hm hall hA ho hsd
  go_enter Try.func35, Try.ntmps35
  go_wp2_with fail
  have HCN := hide hcn
  clear hwo hcn d3
  go_loopw [17] (fun i wr => ∃ (k : Nat) (a b : ByteArray) (p q : Bool), k ≤ refs.length ∧ i = .int .i64 k ∧ Hid (CnI W #[.string oid, .int .i64 kd, .int .i64 x, .int .i64 y, .slice A refs.length c, .slice A2 tags.length c2] a b p q wr) ∧ Hid (k = 0 → p = true ∧ q = true) ∧ Hid (leftC l refs k a b p q = R)) (fun i _ => refs.length - (intOf i).toNat)
  case atStart => exact ⟨0, ⟨#[]⟩, ⟨#[]⟩, true, true, Nat.zero_le _, rfl, HCN, fun _ => ⟨rfl, rfl⟩, HR⟩
  case round =>
    obtain ⟨k, a, b, p, q, hk, rfl, hw, hz, hr⟩ := hrel
    by_cases hlt : k < refs.length
    · obtain ⟨g, off, rfl, hg, hp⟩ := HA.out.resolve_left (by rintro rfl; simp at hlt)
      have c1 := (hp.below hg (bto H0.out.below hw.out.below)) k _ (List.getElem?_eq_getElem hlt)
      have hsz := HSZ.out _ (List.getElem_mem hlt)
      have hsm := HSD.out _ (List.getElem_mem hlt)
      have hdr := List.drop_eq_getElem_cons hlt
      generalize refs[k] = s at *
      have hn := H0.out.lift hw.out.below
      have n2 : wr.cell? ⟨bn, 2, none⟩ = some (.map (some bw)) := cell_of_row wr _ 2 _ _ _ hn.nb
      obtain ⟨g2, o2, c3, r2, hl1, hw1, hwo⟩ : ∃ g o c refs, (Instr.lookup 65 (.map (some bw)) (.string s) false).run Try.prog wr = .ok (.slice (some ⟨g, o, none⟩) refs.length c) wr ∧ wayAt l s = some refs ∧ WayO w g o c refs := by
        rcases hn.way_look HMB.out HOK.out hsz with ⟨_, h2⟩ | h
        · rw [h2] at hsm; cases hsm
        · exact h
      obtain ⟨hf0, hl0⟩ := first_way hw1 hwo.two
      have m0 := (hwo.strs.below hwo.lt (bto H0.out.below hw.out.below)) 0 _ hf0
      rw [Nat.add_zero] at m0
      have m1 := (hwo.strs.below hwo.lt (bto H0.out.below hw.out.below)) _ _ hl0
      have z2 := hwo.two
      have z3 := hwo.many
      have k0 : (0 : Int) ≤ k := by omega
      have k1 : (k : Int) < refs.length := by omega
      have HL := hide hlt
      have HM := hide (show refs.length - (k + 1) < refs.length - k from by omega)
      have HW := hide hw.out
      have HDR := hide hdr
      have HNX := hide ((leftC_step l refs k s a b p q hdr).symm.trans hr.out)
      have HZ0 := hide hz.out
      generalize firstN l s = F at *
      generalize lastN l s = Z at *
      clear hr hz hlt hp hw hn hdr hwo hf0 hl0 hsm hw1
      go_wp2_with fail
      go_quiet (fail)
      have HW2 := hide (HW.out.drew nq)
      obtain ⟨e1, e2, e3⟩ := blk2 HW2.out.en
      obtain ⟨o1, o2', o3⟩ := blk2 HW2.out.op
      clear n2 hl1 m0 m1 c1 HW
      generalize wr.drewN nq = wd at *
      have o1' : wd.cell? ⟨W.heap.size + 1 + 1, 0, none⟩ = some (.bool p) ∧ wd.cell? ⟨W.heap.size + 1 + 1, 1, none⟩ = some (.bool q) := o1
      have o2'' : wd.frozen? ⟨W.heap.size + 1 + 1, 0, none⟩ = false := o2'
      have o3' : wd.frozen? ⟨W.heap.size + 1 + 1, 1, none⟩ = false := o3
      clear o1 o2' o3
      by_cases h0 : k = 0
      · subst h0
        obtain ⟨hp1, hq1⟩ := HZ0.out rfl
        have HN : Hid (leftC l refs (0 + 1) F Z p q = R) := by
          have := HNX.out
          rw [if_pos rfl, if_pos rfl] at this
          rw [hp1, hq1]
          exact this
        clear hp1 hq1
        go_wp2_with fail
        refine ⟨⟨0 + 1, F, Z, p, q, HL.out, by go_num, HW2.out.ends F Z, hide (fun e => absurd e (by omega)), HN⟩, ?_⟩
        have := HM.out
        simp [intOf]; omega
      · have h0b : ((k : Int) == 0) = false := beq_eq_false_iff_ne.2 (by omega)
        have HRE := hide (fun n => reach_any (W.heap.size + 1) (W.heap.size + 2) a b n p q wd HW2.out.en HW2.out.op)
        have HN := HNX.out
        rw [if_neg h0, if_neg h0] at HN
        have HN := hide HN
        go_wp2_with fail
        refine (HRE.out Z).mono ?_
        rintro _ w2 ⟨rfl, hw2⟩
        obtain rfl : wd = w2 := hw2
        go_wp2_with fail
        refine (HRE.out F).mono ?_
        rintro _ w2 ⟨rfl, hw2⟩
        obtain rfl : wd = w2 := hw2
        generalize reachB a b p q Z = P1 at *
        generalize reachB a b p q F = P2 at *
        go_wp2_with fail
        refine ⟨⟨k + 1, F, Z, P1, P2, HL.out, by go_num, (HW2.out.ends F Z).opens P1 P2, hide (fun e => absurd e (by omega)), HN⟩, ?_⟩
        have := HM.out
        simp [intOf]; omega
    · obtain rfl : k = refs.length := by omega
      have HZ : Hid ((p || q) = R) := by
        have := hr.out
        unfold leftC at this
        by_cases h0 : refs.length = 0
        · rw [if_pos h0, List.length_eq_zero_iff.1 h0] at this
          obtain ⟨hp1, hq1⟩ := hz.out h0
          rw [hp1, hq1]
          exact this
        · rw [if_neg h0, List.drop_length] at this
          exact this
      obtain ⟨⟨o1, o2⟩, _⟩ := blk2 hw.out.op
      have o1' : wr.cell? ⟨W.heap.size + 1 + 1, 0, none⟩ = some (.bool p) := o1
      have o2' : wr.cell? ⟨W.heap.size + 1 + 1, 1, none⟩ = some (.bool q) := o2
      have HB := hide hw.out.below
      clear hr hz hw o1 o2
      cases p with
      | true =>
        go_wp2_with fail
        go_ret
        exact ⟨ret_bool HZ.out, HB.out⟩
      | false =>
        go_wp2_with fail
        go_ret
        exact ⟨ret_bool HZ.out, HB.out⟩
end Go.Proofs.Ytpiocaomlifljaa

/-! meets, walked. -/
namespace Go.Proofs.Ytpiocaomlifljaa
open Go.RowKit Go.Proofs.PlLex Go.Proofs.PlNet Go.Proofs.PlMap

theorem containsS_has (l : List ByteArray) (s : ByteArray) : Go.Lib.containsS l s = hasS s l := by
  rw [Bool.eq_iff_iff, Go.Lib.containsS_iff, hasS_mem]
theorem contains_any (w : World) (g o c : Nat) (r : List ByteArray) (h : StrsO w g o r) (hl : r.length ≤ 100000) (s : ByteArray) :
    Calls Try.prog 44 #[.slice (some ⟨g, o, none⟩) r.length c, .string s] w fun e w' => e = .returned (.bool (hasS s r)) ∧ w = w' := by
  refine (Try.slices_Contains_string g o r.length c r s w (Nat.le_refl _) (by omega) (fun j hj => ?_)).mono (fun _ _ h => ⟨?_, h.2.symm⟩)
  · rw [h j _ (List.getElem?_eq_getElem hj), List.getD_eq_getElem?_getD, List.getElem?_eq_getElem hj]
    rfl
  · rw [h.1, List.take_length, containsS_has]
theorem contains_nil (w : World) (s : ByteArray) :
    Calls Try.prog 44 #[.slice none 0 0, .string s] w fun e w' => e = .returned (.bool false) ∧ w = w' :=
  (Try.slices_Contains_string_empty none 0 s w).mono fun _ _ h => ⟨h.1, h.2.symm⟩

/-- The box of an object, and what lies below. -/
structure MtI (W : World) (cs : Array Value) (wr : World) : Prop where
  ob : wr.heap[W.heap.size]? = some (.cells cs 42 (0, 0))
  below : Below W.heap.size W wr
theorem MtI.lift {W wr ws : World} {cs : Array Value} (h : MtI W cs wr) (hb : Below wr.heap.size wr ws) : MtI W cs ws := ⟨blkB hb h.ob, bto h.below hb⟩
def MtIs (W : World) (cs : Array Value) : Type := {wr : World // MtI W cs wr}
def MtIs.w {W : World} {cs : Array Value} (u : MtIs W cs) : World := u.1

set_option maxRecDepth 100000 in
set_option maxHeartbeats 8000000 in
theorem meets_any (w W : World) (v : Value) (l : List Ob) (bn bd bw : Nat) (nl wl : List (ByteArray × Value)) (h : NetR w v l bn bd bw nl wl W) (hm : mapB l = true) (hall : ∀ o ∈ l, okO o) (o : Ob) (rv tv : Value) (hr : StS w rv o.refs) (ht : TgS w tv o.tags) (ho : okO o) (h3 : o.refs.length = 3)
    (ha : (wayAt l (refAt o 0)).isSome = true) (hb : (wayAt l (refAt o 2)).isSome = true) :
    Calls Try.prog 36 #[.pointer (some ⟨bn, 0, none⟩), .agg (obV o rv tv)] W fun e W' => e = .returned (.bool (meetsB l o)) ∧ Below W.heap.size W W' := by
  have hsz := ho.2.2.1
  obtain ⟨oid, kd, x, y, refs, tags⟩ := o
  obtain ⟨r0, r1, r2, rfl⟩ : ∃ r0 r1 r2, refs = [r0, r1, r2] := by
    match refs, h3 with
    | [a, b, c], _ => exact ⟨a, b, c, rfl⟩
  obtain ⟨A, c, rfl, _, hA⟩ := hr
  obtain ⟨A2, c2, rfl, _⟩ := ht
  obtain ⟨g, off, rfl, hg, hp⟩ := hA.resolve_left (by intro e; cases e)
  unfold meetsB
  unfold obV
  simp only [refAt, List.getD_eq_getElem?_getD, List.getElem?_cons_zero, List.getElem?_cons_succ, Option.getD_some] at *
  have hs0 : r0.size ≤ 100000 := hsz r0 (by simp)
  have hs2 : r2.size ≤ 100000 := hsz r2 (by simp)
  have HWL : ∀ u : MtIs W #[.string oid, .int .i64 kd, .int .i64 x, .int .i64 y, .slice (some ⟨g, off, none⟩) 3 c, .slice A2 tags.length c2], NetR w v l bn bd bw nl wl u.w := fun u => h.lift u.2.below
  obtain ⟨ga, oa, ca, ra, hva, hwa, hoa⟩ : ∃ g o c refs, (getL wl r0).getD (.slice none 0 0) = .slice (some ⟨g, o, none⟩) refs.length c ∧ wayAt l r0 = some refs ∧ WayO w g o c refs := by
    rcases h.way_val hm hall r0 with ⟨_, h2⟩ | h
    · rw [h2] at ha; cases ha
    · exact h
  obtain ⟨gb, ob, cb, rb, hvb, hwb, hob⟩ : ∃ g o c refs, (getL wl r2).getD (.slice none 0 0) = .slice (some ⟨g, o, none⟩) refs.length c ∧ wayAt l r2 = some refs ∧ WayO w g o c refs := by
    rcases h.way_val hm hall r2 with ⟨_, h2⟩ | h
    · rw [h2] at hb; cases hb
    · exact h
  have hla : ∀ u : MtIs W #[.string oid, .int .i64 kd, .int .i64 x, .int .i64 y, .slice (some ⟨g, off, none⟩) 3 c, .slice A2 tags.length c2], (Instr.lookup 65 (.map (some bw)) (.string r0) false).run Try.prog u.w = .ok (.slice (some ⟨ga, oa, none⟩) ra.length ca) u.w := fun u => by
    have := (HWL u).way_get hs0
    rw [hva] at this
    exact this
  have hlb : ∀ u : MtIs W #[.string oid, .int .i64 kd, .int .i64 x, .int .i64 y, .slice (some ⟨g, off, none⟩) 3 c, .slice A2 tags.length c2], (Instr.lookup 65 (.map (some bw)) (.string r2) false).run Try.prog u.w = .ok (.slice (some ⟨gb, ob, none⟩) rb.length cb) u.w := fun u => by
    have := (HWL u).way_get hs2
    rw [hvb] at this
    exact this
  rw [hwa, hwb, Option.getD_some, Option.getD_some]
  have HCA := hide (fun u : MtIs W #[.string oid, .int .i64 kd, .int .i64 x, .int .i64 y, .slice (some ⟨g, off, none⟩) 3 c, .slice A2 tags.length c2] => contains_any u.w ga oa ca ra (hoa.strs.below hoa.lt (bto h.below u.2.below)) hoa.many r1)
  have HCB := hide (fun u : MtIs W #[.string oid, .int .i64 kd, .int .i64 x, .int .i64 y, .slice (some ⟨g, off, none⟩) 3 c, .slice A2 tags.length c2] => contains_any u.w gb ob cb rb (hob.strs.below hob.lt (bto h.below u.2.below)) hob.many r1)
  have Y0 : ∀ u : MtIs W #[.string oid, .int .i64 kd, .int .i64 x, .int .i64 y, .slice (some ⟨g, off, none⟩) 3 c, .slice A2 tags.length c2], u.w.cell? ⟨g, off, none⟩ = some (.string r0) := fun u => (hp.below hg (bto h.below u.2.below)) 0 _ rfl
  have Y1 : ∀ u : MtIs W #[.string oid, .int .i64 kd, .int .i64 x, .int .i64 y, .slice (some ⟨g, off, none⟩) 3 c, .slice A2 tags.length c2], u.w.cell? ⟨g, off + 1, none⟩ = some (.string r1) := fun u => (hp.below hg (bto h.below u.2.below)) 1 _ rfl
  have Y2 : ∀ u : MtIs W #[.string oid, .int .i64 kd, .int .i64 x, .int .i64 y, .slice (some ⟨g, off, none⟩) 3 c, .slice A2 tags.length c2], u.w.cell? ⟨g, off + 2, none⟩ = some (.string r2) := fun u => (hp.below hg (bto h.below u.2.below)) 2 _ rfl
  have Y3 : ∀ u : MtIs W #[.string oid, .int .i64 kd, .int .i64 x, .int .i64 y, .slice (some ⟨g, off, none⟩) 3 c, .slice A2 tags.length c2], u.w.cell? ⟨W.heap.size, 4, none⟩ = some (.slice (some ⟨g, off, none⟩) 3 c) := fun u => cell_of_row u.w _ 4 _ _ _ u.2.ob
  have Y4 : ∀ u : MtIs W #[.string oid, .int .i64 kd, .int .i64 x, .int .i64 y, .slice (some ⟨g, off, none⟩) 3 c, .slice A2 tags.length c2], u.w.cell? ⟨bn, 2, none⟩ = some (.map (some bw)) := fun u => cell_of_row u.w _ 2 _ _ _ (HWL u).nb
  obtain ⟨wo, hwo⟩ : ∃ wo, W.alloc (.cells #[.string oid, .int .i64 kd, .int .i64 x, .int .i64 y, .slice (some ⟨g, off, none⟩) 3 c, .slice A2 tags.length c2] 42) = wo := ⟨_, rfl⟩
  have hb0 : MtI W #[.string oid, .int .i64 kd, .int .i64 x, .int .i64 y, .slice (some ⟨g, off, none⟩) 3 c, .slice A2 tags.length c2] wo := ⟨by rw [← hwo]; exact heap_alloc_new _ _, by rw [← hwo]; exact (Below.refl _ _).alloc (Nat.le_refl _) _⟩
  have hb1 : MtI W #[.string oid, .int .i64 kd, .int .i64 x, .int .i64 y, .slice (some ⟨g, off, none⟩) 3 c, .slice A2 tags.length c2] wo.drew := hb0.lift (below_drew wo)
  have YN : Nonempty (MtIs W #[.string oid, .int .i64 kd, .int .i64 x, .int .i64 y, .slice (some ⟨g, off, none⟩) 3 c, .slice A2 tags.length c2]) := ⟨⟨_, hb1⟩⟩
  generalize hasS r1 ra = P1 at *
  generalize hasS r1 rb = P2 at *
  clear hp hoa hob hva hvb hwa hwb HWL h ha hb hA hsz hall hm hb0
  go_enter Try.func36, Try.ntmps36
  go_wp2_with fail
  clear hwo
  cases P1 with
  | false =>
    refine wp_region_quietW (J := MtIs W #[.string oid, .int .i64 kd, .int .i64 x, .int .i64 y, .slice (some ⟨g, off, none⟩) 3 c, .slice A2 tags.length c2]) MtIs.w ⟨_, hb1⟩ rfl (by kernel_rfl) (by kernel_rfl) ?_
    repeat (go_big_quiet_step ((first | ((with_reducible refine (HCA.out _).mono ?_); rintro _ w8 ⟨rfl, rfl⟩; exact ⟨rfl, ⟨_, rfl⟩⟩) | ((with_reducible refine (HCB.out _).mono ?_); rintro _ w8 ⟨rfl, rfl⟩; exact ⟨rfl, ⟨_, rfl⟩⟩))))
    refine wpQuiet_nil ?_
    rintro w9 ⟨u, rfl⟩
    have HB := hide u.2.below
    clear Y0 Y1 Y2 Y3 Y4 YN HCA HCB hla hlb
    go_wp2_with fail
    go_ret
    exact ⟨rfl, HB.out⟩
  | true =>
    refine wp_region_quietW (J := MtIs W #[.string oid, .int .i64 kd, .int .i64 x, .int .i64 y, .slice (some ⟨g, off, none⟩) 3 c, .slice A2 tags.length c2]) MtIs.w ⟨_, hb1⟩ rfl (by kernel_rfl) (by kernel_rfl) ?_
    repeat (go_big_quiet_step ((first | ((with_reducible refine (HCA.out _).mono ?_); rintro _ w8 ⟨rfl, rfl⟩; exact ⟨rfl, ⟨_, rfl⟩⟩) | ((with_reducible refine (HCB.out _).mono ?_); rintro _ w8 ⟨rfl, rfl⟩; exact ⟨rfl, ⟨_, rfl⟩⟩))))
    refine wpQuiet_nil ?_
    rintro w9 ⟨u, rfl⟩
    have HB := hide u.2.below
    clear Y0 Y1 Y2 Y3 Y4 YN HCA HCB hla hlb
    go_wp2_with fail
    go_ret
    exact ⟨rfl, HB.out⟩
end Go.Proofs.Ytpiocaomlifljaa
