/-
  The closure of object.Valid, walked: is a reference wrong behind those that were seen?
-/
import Derived.Test.YtfkgjbdeicggaaaGreatNetB
import Derived.Test.YtfkgjbdeicggaaaGreatPlainAll
namespace Go.Proofs.YtfkgjbdeicggaaaGreat
open Go.RowKit Go.Proofs.PlLex Go.Proofs.PlNet Go.Proofs.PlMap

/-- A map with strings as keys. -/
abbrev MapS (w : World) (b : Nat) (l : List (ByteArray × Value)) : Prop := MapL (strKeys Tryz.prog 9 Tryz.underlying9) w b l
def obV (o : Ob) (rv tv : Value) : Array Value := #[.string o.id, .int .i64 o.kind, .int .i64 o.x, .int .i64 o.y, rv, tv]
theorem zero_bool (w : World) : (zeroValue 4).run Tryz.prog w = .ok (.bool false) w := by kernel_rfl

/-- What the closure's boxes hold. -/
structure WrI (w : World) (o : Ob) (rv tv : Value) (bo bm : Nat) (seen : List ByteArray) (last : ByteArray) (W : World) : Prop where
  ob : W.heap[bo]? = some (.cells (obV o rv tv) 47 (0, 0))
  sb : W.heap[bm + 1]? = some (.cells #[.map (some bm)] 166 (0, 0))
  lb : W.heap[bm + 2]? = some (.cells #[.string last] 9 (0, 0))
  ml : ∃ l, MapS W bm l ∧ (∀ x, getL l x = if hasS x seen then some (.bool true) else none) ∧ l.length ≤ seen.length
  lo : bo < bm
  new : w.heap.size ≤ bo
  below : Below w.heap.size w W

theorem seen_put {l : List (ByteArray × Value)} {seen : List ByteArray} (h : ∀ x, getL l x = if hasS x seen then some (.bool true) else none) (s : ByteArray) (x : ByteArray) : getL (putL l s (.bool true)) x = if hasS x (s :: seen) then some (.bool true) else none := by
  rw [getL_put, h x, hasS_cons]
  by_cases e : x = s
  · rw [if_pos e, e, beq_self_eq_true, Bool.true_or, if_pos rfl]
  · have e2 : (s.toList == x.toList) = false := beq_eq_false_iff_ne.2 (fun e3 => e (toList_inj.1 e3).symm)
    rw [if_neg e, e2, Bool.false_or]
theorem belowK_map {w w1 w2 : World} {b : Nat} (h : Below w.heap.size w w1) (hb : w.heap.size ≤ b) (ht : w1.mapTurned w2 b) : Below w.heap.size w w2 := by
  have hg := ht.grown
  exact ⟨hg.os.trans h.os, hg.tape.trans h.tape, hg.output.trans h.output, Nat.le_trans h.size hg.size, fun i hi => (hg.block i (Nat.lt_of_lt_of_le hi h.size) (fun e => by cases e; omega)).trans (h.block i hi)⟩
theorem turned_blk {w w' : World} {b i : Nat} {o : Obj} (ht : w.mapTurned w' b) (hi : w.heap[i]? = some o) (hne : i ≠ b) : w'.heap[i]? = some o := by
  have hg := ht.grown
  exact (hg.block i (lt_of_block hi) (fun e => hne (by cases e; rfl))).trans hi
theorem set_one {W : World} {b : Nat} {a x : Value} {t : TypeId} (h : W.heap[b]? = some (.cells #[a] t (0, 0))) : (W.setCell ⟨b, 0, none⟩ x).heap[b]? = some (.cells #[x] t (0, 0)) := by
  obtain ⟨hlt, hk⟩ := Array.getElem?_eq_some_iff.1 h
  show (W.heap.modify b _)[b]? = _
  rw [Array.getElem?_eq_getElem (by simpa using hlt), Array.getElem_modify_self, hk]
  rfl
theorem blk_other {W : World} {B b i : Nat} {o : Obj} {v : Value} (h : W.heap[B]? = some o) (hne : B ≠ b) : (W.setCell ⟨b, i, none⟩ v).heap[B]? = some o := (Below.heap_setCell W ⟨b, i, none⟩ v B hne).trans h

theorem WrI.below' {w W W' : World} {o : Ob} {rv tv : Value} {bo bm : Nat} {seen : List ByteArray} {last : ByteArray} (h : WrI w o rv tv bo bm seen last W) (hb : Below W.heap.size W W') : WrI w o rv tv bo bm seen last W' := by
  obtain ⟨h1, h2, h3, ⟨l, h4, h5⟩, h6, h7, h8⟩ := h
  refine ⟨blkB hb h1, blkB hb h2, blkB hb h3, ⟨l, h4.kept (row := none) ⟨hb.os, hb.tape, hb.output, hb.size, fun i hi _ => hb.block i hi⟩ (by simp), h5⟩, h6, h7, bto h8 hb⟩

set_option maxRecDepth 100000 in
set_option maxHeartbeats 8000000 in
theorem wrong_any (w : World) (o : Ob) (rv tv : Value) (bo bm : Nat) (seen : List ByteArray) (last s : ByteArray) (W : World) (h : WrI w o rv tv bo bm seen last W) (hl : seen.length ≤ 100000) (hs : s.size ≤ 100000) :
    Calls Tryz.prog 82 #[.string s, .pointer (some ⟨bo, 0, none⟩), .pointer (some ⟨bm + 2, 0, none⟩), .pointer (some ⟨bm + 1, 0, none⟩)] W fun e W' => e = .returned (.bool (wrongB o.kind seen last s)) ∧ WrI w o rv tv bo bm (s :: seen) s W' := by
  have HN := hide (fun w => pname_any s w (Nat.le_trans hs (by unfold maxLen; omega)))
  have hok : s.size ≤ maxLen := Nat.le_trans hs (by unfold maxLen; omega)
  obtain ⟨h1, h2, h3, ⟨l, h4, h5, h6⟩, h7, h8, h9⟩ := h
  have hlook := h4.look Tryz.underlying166 zero_bool (x := s) hok
  have e1 : (getL l s).getD (.bool false) = .bool (hasS s seen) := by rw [h5]; cases hasS s seen <;> rfl
  rw [e1] at hlook
  change (Instr.lookup 166 (.map (some bm)) (.string s) false).run _ _ = _ at hlook
  obtain ⟨W1, hst, hml, htu⟩ := h4.store Tryz.underlying166 (by unfold maxLen; omega) (x := s) hok (.bool true)
  change (Instr.mapUpdate 166 (.map (some bm)) (.string s) (.bool true)).run _ _ = _ at hst
  have g1 := turned_blk htu h1 (by omega)
  have g2 := turned_blk htu h2 (by omega)
  have g3 := turned_blk htu h3 (by omega)
  have HW : Hid (WrI w o rv tv bo bm (s :: seen) s (W1.setCell ⟨bm + 2, 0, none⟩ (.string s))) :=
    ⟨blk_other g1 (by omega), blk_other g2 (by omega), set_one g3, ⟨_, hml.setCell (by show bm ≠ bm + 2; omega) _, seen_put h5 s, by rw [putL_len]; simp only [List.length_cons]; split <;> omega⟩, h7, h8, (belowK_map h9 (by omega) htu).setCell (p := ⟨bm + 2, 0, none⟩) (by show _ ≤ bm + 2; omega) _⟩
  have c1 : W.cell? ⟨bo, 1, none⟩ = some (.int .i64 o.kind) := cell_of_row W _ 1 _ _ _ h1
  have c2 := (blk1 h2).1
  have c3 := (blk1 h3).1
  have c4 := (blk1 g3).1
  have c5 := (blk1 g3).2
  obtain ⟨R, hR⟩ : ∃ R, wrongB o.kind seen last s = R := ⟨_, rfl⟩
  rw [hR]
  have HR := hide hR
  clear h1 h2 h3 h4 h5 h6 h9 e1 hml htu g1 g2 g3 hR
  have fin : ∀ T : Bool, Hid ((o.kind == 2 && s.toList == last.toList || o.kind == 3 && hasS s seen) = T) → Hid ((T || !name s.data.toList) = R) := fun T hT => by
    have := HR.out
    unfold wrongB at this
    rw [hT.out] at this
    exact this
  by_cases k2 : o.kind = 2
  · rw [k2] at c1
    cases hq : (s.toList == last.toList) with
    | true =>
      have hq3 : s.toList = last.toList := by simpa using hq
      have HZ := fin true (hide (by rw [k2, hq]; rfl))
      clear fin
      go_enter Tryz.func82, Tryz.ntmps82
      go_wp2_with fail
      go_ret
      exact ⟨ret_bool HZ.out, HW.out⟩
    | false =>
      have hq3 : ¬ s.toList = last.toList := by simpa using hq
      have HZ := fin false (hide (by rw [k2, hq]; rfl))
      clear fin
      go_enter Tryz.func82, Tryz.ntmps82
      go_wp2_with fail
      refine (HN.out _).mono ?_
      rintro _ W2 ⟨rfl, b2⟩
      have HW2 := hide (HW.out.below' b2)
      clear HW
      go_wp2_with fail
      go_ret
      exact ⟨ret_bool HZ.out, HW2.out⟩
  · have k2b : (o.kind == 2) = false := beq_eq_false_iff_ne.2 k2
    by_cases k3 : o.kind = 3
    · rw [k3] at c1
      cases hq : hasS s seen with
      | true =>
        rw [hq] at hlook
        have HZ := fin true (hide (by rw [k2b, k3, hq]; rfl))
        clear fin
        go_enter Tryz.func82, Tryz.ntmps82
        go_wp2_with fail
        go_ret
        exact ⟨ret_bool HZ.out, HW.out⟩
      | false =>
        rw [hq] at hlook
        have HZ := fin false (hide (by rw [k2b, k3, hq]; rfl))
        clear fin
        go_enter Tryz.func82, Tryz.ntmps82
        go_wp2_with fail
        refine (HN.out _).mono ?_
        rintro _ W2 ⟨rfl, b2⟩
        have HW2 := hide (HW.out.below' b2)
        clear HW
        go_wp2_with fail
        go_ret
        exact ⟨ret_bool HZ.out, HW2.out⟩
    · have k3b : (o.kind == 3) = false := beq_eq_false_iff_ne.2 k3
      have HZ := fin false (hide (by rw [k2b, k3b]; rfl))
      clear fin
      go_enter Tryz.func82, Tryz.ntmps82
      go_wp2_with fail
      refine (HN.out _).mono ?_
      rintro _ W2 ⟨rfl, b2⟩
      have HW2 := hide (HW.out.below' b2)
      clear HW
      go_wp2_with fail
      go_ret
      exact ⟨ret_bool HZ.out, HW2.out⟩
end Go.Proofs.YtfkgjbdeicggaaaGreat

/-! slices.ContainsFunc with the closure of object.Valid, walked. -/
namespace Go.Proofs.YtfkgjbdeicggaaaGreat
open Go.RowKit Go.Proofs.PlLex Go.Proofs.PlNet Go.Proofs.PlMap

theorem drop_st (l : List ByteArray) (k : Nat) (h : k < l.length) : l.drop k = l[k] :: l.drop (k + 1) := List.drop_eq_getElem_cons h
set_option maxRecDepth 100000 in
set_option maxHeartbeats 4000000 in
theorem indexf_any (w : World) (o : Ob) (rv tv : Value) (bo bm : Nat) (l : List ByteArray) (W : World) (hv : StS w rv l) (hl : l.length ≤ 100000) (hs : ∀ s ∈ l, s.size ≤ 100000) (h : WrI w o rv tv bo bm [] ⟨#[]⟩ W) :
    Calls Tryz.prog 130 #[rv, .func (.func 82) #[] #[.pointer (some ⟨bo, 0, none⟩), .pointer (some ⟨bm + 2, 0, none⟩), .pointer (some ⟨bm + 1, 0, none⟩)]] W fun e W' => ∃ r : Int, e = .returned (.int .i64 r) ∧ decide (0 ≤ r) = !refsB o.kind [] ⟨#[]⟩ l ∧ ∃ seen last, WrI w o rv tv bo bm seen last W' := by
  obtain ⟨A, c, rfl, _, hA⟩ := hv
  have HA := hide hA
  have HS := hide hs
  obtain ⟨R, hR⟩ : ∃ R, refsB o.kind [] ⟨#[]⟩ l = R := ⟨_, rfl⟩
  rw [hR]
  have HR := hide hR
  have H0 := hide h
  clear hA hs hR h
  go_enter Tryz.func130, Tryz.ntmps130
  go_wp2_with fail
  go_loopw [8] (fun i wr => ∃ (k : Nat) (seen : List ByteArray) (last : ByteArray), k ≤ l.length ∧ i = .int .i64 k ∧ Hid (seen.length = k) ∧ Hid (WrI w o (.slice A l.length c) tv bo bm seen last wr) ∧ Hid (refsB o.kind seen last (l.drop k) = R)) (fun i _ => l.length - (intOf i).toNat)
  case atStart => exact ⟨0, [], ⟨#[]⟩, Nat.zero_le _, rfl, rfl, H0, HR⟩
  case round =>
    obtain ⟨k, seen, last, hk, rfl, hsl, hw, hr⟩ := hrel
    by_cases hlt : k < l.length
    · obtain ⟨g, off, rfl, hg, hp⟩ := HA.out.resolve_left (by rintro rfl; simp at hlt)
      have c1 := (hp.below hg hw.out.below) k _ (List.getElem?_eq_getElem hlt)
      have hr2 := hr.out
      rw [drop_st l k hlt, refsB] at hr2
      have hsz := HS.out _ (List.getElem_mem hlt)
      generalize l[k] = x at *
      have HX := hide (wrong_any w o _ tv bo bm seen last x wr hw.out (by rw [hsl.out]; omega) hsz)
      have k0 : (0 : Int) ≤ k := by omega
      have k1 : (k : Int) < l.length := by omega
      have HL := hide hlt
      have HM := hide (show l.length - (k + 1) < l.length - k from by omega)
      have HSL := hide hsl.out
      clear hr hlt hp hw hsl
      cases hb : wrongB o.kind seen last x with
      | true =>
        rw [hb] at hr2 HX
        have HR2 := hide hr2
        clear hr2 hb
        go_wp2_with fail
        refine HX.out.mono ?_
        rintro _ w2 ⟨rfl, h2⟩
        have HW2 := hide h2
        clear h2 HX
        go_wp2_with fail
        go_ret
        refine ⟨_, rfl, ?_, _, _, HW2.out⟩
        rw [← HR2.out]
        simp
      | false =>
        rw [hb] at hr2 HX
        have HR2 := hide hr2
        clear hr2 hb
        go_wp2_with fail
        refine HX.out.mono ?_
        rintro _ w2 ⟨rfl, h2⟩
        have HW2 := hide h2
        clear h2 HX
        go_wp2_with fail
        refine ⟨⟨k + 1, x :: seen, x, HL.out, by go_num, hide (by simp [HSL.out]), HW2, hide (by simpa using HR2.out)⟩, ?_⟩
        have := HM.out
        simp [intOf]; omega
    · have hz : R = true := by rw [← hr.out, List.drop_eq_nil_of_le (by omega)]; rfl
      have HZ := hide hz
      have HW2 := hide hw.out
      clear hr hz hw
      go_wp2_with fail
      go_ret
      exact ⟨_, rfl, by rw [HZ.out]; rfl, _, _, HW2.out⟩
set_option maxRecDepth 100000 in
set_option maxHeartbeats 4000000 in
theorem containsf_any (w : World) (o : Ob) (rv tv : Value) (bo bm : Nat) (l : List ByteArray) (W : World) (hv : StS w rv l) (hl : l.length ≤ 100000) (hs : ∀ s ∈ l, s.size ≤ 100000) (h : WrI w o rv tv bo bm [] ⟨#[]⟩ W) :
    Calls Tryz.prog 83 #[rv, .func (.func 82) #[] #[.pointer (some ⟨bo, 0, none⟩), .pointer (some ⟨bm + 2, 0, none⟩), .pointer (some ⟨bm + 1, 0, none⟩)]] W fun e W' => e = .returned (.bool (!refsB o.kind [] ⟨#[]⟩ l)) ∧ ∃ seen last, WrI w o rv tv bo bm seen last W' := by
  have HI := hide (indexf_any w o rv tv bo bm l W hv hl hs h)
  clear hv hs h
  obtain ⟨R, hR⟩ : ∃ R, refsB o.kind [] ⟨#[]⟩ l = R := ⟨_, rfl⟩
  rw [hR] at HI ⊢
  clear hR
  go_enter Tryz.func83, Tryz.ntmps83
  go_wp2_with fail
  refine HI.out.mono ?_
  rintro _ w2 ⟨r, rfl, hr, hw⟩
  have HR := hide hr
  have HW := hide hw
  clear hr hw HI
  go_wp2_with fail
  go_ret
  refine ⟨ret_bool ?_, HW.out⟩
  rw [← HR.out]
end Go.Proofs.YtfkgjbdeicggaaaGreat
