/-
  network.Allowed, walked.
-/
import Derived.Test.YtpiocaomlifljaaNetN
namespace Go.Proofs.Ytpiocaomlifljaa
open Go.RowKit Go.Proofs.PlLex Go.Proofs.PlNet Go.Proofs.PlMap

def sameR (refs : List ByteArray) (f n t : ByteArray) : Bool := decide (refs = [f, n, t])
def turnB (f n t : ByteArray) (o : Ob) : Bool := decide (o.kind = 5) && sameR o.refs f n t
def allowedB (l : List Ob) (f n t : ByteArray) : Bool := hasS n ((wayAt l f).getD []) && hasS n ((wayAt l t).getD []) && !l.any (turnB f n t)
/-- Three strings in boxes. -/
structure ThI (b : Nat) (f n t : ByteArray) (W : World) : Prop where
  b0 : W.heap[b]? = some (.cells #[.string f] 9 (0, 0))
  b1 : W.heap[b + 1]? = some (.cells #[.string n] 9 (0, 0))
  b2 : W.heap[b + 1 + 1]? = some (.cells #[.string t] 9 (0, 0))
theorem ThI.below {b : Nat} {f n t : ByteArray} {W W' : World} (h : ThI b f n t W) (hb : Below W.heap.size W W') : ThI b f n t W' := ⟨blkB hb h.b0, blkB hb h.b1, blkB hb h.b2⟩

theorem equal_any (w : World) (v : Value) (refs : List ByteArray) (h : StS w v refs) (hl : refs.length ≤ 100000) (g : Nat) (f n t : ByteArray) (hg : w.heap[g]? = some (.cells #[.string f, .string n, .string t] 9 (0, 0))) :
    Calls Try.prog 47 #[v, .slice (some ⟨g, 0, none⟩) 3 3] w fun e w' => e = .returned (.bool (sameR refs f n t)) ∧ Below w.heap.size w w' := by
  obtain ⟨A, c, rfl, _, hA⟩ := h
  unfold sameR
  by_cases h0 : refs = []
  · subst h0
    refine (Try.slices_Equal_string_empty A (some ⟨g, 0, none⟩) c 3 3 w (by omega)).mono (fun e w' h => ⟨?_, by rw [h.2]; exact Below.refl _ _⟩)
    rw [h.1]
    simp
  · obtain ⟨g2, o, rfl, hg2, hp⟩ := hA.resolve_left h0
    refine (Try.slices_Equal_string g2 o refs.length c g 0 3 3 refs [f, n, t] w (Nat.le_refl _) (by simp) (by omega) (by omega) (fun j hj => ?_) (fun j hj => ?_)).mono (fun e w' h => ⟨?_, ?_⟩)
    · rw [hp j _ (List.getElem?_eq_getElem hj), List.getD_eq_getElem?_getD, List.getElem?_eq_getElem hj]
      rfl
    · have e : j = 0 ∨ j = 1 ∨ j = 2 := by simp at hj; omega
      rcases e with rfl | rfl | rfl
      · exact cell_of_row w _ 0 _ _ _ hg
      · exact cell_of_row w _ 1 _ _ _ hg
      · exact cell_of_row w _ 2 _ _ _ hg
    · rw [h.1, List.take_length]
      rfl
    · obtain ⟨q, rfl⟩ := h.2
      exact below_drewN' (Below.refl _ _) q

set_option maxRecDepth 100000 in
set_option maxHeartbeats 4000000 in
theorem turn_any (b : Nat) (f n t : ByteArray) (w : World) (h : ThI b f n t w) (o : Ob) (rv tv : Value) (hr : StS w rv o.refs) (ht : TgS w tv o.tags) (ho : okO o) :
    Calls Try.prog 46 #[.agg (obV o rv tv), .pointer (some ⟨b, 0, none⟩), .pointer (some ⟨b + 1, 0, none⟩), .pointer (some ⟨b + 1 + 1, 0, none⟩)] w fun e w' => e = .returned (.bool (turnB f n t o)) ∧ Below w.heap.size w w' := by
  have HE := hide (fun w' (hb : Below w.heap.size w w') g hg => equal_any w' rv o.refs (hr.below hb) ho.2.1 g f n t hg)
  obtain ⟨R, hR⟩ : ∃ R, turnB f n t o = R := ⟨_, rfl⟩
  rw [hR]
  have HR := hide hR
  obtain ⟨A, c, rfl, _, _⟩ := hr
  obtain ⟨A2, c2, rfl, _⟩ := ht
  obtain ⟨oid, kd, x, y, refs, tags⟩ := o
  unfold obV
  unfold turnB at HR
  simp only at *
  obtain ⟨wo, hwo⟩ : ∃ wo, w.alloc (.cells #[.string oid, .int .i64 kd, .int .i64 x, .int .i64 y, .slice A refs.length c, .slice A2 tags.length c2] 42) = wo := ⟨_, rfl⟩
  have hb0 : Below w.heap.size w wo := by rw [← hwo]; exact (Below.refl _ _).alloc (Nat.le_refl _) _
  have hblk : wo.heap[w.heap.size]? = some (.cells #[.string oid, .int .i64 kd, .int .i64 x, .int .i64 y, .slice A refs.length c, .slice A2 tags.length c2] 42 (0, 0)) := by rw [← hwo]; exact heap_alloc_new _ _
  have d1 : wo.cell? ⟨w.heap.size, 1, none⟩ = some (.int .i64 kd) := cell_of_row wo _ 1 _ _ _ hblk
  have d4 : wo.cell? ⟨w.heap.size, 4, none⟩ = some (.slice A refs.length c) := cell_of_row wo _ 4 _ _ _ hblk
  have t0 := (blk1 (h.below hb0).b0).1
  have t1 := (blk1 (h.below hb0).b1).1
  have t2 := (blk1 (h.below hb0).b2).1
  have HB0 := hide hb0
  clear hR ho h hblk hb0
  by_cases h5 : kd = 5
  · subst h5
    have HZ : Hid (sameR refs f n t = R) := by
      have := HR.out
      rw [decide_eq_true rfl, Bool.true_and] at this
      exact this
    have hb1 : Below wo.heap.size wo (wo.alloc (.cells #[.string f, .string n, .string t] 9)) := (Below.refl _ _).alloc (Nat.le_refl _) _
    have HE2 := hide (HE.out _ (bto HB0.out hb1) wo.heap.size (heap_alloc_new _ _))
    have HB1 := hide (bto HB0.out hb1)
    clear HR hb1 HE
    go_enter Try.func46, Try.ntmps46
    go_wp2_with fail
    refine HE2.out.mono ?_
    rintro _ w3 ⟨rfl, hb3⟩
    have HM := hide (bto HB1.out hb3)
    clear hb3 HE2 HB1
    go_wp2_with fail
    go_ret
    exact ⟨ret_bool HZ.out, HM.out⟩
  · have h5b : (kd == 5) = false := beq_eq_false_iff_ne.2 h5
    have HZ : Hid (false = R) := by
      have := HR.out
      rw [decide_eq_false h5, Bool.false_and] at this
      exact this
    clear HR HE
    go_enter Try.func46, Try.ntmps46
    go_wp2_with fail
    go_ret
    exact ⟨ret_bool HZ.out, HB0.out⟩
set_option maxRecDepth 100000 in
set_option maxHeartbeats 4000000 in
theorem indexf_turn (b : Nat) (f n t : ByteArray) (w : World) (h : ThI b f n t w) (l : List Ob) (v : Value) (hv : MapI w v l) :
    Calls Try.prog 67 #[v, .func (.func 46) #[] #[.pointer (some ⟨b, 0, none⟩), .pointer (some ⟨b + 1, 0, none⟩), .pointer (some ⟨b + 1 + 1, 0, none⟩)]] w fun e w' => ∃ r : Int, e = .returned (.int .i64 r) ∧ decide (0 ≤ r) = l.any (turnB f n t) ∧ Below w.heap.size w w' := by
  have HT := hide h
  have HOK := hide hv.ok
  have hl := hv.len
  obtain ⟨A, c, rfl, _, hA⟩ := hv.obs
  have HA := hide hA
  obtain ⟨R, hR⟩ : ∃ R, l.any (turnB f n t) = R := ⟨_, rfl⟩
  rw [hR]
  have HR := hide hR
  clear hA hR h hv
  go_enter Try.func67, Try.ntmps67
  go_wp2_with fail
  go_loopw [8] (fun i wr => ∃ (k : Nat), k ≤ l.length ∧ i = .int .i64 k ∧ Hid (Below w.heap.size w wr) ∧ Hid ((l.drop k).any (turnB f n t) = R)) (fun i _ => l.length - (intOf i).toNat)
  case atStart => exact ⟨0, Nat.zero_le _, rfl, Below.refl _ _, HR⟩
  case round =>
    obtain ⟨k, hk, rfl, hw, hr⟩ := hrel
    by_cases hlt : k < l.length
    · obtain ⟨g, off, rfl, hg, hp⟩ := HA.out.resolve_left (by rintro rfl; simp at hlt)
      obtain ⟨rv, tv, hoa⟩ := hp k _ (List.getElem?_eq_getElem hlt)
      have hr2 := hr.out
      rw [List.drop_eq_getElem_cons hlt, List.any_cons] at hr2
      have hok := HOK.out _ (List.getElem_mem hlt)
      generalize l[k] = x at *
      have hoa2 := hoa.below hg hw.out
      have HX := hide (turn_any b f n t wr (HT.out.below hw.out) x rv tv hoa2.refs hoa2.tags hok)
      obtain ⟨Ar, cr, hrv, _⟩ := id hoa.refs
      obtain ⟨At, ct, htv, _⟩ := id hoa.tags
      subst hrv
      subst htv
      obtain ⟨c0, c1, c2, c3, c4, c5, _, _⟩ := hoa2
      unfold obV at HX
      have k0 : (0 : Int) ≤ k := by omega
      have k1 : (k : Int) < l.length := by omega
      have HL := hide hlt
      have HM := hide (show l.length - (k + 1) < l.length - k from by omega)
      have HBW := hide hw.out
      clear hr hlt hp hw hoa hok
      cases hb : turnB f n t x with
      | true =>
        rw [hb] at hr2 HX
        have HR2 := hide hr2
        clear hr2 hb
        go_wp2_with fail
        refine HX.out.mono ?_
        rintro _ w2 ⟨rfl, h2⟩
        have HW2 := hide (bto HBW.out h2)
        clear h2 HX HBW c0 c1 c2 c3 c4 c5
        go_wp2_with fail
        go_ret
        refine ⟨_, rfl, ?_, HW2.out⟩
        rw [← HR2.out]
        simp
      | false =>
        rw [hb] at hr2 HX
        have HR2 := hide hr2
        clear hr2 hb
        go_wp2_with fail
        refine HX.out.mono ?_
        rintro _ w2 ⟨rfl, h2⟩
        have HW2 := hide (bto HBW.out h2)
        clear h2 HX HBW c0 c1 c2 c3 c4 c5
        go_wp2_with fail
        refine ⟨⟨k + 1, HL.out, by go_num, HW2, hide (by simpa using HR2.out)⟩, ?_⟩
        have := HM.out
        simp [intOf]; omega
    · have hz : R = false := by rw [← hr.out, List.drop_eq_nil_of_le (by omega)]; rfl
      have HZ := hide hz
      have HW2 := hide hw.out
      clear hr hz hw
      go_wp2_with fail
      go_ret
      exact ⟨_, rfl, by rw [HZ.out]; rfl, HW2.out⟩
set_option maxRecDepth 100000 in
set_option maxHeartbeats 4000000 in
theorem containsf_turn (b : Nat) (f n t : ByteArray) (w : World) (h : ThI b f n t w) (l : List Ob) (v : Value) (hv : MapI w v l) :
    Calls Try.prog 45 #[v, .func (.func 46) #[] #[.pointer (some ⟨b, 0, none⟩), .pointer (some ⟨b + 1, 0, none⟩), .pointer (some ⟨b + 1 + 1, 0, none⟩)]] w fun e w' => e = .returned (.bool (l.any (turnB f n t))) ∧ Below w.heap.size w w' := by
  have HI := hide (indexf_turn b f n t w h l v hv)
  clear hv h
  obtain ⟨R, hR⟩ : ∃ R, l.any (turnB f n t) = R := ⟨_, rfl⟩
  rw [hR] at HI ⊢
  clear hR
  go_enter Try.func45, Try.ntmps45
  go_wp2_with fail
  refine HI.out.mono ?_
  rintro _ w2 ⟨r, rfl, hr, hw⟩
  have HR := hide hr
  have HW := hide hw
  clear hr hw HI
  go_wp2_with fail
  go_ret
  exact ⟨ret_bool HR.out, HW.out⟩
/-- The worlds that have grown from one. -/
def Gls (w : World) : Type := {W' : World // Below w.heap.size w W'}
def Gls.w {w : World} (u : Gls w) : World := u.1
theorem Gls.go {w : World} (u : Gls w) {w8 : World} (hb : Below u.w.heap.size u.w w8) : ∃ u' : Gls w, w8 = u'.w := ⟨⟨w8, bto u.2 hb⟩, rfl⟩
theorem NetR.way_any {w W : World} {v : Value} {l : List Ob} {bn bd bw : Nat} {nl wl : List (ByteArray × Value)} (h : NetR w v l bn bd bw nl wl W) (hm : mapB l = true) (hok : ∀ o ∈ l, okO o) (s : ByteArray) :
    ∃ A c r, (getL wl s).getD (.slice none 0 0) = .slice A r.length c ∧ (wayAt l s).getD [] = r ∧ ∀ W', Below W.heap.size W W' → ∀ n, Calls Try.prog 44 #[.slice A r.length c, .string n] W' fun e w' => e = .returned (.bool (hasS n r)) ∧ W' = w' := by
  rcases h.way_val hm hok s with ⟨h1, h2⟩ | ⟨g, o, c, r, h1, h2, h3⟩
  · exact ⟨none, 0, [], h1, by rw [h2]; rfl, fun W' _ n => contains_nil W' n⟩
  · exact ⟨_, c, r, h1, by rw [h2]; rfl, fun W' hb n => contains_any W' g o c r (h3.strs.below h3.lt (bto h.below hb)) h3.many n⟩
set_option maxRecDepth 100000 in
set_option maxHeartbeats 8000000 in
theorem allowed_any (l : List Ob) (v : Value) (f n t : ByteArray) (w : World) (hv : MapI w v l) (hf : f.size ≤ 100000) (ht : t.size ≤ 100000) :
    Calls Try.prog 21 #[.agg #[v], .string f, .string n, .string t] w fun e w' => e = .returned (.bool (mapB l && allowedB l f n t)) ∧ Below w.heap.size w w' := by
  have HV := hide hv
  obtain ⟨R, hR⟩ : ∃ R, (mapB l && allowedB l f n t) = R := ⟨_, rfl⟩
  rw [hR]
  have HR := hide hR
  clear hR
  obtain ⟨A, c, rfl, _, _⟩ := hv.obs
  obtain ⟨wa, hwa⟩ : ∃ wa, (((w.alloc (.cells #[.slice A l.length c] 24)).alloc (.cells #[.string f] 9)).alloc (.cells #[.string n] 9)).alloc (.cells #[.string t] 9) = wa := ⟨_, rfl⟩
  have ha : Below w.heap.size w wa := by rw [← hwa]; exact ((((Below.refl _ _).alloc (Nat.le_refl _) _).alloc (by simp) _).alloc (by simp <;> omega) _).alloc (by simp <;> omega) _
  have hm : wa.heap[w.heap.size]? = some (.cells #[.slice A l.length c] 24 (0, 0)) := by
    rw [← hwa]
    exact blkB ((((Below.refl _ _).alloc (Nat.le_refl _) _).alloc (by simp) _).alloc (by simp <;> omega) _) (heap_alloc_new w _)
  have hth : ThI (w.heap.size + 1) f n t wa := by
    rw [← hwa]
    refine ⟨blkB (((Below.refl _ _).alloc (Nat.le_refl _) _).alloc (by simp) _) ?_, blkB ((Below.refl _ _).alloc (Nat.le_refl _) _) ?_, ?_⟩
    · have := heap_alloc_new (w.alloc (.cells #[.slice A l.length c] 24)) (.cells #[.string f] 9)
      simpa using this
    · have := heap_alloc_new ((w.alloc (.cells #[.slice A l.length c] 24)).alloc (.cells #[.string f] 9)) (.cells #[.string n] 9)
      simpa using this
    · have := heap_alloc_new (((w.alloc (.cells #[.slice A l.length c] 24)).alloc (.cells #[.string f] 9)).alloc (.cells #[.string n] 9)) (.cells #[.string t] 9)
      simpa using this
  have dm := (blk1 hm).1
  have HOF := hide (of_any l _ wa (hv.below ha).obs hv.len hv.ok)
  have HWA := hide ha
  have HTH := hide hth
  clear hv ha hm hth
  go_enter Try.func21, Try.ntmps21
  go_wp2_with fail
  refine HOF.out.mono ?_
  rintro _ w1 (⟨hmb, rfl, hb⟩ | ⟨hmb, s, nl, wl, rfl, hnr⟩)
  · have HB := hide (bto HWA.out hb)
    have HZ := hide (show R = false from by rw [← HR.out, hmb]; rfl)
    clear hwa dm hb hmb HOF HR
    go_wp2_with fail
    go_quiet (fail)
    go_wp2_with fail
    go_ret
    exact ⟨ret_bool HZ.out.symm, below_drewN' HB.out nq⟩
  · have HR1 := HR.out
    rw [hmb, Bool.true_and] at HR1
    have HR2 := hide HR1
    clear HR HR1
    have hok := HV.out.ok
    obtain ⟨A1, c1, r1, hv1, hw1, HC1⟩ := hnr.way_any hmb hok f
    obtain ⟨A2, c2, r2, hv2, hw2, HC2⟩ := hnr.way_any hmb hok t
    have ya : ∀ u : Gls w1, u.w.cell? ⟨w.heap.size + 1, 0, none⟩ = some (.string f) := fun u => (blk1 (HTH.out.below (bto hnr.below u.2)).b0).1
    have yb : ∀ u : Gls w1, u.w.cell? ⟨w.heap.size + 1 + 1, 0, none⟩ = some (.string n) := fun u => (blk1 (HTH.out.below (bto hnr.below u.2)).b1).1
    have yc : ∀ u : Gls w1, u.w.cell? ⟨w.heap.size + 1 + 1 + 1, 0, none⟩ = some (.string t) := fun u => (blk1 (HTH.out.below (bto hnr.below u.2)).b2).1
    have yd : ∀ u : Gls w1, u.w.cell? ⟨s + 2, 2, none⟩ = some (.map (some (s + 1))) := fun u => cell_of_row u.w _ 2 _ _ _ (hnr.lift u.2).nb
    have l1 : ∀ u : Gls w1, (Instr.lookup 65 (.map (some (s + 1))) (.string f) false).run Try.prog u.w = .ok (.slice A1 r1.length c1) u.w := fun u => by have := (hnr.lift u.2).way_get hf; rw [hv1] at this; exact this
    have l2 : ∀ u : Gls w1, (Instr.lookup 65 (.map (some (s + 1))) (.string t) false).run Try.prog u.w = .ok (.slice A2 r2.length c2) u.w := fun u => by have := (hnr.lift u.2).way_get ht; rw [hv2] at this; exact this
    have YN : Nonempty (Gls w1) := ⟨⟨_, Below.refl _ _⟩⟩
    have HCA := hide (fun u : Gls w1 => HC1 u.w u.2 n)
    have HCB := hide (fun u : Gls w1 => HC2 u.w u.2 n)
    have HNR := hide hnr
    unfold allowedB at HR2
    rw [hw1, hw2] at HR2
    clear hv1 hv2 hw1 hw2 HC1 HC2 HOF hwa dm hnr hmb hok
    generalize hasS n r1 = P1 at *
    generalize hasS n r2 = P2 at *
    cases P1 with
    | false =>
      go_wp2_with fail
      refine wp_region_quietW (J := Gls w1) Gls.w ⟨_, below_drew w1⟩ rfl (by kernel_rfl) (by kernel_rfl) ?_
      repeat (go_big_quiet_step ((first | ((with_reducible refine (HCA.out _).mono ?_); rintro _ w8 ⟨rfl, rfl⟩; exact ⟨rfl, ⟨_, rfl⟩⟩) | ((with_reducible refine (HCB.out _).mono ?_); rintro _ w8 ⟨rfl, rfl⟩; exact ⟨rfl, ⟨_, rfl⟩⟩))))
      refine wpQuiet_nil ?_
      rintro w9 ⟨u, rfl⟩
      have HB := hide (bto HWA.out (bto HNR.out.below u.2))
      clear ya yb yc yd l1 l2 YN HCA HCB
      go_wp2_with fail
      go_ret
      exact ⟨ret_bool (by rw [← HR2.out]; rfl), HB.out⟩
    | true =>
      cases P2 with
      | false =>
        go_wp2_with fail
        refine wp_region_quietW (J := Gls w1) Gls.w ⟨_, below_drew w1⟩ rfl (by kernel_rfl) (by kernel_rfl) ?_
        repeat (go_big_quiet_step ((first | ((with_reducible refine (HCA.out _).mono ?_); rintro _ w8 ⟨rfl, rfl⟩; exact ⟨rfl, ⟨_, rfl⟩⟩) | ((with_reducible refine (HCB.out _).mono ?_); rintro _ w8 ⟨rfl, rfl⟩; exact ⟨rfl, ⟨_, rfl⟩⟩))))
        refine wpQuiet_nil ?_
        rintro w9 ⟨u, rfl⟩
        have HB := hide (bto HWA.out (bto HNR.out.below u.2))
        clear ya yb yc yd l1 l2 YN HCA HCB
        go_wp2_with fail
        go_ret
        exact ⟨ret_bool (by rw [← HR2.out]; rfl), HB.out⟩
      | true =>
        go_wp2_with fail
        refine wp_region_quietW (J := Gls w1) Gls.w ⟨_, below_drew w1⟩ rfl (by kernel_rfl) (by kernel_rfl) ?_
        repeat (go_big_quiet_step ((first | ((with_reducible refine (HCA.out _).mono ?_); rintro _ w8 ⟨rfl, rfl⟩; exact ⟨rfl, ⟨_, rfl⟩⟩) | ((with_reducible refine (HCB.out _).mono ?_); rintro _ w8 ⟨rfl, rfl⟩; exact ⟨rfl, ⟨_, rfl⟩⟩))))
        refine wpQuiet_nil ?_
        rintro w9 ⟨u, rfl⟩
        have hb9 := u.2
        have yn := cell_of_row u.w _ 0 _ _ _ (HNR.out.lift hb9).nb
        simp only [List.getElem?_toArray, List.getElem?_cons_zero] at yn
        have HB := hide (bto HWA.out (bto HNR.out.below u.2))
        have HCT := hide (containsf_turn (w.heap.size + 1) f n t u.w (HTH.out.below (bto HNR.out.below u.2)) l _ (HV.out.below HB.out))
        clear ya yb yc yd l1 l2 YN HCA HCB hb9
        generalize l.any (turnB f n t) = P3 at *
        go_wp2_with fail
        refine HCT.out.mono ?_
        rintro _ w7 ⟨rfl, hb7⟩
        have HM := hide (bto HB.out hb7)
        clear hb7 yn HCT
        go_wp2_with fail
        go_ret
        exact ⟨ret_bool (by rw [← HR2.out]; cases P3 <;> rfl), HM.out⟩
end Go.Proofs.Ytpiocaomlifljaa
