/-
  How a rule is written, walked.
-/
import Derived.Test.YtoodmhlefaepaaaGreatRulJ
namespace Go.Proofs.YtoodmhlefaepaaaGreat
open Go.RowKit Go.Proofs.PlLex Go.Proofs.PlRule

theorem bld_lift {B : Nat} {l : L} {w w' : World} (h : Bld B l w) (hb : Below w.heap.size w w') : Bld B l w' := by
  have key : ∀ {p : Value}, Lib.BuilderAt 56 5 B B p (Lib.byteCells l) w → Lib.BuilderAt 56 5 B B p (Lib.byteCells l) w' := by
    rintro p ⟨h1, v, h2, h3, h4⟩
    exact ⟨h1, v, (hb.block B (lt_of_blk h2)).trans h2, own_grown h3 (below_grown hb none) (fun x hx => by cases hx), h4⟩
  exact h.imp key key
theorem bld_lt {B : Nat} {l : L} {w : World} (h : Bld B l w) : B < w.heap.size := by
  rcases h with ⟨_, v, h2, _⟩ | ⟨_, v, h2, _⟩ <;> exact lt_of_blk h2
/-- Within the writing of a rule: the builder, the rule in its box. -/
structure WtI (B : Nat) (w0 : World) (l : L) (x : Rl) (vv : Value) (b3 : Nat) (W : World) : Prop where
  bld : Bld B l W
  rl : RlB x vv b3 W
  below : Below B w0 W
  ne : b3 ≠ B
theorem WtI.lift {B : Nat} {w0 : World} {l : L} {x : Rl} {vv : Value} {b3 : Nat} {W W' : World} (h : WtI B w0 l x vv b3 W) (hb : Below W.heap.size W W') : WtI B w0 l x vv b3 W' :=
  ⟨bld_lift h.bld hb, h.rl.lift hb, h.below.trans (hb.mono (Nat.le_of_lt (bld_lt h.bld))), h.ne⟩
theorem WtI.write {B : Nat} {w0 : World} {l l' : L} {x : Rl} {vv : Value} {b3 : Nat} {W W' : World} (h : WtI B w0 l x vv b3 W) (h1 : Bld B l' W') (h2 : Below B W W') (h3 : Stays B W W') : WtI B w0 l' x vv b3 W' :=
  ⟨h1, ⟨(h3 b3 (lt_of_blk h.rl.blk) h.ne (fun cur hc => by have := h.rl.blk; rw [this] at hc; cases hc)).trans h.rl.blk⟩, h.below.trans h2, h.ne⟩
/-- What a valid rule is made of. -/
structure VdR (x : Rl) : Prop where
  area : x.area.size ≤ 24
  kind : 0 ≤ x.kind ∧ x.kind ≤ 5
  key : x.key.size ≤ 24
  ik : x.ik.size ≤ 24
  iv : x.iv.size ≤ 200
  op : x.op = 1 ∨ x.op = 2 ∨ x.op = 3
  many : x.vals.length ≤ 60
  some1 : x.op = 2 → 1 ≤ x.vals.length
  vals : ∀ s ∈ x.vals, s.size ≤ 200
theorem nameB_size {s : BA} (h : nameB s = true) : s.size ≤ 24 := by
  unfold nameB name at h
  simp only [Bool.and_eq_true, decide_eq_true_eq] at h
  exact h.2
theorem vdR {x : Rl} (h : validR x = true) : VdR x := by
  unfold validR at h
  simp only [Bool.and_eq_true, decide_eq_true_eq] at h
  obtain ⟨h1, h2, h3, h4, h5, h6, h7⟩ := h
  refine ⟨?_, ⟨h2, h3⟩, nameB_size h4, ?_, ?_, ?_, ?_, fun ho => ?_, fun s hs => ?_⟩
  · unfold areaOk at h1
    rw [Bool.or_eq_true, decide_eq_true_eq] at h1
    rcases h1 with h1 | h1
    · omega
    · exact nameB_size h1
  · unfold ifOk at h5
    simp only [Bool.or_eq_true, Bool.and_eq_true, decide_eq_true_eq] at h5
    rcases h5 with h5 | h5
    · omega
    · exact nameB_size h5.1
  · unfold ifOk valueB at h5
    simp only [Bool.or_eq_true, Bool.and_eq_true, decide_eq_true_eq] at h5
    rcases h5 with h5 | h5
    · omega
    · exact h5.2.2
  · unfold opOk at h6
    split at h6
    · omega
    · simp only [Bool.or_eq_true, Bool.and_eq_true, decide_eq_true_eq] at h6
      omega
  · unfold opOk at h6
    split at h6 <;> simp only [Bool.or_eq_true, Bool.and_eq_true, decide_eq_true_eq] at h6 <;> omega
  · unfold opOk at h6
    rw [if_pos ho, Bool.and_eq_true, decide_eq_true_eq] at h6
    exact h6.1
  · have := List.all_eq_true.1 h7 s hs
    unfold valueB at this
    simp only [Bool.and_eq_true, decide_eq_true_eq] at this
    exact this.2
theorem cat_run (a b : ByteArray) (h : a.size + b.size ≤ 1000000) : ∀ w, (Op.stringOp .add a b).run Tryz.prog w = .ok (.string (a ++ b)) w := fun w => run_string_add_sum w a b (by omega)
theorem ix_kind {k : Int} (h : 0 ≤ k ∧ k ≤ 5) : ∀ w, (Instr.index 88 (.agg #[.string (ba [97, 110, 121]), .string (ba [110, 111, 100, 101]), .string (ba [119, 97, 121]), .string (ba [97, 114, 101, 97]), .string (ba [114, 111, 117, 116, 101]), .string (ba [116, 117, 114, 110])]) (.int .i64 k)).run Tryz.prog w = .ok (.string (ba (kindT k))) w := by
  intro w
  rcases (by omega : k = 0 ∨ k = 1 ∨ k = 2 ∨ k = 3 ∨ k = 4 ∨ k = 5) with rfl | rfl | rfl | rfl | rfl | rfl <;> kernel_rfl
theorem join_is (xs : List L) : Lib.join xs [44, 32] = joinC xs := by
  cases xs with
  | nil => rfl
  | cons a r =>
    rw [Lib.join_cons]
    induction r generalizing a with
    | nil => simp [joinC, Lib.joinTail]
    | cons b r ih =>
      have := ih b
      unfold Lib.joinTail at this ⊢
      simp only [joinC, List.map_cons, List.flatten_cons]
      rw [← this]
      simp
theorem joinC_len (xs : List L) (n : Nat) (h : ∀ x ∈ xs, x.length ≤ n) : (joinC xs).length ≤ xs.length * (n + 2) := by
  induction xs with
  | nil => simp [joinC]
  | cons a r ih =>
    have h1 := h a (List.mem_cons_self ..)
    have h2 := ih (fun x hx => h x (List.mem_cons_of_mem _ hx))
    cases r with
    | nil => simp [joinC]; omega
    | cons b r =>
      rw [joinC]
      · simp only [List.length_append, List.length_cons, List.length_nil] at h2 ⊢
        have e : (r.length + 1 + 1) * (n + 2) = (r.length + 1) * (n + 2) + (n + 2) := by rw [Nat.add_mul]; omega
        rw [e]
        omega
      · simp
/-- The values in quotes. -/
def qv (s : BA) : BA := ⟨(quote s.data.toList).toArray⟩
theorem wrMust_len (x : Rl) : (wrMust x).length ≤ 5 := by unfold wrMust; split <;> simp [wMust]
theorem wrIn_len {x : Rl} (h : VdR x) : (wrIn x).length ≤ 28 := by
  unfold wrIn
  split
  · simp
  · have := h.area
    have e : (tx x.area).length = x.area.size := rfl
    simp only [wIn, List.length_append, List.length_cons, List.length_nil]
    omega
theorem kindT_len (k : Int) : (kindT k).length ≤ 5 := by
  unfold kindT
  rcases k.toNat with _ | _ | _ | _ | _ | _ | n <;> simp [kindW]
theorem quote_le (l : L) : (quote l).length ≤ 2 * l.length + 2 := by
  unfold quote
  have := quoteB_len2 l
  simp
  omega
theorem wrIf_len {x : Rl} (h : VdR x) : (wrIf x).length ≤ 436 := by
  unfold wrIf
  split
  · simp
  · have h1 := h.ik
    have h2 := h.iv
    have e : (tx x.ik).length = x.ik.size := rfl
    have e2 : (tx x.iv).length = x.iv.size := rfl
    have h3 := quote_le (tx x.iv)
    simp only [wWhere, List.length_append, List.length_cons, List.length_nil]
    omega
theorem app_data (a b : ByteArray) : (a ++ b).data.toList = a.data.toList ++ b.data.toList := by simp
theorem app_size (a b : ByteArray) : (a ++ b).size = a.size + b.size := by simp
set_option maxRecDepth 100000 in
set_option maxHeartbeats 16000000 in
theorem write_any (B : Nat) (l : L) (x : Rl) (vv : Value) (w0 w : World) (h : Bld B l w) (hB : w0.heap.size = B) (hb : Below B w0 w) (hv : StS w0 vv x.vals) (hx : validR x = true) (hl : l.length ≤ 6500000) :
    Calls Tryz.prog 16 #[.pointer (some ⟨B, 0, none⟩), vRl x vv] w fun e w' => e = .returned (.tuple #[]) ∧ Bld B (l ++ writeR x) w' ∧ Below B w w' := by
  obtain ⟨A, c, rfl, _, hA⟩ := id hv
  have HA := hide hA
  obtain ⟨b3, hb3⟩ : ∃ b3, w.heap.size = b3 := ⟨_, rfl⟩
  have HB3 := hide hb3
  have HWI : Hid (WtI B w l x (.slice A x.vals.length c) b3 (w.alloc (.cells #[.bool x.strict, .string x.area, .int .i64 x.kind, .string x.ik, .string x.iv, .int .i64 x.op, .string x.key, .slice A x.vals.length c] 37))) := by
    have hb1 : Below w.heap.size w (w.alloc (.cells #[.bool x.strict, .string x.area, .int .i64 x.kind, .string x.ik, .string x.iv, .int .i64 x.op, .string x.key, .slice A x.vals.length c] 37)) := (Below.refl _ _).alloc (Nat.le_refl _) _
    have hlt := bld_lt h
    exact hide ⟨bld_lift h hb1, ⟨by rw [← hb3]; exact heap_alloc_new _ _⟩, hb1.mono (by omega), by omega⟩
  have HX := hide (vdR hx)
  have HBE := hide hB
  have HB0 := hide hb
  have HVV := hide hv
  have hBl := bld_lt h
  clear h hb hv hA hb3 hx hB
  unfold vRl
  go_enter Tryz.func16, Tryz.ntmps16
  go_upto_if 8 with (fail)
  rw [HB3.out]
  generalize w.alloc (.cells #[.bool x.strict, .string x.area, .int .i64 x.kind, .string x.ik, .string x.iv, .int .i64 x.op, .string x.key, .slice A x.vals.length c] 37) = w1 at *
  obtain ⟨c0, c1, c2, c3, c4, c5, c6, c7⟩ := HWI.out.rl.c
  obtain ⟨st, hst⟩ : ∃ st, x.strict = st := ⟨_, rfl⟩
  rw [hst] at c0 ⊢
  have HST := hide hst
  clear hst
  go_cut [] (fun wx => Hid (WtI B w (l ++ wrMust x) x (.slice A x.vals.length c) b3 wx))
  case first =>
    cases st with
    | false =>
      have HM : Hid (wrMust x = []) := by unfold wrMust; rw [HST.out]; exact hide rfl
      go_wp2_with fail
      go_meet
      rw [HM.out, List.append_nil]
      exact HWI
    | true =>
      have HM : Hid (wrMust x = [109, 117, 115, 116, 32]) := by unfold wrMust; rw [HST.out]; exact hide rfl
      have HW := hide (wsm B l ⟨#[109, 117, 115, 116, 32]⟩ w1 HWI.out.bld (by show l.length + 5 ≤ _; omega) (Nat.le_of_lt (bld_lt HWI.out.bld)))
      go_wp2_with fail
      refine HW.out.mono ?_
      rintro _ w2 ⟨rfl, h1, h2, h3⟩
      have HW2 := hide (HWI.out.write h1 h2 h3)
      clear h1 h2 h3
      go_wp2_with fail
      go_meet
      rw [HM.out]
      exact HW2
  case rest =>
    have HWA := hide hcut.out
    clear hcut HWI c0 c1 c2 c3 c4 c5 c6 c7 HST
    obtain ⟨c0, c1, c2, c3, c4, c5, c6, c7⟩ := HWA.out.rl.c
    go_upto_if 13 with (fail)
    go_cut [] (fun wx => Hid (WtI B w (l ++ wrMust x ++ wrIn x) x (.slice A x.vals.length c) b3 wx))
    case first =>
      by_cases h0 : x.area.size = 0
      · have HM : Hid (wrIn x = []) := by unfold wrIn; rw [if_pos h0]; exact hide rfl
        have e3 : (!(ByteArray.toList x.area).isEmpty) = false := by rw [empty_of h0]; simp
        rw [e3]
        clear h0 e3
        go_wp2_with fail
        go_meet
        rw [HM.out, List.append_nil]
        exact HWA
      · have HM : Hid (wrIn x = (⟨#[105, 110, 32]⟩ ++ x.area ++ ⟨#[32]⟩ : ByteArray).data.toList) := by unfold wrIn; rw [if_neg h0, app_data, app_data]; exact hide (by simp [wIn, tx])
        have e3 : (!(ByteArray.toList x.area).isEmpty) = true := by rw [full_emp h0]; rfl
        have r1 := cat_run ⟨#[105, 110, 32]⟩ x.area (by have := HX.out.area; show 3 + _ ≤ _; omega)
        have r2 := cat_run (⟨#[105, 110, 32]⟩ ++ x.area) ⟨#[32]⟩ (by have := HX.out.area; rw [app_size]; show 3 + _ + 1 ≤ _; omega)
        have HW := hide (wsm B (l ++ wrMust x) (⟨#[105, 110, 32]⟩ ++ x.area ++ ⟨#[32]⟩) wc HWA.out.bld (by have h1 := wrMust_len x; have h2 := HX.out.area; rw [app_size, app_size, List.length_append]; show _ + (3 + _ + 1) ≤ _; omega) (Nat.le_of_lt (bld_lt HWA.out.bld)))
        rw [e3]
        clear h0 e3
        go_wp2_with fail
        refine HW.out.mono ?_
        rintro _ w2 ⟨rfl, h1, h2, h3⟩
        have HW2 := hide (HWA.out.write h1 h2 h3)
        clear h1 h2 h3
        go_wp2_with fail
        go_meet
        rw [HM.out]
        exact HW2
    case rest =>
      have HWB := hide hcut.out
      clear hcut HWA c0 c1 c2 c3 c4 c5 c6 c7
      obtain ⟨c0, c1, c2, c3, c4, c5, c6, c7⟩ := HWB.out.rl.c
      generalize hlb : l ++ wrMust x ++ wrIn x = lb at *
      have hlbl : lb.length ≤ 6500100 := by
        have h1 := wrMust_len x
        have h2 := wrIn_len HX.out
        rw [← hlb, List.length_append, List.length_append]
        omega
      have HLB := hide hlb
      clear hlb
      go_upto_region 5 with (fail)
      go_cut [] (fun wx => Hid (WtI B w (lb ++ (kindT x.kind ++ [32])) x (.slice A x.vals.length c) b3 wx))
      case first =>
        have HWD := hide (HWB.out.lift (below_drewW wc))
        have hix := ix_kind HX.out.kind
        have hkl := kindT_len x.kind
        have r1 := cat_run (ba (kindT x.kind)) ⟨#[32]⟩ (by show (kindT x.kind).toArray.size + 1 ≤ _; simp; omega)
        have hcl : lb.length + (ba (kindT x.kind) ++ ⟨#[32]⟩ : ByteArray).size ≤ 10000000 := by
          rw [app_size]
          show _ + ((kindT x.kind).toArray.size + 1) ≤ _
          simp
          omega
        have HCL := hide hcl
        clear hcl
        go_region_held3 (fun w' => (∃ l', WtI B w l' x (.slice A x.vals.length c) b3 w') ∧ w'.cell? ⟨b3, 2, none⟩ = some (.int .i64 x.kind))
          (first | exact ⟨⟨_, HWD.out⟩, HWD.out.rl.c.2.2.1⟩ | exact ⟨⟨_, hk8⟩, hk8.rl.c.2.2.1⟩ | exact ⟨⟨_, hk7⟩, hk7.rl.c.2.2.1⟩)
          (first
            | (go_at_call 35; (with_reducible refine (kinds_any _).mono ?_); rintro _ w7 ⟨rfl, b7⟩; have hk7 := HWD.out.lift b7)
            | (go_at_call 34; refine (wsm B lb _ _ hk7.bld HCL.out (Nat.le_of_lt (bld_lt hk7.bld))).mono ?_; rintro _ w8 ⟨rfl, h1, h2, h3⟩; have hk8 := hk7.write h1 h2 h3))
        all_goals
          go_wp2_with fail
          go_meet
          rw [app_data] at hk8
          exact hide hk8
      case rest =>
        have HWC := hide hcut.out
        clear hcut HWB c0 c1 c2 c3 c4 c5 c6 c7
        obtain ⟨c0, c1, c2, c3, c4, c5, c6, c7⟩ := HWC.out.rl.c
        generalize hlc : lb ++ (kindT x.kind ++ [32]) = lc at *
        have hlcl : lc.length ≤ 6500110 := by
          have h1 := kindT_len x.kind
          rw [← hlc, List.length_append, List.length_append]
          simp
          omega
        have HLC := hide hlc
        clear hlc hlbl
        go_upto_if 30 with (fail)
        go_cut [] (fun wx => Hid (WtI B w (lc ++ wrIf x) x (.slice A x.vals.length c) b3 wx))
        case first =>
          by_cases h0 : x.ik.size = 0
          · have HM : Hid (wrIf x = []) := by unfold wrIf; rw [if_pos h0]; exact hide rfl
            have e3 : (!(ByteArray.toList x.ik).isEmpty) = false := by rw [empty_of h0]; simp
            rw [e3]
            clear h0 e3
            go_wp2_with fail
            go_meet
            rw [HM.out, List.append_nil]
            exact HWC
          · have hik := HX.out.ik
            have hiv := HX.out.iv
            have hql := quote_le x.iv.data.toList
            have hq2 : x.iv.data.toList.length = x.iv.size := rfl
            have hqs : (⟨(quote x.iv.data.toList).toArray⟩ : ByteArray).size = (quote x.iv.data.toList).length := by simp [ByteArray.size]
            have HM : Hid (wrIf x = (⟨#[119, 104, 101, 114, 101, 32]⟩ ++ x.ik ++ ⟨#[32, 61, 32]⟩ ++ ⟨(quote x.iv.data.toList).toArray⟩ ++ ⟨#[32]⟩ : ByteArray).data.toList) := by
              unfold wrIf
              rw [if_neg h0, app_data, app_data, app_data, app_data]
              exact hide (by simp [wWhere, tx])
            have r1 := cat_run ⟨#[119, 104, 101, 114, 101, 32]⟩ x.ik (by show 6 + _ ≤ _; omega)
            have r2 := cat_run (⟨#[119, 104, 101, 114, 101, 32]⟩ ++ x.ik) ⟨#[32, 61, 32]⟩ (by rw [app_size]; show 6 + _ + 3 ≤ _; omega)
            have r3 := cat_run (⟨#[119, 104, 101, 114, 101, 32]⟩ ++ x.ik ++ ⟨#[32, 61, 32]⟩) ⟨(quote x.iv.data.toList).toArray⟩ (by rw [app_size, app_size, hqs]; show 6 + _ + 3 + _ ≤ _; omega)
            have r4 := cat_run (⟨#[119, 104, 101, 114, 101, 32]⟩ ++ x.ik ++ ⟨#[32, 61, 32]⟩ ++ ⟨(quote x.iv.data.toList).toArray⟩) ⟨#[32]⟩ (by rw [app_size, app_size, app_size, hqs]; show 6 + _ + 3 + _ + 1 ≤ _; omega)
            have hcl : lc.length + (⟨#[119, 104, 101, 114, 101, 32]⟩ ++ x.ik ++ ⟨#[32, 61, 32]⟩ ++ ⟨(quote x.iv.data.toList).toArray⟩ ++ ⟨#[32]⟩ : ByteArray).size ≤ 10000000 := by
              rw [app_size, app_size, app_size, app_size, hqs]
              show _ + (6 + _ + 3 + _ + 1) ≤ _
              omega
            have e3 : (!(ByteArray.toList x.ik).isEmpty) = true := by rw [full_emp h0]; rfl
            have HCL := hide hcl
            have HPQ := hide (fun W => pquote_any x.iv W (by omega))
            have HWD := hide (HWC.out.lift (below_drewW wc))
            rw [e3]
            clear h0 e3 hcl hik hiv hql hq2 hqs
            go_wp2_with fail
            go_region_held3 (fun w' => (∃ l', WtI B w l' x (.slice A x.vals.length c) b3 w') ∧ (w'.cell? ⟨b3, 3, none⟩ = some (.string x.ik) ∧ w'.cell? ⟨b3, 4, none⟩ = some (.string x.iv)))
              (first | exact ⟨⟨_, HWD.out⟩, HWD.out.rl.c.2.2.2.1, HWD.out.rl.c.2.2.2.2.1⟩ | exact ⟨⟨_, hk8⟩, hk8.rl.c.2.2.2.1, hk8.rl.c.2.2.2.2.1⟩ | exact ⟨⟨_, hk7⟩, hk7.rl.c.2.2.2.1, hk7.rl.c.2.2.2.2.1⟩)
              (first
                | (go_at_call 36; (with_reducible refine (HPQ.out _).mono ?_); rintro _ w7 ⟨rfl, b7⟩; have hk7 := HWD.out.lift b7)
                | (go_at_call 34; refine (wsm B lc _ _ hk7.bld HCL.out (Nat.le_of_lt (bld_lt hk7.bld))).mono ?_; rintro _ w8 ⟨rfl, h1, h2, h3⟩; have hk8 := hk7.write h1 h2 h3))
            all_goals
              go_wp2_with fail
              go_meet
              rw [HM.out]
              exact hide hk8
        case rest =>
          have HWE := hide hcut.out
          clear hcut HWC c0 c1 c2 c3 c4 c5 c6 c7
          obtain ⟨c0, c1, c2, c3, c4, c5, c6, c7⟩ := HWE.out.rl.c
          generalize hle : lc ++ wrIf x = le at *
          have hlel : le.length ≤ 6500600 := by
            have h1 := wrIf_len HX.out
            rw [← hle, List.length_append]
            omega
          have HWR : Hid (l ++ writeR x = le ++ wrOp x ++ [59, 10]) := by
            unfold writeR
            rw [← hle, ← HLC.out, ← HLB.out]
            exact hide (by simp only [List.append_assoc])
          clear hle hlcl HLC HLB
          obtain ⟨op, hop⟩ : ∃ op, x.op = op := ⟨_, rfl⟩
          rw [hop] at c5
          have hor := HX.out.op
          rw [hop] at hor
          have HOP := hide hop
          clear hop
          have hkey := HX.out.key
          by_cases h1 : op = 1
          · subst h1
            have HM : Hid (wrOp x = (⟨#[110, 101, 101, 100, 115, 32]⟩ ++ x.key : ByteArray).data.toList) := by
              unfold wrOp
              rw [HOP.out, if_pos rfl, app_data]
              exact hide (by simp [wNeeds, tx])
            have r1 := cat_run ⟨#[110, 101, 101, 100, 115, 32]⟩ x.key (by show 6 + _ ≤ _; omega)
            have HW := hide (wsm B le (⟨#[110, 101, 101, 100, 115, 32]⟩ ++ x.key) wc HWE.out.bld (by rw [app_size]; show _ + (6 + _) ≤ _; omega) (Nat.le_of_lt (bld_lt HWE.out.bld)))
            rw [← HM.out] at HW
            have hol : (wrOp x).length ≤ 30 := by rw [HM.out, app_data, List.length_append]; show 6 + x.key.size ≤ _; omega
            go_wp2_with fail
            refine HW.out.mono ?_
            rintro _ w2 ⟨rfl, h1, h2, h3⟩
            have HW2 := hide (HWE.out.write h1 h2 h3)
            clear h1 h2 h3
            have HV2 := hide (wsm B (le ++ wrOp x) ⟨#[59, 10]⟩ w2 HW2.out.bld (by rw [List.length_append]; show _ + 2 ≤ _; omega) (Nat.le_of_lt (bld_lt HW2.out.bld)))
            go_wp2_with fail
            refine HV2.out.mono ?_
            rintro _ w3 ⟨rfl, h1, h2, h3⟩
            have HW3 := hide (HW2.out.write h1 h2 h3)
            clear h1 h2 h3
            go_wp2_with fail
            go_end0
            exact ⟨rfl, by rw [HWR.out]; exact HW3.out.bld, HW3.out.below⟩
          · have o1 : (op == 1) = false := beq_eq_false_iff_ne.2 h1
            by_cases h3 : op = 3
            · subst h3
              have HM : Hid (wrOp x = (⟨#[110, 111, 32]⟩ ++ x.key : ByteArray).data.toList) := by
                unfold wrOp
                rw [HOP.out, if_neg (by decide), if_pos rfl, app_data]
                exact hide (by simp [wNo, tx])
              have r1 := cat_run ⟨#[110, 111, 32]⟩ x.key (by show 3 + _ ≤ _; omega)
              have HW := hide (wsm B le (⟨#[110, 111, 32]⟩ ++ x.key) wc HWE.out.bld (by rw [app_size]; show _ + (3 + _) ≤ _; omega) (Nat.le_of_lt (bld_lt HWE.out.bld)))
              rw [← HM.out] at HW
              have hol : (wrOp x).length ≤ 30 := by rw [HM.out, app_data, List.length_append]; show 3 + x.key.size ≤ _; omega
              clear o1 h1
              go_wp2_with fail
              refine HW.out.mono ?_
              rintro _ w2 ⟨rfl, h1, h2, h3⟩
              have HW2 := hide (HWE.out.write h1 h2 h3)
              clear h1 h2 h3
              have HV2 := hide (wsm B (le ++ wrOp x) ⟨#[59, 10]⟩ w2 HW2.out.bld (by rw [List.length_append]; show _ + 2 ≤ _; omega) (Nat.le_of_lt (bld_lt HW2.out.bld)))
              go_wp2_with fail
              refine HV2.out.mono ?_
              rintro _ w3 ⟨rfl, h1, h2, h3⟩
              have HW3 := hide (HW2.out.write h1 h2 h3)
              clear h1 h2 h3
              go_wp2_with fail
              go_end0
              exact ⟨rfl, by rw [HWR.out]; exact HW3.out.bld, HW3.out.below⟩
            · obtain rfl : op = 2 := by omega
              obtain ⟨i0, hi, hz0, hz1, hz2⟩ := info_split info_rstring
              have HI := hide hi
              have HZ0 := hide hz0
              have HZ1 := hide hz1
              have HZ2 := hide hz2
              have hmany := HX.out.many
              have HLT := hide (lt_of_blk HWE.out.rl.blk)
              clear hi hz0 hz1 hz2 o1 h1 h3 hor
              go_wp2_with fail
              go_loopw [4, 49] (fun out i wr => ∃ (k : Nat) (Ao : Option Addr) (co : Nat), k ≤ x.vals.length ∧ i = .int .i64 k ∧ out = .slice Ao k co ∧ Hid (wr.ownsRow wc.heap.size 9 1 (.slice Ao k co) k ((x.vals.take k).map (fun s => Value.string (qv s)))) ∧ Hid (Below wc.heap.size wc wr)) (fun _ i _ => x.vals.length - (intOf i).toNat)
              case atStart => exact ⟨0, none, 0, Nat.zero_le _, rfl, rfl, World.ownsRow_nil _ _ _ _, Below.refl _ _⟩
              case round =>
                obtain ⟨k, Ao, co, hk, rfl, rfl, hrow, hbw⟩ := hrel
                have HROW := hide hrow.out
                have HBW := hide hbw.out
                have HWF := hide (HWE.out.lift hbw.out)
                clear hrow hbw
                by_cases hlt : k < x.vals.length
                · obtain ⟨g, o, rfl, hg, hp⟩ := HA.out.resolve_left (by intro e; rw [e] at hlt; simp at hlt)
                  have hks := List.getElem?_eq_getElem hlt
                  have hsz := HX.out.vals _ (List.getElem_mem hlt)
                  generalize x.vals[k] = s at *
                  have y0 : wr.cell? ⟨g, o + k, none⟩ = some (.string s) := ((HB0.out.trans HWF.out.below).cell (p := ⟨g, _, none⟩) (by rw [← HBE.out]; exact hg)).trans (hp k s hks)
                  have HQ := hide (pquote_any s wr (by omega))
                  have k0 : (0 : Int) ≤ k := by omega
                  have k1 : (k : Int) < x.vals.length := by omega
                  have HTK := hide (tk_snoc hks)
                  have HKL := hide hlt
                  have HMS := hide (show x.vals.length - (k + 1) < x.vals.length - k from by omega)
                  have hk60 : k ≤ 60 := by omega
                  clear hlt hks hp hsz hk
                  go_wp2_with fail
                  refine HQ.out.mono ?_
                  rintro _ w5 ⟨rfl, b5⟩
                  have HB5 := hide (HBW.out.trans (b5.mono HBW.out.size))
                  have HR5 := hide (own_grown HROW.out (below_grown b5 none) (fun x hx => by cases hx))
                  clear b5 HROW HBW HWF y0
                  go_wp2_with (at_builtin; go_must (refine wpList_append_lies _ rfl (.tmp 53) (.tmp 56) 35 rfl wc.heap.size 9 i0 (.string ⟨#[]⟩) 1 16 Tryz.underlying35 HI.out HZ0.out HZ1.out HZ2.out rfl (by decide) (.slice Ao k co) k ((x.vals.take k).map (fun s => Value.string (qv s))) rfl ?c0 ⟨w5.heap.size, 0, none⟩ 1 1 [.string (qv s)] rfl rfl ?c1 ?c2 (by decide) ?c3 ?c4 ?c5 (w5.heap.size + 1) ?c6 ?_))
                  case c0 => exact own_grown HR5.out (below_grown ((Below.refl _ _).alloc (Nat.le_refl _) _) none) (fun x hx => by cases hx)
                  case c1 =>
                    intro j u hj
                    exact rnew_cells w5 [.string (qv s)] 9 j u hj
                  case c2 => intro u hu; simp at hu; subst hu; rfl
                  case c3 => unfold maxLen; omega
                  case c4 => omega
                  case c5 => have := HB5.out.size; simp; omega
                  case c6 => simp
                  intro g9 cap w9 hown9 hgrow9 hat9 _
                  have HB9 := hide (show Below wc.heap.size wc w9 from (HB5.out.alloc HB5.out.size (.cells #[.string (qv s)] 9)).grown hgrow9 (by have := HB5.out.size; simp; omega) (fun b hb => own_blk HR5.out hb))
                  have HR9 : Hid (w9.ownsRow wc.heap.size 9 1 (.slice (some ⟨g9, 0, none⟩) (k + 1) cap) (k + 1) ((x.vals.take (k + 1)).map (fun s => Value.string (qv s)))) := by
                    rw [HTK.out, List.map_append]
                    have h9 := hown9
                    rw [← List.map_take] at h9
                    exact hide h9
                  clear hown9 hgrow9 hat9 HR5 HB5
                  go_wp2_with fail
                  refine ⟨⟨k + 1, some ⟨g9, 0, none⟩, cap, HKL.out, by go_num, rfl, HR9, HB9⟩, ?_⟩
                  have := HMS.out
                  simp [intOf]; omega
                · obtain rfl : k = x.vals.length := by omega
                  have hro := HROW.out
                  rw [List.take_length] at hro
                  have k1 : ¬ (x.vals.length : Int) < x.vals.length := by omega
                  have hn1 := HX.out.some1 HOP.out
                  obtain ⟨gj, capj, hAo, hgj, hgl⟩ := hro.form (by omega)
                  cases hAo
                  obtain ⟨J, hJ⟩ : ∃ J : ByteArray, (⟨(Lib.join ((x.vals.map qv).map (·.data.toList)) (⟨#[44, 32]⟩ : ByteArray).data.toList).toArray⟩ : ByteArray) = J := ⟨_, rfl⟩
                  have hJd : J.data.toList = joinC (x.vals.map (fun s => quote (tx s))) := by
                    rw [← hJ]
                    show (Lib.join _ [44, 32]) = _
                    rw [join_is, List.map_map]
                    rfl
                  have hJl : (joinC (x.vals.map (fun s => quote (tx s)))).length ≤ 24240 := by
                    have h1 := joinC_len (x.vals.map (fun s => quote (tx s))) 402 (fun y hy => by
                      obtain ⟨s, hs, rfl⟩ := List.mem_map.1 hy
                      have h2 := quote_le (tx s)
                      have h3 := HX.out.vals s hs
                      have h4 : (tx s).length = s.size := rfl
                      omega)
                    rw [List.length_map] at h1
                    omega
                  have hJs : J.size ≤ 24240 := by
                    have : J.size = J.data.toList.length := rfl
                    rw [this, hJd]
                    exact hJl
                  have HJ := hide (fun W (hb : Below wr.heap.size wr W) => Tryz.strings_Join gj 0 co (x.vals.map qv) ⟨#[44, 32]⟩ W (fun j y hj => by
                    have h1 := World.ownsRow.cells (own_grown hro (below_grown hb none) (fun x hx => by cases hx)) (g := gj) rfl j (.string y) (by
                      rw [List.getElem?_map] at hj ⊢
                      obtain ⟨s, hs, rfl⟩ := Option.map_eq_some_iff.1 hj
                      rw [hs]
                      rfl)
                    have e : (⟨gj, 0, none⟩ : Addr).add j = ⟨gj, 0 + j, none⟩ := by simp only [Addr.add, Nat.zero_add]; split <;> simp_all
                    rw [← e]
                    exact h1) (Nat.lt_of_lt_of_le hgl hb.size) (by rw [List.length_map]; omega) (by
                      rw [List.length_map]
                      rcases hro.2 with ⟨_, h0⟩ | ⟨g2, cap2, cur2, hv2, _, _, hc2, _⟩
                      · omega
                      · cases hv2; exact hc2) (by
                      have : (Lib.join ((x.vals.map qv).map (·.data.toList)) (⟨#[44, 32]⟩ : ByteArray).data.toList).length = J.size := by rw [← hJ]; simp [ByteArray.size]
                      rw [this]
                      omega))
                  rw [hJ, List.length_map] at HJ
                  have HM : Hid (wrOp x = (⟨#[104, 97, 115, 32]⟩ ++ x.key ++ ⟨#[32, 111, 102, 32]⟩ ++ J : ByteArray).data.toList) := by
                    unfold wrOp
                    rw [HOP.out, if_neg (by decide), if_neg (by decide), app_data, app_data, app_data, hJd]
                    exact hide (by simp [wHas, wOf, tx])
                  have r1 := cat_run ⟨#[104, 97, 115, 32]⟩ x.key (by show 4 + _ ≤ _; omega)
                  have r2 := cat_run (⟨#[104, 97, 115, 32]⟩ ++ x.key) ⟨#[32, 111, 102, 32]⟩ (by rw [app_size]; show 4 + _ + 4 ≤ _; omega)
                  have r3 := cat_run (⟨#[104, 97, 115, 32]⟩ ++ x.key ++ ⟨#[32, 111, 102, 32]⟩) J (by rw [app_size, app_size]; show 4 + _ + 4 + _ ≤ _; omega)
                  have hcs : (⟨#[104, 97, 115, 32]⟩ ++ x.key ++ ⟨#[32, 111, 102, 32]⟩ ++ J : ByteArray).size ≤ 25000 := by
                    rw [app_size, app_size, app_size]
                    show 4 + _ + 4 + _ ≤ _
                    omega
                  have hol : (wrOp x).length ≤ 25000 := by rw [HM.out]; exact hcs
                  have HCL := hide (show le.length + (⟨#[104, 97, 115, 32]⟩ ++ x.key ++ ⟨#[32, 111, 102, 32]⟩ ++ J : ByteArray).size ≤ 10000000 by omega)
                  have HWD := hide (HWF.out.lift (below_drewW wr))
                  have HJD := hide (HJ.out wr.drew (below_drewW wr))
                  clear hro HROW hn1 hJ hJd hJl hJs hcs hgj hgl HJ
                  obtain ⟨d0, d1, d2, d3, d4, d5, d6, d7⟩ := HWD.out.rl.c
                  go_wp2_with fail
                  go_region_held3 (fun w' => (∃ l', WtI B w l' x (.slice A x.vals.length c) b3 w') ∧ w'.cell? ⟨b3, 6, none⟩ = some (.string x.key))
                    (first | exact ⟨⟨_, HWD.out⟩, HWD.out.rl.c.2.2.2.2.2.2.1⟩ | exact ⟨⟨_, hk8⟩, hk8.rl.c.2.2.2.2.2.2.1⟩ | exact ⟨⟨_, hk7⟩, hk7.rl.c.2.2.2.2.2.2.1⟩)
                    (first
                      | (go_at_call 37; (with_reducible refine HJD.out.mono ?_); rintro _ w7 ⟨rfl, b7⟩; have hk7 := HWD.out.lift b7)
                      | (go_at_call 34; refine (wsm B le _ _ hk7.bld HCL.out (Nat.le_of_lt (bld_lt hk7.bld))).mono ?_; rintro _ w8 ⟨rfl, h1, h2, h3⟩; have hk8 := hk7.write h1 h2 h3))
                  all_goals
                    rw [← HM.out] at hk8
                    have HW2 := hide hk8
                    have HV2 := hide (wsm B (le ++ wrOp x) ⟨#[59, 10]⟩ _ HW2.out.bld (by rw [List.length_append]; show _ + 2 ≤ _; omega) (Nat.le_of_lt (bld_lt HW2.out.bld)))
                    clear hk8 h1 h2 h3 hk7 b7
                    go_wp2_with fail
                    refine HV2.out.mono ?_
                    rintro _ w3 ⟨rfl, h1, h2, h3⟩
                    have HW3 := hide (HW2.out.write h1 h2 h3)
                    clear h1 h2 h3
                    go_wp2_with fail
                    go_end0
                    exact ⟨rfl, by rw [HWR.out]; exact HW3.out.bld, HW3.out.below⟩
end Go.Proofs.YtoodmhlefaepaaaGreat
