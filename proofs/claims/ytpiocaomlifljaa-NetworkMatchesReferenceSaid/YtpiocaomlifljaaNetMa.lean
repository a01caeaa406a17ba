/-
  The reference's On, Word and Tags, walked.
-/
import Derived.Test.YtpiocaomlifljaaNetRc
import Derived.Test.YtpiocaomlifljaaNetOe
namespace Go.Proofs.Ytpiocaomlifljaa
open Go.RowKit Go.Proofs.PlLex Go.Proofs.PlNet Go.Proofs.PlMap

set_option maxRecDepth 100000 in
set_option maxHeartbeats 4000000 in
theorem rgrid_any (x y : Int) (w : World) : Calls Try.prog 81 #[.agg #[.int .i64 x, .int .i64 y]] w fun e w' => e = .returned (.bool (gridB x y)) ∧ Below w.heap.size w w' := by
  go_enter Try.func81, Try.ntmps81
  go_wp2_with fail
  all_goals go_ret
  all_goals refine ⟨ret_bool ?_, (Below.refl _ _).alloc (Nat.le_refl _) _⟩
  all_goals (unfold gridB; rw [Bool.eq_iff_iff]; simp; omega)
set_option maxRecDepth 100000 in
set_option maxHeartbeats 4000000 in
theorem rword_any (k : Int) (w : World) : Calls Try.prog 83 #[.int .i64 k] w fun e w' => e = .returned (.string (wordS k)) ∧ Below w.heap.size w w' := by
  have HB : ∀ o : Obj, Below w.heap.size w (w.alloc o) := fun o => (Below.refl _ _).alloc (Nat.le_refl _) o
  rcases kinds k with h | rfl | rfl | rfl | rfl | rfl | rfl | h
  case inl =>
    have HW := hide (wordS_out k (.inl (by omega)))
    have h0 : k < 1 := by omega
    go_enter Try.func83, Try.ntmps83
    go_wp2_with fail
    go_ret
    exact ⟨ret_str HW.out.symm, HB _⟩
  case inr.inr.inr.inr.inr.inr.inr =>
    have HW := hide (wordS_out k (.inr (by omega)))
    have h0 : ¬ k < 1 := by omega
    have h5 : 5 < k := by omega
    go_enter Try.func83, Try.ntmps83
    go_wp2_with fail
    go_ret
    exact ⟨ret_str HW.out.symm, HB _⟩
  all_goals
    go_enter Try.func83, Try.ntmps83
    go_wp2_with fail
    refine bodyPost_ret (v := .string (wordS _)) (by simp [results, Try.f83, go_sem]; decide) rfl ⟨rfl, HB _⟩
theorem less_nil (a : List UInt8) : Go.Op.bytesLess a [] = false := by cases a <;> rfl
theorem name_nil : name [] = false := rfl
theorem name_first {s : ByteArray} (h : name s.data.toList = true) : Go.Op.bytesLess s.toList (⟨#[]⟩ : ByteArray).toList = false ∧ (s.toList == (⟨#[]⟩ : ByteArray).toList) = false := by
  have e : (⟨#[]⟩ : ByteArray).toList = [] := by rw [ByteArray.toList_eq]
  rw [e]
  refine ⟨less_nil _, ?_⟩
  rw [beq_eq_false_iff_ne, ByteArray.toList_eq]
  intro e2
  rw [e2] at h
  cases h
theorem less_or (a b : List UInt8) : (!Go.Op.bytesLess b a && !(b == a)) = Go.Op.bytesLess a b := by
  cases h : Go.Op.bytesLess a b with
  | true =>
    obtain ⟨h1, h2⟩ := less_asymm h
    rw [h1, beq_eq_false_iff_ne.2 (fun e => h2 e.symm)]
    rfl
  | false =>
    by_cases e : b = a
    · subst e; simp
    · rw [less_tri h (fun e2 => e e2.symm)]
      rfl
/-- The key before, if there is one. -/
def lastK (l : List Tg) (k : Nat) : ByteArray := if k = 0 then ⟨#[]⟩ else (l.getD (k - 1) ⟨⟨#[]⟩, ⟨#[]⟩⟩).k
theorem lastK_next {l : List Tg} {k : Nat} {t : Tg} (h : l[k]? = some t) : lastK l (k + 1) = t.k := by
  unfold lastK
  rw [if_neg (by omega), show k + 1 - 1 = k by omega, List.getD_eq_getElem?_getD, h]
  rfl
set_option maxRecDepth 100000 in
set_option maxHeartbeats 8000000 in
theorem rtags_any (l : List Tg) (v : Value) (w : World) (hv : TgS w v l) (hs : ∀ t ∈ l, t.k.size ≤ maxLen ∧ t.v.size ≤ maxLen) :
    Calls Try.prog 84 #[v] w fun e w' => e = .returned (.bool (tagsB l)) ∧ Below w.heap.size w w' := by
  obtain ⟨R, hR⟩ : ∃ R, tagsB l = R := ⟨_, rfl⟩
  rw [hR]
  obtain ⟨A, c, rfl, hA⟩ := hv
  have HA := hide hA
  have HS := hide hs
  clear hA hs
  by_cases h60 : l.length ≤ 60
  · have HR : Hid (tagL (lastK l 0) (l.drop 0) = R) := by
      unfold tagsB at hR
      rw [decide_eq_true h60, Bool.and_true] at hR
      exact hide hR
    clear hR
    go_enter Try.func84, Try.ntmps84
    go_wp2_with fail
    go_loopw [3] (fun i wr => ∃ (k : Nat), k ≤ l.length ∧ i = .int .i64 k ∧ Hid (Below w.heap.size w wr) ∧ Hid (tagL (lastK l k) (l.drop k) = R)) (fun i _ => l.length - (intOf i).toNat)
    case atStart => exact ⟨0, Nat.zero_le _, rfl, Below.refl _ _, HR⟩
    case round =>
      obtain ⟨k, hk, rfl, hb, hr⟩ := hrel
      by_cases hlt : k < l.length
      · obtain ⟨g, o, rfl, hg, hp⟩ := HA.out.resolve_left (by rintro rfl; simp at hlt)
        have hkt := List.getElem?_eq_getElem hlt
        have hr2 := hr.out
        rw [drop_tg l k hlt, tagL] at hr2
        obtain ⟨hs1, hs2⟩ := HS.out _ (List.getElem_mem hlt)
        generalize l[k] = t at *
        have C0 : ∀ u : Gls w, u.w.cell? ⟨g, o + k * 2, none⟩ = some (.string t.k) := fun u => (u.2.cell (p := ⟨g, _, none⟩) hg).trans (hp k t hkt).1
        have C1 : ∀ u : Gls w, u.w.cell? ⟨g, o + k * 2 + 1, none⟩ = some (.string t.v) := fun u => (u.2.cell (p := ⟨g, _, none⟩) hg).trans (hp k t hkt).2
        have HN := hide (fun u : Gls w => rname_any t.k u.w hs1)
        have YN : Nonempty (Gls w) := ⟨⟨_, hb.out⟩⟩
        have hbd := bto hb.out (below_drew wr)
        have k0 : (0 : Int) ≤ k := by omega
        have k1 : (k : Int) < l.length := by omega
        have HL := hide hlt
        have HM := hide (show l.length - (k + 1) < l.length - k from by omega)
        have HR2 := hide hr2
        have HP := hide hp
        have HLK := hide (lastK_next hkt)
        clear hr hr2 hp hlt hkt hb
        cases hn : name t.k.data.toList with
        | false =>
          have HZ := hide (show R = false from by rw [← HR2.out, hn]; simp)
          rw [hn] at HN
          clear hn
          go_wp2_with fail
          refine wp_region_quietW (J := Gls w) Gls.w ⟨_, hbd⟩ rfl (by kernel_rfl) (by kernel_rfl) ?_
          repeat (go_big_quiet_step (((with_reducible refine (HN.out _).mono ?_); rintro _ w8 ⟨rfl, rfl⟩; exact ⟨rfl, Gls.go _ (Below.refl _ _)⟩)))
          refine wpQuiet_nil ?_
          rintro w9 ⟨u, rfl⟩
          have HB2 := hide (show Below w.heap.size w u.w from u.2)
          go_wp2_with fail
          go_ret
          exact ⟨ret_bool HZ.out.symm, HB2.out⟩
        | true =>
          obtain ⟨nf1, nf2⟩ := name_first hn
          have HR3 := HR2.out
          rw [hn, Bool.true_and] at HR3
          rw [hn] at HN
          clear hn
          by_cases hv0 : t.v.size < 1
          · have HZ := hide (show R = false from by
              have e : t.v.toList.isEmpty = true := by
                rw [ByteArray.toList_eq, List.isEmpty_iff, ← List.length_eq_zero_iff]
                have : t.v.data.toList.length = t.v.size := rfl
                omega
              rw [← HR3, e]; simp)
            have d0 : decide ((t.v.size : Int) < 1) = true := decide_eq_true (by omega)
            have d1 : decide (t.v.size < 1) = true := decide_eq_true hv0
            have d2 : t.v.size = 0 := by omega
            clear HR3
            go_wp2_with fail
            refine wp_region_quietW (J := Gls w) Gls.w ⟨_, hbd⟩ rfl (by kernel_rfl) (by kernel_rfl) ?_
            repeat (go_big_quiet_step (((with_reducible refine (HN.out _).mono ?_); rintro _ w8 ⟨rfl, rfl⟩; exact ⟨rfl, Gls.go _ (Below.refl _ _)⟩)))
            refine wpQuiet_nil ?_
            rintro w9 ⟨u, rfl⟩
            have HB2 := hide (show Below w.heap.size w u.w from u.2)
            go_wp2_with fail
            go_ret
            exact ⟨ret_bool HZ.out.symm, HB2.out⟩
          · have d0 : decide ((t.v.size : Int) < 1) = false := decide_eq_false (by omega)
            have d2 : ¬ t.v.size = 0 := by omega
            have e : t.v.toList.isEmpty = false := by
              cases e : t.v.toList.isEmpty with
              | false => rfl
              | true =>
                exfalso
                rw [ByteArray.toList_eq, List.isEmpty_iff, ← List.length_eq_zero_iff] at e
                have : t.v.data.toList.length = t.v.size := rfl
                omega
            rw [e] at HR3
            clear e
            by_cases hv2 : 200 < t.v.size
            · have HZ := hide (show R = false from by rw [← HR3, decide_eq_false (by omega)]; simp)
              have d3 : decide ((200 : Int) < t.v.size) = true := decide_eq_true (by omega)
              clear HR3
              go_wp2_with fail
              refine wp_region_quietW (J := Gls w) Gls.w ⟨_, hbd⟩ rfl (by kernel_rfl) (by kernel_rfl) ?_
              repeat (go_big_quiet_step (((with_reducible refine (HN.out _).mono ?_); rintro _ w8 ⟨rfl, rfl⟩; exact ⟨rfl, Gls.go _ (Below.refl _ _)⟩)))
              refine wpQuiet_nil ?_
              rintro w9 ⟨u, rfl⟩
              have HB2 := hide (show Below w.heap.size w u.w from u.2)
              go_wp2_with fail
              go_ret
              exact ⟨ret_bool HZ.out.symm, HB2.out⟩
            · have d3 : decide ((200 : Int) < t.v.size) = false := decide_eq_false (by omega)
              rw [decide_eq_true (show t.v.size ≤ 200 by omega)] at HR3
              by_cases hk0 : k = 0
              · have z0 : decide (0 < k) = false := decide_eq_false (by omega)
                have HZ : Hid (tagL (lastK l (k + 1)) (l.drop (k + 1)) = R) := by
                  rw [HLK.out, ← HR3]
                  unfold lastK
                  rw [if_pos hk0, nf1, nf2]
                  exact hide rfl
                clear HR3 hk0
                go_wp2_with fail
                refine wp_region_quietW (J := Gls w) Gls.w ⟨_, hbd⟩ rfl (by kernel_rfl) (by kernel_rfl) ?_
                repeat (go_big_quiet_step (((with_reducible refine (HN.out _).mono ?_); rintro _ w8 ⟨rfl, rfl⟩; exact ⟨rfl, Gls.go _ (Below.refl _ _)⟩)))
                refine wpQuiet_nil ?_
                rintro w9 ⟨u, rfl⟩
                have HB2 := hide (show Below w.heap.size w u.w from u.2)
                go_wp2_with fail
                refine ⟨⟨k + 1, HL.out, by go_num, HB2, HZ⟩, ?_⟩
                have := HM.out
                simp [intOf]; omega
              · have z0 : decide (0 < k) = true := decide_eq_true (by omega)
                have hlj : k - 1 < l.length := by have := HL.out; omega
                have hkj := List.getElem?_eq_getElem hlj
                have hlk : lastK l k = (l[k - 1]).k := by
                  unfold lastK
                  rw [if_neg hk0, List.getD_eq_getElem?_getD, hkj]
                  rfl
                rw [hlk] at HR3
                generalize l[k - 1] = s at *
                have D0 : ∀ u : Gls w, u.w.cell? ⟨g, o + (k - 1) * 2, none⟩ = some (.string s.k) := fun u => (u.2.cell (p := ⟨g, _, none⟩) hg).trans (HP.out (k - 1) s hkj).1
                have s0 : IntKind.i64.wrap ((k : Int) - 1) = (k : Int) - 1 := IntWalk.i64_in _ (by omega)
                have s1 : ((k : Int) - 1).toNat = k - 1 := by omega
                have s2 : (0 : Int) ≤ (k : Int) - 1 := by omega
                have s3 : (k : Int) - 1 < l.length := by omega
                have hor := less_or s.k.toList t.k.toList
                cases hls : Go.Op.bytesLess s.k.toList t.k.toList with
                | true =>
                  rw [hls] at hor
                  have HZ : Hid (tagL (lastK l (k + 1)) (l.drop (k + 1)) = R) := by
                    rw [HLK.out, ← HR3, hor]
                    exact hide rfl
                  clear HR3 hk0 hkj hlj hlk hor
                  go_wp2_with fail
                  refine wp_region_quietW (J := Gls w) Gls.w ⟨_, hbd⟩ rfl (by kernel_rfl) (by kernel_rfl) ?_
                  repeat (go_big_quiet_step (((with_reducible refine (HN.out _).mono ?_); rintro _ w8 ⟨rfl, rfl⟩; exact ⟨rfl, Gls.go _ (Below.refl _ _)⟩)))
                  refine wpQuiet_nil ?_
                  rintro w9 ⟨u, rfl⟩
                  have HB2 := hide (show Below w.heap.size w u.w from u.2)
                  go_wp2_with fail
                  refine ⟨⟨k + 1, HL.out, by go_num, HB2, HZ⟩, ?_⟩
                  have := HM.out
                  simp [intOf]; omega
                | false =>
                  rw [hls] at hor
                  have HZ := hide (show R = false from by rw [← HR3, hor]; rfl)
                  clear HR3 hk0 hkj hlj hlk hor
                  go_wp2_with fail
                  refine wp_region_quietW (J := Gls w) Gls.w ⟨_, hbd⟩ rfl (by kernel_rfl) (by kernel_rfl) ?_
                  repeat (go_big_quiet_step (((with_reducible refine (HN.out _).mono ?_); rintro _ w8 ⟨rfl, rfl⟩; exact ⟨rfl, Gls.go _ (Below.refl _ _)⟩)))
                  refine wpQuiet_nil ?_
                  rintro w9 ⟨u, rfl⟩
                  have HB2 := hide (show Below w.heap.size w u.w from u.2)
                  go_wp2_with fail
                  go_ret
                  exact ⟨ret_bool HZ.out.symm, HB2.out⟩
      · have hz : R = true := by rw [← hr.out, List.drop_eq_nil_of_le (by omega)]; rfl
        have HZ := hide hz
        have HB := hide hb.out
        clear hz hr hb
        go_wp2_with fail
        go_ret
        exact ⟨ret_bool HZ.out.symm, HB.out⟩
  · have HZ := hide (show R = false from by rw [← hR]; unfold tagsB; rw [decide_eq_false h60, Bool.and_false])
    have h61 : (60 : Int) < l.length := by omega
    clear hR
    go_enter Try.func84, Try.ntmps84
    go_wp2_with fail
    go_ret
    exact ⟨ret_bool HZ.out.symm, Below.refl _ _⟩
end Go.Proofs.Ytpiocaomlifljaa
