/-
  How the reference compares and counts rules, walked.
-/
import Derived.Test.YtoodmhlefaepaaaGreatRulG
namespace Go.Proofs.YtoodmhlefaepaaaGreat
open Go.RowKit Go.Proofs.PlLex Go.Proofs.PlRule

attribute [local go_sem ↓] eqTag
attribute [local go_sem] guardTag
/-- Worlds grown from one. -/
def Glw (w : World) : Type := {W' : World // Below w.heap.size w W'}
def Glw.w {w : World} (u : Glw w) : World := u.1
theorem Glw.go {w : World} (u : Glw w) {w8 : World} (hb : Below u.w.heap.size u.w w8) : ∃ u' : Glw w, w8 = u'.w := ⟨⟨w8, tr_below u.2 hb⟩, rfl⟩
theorem drewB (w : World) : Below w.heap.size w w.drew := (Below.refl _ _).drew
theorem tk_snoc {α : Type} {l : List α} {k : Nat} {x : α} (h : l[k]? = some x) : l.take (k + 1) = l.take k ++ [x] := by rw [List.take_add_one, h]; rfl
set_option maxRecDepth 100000 in
set_option maxHeartbeats 16000000 in
theorem rsame_any (a b : Rl) (va vb : Value) (w : World) (ha : StS w va a.vals) (hb : StS w vb b.vals) (lb : b.vals.length ≤ 1000000) :
    Calls Tryz.prog 27 #[vRl a va, vRl b vb] w fun e w' => e = .returned (.bool (decide (a = b))) ∧ Below w.heap.size w w' := by
  obtain ⟨V, hV⟩ : ∃ V, decide (a = b) = V := ⟨_, rfl⟩
  rw [hV]
  have HV := hide hV
  obtain ⟨A, ca, rfl, _, hA⟩ := ha
  obtain ⟨B, cb, rfl, _, hB⟩ := hb
  have HA := hide hA
  have HBB := hide hB
  obtain ⟨w1, hw1⟩ : ∃ w1, w.alloc (.cells #[.bool a.strict, .string a.area, .int .i64 a.kind, .string a.ik, .string a.iv, .int .i64 a.op, .string a.key, .slice A a.vals.length ca] 37) = w1 := ⟨_, rfl⟩
  have hb1 : Below w.heap.size w w1 := by rw [← hw1]; exact (Below.refl _ _).alloc (Nat.le_refl _) _
  have hr1 : RlB a (.slice A a.vals.length ca) w.heap.size w1 := ⟨by rw [← hw1]; exact heap_alloc_new _ _⟩
  obtain ⟨w2, hw2⟩ : ∃ w2, w1.alloc (.cells #[.bool b.strict, .string b.area, .int .i64 b.kind, .string b.ik, .string b.iv, .int .i64 b.op, .string b.key, .slice B b.vals.length cb] 37) = w2 := ⟨_, rfl⟩
  have hb2 : Below w1.heap.size w1 w2 := by rw [← hw2]; exact (Below.refl _ _).alloc (Nat.le_refl _) _
  have hr2 : RlB b (.slice B b.vals.length cb) w1.heap.size w2 := ⟨by rw [← hw2]; exact heap_alloc_new _ _⟩
  have HR1 := hide (hr1.lift hb2)
  have HR2 := hide hr2
  have HB2 := hide (tr_below hb1 hb2)
  clear hV hA hB hb1 hb2 hr1 hr2
  unfold vRl
  go_enter Tryz.func27, Tryz.ntmps27
  go_upto_region 1 with (fail)
  clear hw1 hw2
  obtain ⟨x0, x1, x2, x3, x4, x5, x6, x7⟩ := HR1.out.c
  obtain ⟨y0, y1, y2, y3, y4, y5, y6, y7⟩ := HR2.out.c
  by_cases hl : a.vals.length = b.vals.length
  · rw [hl] at x7
    have HL := hide hl
    clear hl
    go_wp2_with fail
    go_loopw [5] (fun i wr => ∃ k : Nat, k ≤ b.vals.length ∧ i = .int .i64 k ∧ Hid (a.vals.take k = b.vals.take k) ∧ Hid (Below w2.heap.size w2 wr)) (fun i _ => b.vals.length - (intOf i).toNat)
    case atStart => exact ⟨0, Nat.zero_le _, rfl, hide rfl, Below.refl _ _⟩
    case round =>
      obtain ⟨k, hk, rfl, htk, hbw⟩ := hrel
      have hl := HL.out
      clear x0 x1 x2 x3 x4 x5 x6 x7 y0 y1 y2 y3 y4 y5 y6 y7
      obtain ⟨x0, x1, x2, x3, x4, x5, x6, x7⟩ := (HR1.out.lift hbw.out).c
      obtain ⟨y0, y1, y2, y3, y4, y5, y6, y7⟩ := (HR2.out.lift hbw.out).c
      rw [hl] at x7
      have HBW := hide hbw.out
      by_cases hlt : k < b.vals.length
      · obtain ⟨ga, oa, rfl, hga, hpa⟩ := HA.out.resolve_left (by intro e; rw [e] at hl; simp at hl; omega)
        obtain ⟨gb, ob, rfl, hgb, hpb⟩ := HBB.out.resolve_left (by rintro e; rw [e] at hlt; simp at hlt)
        have hka := List.getElem?_eq_getElem (show k < a.vals.length by omega)
        have hkb := List.getElem?_eq_getElem hlt
        generalize a.vals[k] = s at *
        generalize b.vals[k] = t at *
        have hbb := tr_below HB2.out HBW.out
        have hbd := tr_below hbb (drewB wr)
        have F1 : ∀ u : Glw wr, u.w.cell? ⟨ga, oa + k, none⟩ = some (.string s) := fun u => ((tr_below hbb u.2).cell (p := ⟨ga, _, none⟩) hga).trans (hpa k s hka)
        have F2 : ∀ u : Glw wr, u.w.cell? ⟨gb, ob + k, none⟩ = some (.string t) := fun u => ((tr_below hbb u.2).cell (p := ⟨gb, _, none⟩) hgb).trans (hpb k t hkb)
        have F3 : ∀ u : Glw wr, u.w.cell? ⟨w.heap.size, 7, none⟩ = some (.slice (some ⟨ga, oa, none⟩) b.vals.length ca) := fun u => by
          have := (HR1.out.lift (tr_below HBW.out u.2)).c.2.2.2.2.2.2.2
          rw [hl] at this
          exact this
        have F4 : ∀ u : Glw wr, u.w.cell? ⟨w1.heap.size, 7, none⟩ = some (.slice (some ⟨gb, ob, none⟩) b.vals.length cb) := fun u => (HR2.out.lift (tr_below HBW.out u.2)).c.2.2.2.2.2.2.2
        have YN : Nonempty (Glw wr) := ⟨⟨_, Below.refl _ _⟩⟩
        have k0 : (0 : Int) ≤ k := by omega
        have k1 : (k : Int) < b.vals.length := by omega
        have HTA := hide (tk_snoc hka)
        have HTB := hide (tk_snoc hkb)
        have HTK := hide htk.out
        have HKA := hide hka
        have HKB := hide hkb
        have HKL := hide hlt
        have HMS := hide (show b.vals.length - (k + 1) < b.vals.length - k from by omega)
        clear hl hlt hka hkb hpa hpb hbb hbd htk hbw
        by_cases hst : s = t
        · subst hst
          have z1 : (s.toList == s.toList) = true := by simp
          have HT2 : Hid (a.vals.take (k + 1) = b.vals.take (k + 1)) := hide (by rw [HTA.out, HTB.out, HTK.out])
          go_wp2_with fail
          refine wp_region_quietW (J := Glw wr) Glw.w ⟨_, drewB wr⟩ rfl (by kernel_rfl) (by kernel_rfl) ?_
          repeat (go_big_quiet_step (fail))
          refine wpQuiet_nil ?_
          rintro w9 ⟨u, rfl⟩
          have HB9 := hide (tr_below HBW.out u.2)
          go_wp2_with fail
          refine ⟨⟨k + 1, HKL.out, by go_num, HT2, HB9⟩, ?_⟩
          have := HMS.out
          simp [intOf]; omega
        · have z1 : (s.toList == t.toList) = false := by rw [beq_eq_false_iff_ne]; exact fun e => hst (PlNet.toList_inj.1 e)
          have z2 : (s.toList != t.toList) = true := by rw [bne, z1]; rfl
          have HVF : Hid (V = false) := hide (by
            rw [← HV.out]
            refine decide_eq_false (fun e => hst ?_)
            have h1 := HKA.out
            rw [e, HKB.out] at h1
            exact (Option.some.inj h1).symm)
          go_wp2_with fail
          refine wp_region_quietW (J := Glw wr) Glw.w ⟨_, drewB wr⟩ rfl (by kernel_rfl) (by kernel_rfl) ?_
          repeat (go_big_quiet_step (fail))
          refine wpQuiet_nil ?_
          rintro w9 ⟨u, rfl⟩
          have HB9 := hide (tr_below HB2.out (tr_below HBW.out u.2))
          go_wp2_with fail
          go_ret
          exact ⟨ret_b HVF.out.symm, HB9.out⟩
      · obtain rfl : k = b.vals.length := by omega
        have hvv := htk.out
        rw [List.take_length, ← hl, List.take_length] at hvv
        have HVE := hide hvv
        have HB := hide (tr_below HB2.out HBW.out)
        have k1 : ¬ (b.vals.length : Int) < b.vals.length := by omega
        clear hvv htk hbw hlt hl
        by_cases h0 : a.strict = b.strict
        · have z0 : (a.strict == b.strict) = true := by rw [h0]; simp
          by_cases h1 : a.area = b.area
          · have z1 : (a.area.toList == b.area.toList) = true := by rw [h1]; simp
            by_cases h2 : a.kind = b.kind
            · have z2 : (a.kind == b.kind) = true := by rw [h2]; simp
              by_cases h3 : a.ik = b.ik ∧ a.iv = b.iv
              · have z3 : tagEq a.ik a.iv b.ik b.iv = true := by unfold tagEq; rw [h3.1, h3.2]; simp
                by_cases h4 : a.op = b.op
                · have z4 : (a.op == b.op) = true := by rw [h4]; simp
                  by_cases h5 : a.key = b.key
                  · have z5 : (a.key.toList == b.key.toList) = true := by rw [h5]; simp
                    have HVT : Hid (V = true) := hide (by rw [← HV.out]; exact decide_eq_true (Rl.ext' h0 h1 h2 h3.1 h3.2 h4 h5 HVE.out))
                    clear h0 h1 h2 h3 h4 h5
                    go_wp2_with fail
                    go_ret
                    exact ⟨ret_b (by rw [HVT.out]), HB.out⟩
                  · have z5 : (a.key.toList == b.key.toList) = false := by rw [beq_eq_false_iff_ne]; exact fun e => h5 (PlNet.toList_inj.1 e)
                    have HVF : Hid (V = false) := hide (by rw [← HV.out]; exact decide_eq_false (fun e => h5 (by rw [e])))
                    clear h0 h1 h2 h3 h4 h5
                    go_wp2_with fail
                    go_ret
                    exact ⟨ret_b (by rw [HVF.out]), HB.out⟩
                · have z4 : (a.op == b.op) = false := beq_eq_false_iff_ne.2 h4
                  have HVF : Hid (V = false) := hide (by rw [← HV.out]; exact decide_eq_false (fun e => h4 (by rw [e])))
                  clear h0 h1 h2 h3 h4
                  go_wp2_with fail
                  go_ret
                  exact ⟨ret_b (by rw [HVF.out]), HB.out⟩
              · have z3 : tagEq a.ik a.iv b.ik b.iv = false := by
                  unfold tagEq
                  rw [Bool.and_eq_false_iff, beq_eq_false_iff_ne, beq_eq_false_iff_ne]
                  by_cases e : a.ik = b.ik
                  · exact .inr (fun e2 => h3 ⟨e, PlNet.toList_inj.1 e2⟩)
                  · exact .inl (fun e2 => e (PlNet.toList_inj.1 e2))
                have HVF : Hid (V = false) := hide (by rw [← HV.out]; exact decide_eq_false (fun e => h3 ⟨by rw [e], by rw [e]⟩))
                clear h0 h1 h2 h3
                go_wp2_with fail
                go_ret
                exact ⟨ret_b (by rw [HVF.out]), HB.out⟩
            · have z2 : (a.kind == b.kind) = false := beq_eq_false_iff_ne.2 h2
              have HVF : Hid (V = false) := hide (by rw [← HV.out]; exact decide_eq_false (fun e => h2 (by rw [e])))
              clear h0 h1 h2
              go_wp2_with fail
              go_ret
              exact ⟨ret_b (by rw [HVF.out]), HB.out⟩
          · have z1 : (a.area.toList == b.area.toList) = false := by rw [beq_eq_false_iff_ne]; exact fun e => h1 (PlNet.toList_inj.1 e)
            have HVF : Hid (V = false) := hide (by rw [← HV.out]; exact decide_eq_false (fun e => h1 (by rw [e])))
            clear h0 h1
            go_wp2_with fail
            go_ret
            exact ⟨ret_b (by rw [HVF.out]), HB.out⟩
        · have z0 : (a.strict == b.strict) = false := by simpa using h0
          have HVF : Hid (V = false) := hide (by rw [← HV.out]; exact decide_eq_false (fun e => h0 (by rw [e])))
          clear h0
          go_wp2_with fail
          go_ret
          exact ⟨ret_b (by rw [HVF.out]), HB.out⟩
  · have l1 : ¬ ((a.vals.length : Nat) : Int) = (b.vals.length : Nat) := by omega
    have l2 : (((a.vals.length : Nat) : Int) == ((b.vals.length : Nat) : Int)) = false := beq_eq_false_iff_ne.2 l1
    have l3 : (((a.vals.length : Nat) : Int) != ((b.vals.length : Nat) : Int)) = true := by rw [bne, l2]; rfl
    have HVF : Hid (V = false) := hide (by rw [← HV.out]; exact decide_eq_false (fun e => hl (by rw [e])))
    clear l1 hl
    go_wp2_with fail
    go_ret
    exact ⟨ret_b HVF.out.symm, HB2.out⟩
end Go.Proofs.YtoodmhlefaepaaaGreat
