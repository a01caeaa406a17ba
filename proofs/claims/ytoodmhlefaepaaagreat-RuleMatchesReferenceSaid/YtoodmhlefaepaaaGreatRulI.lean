/-
  How the reference compares lists of rules, and counts them: walked.
-/
import Derived.Test.YtoodmhlefaepaaaGreatRulH
namespace Go.Proofs.YtoodmhlefaepaaaGreat
open Go.RowKit Go.Proofs.PlLex Go.Proofs.PlRule

theorem RlS.slice {W : World} {v : Value} {l : List Rl} (h : RlS W v l) : ∃ A c, v = .slice A l.length c ∧ (l = [] ∨ ∃ g o, A = some ⟨g, o, none⟩ ∧ g < W.heap.size ∧ RlO W g o l) := by
  obtain ⟨A, c, hv, _, h⟩ := h
  exact ⟨A, c, hv, h⟩
set_option maxRecDepth 100000 in
set_option maxHeartbeats 16000000 in
theorem rSame_any (a b : List Rl) (va vb : Value) (w : World) (ha : RlS w va a) (hb : RlS w vb b) (la : a.length ≤ 1000000) (zb : ∀ x ∈ b, x.vals.length ≤ 1000000) :
    Calls Tryz.prog 10 #[va, vb] w fun e w' => e = .returned (.bool (decide (a = b))) ∧ Below w.heap.size w w' := by
  obtain ⟨V, hV⟩ : ∃ V, decide (a = b) = V := ⟨_, rfl⟩
  rw [hV]
  have HV := hide hV
  obtain ⟨A, ca, rfl, hA⟩ := ha.slice
  obtain ⟨B, cb, rfl, hB⟩ := hb.slice
  have HA := hide hA
  have HBB := hide hB
  have HZB := hide zb
  clear hV hA hB ha hb zb
  by_cases hl : a.length = b.length
  · rw [hl]
    have HL := hide hl
    have lb : b.length ≤ 1000000 := by omega
    clear hl la
    go_enter Tryz.func10, Tryz.ntmps10
    go_wp2_with fail
    go_loopw [5] (fun i wr => ∃ k : Nat, k ≤ b.length ∧ i = .int .i64 k ∧ Hid (a.take k = b.take k) ∧ Hid (Below w.heap.size w wr)) (fun i _ => b.length - (intOf i).toNat)
    case atStart => exact ⟨0, Nat.zero_le _, rfl, hide rfl, Below.refl _ _⟩
    case round =>
      obtain ⟨k, hk, rfl, htk, hbw⟩ := hrel
      have HBW := hide hbw.out
      have hl := HL.out
      by_cases hlt : k < b.length
      · obtain ⟨ga, oa, rfl, hga, hpa⟩ := HA.out.resolve_left (by intro e; rw [e] at hl; simp at hl; omega)
        obtain ⟨gb, ob, rfl, hgb, hpb⟩ := HBB.out.resolve_left (by rintro e; rw [e] at hlt; simp at hlt)
        have hka := List.getElem?_eq_getElem (show k < a.length by omega)
        have hkb := List.getElem?_eq_getElem hlt
        have hzb := HZB.out _ (List.getElem_mem hlt)
        generalize a[k] = s at *
        generalize b[k] = t at *
        obtain ⟨v1, hat1⟩ := hpa k s hka
        obtain ⟨v2, hat2⟩ := hpb k t hkb
        obtain ⟨A1, c1, rfl, _, _⟩ := id hat1.vals
        obtain ⟨A2, c2, rfl, _, _⟩ := id hat2.vals
        have R1 : ∀ u : Glw wr, RlAt u.w ga (oa + k * 8) s (.slice A1 s.vals.length c1) := fun u => hat1.below hga (tr_below HBW.out u.2)
        have R2 : ∀ u : Glw wr, RlAt u.w gb (ob + k * 8) t (.slice A2 t.vals.length c2) := fun u => hat2.below hgb (tr_below HBW.out u.2)
        have X0 := fun u : Glw wr => (R1 u).c0
        have X1 := fun u : Glw wr => (R1 u).c1
        have X2 := fun u : Glw wr => (R1 u).c2
        have X3 := fun u : Glw wr => (R1 u).c3
        have X4 := fun u : Glw wr => (R1 u).c4
        have X5 := fun u : Glw wr => (R1 u).c5
        have X6 := fun u : Glw wr => (R1 u).c6
        have X7 := fun u : Glw wr => (R1 u).c7
        have Y0 := fun u : Glw wr => (R2 u).c0
        have Y1 := fun u : Glw wr => (R2 u).c1
        have Y2 := fun u : Glw wr => (R2 u).c2
        have Y3 := fun u : Glw wr => (R2 u).c3
        have Y4 := fun u : Glw wr => (R2 u).c4
        have Y5 := fun u : Glw wr => (R2 u).c5
        have Y6 := fun u : Glw wr => (R2 u).c6
        have Y7 := fun u : Glw wr => (R2 u).c7
        have CS := hide (fun u : Glw wr => rsame_any s t _ _ u.w (R1 u).vals (R2 u).vals hzb)
        unfold vRl at CS
        have YN : Nonempty (Glw wr) := ⟨⟨_, Below.refl _ _⟩⟩
        have k0 : (0 : Int) ≤ k := by omega
        have k1 : (k : Int) < b.length := by omega
        have HTA := hide (tk_snoc hka)
        have HTB := hide (tk_snoc hkb)
        have HTK := hide htk.out
        have HKA := hide hka
        have HKB := hide hkb
        have HKL := hide hlt
        have HMS := hide (show b.length - (k + 1) < b.length - k from by omega)
        clear hl hlt hka hkb hpa hpb hat1 hat2 R1 R2 htk hbw hzb
        by_cases hst : s = t
        · have HT2 : Hid (a.take (k + 1) = b.take (k + 1)) := hide (by rw [HTA.out, HTB.out, HTK.out, hst])
          rw [decide_eq_true hst] at CS
          clear hst
          go_wp2_with fail
          refine wp_region_quietW (J := Glw wr) Glw.w ⟨_, drewB wr⟩ rfl (by kernel_rfl) (by kernel_rfl) ?_
          repeat (go_big_quiet_step (((with_reducible refine (CS.out _).mono ?_); rintro _ w8 ⟨rfl, b8⟩; exact ⟨rfl, Glw.go _ b8⟩)))
          refine wpQuiet_nil ?_
          rintro w9 ⟨u, rfl⟩
          have HB9 := hide (tr_below HBW.out u.2)
          go_wp2_with fail
          refine ⟨⟨k + 1, HKL.out, by go_num, HT2, HB9⟩, ?_⟩
          have := HMS.out
          simp [intOf]; omega
        · have HVF : Hid (V = false) := hide (by
            rw [← HV.out]
            refine decide_eq_false (fun e => hst ?_)
            have h1 := HKA.out
            rw [e, HKB.out] at h1
            exact (Option.some.inj h1).symm)
          rw [decide_eq_false hst] at CS
          clear hst
          go_wp2_with fail
          refine wp_region_quietW (J := Glw wr) Glw.w ⟨_, drewB wr⟩ rfl (by kernel_rfl) (by kernel_rfl) ?_
          repeat (go_big_quiet_step (((with_reducible refine (CS.out _).mono ?_); rintro _ w8 ⟨rfl, b8⟩; exact ⟨rfl, Glw.go _ b8⟩)))
          refine wpQuiet_nil ?_
          rintro w9 ⟨u, rfl⟩
          have HB9 := hide (tr_below HBW.out u.2)
          go_wp2_with fail
          go_ret
          exact ⟨ret_b HVF.out.symm, HB9.out⟩
      · obtain rfl : k = b.length := by omega
        have hvv := htk.out
        rw [List.take_length, ← hl, List.take_length] at hvv
        have HVT : Hid (V = true) := hide (by rw [← HV.out]; exact decide_eq_true hvv)
        have k1 : ¬ (b.length : Int) < b.length := by omega
        clear hvv htk hbw hlt hl
        go_wp2_with fail
        go_ret
        exact ⟨ret_b HVT.out.symm, HBW.out⟩
  · have HVF : Hid (V = false) := hide (by rw [← HV.out]; exact decide_eq_false (fun e => hl (by rw [e])))
    have l1 : ¬ ((a.length : Nat) : Int) = (b.length : Nat) := by omega
    have l2 : (((a.length : Nat) : Int) == ((b.length : Nat) : Int)) = false := beq_eq_false_iff_ne.2 l1
    have l3 : (((a.length : Nat) : Int) != ((b.length : Nat) : Int)) = true := by rw [bne, l2]; rfl
    go_enter Tryz.func10, Tryz.ntmps10
    go_wp2_with fail
    go_ret
    exact ⟨ret_b HVF.out.symm, Below.refl _ _⟩
def sumW (x : Rl) : Int := IntKind.i64.wrap (IntKind.i64.wrap (IntKind.i64.wrap ((x.area.size : Int) + x.key.size) + x.ik.size) + x.iv.size)
def fewV (s : BA) : Bool := decide (s.size ≤ 300)
def fewR (x : Rl) : Bool := decide (sumW x ≤ 300) && (decide (x.vals.length ≤ 65) && x.vals.all fewV)
def fewL (n : Int) (l : List Rl) : Bool := l.all fewR && decide ((l.length : Int) ≤ n)
theorem all_take {α : Type} {p : α → Bool} {l : List α} {k : Nat} {x : α} (h : l[k]? = some x) : (l.take (k + 1)).all p = ((l.take k).all p && p x) := by
  rw [tk_snoc h, List.all_append]
  simp
theorem all_no {α : Type} {p : α → Bool} {l : List α} {k : Nat} {x : α} (h : l[k]? = some x) (hx : p x = false) : l.all p = false := by
  rw [List.all_eq_false]
  exact ⟨x, List.mem_of_getElem? h, by rw [hx]; decide⟩
set_option maxRecDepth 100000 in
set_option maxHeartbeats 16000000 in
theorem rfew_any (l : List Rl) (v : Value) (n : Int) (w : World) (hv : RlS w v l) (hl : l.length ≤ maxLen) (hz : ∀ x ∈ l, x.vals.length ≤ maxLen) :
    Calls Tryz.prog 5 #[v, .int .i64 n] w fun e w' => e = .returned (.bool (fewL n l)) ∧ Below w.heap.size w w' := by
  obtain ⟨V, hV⟩ : ∃ V, fewL n l = V := ⟨_, rfl⟩
  rw [hV]
  have HV := hide hV
  obtain ⟨A, c, rfl, hA⟩ := hv.slice
  have HA := hide hA
  have HZ := hide hz
  unfold maxLen at hl
  clear hV hA hv hz
  go_enter Tryz.func5, Tryz.ntmps5
  go_wp2_with fail
  go_loopw [5] (fun i wr => ∃ k : Nat, k ≤ l.length ∧ i = .int .i64 k ∧ Hid ((l.take k).all fewR = true) ∧ Hid (Below w.heap.size w wr)) (fun i _ => l.length - (intOf i).toNat)
  case atStart => exact ⟨0, Nat.zero_le _, rfl, hide rfl, Below.refl _ _⟩
  case round =>
    obtain ⟨k, hk, rfl, htk, hbw⟩ := hrel
    have HBW := hide hbw.out
    by_cases hlt : k < l.length
    · obtain ⟨g, o, rfl, hg, hp⟩ := HA.out.resolve_left (by rintro e; rw [e] at hlt; simp at hlt)
      have hkx := List.getElem?_eq_getElem hlt
      have hzx := HZ.out _ (List.getElem_mem hlt)
      generalize l[k] = x at *
      obtain ⟨v1, hat⟩ := hp k x hkx
      obtain ⟨A1, c1, rfl, _, hS⟩ := id hat.vals
      have R1 : ∀ u : Glw wr, RlAt u.w g (o + k * 8) x (.slice A1 x.vals.length c1) := fun u => hat.below hg (tr_below HBW.out u.2)
      have X0 := fun u : Glw wr => (R1 u).c0
      have X1 := fun u : Glw wr => (R1 u).c1
      have X2 := fun u : Glw wr => (R1 u).c2
      have X3 := fun u : Glw wr => (R1 u).c3
      have X4 := fun u : Glw wr => (R1 u).c4
      have X5 := fun u : Glw wr => (R1 u).c5
      have X6 := fun u : Glw wr => (R1 u).c6
      have X7 := fun u : Glw wr => (R1 u).c7
      have YN : Nonempty (Glw wr) := ⟨⟨_, Below.refl _ _⟩⟩
      have k0 : (0 : Int) ≤ k := by omega
      have k1 : (k : Int) < l.length := by omega
      have HKX := hide hkx
      have HTK := hide htk.out
      have HKL := hide hlt
      have HMS := hide (show l.length - (k + 1) < l.length - k from by omega)
      have HS := hide hS
      have HAT := hide (fun W (hb : Below w.heap.size w W) => (hat.below hg hb).c7)
      obtain ⟨S1, s1⟩ : ∃ S1, IntKind.i64.wrap ((x.area.size : Int) + x.key.size) = S1 := ⟨_, rfl⟩
      obtain ⟨S2, s2⟩ : ∃ S2, IntKind.i64.wrap (S1 + x.ik.size) = S2 := ⟨_, rfl⟩
      obtain ⟨S3, s3⟩ : ∃ S3, IntKind.i64.wrap (S2 + x.iv.size) = S3 := ⟨_, rfl⟩
      have HSUM : Hid (sumW x = S3) := by unfold sumW; rw [s1, s2, s3]; exact hide rfl
      unfold maxLen at hzx
      clear hlt hkx hp hat R1 htk hbw hS
      by_cases hs : 300 < S3
      · have HVF : Hid (V = false) := hide (by
          rw [← HV.out]
          unfold fewL
          rw [all_no HKX.out (by unfold fewR; rw [HSUM.out, decide_eq_false (by omega)]; rfl)]
          rfl)
        go_wp2_with fail
        refine wp_region_quietW (J := Glw wr) Glw.w ⟨_, drewB wr⟩ rfl (by kernel_rfl) (by kernel_rfl) ?_
        repeat (go_big_quiet_step (fail))
        refine wpQuiet_nil ?_
        rintro w9 ⟨u, rfl⟩
        have HB9 := hide (tr_below HBW.out u.2)
        go_wp2_with fail
        go_ret
        exact ⟨ret_b HVF.out.symm, HB9.out⟩
      · have hsd : decide (300 < S3) = false := decide_eq_false hs
        by_cases h65 : 65 < x.vals.length
        · have HVF : Hid (V = false) := hide (by
            rw [← HV.out]
            unfold fewL
            rw [all_no HKX.out (by unfold fewR; rw [decide_eq_false (show ¬ x.vals.length ≤ 65 by omega), Bool.false_and, Bool.and_false])]
            rfl)
          have h66 : (65 : Int) < (x.vals.length : Nat) := by omega
          go_wp2_with fail
          refine wp_region_quietW (J := Glw wr) Glw.w ⟨_, drewB wr⟩ rfl (by kernel_rfl) (by kernel_rfl) ?_
          repeat (go_big_quiet_step (fail))
          refine wpQuiet_nil ?_
          rintro w9 ⟨u, rfl⟩
          have HB9 := hide (tr_below HBW.out u.2)
          go_wp2_with fail
          go_ret
          exact ⟨ret_b HVF.out.symm, HB9.out⟩
        · have h66 : ¬ (65 : Int) < (x.vals.length : Nat) := by omega
          have HH := hide (show decide (sumW x ≤ 300) = true ∧ decide (x.vals.length ≤ 65) = true from ⟨decide_eq_true (by rw [HSUM.out]; omega), decide_eq_true (by omega)⟩)
          go_wp2_with fail
          refine wp_region_quietW (J := Glw wr) Glw.w ⟨_, drewB wr⟩ rfl (by kernel_rfl) (by kernel_rfl) ?_
          repeat (go_big_quiet_step (fail))
          refine wpQuiet_nil ?_
          rintro w9 ⟨u, rfl⟩
          have HB9 := hide (tr_below HBW.out u.2)
          have HNW : Hid (∀ W, Below u.w.heap.size u.w W → W.cell? ⟨g, o + k * 8 + 7, none⟩ = some (.slice A1 x.vals.length c1)) := fun W hb => HAT.out W (tr_below HB9.out hb)
          clear X0 X1 X2 X3 X4 X5 X6 X7 s1 s2 s3 hs hsd
          go_wp2_with fail
          go_loopw [6] (fun i wq => ∃ m : Nat, m ≤ x.vals.length ∧ i = .int .i64 m ∧ Hid ((x.vals.take m).all fewV = true) ∧ Hid (Below u.w.heap.size u.w wq)) (fun i _ => x.vals.length - (intOf i).toNat)
          case atStart => exact ⟨0, Nat.zero_le _, rfl, hide rfl, Below.refl _ _⟩
          case round =>
            obtain ⟨m, hm, rfl, htm, hbq⟩ := hrel
            have HBQ := hide hbq.out
            have x7 := HNW.out _ hbq.out
            by_cases hmt : m < x.vals.length
            · obtain ⟨gs, os, rfl, hgs, hps⟩ := HS.out.resolve_left (by rintro e; rw [e] at hmt; simp at hmt)
              have hms := List.getElem?_eq_getElem hmt
              generalize x.vals[m] = s at *
              have y0 := ((tr_below HB9.out HBQ.out).cell (p := ⟨gs, _, none⟩) hgs).trans (hps m s hms)
              have m0 : (0 : Int) ≤ m := by omega
              have m1 : (m : Int) < x.vals.length := by omega
              have HTM := hide htm.out
              have HMSX := hide hms
              have HML := hide hmt
              have HMM := hide (show x.vals.length - (m + 1) < x.vals.length - m from by omega)
              clear hmt hms hps htm hbq
              by_cases h3 : 300 < s.size
              · have HVF : Hid (V = false) := hide (by
                  rw [← HV.out]
                  unfold fewL
                  rw [all_no HKX.out (by unfold fewR; rw [all_no HMSX.out (by unfold fewV; exact decide_eq_false (by omega)), Bool.and_false, Bool.and_false])]
                  rfl)
                have h4 : (300 : Int) < (s.size : Nat) := by omega
                go_wp2_with fail
                go_ret
                exact ⟨ret_b HVF.out.symm, tr_below HB9.out HBQ.out⟩
              · have h4 : ¬ (300 : Int) < (s.size : Nat) := by omega
                have HT2 : Hid ((x.vals.take (m + 1)).all fewV = true) := hide (by rw [all_take HMSX.out, HTM.out]; unfold fewV; rw [decide_eq_true (by omega)]; rfl)
                go_wp2_with fail
                refine ⟨⟨m + 1, HML.out, by go_num, HT2, HBQ⟩, ?_⟩
                have := HMM.out
                simp [intOf]; omega
            · obtain rfl : m = x.vals.length := by omega
              have hall := htm.out
              rw [List.take_length] at hall
              have HT2 : Hid ((l.take (k + 1)).all fewR = true) := hide (by
                rw [all_take HKX.out, HTK.out]
                unfold fewR
                rw [HH.out.1, HH.out.2, hall]
                rfl)
              have m1 : ¬ (x.vals.length : Int) < x.vals.length := by omega
              have HB8 := hide (tr_below HB9.out HBQ.out)
              clear hall htm hmt hbq
              go_wp2_with fail
              refine ⟨⟨k + 1, HKL.out, by go_num, HT2, HB8⟩, ?_⟩
              have := HMS.out
              simp [intOf]; omega
    · obtain rfl : k = l.length := by omega
      have hall := htk.out
      rw [List.take_length] at hall
      have HVT : Hid (V = decide ((l.length : Int) ≤ n)) := hide (by rw [← HV.out]; unfold fewL; rw [hall, Bool.true_and])
      have k1 : ¬ (l.length : Int) < l.length := by omega
      clear hall htk hbw hlt
      go_wp2_with fail
      go_ret
      exact ⟨ret_b HVT.out.symm, HBW.out⟩
end Go.Proofs.YtoodmhlefaepaaaGreat
