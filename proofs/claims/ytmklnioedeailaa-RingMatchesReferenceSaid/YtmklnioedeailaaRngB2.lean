/-
  The reference's ring functions: Relation.
-/
import Derived.Test.YtmklnioedeailaaRngA2
namespace Go.Proofs.Ytmklnioedeailaa
open Go.RowKit Go.Proofs.PlGeom Go.Proofs.PlRing

/-- The meetings that the reference takes for bad. -/
def wrM (m : Int) : Bool := !(decide (m = 0) || decide (m = 1) || decide (m = 4))
theorem wrM_t {m : Int} (h0 : ¬ m = 0) (h1 : ¬ m = 1) (h4 : ¬ m = 4) : wrM m = true := by simp [wrM, h0, h1, h4]
theorem wrM_f {m : Int} (h : m = 0 ∨ m = 1 ∨ m = 4) : wrM m = false := by rcases h with rfl | rfl | rfl <;> rfl
def rowW (s : List Sg) (x : Sg) : Bool := anyB (fun y => wrM (meets x y)) s
theorem badB_row (r s : List Pt) : badB r s = anyB (rowW (sd s)) (sd r) := rfl
def relY (a b c d : Bool) : Int := if (a && b) || (c && d) then 0 else if a then 2 else if c then 3 else if b || d then 1 else 4
theorem relX_y {r s : List Pt} (h1 : simple r = true) (h2 : simple s = true) : relX r s = if badB r s then 0 else relY (inR r s) (outR r s) (inR s r) (outR s r) := by
  unfold relX
  rw [h1, h2]
  cases badB r s <;> rfl
theorem relX_n {r s : List Pt} (h : (simple r && simple s) = false) : relX r s = 0 := by
  unfold relX
  rw [h]; rfl

set_option maxRecDepth 100000 in
set_option maxHeartbeats 16000000 in
theorem xrel_in (r s : List Pt) (v v2 : Value) (w : World) (hv : SlP w v r) (hv2 : SlP w v2 s) (h1 : simple r = true) (h2 : simple s = true) :
    Calls Try.prog 19 #[v, v2] w fun e w' => e = .returned (.int .i64 (relX r s)) ∧ Below w.heap.size w w' := by
  have HV := hide hv
  have HV2 := hide hv2
  have hreg := simple_reg r h1
  have hreg2 := simple_reg s h2
  have hl1 := ((regB_iff r).1 hreg).2.1
  have hl2 := ((regB_iff s).1 hreg2).2.1
  have HS1 := hide (fun w h => xsimple_any r v w h (by omega))
  have HS2 := hide (fun w h => xsimple_any s v2 w h (by omega))
  rw [h1] at HS1
  rw [h2] at HS2
  have HP1 := hide (fun w h h' => xparts_any r s v v2 w h h' hreg hreg2)
  have HP2 := hide (fun w h h' => xparts_any s r v2 v w h' h hreg2 hreg)
  rw [relX_y h1 h2]
  generalize inR r s = pa at *
  generalize outR r s = pb at *
  generalize inR s r = pc at *
  generalize outR s r = pd at *
  obtain ⟨A, c, rfl, _⟩ := hv
  obtain ⟨A2, c2, rfl, _⟩ := hv2
  obtain ⟨B, hB⟩ : ∃ B, B = badB r s := ⟨_, rfl⟩
  rw [← hB]
  rw [badB_row] at hB
  have HB := hide hB
  clear hB hreg hreg2 h1 h2
  go_enter Try.func19, Try.ntmps19
  go_wp2_with fail
  refine (HS1.out _ HV.out).mono ?_
  rintro _ w1 ⟨rfl, b1⟩
  have HB1 := hide b1
  clear b1
  go_wp2_with fail
  refine (HS2.out _ (HV2.out.below HB1.out)).mono ?_
  rintro _ w2 ⟨rfl, b2⟩
  have HB2 := hide (bto HB1.out b2)
  clear b2
  go_wp2_with fail
  go_loopw [5] (fun i wr => ∃ k : Nat, k ≤ r.length ∧ i = .int .i64 k ∧ Hid (Below w.heap.size w wr) ∧ Hid (anyB (rowW (sd s)) ((sd r).drop k) = B)) (fun i _ => r.length - (intOf i).toNat)
  case atStart => exact ⟨0, Nat.zero_le _, rfl, HB2, hide HB.out.symm⟩
  case round =>
    obtain ⟨i, hi, rfl, hb, hrel⟩ := hrel
    by_cases hlt : i < r.length
    · have b1 : (0 : Int) ≤ i := by omega
      have b2 : (i : Int) < r.length := by omega
      have hd := hrel.out
      rw [sd_drop r i hlt, anyB] at hd
      have HD := hide hd
      have HS := hide (fun w h => rside_any r (.slice A r.length c) i w h (by omega) hlt)
      have HL := hide hlt
      have HM := hide (show r.length - (i + 1) < r.length - i from by omega)
      clear hlt hd
      generalize sideAt r i = x at *
      obtain ⟨⟨ax, ay⟩, ⟨bx, bY⟩⟩ := x
      simp only [vS] at HS
      go_wp2_with fail
      go_loopw [6] (fun j wr => ∃ k : Nat, k ≤ s.length ∧ j = .int .i64 k ∧ Hid (Below w.heap.size w wr) ∧ Hid ((rowW ((sd s).drop k) ⟨⟨ax, ay⟩, ⟨bx, bY⟩⟩ || anyB (rowW (sd s)) ((sd r).drop (i + 1))) = B)) (fun j _ => s.length - (intOf j).toNat)
      case atStart => exact ⟨0, Nat.zero_le _, rfl, hb, HD⟩
      case round =>
        obtain ⟨k, hk, rfl, hb2, hrel2⟩ := hrel
        by_cases hlt2 : k < s.length
        · have hd2 := hrel2.out
          rw [sd_drop s k hlt2, rowW, anyB] at hd2
          have HT := hide (fun w h => rside_any s (.slice A2 s.length c2) k w h (by omega) hlt2)
          generalize sideAt s k = t at *
          obtain ⟨⟨cx, cy⟩, ⟨dx, dy⟩⟩ := t
          have HC := hide (fun w => rmeets_any ax ay bx bY cx cy dx dy w)
          simp only [vS] at HT
          generalize meets ⟨⟨ax, ay⟩, ⟨bx, bY⟩⟩ ⟨⟨cx, cy⟩, ⟨dx, dy⟩⟩ = m at *
          have HD2 := hide hd2
          have d1 : (0 : Int) ≤ k := by omega
          have d2 : (k : Int) < s.length := by omega
          have HL2 := hide hlt2
          have HM2 := hide (show s.length - (k + 1) < s.length - k from by omega)
          clear hlt2 hd2 hrel2
          go_wp2_with fail
          refine (HS.out _ (HV.out.below hb2.out)).mono ?_
          rintro _ w3 ⟨rfl, e3⟩
          have HB3 := hide (bto hb2.out e3)
          clear e3
          go_wp2_with fail
          refine (HT.out _ (HV2.out.below HB3.out)).mono ?_
          rintro _ w4 ⟨rfl, e4⟩
          have HB4 := hide (bto HB3.out e4)
          clear e4
          go_wp2_with fail
          refine (HC.out _).mono ?_
          rintro _ w5 ⟨rfl, e5⟩
          have HB5 := hide (bto HB4.out e5)
          clear e5
          by_cases g0 : m = 0
          · subst g0
            go_wp2_with fail
            refine ⟨⟨k + 1, HL2.out, by go_num, HB5, hide (by have := HD2.out; rw [wrM_f (.inl rfl)] at this; exact this)⟩, ?_⟩
            have := HM2.out
            simp [intOf]; omega
          by_cases g1 : m = 1
          · subst g1
            clear g0
            go_wp2_with fail
            refine ⟨⟨k + 1, HL2.out, by go_num, HB5, hide (by have := HD2.out; rw [wrM_f (.inr (.inl rfl))] at this; exact this)⟩, ?_⟩
            have := HM2.out
            simp [intOf]; omega
          by_cases g4 : m = 4
          · subst g4
            clear g0 g1
            go_wp2_with fail
            refine ⟨⟨k + 1, HL2.out, by go_num, HB5, hide (by have := HD2.out; rw [wrM_f (.inr (.inr rfl))] at this; exact this)⟩, ?_⟩
            have := HM2.out
            simp [intOf]; omega
          have hBt : B = true := by have := HD2.out; rw [wrM_t g0 g1 g4] at this; exact this.symm
          subst hBt
          have k0 : (m == 0) = false := beq_eq_false_iff_ne.2 g0
          have k1 : (m == 1) = false := beq_eq_false_iff_ne.2 g1
          have k4 : (m == 4) = false := beq_eq_false_iff_ne.2 g4
          have j0 : (m != 0) = true := bne_iff_ne.2 g0
          have j1 : (m != 1) = true := bne_iff_ne.2 g1
          have j4 : (m != 4) = true := bne_iff_ne.2 g4
          go_wp2_with fail
          go_ret
          exact ⟨rfl, HB5.out⟩
        · have hz : anyB (rowW (sd s)) ((sd r).drop (i + 1)) = B := by
            have := hrel2.out
            rw [List.drop_eq_nil_of_le (by rw [sd_len]; omega)] at this
            exact this
          have HZ := hide hz
          clear hz
          go_wp2_with fail
          refine ⟨⟨i + 1, HL.out, by go_num, hb2, HZ⟩, ?_⟩
          have := HM.out
          simp [intOf]; omega
    · have hz : B = false := by
        have := hrel.out
        rw [List.drop_eq_nil_of_le (by rw [sd_len]; omega)] at this
        exact this.symm
      subst hz
      go_wp2_with fail
      refine (HP1.out _ (HV.out.below hb.out) (HV2.out.below hb.out)).mono ?_
      rintro _ w3 ⟨rfl, b3⟩
      have HB3 := hide (bto hb.out b3)
      clear b3
      go_wp2_with fail
      refine (HP2.out _ (HV.out.below HB3.out) (HV2.out.below HB3.out)).mono ?_
      rintro _ w4 ⟨rfl, b4⟩
      have HB4 := hide (bto HB3.out b4)
      clear b4
      cases pa <;> cases pb <;> cases pc <;> cases pd
      all_goals
        go_wp2_with fail
        go_ret
        exact ⟨rfl, HB4.out⟩
set_option maxRecDepth 100000 in
set_option maxHeartbeats 8000000 in
theorem xrelation_any (r s : List Pt) (v v2 : Value) (w : World) (hv : SlP w v r) (hv2 : SlP w v2 s) (hr : r.length ≤ 100000) (hs : s.length ≤ 100000) :
    Calls Try.prog 19 #[v, v2] w fun e w' => e = .returned (.int .i64 (relX r s)) ∧ Below w.heap.size w w' := by
  cases h1 : simple r with
  | true =>
    cases h2 : simple s with
    | true => exact xrel_in r s v v2 w hv hv2 h1 h2
    | false =>
      rw [relX_n (by rw [h1, h2]; rfl)]
      have HS1 := hide (fun w h => xsimple_any r v w h (by omega))
      have HS2 := hide (fun w h => xsimple_any s v2 w h (by omega))
      rw [h1] at HS1
      rw [h2] at HS2
      have HV := hide hv
      have HV2 := hide hv2
      obtain ⟨A, c, rfl, _⟩ := hv
      obtain ⟨A2, c2, rfl, _⟩ := hv2
      clear h1 h2
      go_enter Try.func19, Try.ntmps19
      go_wp2_with fail
      refine (HS1.out _ HV.out).mono ?_
      rintro _ w1 ⟨rfl, b1⟩
      have HB1 := hide b1
      clear b1
      go_wp2_with fail
      refine (HS2.out _ (HV2.out.below HB1.out)).mono ?_
      rintro _ w2 ⟨rfl, b2⟩
      have HB2 := hide (bto HB1.out b2)
      clear b2
      go_wp2_with fail
      go_ret
      exact ⟨rfl, HB2.out⟩
  | false =>
    rw [relX_n (by rw [h1]; rfl)]
    have HS1 := hide (fun w h => xsimple_any r v w h (by omega))
    rw [h1] at HS1
    have HV := hide hv
    obtain ⟨A, c, rfl, _⟩ := hv
    obtain ⟨A2, c2, rfl, _⟩ := hv2
    clear h1
    go_enter Try.func19, Try.ntmps19
    go_wp2_with fail
    refine (HS1.out _ HV.out).mono ?_
    rintro _ w1 ⟨rfl, b1⟩
    have HB1 := hide b1
    clear b1
    go_wp2_with fail
    go_ret
    exact ⟨rfl, HB1.out⟩
end Go.Proofs.Ytmklnioedeailaa
