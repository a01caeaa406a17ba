/-
  The reference's ring functions: parts.
-/
import Derived.Test.YtmklnioedeailaaRngZ
import Derived.Test.YtmklnioedeailaaRPlainC2
import Derived.BigQuiet
import Derived.Deep.RegionHeld3
import Derived.Deep.DrawnRows
namespace Go.Proofs.Ytmklnioedeailaa
open Go.RowKit Go.Proofs.PlGeom Go.Proofs.PlRing

/-- A side in its box. -/
structure PaB (w : World) (b : Nat) (x : Sg) (W : World) : Prop where
  below : Below w.heap.size w W
  box : W.heap[b]? = some (.cells #[.int .i64 x.a.x, .int .i64 x.a.y, .int .i64 x.b.x, .int .i64 x.b.y] 36 (0, 0))
theorem PaB.lift {w : World} {b : Nat} {x : Sg} {W W' : World} (h : PaB w b x W) (hb : Below W.heap.size W W') : PaB w b x W' := ⟨bto h.below hb, blkB hb h.box⟩
theorem PaB.cells {w : World} {b : Nat} {x : Sg} {W : World} (h : PaB w b x W) : PaB w b x W ∧ W.cell? ⟨b, 0, none⟩ = some (.int .i64 x.a.x) ∧ W.cell? ⟨b, 1, none⟩ = some (.int .i64 x.a.y) ∧ W.cell? ⟨b, 2, none⟩ = some (.int .i64 x.b.x) ∧ W.cell? ⟨b, 3, none⟩ = some (.int .i64 x.b.y) :=
  ⟨h, (blk4 h.box).1.1, (blk4 h.box).1.2.1, (blk4 h.box).1.2.2.1, (blk4 h.box).1.2.2.2⟩

def PaJ (w : World) (b : Nat) (x : Sg) : Type := { W : World // PaB w b x W }
def PaJ.w {w : World} {b : Nat} {x : Sg} (u : PaJ w b x) : World := u.1
theorem PaJ.go {w : World} {b : Nat} {x : Sg} (u : PaJ w b x) {w8 : World} (hb : Below u.w.heap.size u.w w8) : ∃ u' : PaJ w b x, w8 = u'.w := ⟨⟨w8, u.2.lift hb⟩, rfl⟩
theorem PaB.drew {w : World} {b : Nat} {x : Sg} {W : World} (h : PaB w b x W) : PaB w b x W.drew := ⟨h.below.drew, h.box⟩

set_option maxRecDepth 100000 in
set_option maxHeartbeats 8000000 in
theorem xparts_any (r s : List Pt) (v v2 : Value) (w : World) (hv : SlP w v r) (hv2 : SlP w v2 s) (hreg : regB r = true) (hreg2 : regB s = true) :
    Calls Try.prog 36 #[v, v2] w fun e w' => e = .returned (.tuple #[.bool (inR r s), .bool (outR r s)]) ∧ Below w.heap.size w w' := by
  have HV := hide hv
  have HV2 := hide hv2
  have HD := hide (xdbl_any s v2 w hv2 hreg2)
  have HFR := hide (regB_fine r hreg).1
  have HFD := hide (dbl_fine s hreg2)
  have hl1 := ((regB_iff r).1 hreg).2.1
  have hl2 := ((regB_iff s).1 hreg2).2.1
  obtain ⟨A, c, rfl, _⟩ := hv
  obtain ⟨A2, c2, rfl, _⟩ := hv2
  obtain ⟨RI, hRI⟩ : ∃ R, R = inR r s := ⟨_, rfl⟩
  obtain ⟨RO, hRO⟩ : ∃ R, R = outR r s := ⟨_, rfl⟩
  rw [← hRI, ← hRO]
  have HRI := hide hRI
  have HRO := hide hRO
  clear hRI hRO hreg hreg2
  go_enter Try.func36, Try.ntmps36
  go_wp2_with fail
  refine HD.out.mono ?_
  rintro _ w1 ⟨A3, c3, rfl, hpn⟩
  have HB1 := hide hpn.below
  have HV3 := hide hpn.sl
  clear hpn
  go_wp2_with fail
  go_loopw [7, 8, 9] (fun a b i wr => ∃ (k : Nat) (x y : Bool), k ≤ r.length ∧ i = .int .i64 k ∧ a = .bool x ∧ b = .bool y ∧ Hid (Below w1.heap.size w1 wr) ∧ Hid ((x || anyB (inB (dblR s) (sd s)) ((sd r).drop k)) = RI) ∧ Hid ((y || anyB (outB (dblR s) (sd s)) ((sd r).drop k)) = RO)) (fun _ _ i _ => r.length - (intOf i).toNat)
  case atStart => exact ⟨0, false, false, Nat.zero_le _, rfl, rfl, rfl, Below.refl _ _, hide (by rw [HRI.out]; rfl), hide (by rw [HRO.out]; rfl)⟩
  case round =>
    obtain ⟨k, fi, fo, hk, rfl, rfl, rfl, hb, hri, hro⟩ := hrel
    by_cases hlt : k < r.length
    · have d1 := hri.out
      have d2 := hro.out
      rw [sd_drop r k hlt, anyB] at d1 d2
      have b1 : (0 : Int) ≤ k := by omega
      have b2 : (k : Int) < r.length := by omega
      have HS := hide (fun w h => rside_any r (.slice A r.length c) k w h (by omega) hlt)
      have fa := HFR.out.at0 k hlt
      have fb := HFR.out.at0 ((k + 1) % r.length) (Nat.mod_lt _ (by omega))
      have hs : sideAt r k = ⟨at0 r k, at0 r ((k + 1) % r.length)⟩ := rfl
      rw [hs] at d1 d2 HS
      generalize at0 r k = p at *
      generalize at0 r ((k + 1) % r.length) = q at *
      obtain ⟨ax, ay⟩ := p
      obtain ⟨bx, bY⟩ := q
      have HL := hide hlt
      have HM := hide (show r.length - (k + 1) < r.length - k from by omega)
      have D1 := hide d1
      have D2 := hide d2
      clear d1 d2 hri hro hlt hs
      go_wp2_with fail
      refine (HS.out _ (HV.out.below (bto HB1.out hb.out))).mono ?_
      rintro _ w2 ⟨rfl, e2⟩
      have HB2 := hide (bto hb.out e2)
      clear e2
      simp only [vS]
      go_wp2_with fail
      have hm0 : PaB w1 w2.heap.size ⟨⟨ax, ay⟩, ⟨bx, bY⟩⟩ (w2.alloc (.cells #[.int .i64 ax, .int .i64 ay, .int .i64 bx, .int .i64 bY] 36)) := ⟨HB2.out.alloc HB2.out.size _, blkN _ _ _ rfl⟩
      have HM0 := hide hm0
      clear hm0
      obtain ⟨SB, hSB⟩ : ∃ SB, SB = sameB ⟨⟨ax, ay⟩, ⟨bx, bY⟩⟩ (sd s) := ⟨_, rfl⟩
      have HSB := hide hSB
      clear hSB
      go_loopw [11, 12] (fun a j wr => ∃ (m : Nat) (z : Bool), m ≤ s.length ∧ j = .int .i64 m ∧ a = .bool z ∧ Hid (PaB w1 w2.heap.size ⟨⟨ax, ay⟩, ⟨bx, bY⟩⟩ wr) ∧ Hid ((z || sameB ⟨⟨ax, ay⟩, ⟨bx, bY⟩⟩ ((sd s).drop m)) = SB)) (fun _ j _ => s.length - (intOf j).toNat)
      case atStart => exact ⟨0, false, Nat.zero_le _, rfl, rfl, HM0, hide (by rw [HSB.out]; rfl)⟩
      case round =>
        obtain ⟨m, z, hm, rfl, rfl, hpa, hsb⟩ := hrel
        by_cases hlt2 : m < s.length
        · have d1 := hsb.out
          rw [sd_drop s m hlt2, sameB] at d1
          have HS2 := hide (fun w h => rside_any s (.slice A2 s.length c2) m w h (by omega) hlt2)
          generalize sideAt s m = t at *
          obtain ⟨⟨cx, cy⟩, ⟨dx, dy⟩⟩ := t
          have HC := hide (fun w => rmeets_any ax ay bx bY cx cy dx dy w)
          generalize meets ⟨⟨ax, ay⟩, ⟨bx, bY⟩⟩ ⟨⟨cx, cy⟩, ⟨dx, dy⟩⟩ = mt at *
          have DD := hide d1
          have g1 : (0 : Int) ≤ m := by omega
          have g2 : (m : Int) < s.length := by omega
          simp only [vS] at HS2
          have HL2 := hide hlt2
          have HM2 := hide (show s.length - (m + 1) < s.length - m from by omega)
          have hsl : ∀ u : PaJ w1 w2.heap.size ⟨⟨ax, ay⟩, ⟨bx, bY⟩⟩, SlP u.w (.slice A2 s.length c2) s := fun u => HV2.out.below (bto HB1.out u.2.below)
          have HSL := hide hsl
          clear d1 hsb hlt2 hsl
          go_wp2_with fail
          have Y1 : ∀ u : PaJ w1 w2.heap.size ⟨⟨ax, ay⟩, ⟨bx, bY⟩⟩, u.w.cell? ⟨w2.heap.size, 0, none⟩ = some (.int .i64 ax) := fun u => (blk4 u.2.box).1.1
          have Y2 : ∀ u : PaJ w1 w2.heap.size ⟨⟨ax, ay⟩, ⟨bx, bY⟩⟩, u.w.cell? ⟨w2.heap.size, 1, none⟩ = some (.int .i64 ay) := fun u => (blk4 u.2.box).1.2.1
          have Y3 : ∀ u : PaJ w1 w2.heap.size ⟨⟨ax, ay⟩, ⟨bx, bY⟩⟩, u.w.cell? ⟨w2.heap.size, 2, none⟩ = some (.int .i64 bx) := fun u => (blk4 u.2.box).1.2.2.1
          have Y4 : ∀ u : PaJ w1 w2.heap.size ⟨⟨ax, ay⟩, ⟨bx, bY⟩⟩, u.w.cell? ⟨w2.heap.size, 3, none⟩ = some (.int .i64 bY) := fun u => (blk4 u.2.box).1.2.2.2
          have YN : Nonempty (PaJ w1 w2.heap.size ⟨⟨ax, ay⟩, ⟨bx, bY⟩⟩) := ⟨⟨_, hpa.out.drew⟩⟩
          cases z with
          | true =>
            refine wp_region_quietW (J := PaJ w1 w2.heap.size ⟨⟨ax, ay⟩, ⟨bx, bY⟩⟩) PaJ.w ⟨_, hpa.out.drew⟩ rfl (by kernel_rfl) (by kernel_rfl) ?_
            repeat (go_big_quiet_step (fail))
            refine wpQuiet_nil ?_
            rintro w9 ⟨u, rfl⟩
            have HU := hide (show PaB w1 w2.heap.size ⟨⟨ax, ay⟩, ⟨bx, bY⟩⟩ u.w from u.2)
            clear YN Y1 Y2 Y3 Y4
            go_wp2_with fail
            refine ⟨⟨m + 1, true, HL2.out, by go_num, rfl, HU, hide (by rw [← DD.out]; rfl)⟩, ?_⟩
            have := HM2.out
            simp [intOf]; omega
          | false =>
            refine wp_region_quietW (J := PaJ w1 w2.heap.size ⟨⟨ax, ay⟩, ⟨bx, bY⟩⟩) PaJ.w ⟨_, hpa.out.drew⟩ rfl (by kernel_rfl) (by kernel_rfl) ?_
            repeat (go_big_quiet_step ((first | ((with_reducible refine (HS2.out _ (HSL.out _)).mono ?_); rintro _ w8 ⟨rfl, b8⟩; exact ⟨rfl, PaJ.go _ b8⟩) | ((with_reducible refine (HC.out _).mono ?_); rintro _ w8 ⟨rfl, b8⟩; exact ⟨rfl, PaJ.go _ b8⟩))))
            refine wpQuiet_nil ?_
            rintro w9 ⟨u, rfl⟩
            have HU := hide (show PaB w1 w2.heap.size ⟨⟨ax, ay⟩, ⟨bx, bY⟩⟩ u.w from u.2)
            clear YN Y1 Y2 Y3 Y4
            go_wp2_with fail
            refine ⟨⟨m + 1, decide (mt = 4), HL2.out, by go_num, rfl, HU, hide (by rw [← DD.out]; rfl)⟩, ?_⟩
            have := HM2.out
            simp [intOf]; omega
        · have hz : SB = z := by rw [← hsb.out, List.drop_eq_nil_of_le (by rw [sd_len]; omega)]; simp [sameB]
          have HB4 := hide hpa.out.below
          have E1 := HSB.out
          have F1 := D1.out
          have F2 := D2.out
          obtain ⟨TI, hTI⟩ : ∃ T, anyB (inB (dblR s) (sd s)) ((sd r).drop (k + 1)) = T := ⟨_, rfl⟩
          obtain ⟨TO, hTO⟩ : ∃ T, anyB (outB (dblR s) (sd s)) ((sd r).drop (k + 1)) = T := ⟨_, rfl⟩
          rw [hTI] at F1
          rw [hTO] at F2
          have HTI := hide hTI
          have HTO := hide hTO
          clear hTI hTO
          unfold inB at F1
          unfold outB at F2
          rw [← E1, hz] at F1 F2
          clear E1
          cases z with
          | true =>
            have F3 := hide F1
            have F4 := hide F2
            clear F1 F2 hz hsb
            go_wp2_with fail
            refine ⟨⟨k + 1, fi, fo, HL.out, by go_num, rfl, rfl, HB4, hide (by rw [HTI.out]; have := F3.out; simpa using this), hide (by rw [HTO.out]; have := F4.out; simpa using this)⟩, ?_⟩
            have := HM.out
            simp [intOf]; omega
          | false =>
            obtain ⟨a1, a2, a3, a4⟩ := fa
            obtain ⟨p1, p2, p3, p4⟩ := fb
            simp only at a1 a2 a3 a4 p1 p2 p3 p4
            have HW := hide (fun w h => xwhere_any (dblR s) (.slice A3 (dblR s).length c3) (ax + bx) (ay + bY) w h HFD.out ⟨by simp only; omega, by simp only; omega, by simp only; omega, by simp only; omega⟩)
            obtain ⟨pv, hpv⟩ : ∃ pv, parS (midP ⟨⟨ax, ay⟩, ⟨bx, bY⟩⟩) (sd (dblR s)) (-1) = pv := ⟨_, rfl⟩
            rw [hpv] at F1 F2
            have hpv2 : parS ⟨ax + bx, ay + bY⟩ (sd (dblR s)) (-1) = pv := hpv
            simp only [hpv2] at HW
            clear hpv2
            clear hpv
            obtain ⟨⟨d1, d2, d3, d4⟩, _⟩ := blk4 hpa.out.box
            have F3 := hide F1
            have F4 := hide F2
            clear F1 F2 hz hsb
            go_wp2_with fail
            refine (HW.out _ (HV3.out.below HB4.out)).mono ?_
            rintro _ w5 ⟨rfl, b5⟩
            have HB5 := hide (bto HB4.out b5)
            clear d1 d2 d3 d4 b5
            by_cases hp : 0 < pv
            · go_wp2_with fail
              refine ⟨⟨k + 1, true, fo, HL.out, by go_num, rfl, rfl, HB5, hide (by rw [HTI.out]; have := F3.out; simpa [hp] using this), hide (by rw [HTO.out]; have := F4.out; simpa [hp] using this)⟩, ?_⟩
              have := HM.out
              simp [intOf]; omega
            · have HPB := hide (show decide (0 < pv) = false from decide_eq_false hp)
              go_wp2_with fail
              refine ⟨⟨k + 1, fi, true, HL.out, by go_num, rfl, rfl, HB5, hide (by rw [HTI.out]; have := F3.out; rw [HPB.out] at this; simpa using this), hide (by rw [HTO.out]; have := F4.out; rw [HPB.out] at this; simpa using this)⟩, ?_⟩
              have := HM.out
              simp [intOf]; omega
    · have h1 : RI = fi := by rw [← hri.out, List.drop_eq_nil_of_le (by rw [sd_len]; omega)]; simp [anyB]
      have h2 : RO = fo := by rw [← hro.out, List.drop_eq_nil_of_le (by rw [sd_len]; omega)]; simp [anyB]
      subst h1
      subst h2
      go_wp2_with fail
      go_ret2
      exact ⟨rfl, bto HB1.out hb.out⟩
end Go.Proofs.Ytmklnioedeailaa
