/-
  The law's head, walked.
-/
import Derived.Test.YtpiocaomlifljaaNetHa
import Derived.Test.YtpiocaomlifljaaNetY
import Derived.Test.YtpiocaomlifljaaNetT
namespace Go.Proofs.Ytpiocaomlifljaa
open Go.RowKit Go.Proofs.PlLex Go.Proofs.PlNet

theorem ids_same (a : List BA) (va vb : Value) (w : World) (ha : StS w va a) (hb : StS w vb a) (la : a.length ≤ maxLen) :
    Calls Try.prog 31 #[va, vb] w fun e w' => e = .returned (.bool true) ∧ Below w.heap.size w w' := by
  refine (ids_any a a va vb w ha hb la la).mono ?_
  rintro _ w' ⟨rfl, n, rfl⟩
  exact ⟨by simp, below_drewN w n⟩
set_option maxRecDepth 100000 in
set_option maxHeartbeats 16000000 in
theorem head_any (w : World) : Calls Try.prog 10 #[] w fun e w' => e = .returned (.bool true) ∧ Below w.heap.size w w' := by
  go_enter Try.func10, Try.ntmps10
  go_wp2_with fail
  refine (example_any w).mono ?_
  rintro _ w1 ⟨x1, rfl, h1, b1⟩
  have hb1 := b1
  have HC := hide (check_any exL x1 w1 h1)
  obtain ⟨A1, c1, rfl, _⟩ := id h1.obs
  clear h1 b1
  go_wp2_with fail
  refine HC.out.mono ?_
  rintro _ w2 ⟨rv, rfl, hvi, b2⟩
  rw [exL_check] at hvi
  obtain ⟨Av, cv, rfl, hvi2⟩ := id hvi
  have hb2 := bto hb1 b2
  clear HC hb1 b2
  go_wp2_with fail
  refine (example_any w2).mono ?_
  rintro _ w3 ⟨x3, rfl, h3, b3⟩
  have hvi3 := hvi.below b3
  have hb3 := bto hb2 b3
  have HA := hide (arcs_any exL x3 w3 h3)
  obtain ⟨A3, c3, rfl, _⟩ := id h3.obs
  clear h3 b3 hb2 hvi
  go_wp2_with fail
  refine HA.out.mono ?_
  rintro _ w4 ⟨ra, rfl, har, b4⟩
  rw [exL_arcs] at har
  obtain ⟨Aa, ca, rfl, har2⟩ := id har
  have hvi4 := hvi3.below b4
  have hb4 := bto hb3 b4
  clear HA hb3 b4 hvi3
  go_wp2_with fail
  refine (example_any w4).mono ?_
  rintro _ w5 ⟨x5, rfl, h5, b5⟩
  have hvi5 := hvi4.below b5
  have har5 := har.below b5
  have hb5 := bto hb4 b5
  have HP := hide (parts_any exL x5 w5 h5)
  obtain ⟨A5, c5, rfl, _⟩ := id h5.obs
  clear h5 b5 hb4 hvi4 har
  go_wp2_with fail
  refine HP.out.mono ?_
  rintro _ w6 ⟨rp, rfl, b6, _, hp⟩
  obtain ⟨R, hR, hgr⟩ := hp exL_map
  rw [exL_parts R hR] at hgr
  obtain ⟨Ap, cp, rfl, hcp, hgr2⟩ := id hgr
  have hvi6 := hvi5.below b6
  have har6 := har5.below b6
  have hb6 := bto hb5 b6
  clear HP hb5 b6 hvi5 har5 hp hR hvi2 har2
  -- the violations, the arcs and the parts
  obtain ⟨Av', cv', e, hvi2⟩ := id hvi6
  cases e
  obtain ⟨gv, ov, rfl, hgv, hov⟩ := hvi2.resolve_left (by simp)
  obtain ⟨y1, v10, v11, v12, v13, v14⟩ := hov 0 _ rfl
  obtain ⟨y2, v20, v21, v22, v23, v24⟩ := hov 1 _ rfl
  obtain ⟨Aa', ca', e, har2⟩ := id har6
  cases e
  obtain ⟨ga, oa, rfl, hga, hoa⟩ := har2.resolve_left (by simp)
  obtain ⟨a10, a11, a12, a13⟩ := hoa 0 _ rfl
  obtain ⟨a20, a21, a22, a23⟩ := hoa 1 _ rfl
  obtain ⟨gp, op, rfl, hgp, hop⟩ := hgr2.resolve_left (by simp)
  obtain ⟨iv, p10, hst⟩ := hop 0 _ rfl
  obtain ⟨Ai, ci, rfl, _⟩ := id hst
  simp only [Nat.zero_mul, Nat.one_mul, Nat.add_zero] at v10 v11 v12 v20 v21 v22 a10 a11 a12 a13 a20 a21 a22 a23 p10
  have HB6 := hide hb6
  have HS1 := hide (show StS w6 (.slice (some ⟨y1, 0, none⟩) 1 1) [⟨#[114, 50]⟩] from ⟨_, _, rfl, Nat.le_refl _, .inr ⟨y1, 0, rfl, v13, fun i s hi => by
    match i, hi with
    | 0, hi => cases hi; exact v14
    | (i + 1), hi => cases hi⟩⟩)
  have HS2 := hide (show StS w6 (.slice (some ⟨y2, 0, none⟩) 1 1) [⟨#[116, 50]⟩] from ⟨_, _, rfl, Nat.le_refl _, .inr ⟨y2, 0, rfl, v23, fun i s hi => by
    match i, hi with
    | 0, hi => cases hi; exact v24
    | (i + 1), hi => cases hi⟩⟩)
  have HS3 := hide hst
  clear hb6 hst hvi2 har2 hgr2 hov hoa hop hvi6 har6 hgr v10 v20 v13 v14 v23 v24
  simp only [List.length_cons, List.length_nil, Nat.zero_add]
  go_wp2_with fail
  obtain ⟨u1, hu1⟩ : ∃ u, w6.alloc (.cells #[.string ⟨#[114, 50]⟩] 9) = u := ⟨_, rfl⟩
  have t1 : StS u1 (.slice (some ⟨w6.heap.size, 0, none⟩) 1 1) [⟨#[114, 50]⟩] := by rw [← hu1]; exact st_new w6 [⟨#[114, 50]⟩] 9
  have d1 : Below w6.heap.size w6 u1 := by rw [← hu1]; exact (Below.refl _ _).alloc (Nat.le_refl _) _
  rw [hu1]
  have HI := hide (ids_same [⟨#[114, 50]⟩] _ _ u1 (HS1.out.below d1) t1 (by decide))
  clear hu1 t1
  refine HI.out.mono ?_
  rintro _ z1 ⟨rfl, e1⟩
  have f1 := bto d1 e1
  clear HI d1 e1
  have hb7 := bto HB6.out f1
  have v21 := (f1.cell (p := ⟨gv, _, none⟩) hgv).trans v21
  have v22 := (f1.cell (p := ⟨gv, _, none⟩) hgv).trans v22
  have HS2 := hide (HS2.out.below f1)
  have HS3 := hide (HS3.out.below f1)
  have a10 := (f1.cell (p := ⟨ga, _, none⟩) hga).trans a10
  have a11 := (f1.cell (p := ⟨ga, _, none⟩) hga).trans a11
  have a12 := (f1.cell (p := ⟨ga, _, none⟩) hga).trans a12
  have a13 := (f1.cell (p := ⟨ga, _, none⟩) hga).trans a13
  have a20 := (f1.cell (p := ⟨ga, _, none⟩) hga).trans a20
  have a21 := (f1.cell (p := ⟨ga, _, none⟩) hga).trans a21
  have a22 := (f1.cell (p := ⟨ga, _, none⟩) hga).trans a22
  have a23 := (f1.cell (p := ⟨ga, _, none⟩) hga).trans a23
  have p10 := (f1.cell (p := ⟨gp, _, none⟩) hgp).trans p10
  have hga := Nat.lt_of_lt_of_le hga f1.size
  have hgp := Nat.lt_of_lt_of_le hgp f1.size
  clear f1 hgv v11 v12
  go_wp2_with fail
  obtain ⟨u2, hu2⟩ : ∃ u, z1.alloc (.cells #[.string ⟨#[116, 50]⟩] 9) = u := ⟨_, rfl⟩
  have t2 : StS u2 (.slice (some ⟨z1.heap.size, 0, none⟩) 1 1) [⟨#[116, 50]⟩] := by rw [← hu2]; exact st_new z1 [⟨#[116, 50]⟩] 9
  have d2 : Below z1.heap.size z1 u2 := by rw [← hu2]; exact (Below.refl _ _).alloc (Nat.le_refl _) _
  rw [hu2]
  have HI := hide (ids_same [⟨#[116, 50]⟩] _ _ u2 (HS2.out.below d2) t2 (by decide))
  clear hu2 t2
  refine HI.out.mono ?_
  rintro _ z2 ⟨rfl, e2⟩
  have f2 := bto d2 e2
  clear HI d2 e2
  have hb8 := bto hb7 f2
  have HS3 := hide (HS3.out.below f2)
  have a10 := (f2.cell (p := ⟨ga, _, none⟩) hga).trans a10
  have a11 := (f2.cell (p := ⟨ga, _, none⟩) hga).trans a11
  have a12 := (f2.cell (p := ⟨ga, _, none⟩) hga).trans a12
  have a13 := (f2.cell (p := ⟨ga, _, none⟩) hga).trans a13
  have a20 := (f2.cell (p := ⟨ga, _, none⟩) hga).trans a20
  have a21 := (f2.cell (p := ⟨ga, _, none⟩) hga).trans a21
  have a22 := (f2.cell (p := ⟨ga, _, none⟩) hga).trans a22
  have a23 := (f2.cell (p := ⟨ga, _, none⟩) hga).trans a23
  have p10 := (f2.cell (p := ⟨gp, _, none⟩) hgp).trans p10
  clear f2 hb7 v21 v22 hga hgp HS2 HS1 HB6
  go_wp2_with fail
  obtain ⟨u3, hu3⟩ : ∃ u, z2.alloc (.cells #[.string ⟨#[97]⟩, .string ⟨#[98]⟩, .string ⟨#[99]⟩, .string ⟨#[100]⟩] 9) = u := ⟨_, rfl⟩
  have t3 : StS u3 (.slice (some ⟨z2.heap.size, 0, none⟩) 4 4) [⟨#[97]⟩, ⟨#[98]⟩, ⟨#[99]⟩, ⟨#[100]⟩] := by rw [← hu3]; exact st_new z2 [⟨#[97]⟩, ⟨#[98]⟩, ⟨#[99]⟩, ⟨#[100]⟩] 9
  have d3 : Below z2.heap.size z2 u3 := by rw [← hu3]; exact (Below.refl _ _).alloc (Nat.le_refl _) _
  rw [hu3]
  have HI := hide (ids_same [⟨#[97]⟩, ⟨#[98]⟩, ⟨#[99]⟩, ⟨#[100]⟩] _ _ u3 (HS3.out.below d3) t3 (by decide))
  clear hu3 t3
  refine HI.out.mono ?_
  rintro _ z3 ⟨rfl, e3⟩
  have f3 := bto d3 e3
  clear HI d3 e3
  have hb9 := bto hb8 f3
  clear f3 hb8 HS3 a10 a11 a12 a13 a20 a21 a22 a23 p10
  go_wp2_with fail
  refine (example_any z3).mono ?_
  rintro _ k0 ⟨xx0, rfl, hm0, bk0⟩
  have HA0 := hide (allowed_any exL xx0 ⟨#[118]⟩ ⟨#[98]⟩ ⟨#[119]⟩ k0 hm0 (by decide) (by decide))
  rw [show (mapB exL && allowedB exL ⟨#[118]⟩ ⟨#[98]⟩ ⟨#[119]⟩) = _ from exL_no1] at HA0
  obtain ⟨AA0, cc0, rfl, _⟩ := id hm0.obs
  clear hm0
  go_wp2_with fail
  refine HA0.out.mono ?_
  rintro _ m0 ⟨rfl, bm0⟩
  have hb10 := bto (bto hb9 bk0) bm0
  clear HA0 bk0 bm0 hb9
  go_wp2_with fail
  refine (example_any m0).mono ?_
  rintro _ k1 ⟨xx1, rfl, hm1, bk1⟩
  have HA1 := hide (allowed_any exL xx1 ⟨#[119]⟩ ⟨#[98]⟩ ⟨#[118]⟩ k1 hm1 (by decide) (by decide))
  rw [show (mapB exL && allowedB exL ⟨#[119]⟩ ⟨#[98]⟩ ⟨#[118]⟩) = _ from exL_yes] at HA1
  obtain ⟨AA1, cc1, rfl, _⟩ := id hm1.obs
  clear hm1
  go_wp2_with fail
  refine HA1.out.mono ?_
  rintro _ m1 ⟨rfl, bm1⟩
  have hb11 := bto (bto hb10 bk1) bm1
  clear HA1 bk1 bm1 hb10
  go_wp2_with fail
  refine (example_any m1).mono ?_
  rintro _ k2 ⟨xx2, rfl, hm2, bk2⟩
  have HA2 := hide (allowed_any exL xx2 ⟨#[118]⟩ ⟨#[97]⟩ ⟨#[119]⟩ k2 hm2 (by decide) (by decide))
  rw [show (mapB exL && allowedB exL ⟨#[118]⟩ ⟨#[97]⟩ ⟨#[119]⟩) = _ from exL_no2] at HA2
  obtain ⟨AA2, cc2, rfl, _⟩ := id hm2.obs
  clear hm2
  go_wp2_with fail
  refine HA2.out.mono ?_
  rintro _ m2 ⟨rfl, bm2⟩
  have hb12 := bto (bto hb11 bk2) bm2
  clear HA2 bk2 bm2 hb11
  go_wp2_with fail
  go_ret
  exact ⟨rfl, hb12⟩
end Go.Proofs.Ytpiocaomlifljaa
