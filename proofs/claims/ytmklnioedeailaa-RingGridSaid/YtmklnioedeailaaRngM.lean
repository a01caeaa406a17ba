/-
  The laws' fixed examples, walked: 'head' returns true.
-/
import Derived.Test.YtmklnioedeailaaRngL
namespace Go.Proofs.Ytmklnioedeailaa
open Go.RowKit Go.Proofs.PlGeom Go.Proofs.PlRing

set_option maxRecDepth 100000 in
set_option maxHeartbeats 4000000 in
theorem rhead_any (w : World) : Calls Try.prog 11 #[] w fun e w' => e = .returned (.bool true) ∧ Below w.heap.size w w' := by
  obtain ⟨R, hR⟩ : ∃ q : List Pt, q = [(⟨0, 0⟩ : Pt), (⟨4, 0⟩ : Pt), (⟨4, 4⟩ : Pt), (⟨0, 4⟩ : Pt)] := ⟨_, rfl⟩
  have PR := hide (points_lit [(0 : Int), 0, 4, 0, 4, 4, 0, 4] 8 4 R rfl rfl (by decide) hR.symm _ rfl 3 8)
  have lR : R.length ≤ 100000 := by rw [hR]; decide
  obtain ⟨S, hS⟩ : ∃ q : List Pt, q = [(⟨1, 1⟩ : Pt), (⟨2, 1⟩ : Pt), (⟨1, 2⟩ : Pt)] := ⟨_, rfl⟩
  have PS := hide (points_lit [(1 : Int), 1, 2, 1, 1, 2] 6 3 S rfl rfl (by decide) hS.symm _ rfl 3 6)
  have lS : S.length ≤ 100000 := by rw [hS]; decide
  obtain ⟨T, hT⟩ : ∃ q : List Pt, q = [(⟨0, 0⟩ : Pt), (⟨4, 0⟩ : Pt), (⟨2, -3⟩ : Pt)] := ⟨_, rfl⟩
  have PT := hide (points_lit [(0 : Int), 0, 4, 0, 2, -3] 6 3 T rfl rfl (by decide) hT.symm _ rfl 3 6)
  have lT : T.length ≤ 100000 := by rw [hT]; decide
  obtain ⟨U, hU⟩ : ∃ q : List Pt, q = [(⟨4, 4⟩ : Pt), (⟨0, 4⟩ : Pt), (⟨0, 0⟩ : Pt), (⟨2, 2⟩ : Pt)] := ⟨_, rfl⟩
  have PU := hide (points_lit [(4 : Int), 4, 0, 4, 0, 0, 2, 2] 8 4 U rfl rfl (by decide) hU.symm _ rfl 3 8)
  have lU : U.length ≤ 100000 := by rw [hU]; decide
  obtain ⟨V, hV⟩ : ∃ q : List Pt, q = [(⟨0, 0⟩ : Pt), (⟨4, 0⟩ : Pt), (⟨2, 0⟩ : Pt)] := ⟨_, rfl⟩
  have PV := hide (points_lit [(0 : Int), 0, 4, 0, 2, 0] 6 3 V rfl rfl (by decide) hV.symm _ rfl 3 6)
  have lV : V.length ≤ 100000 := by rw [hV]; decide
  obtain ⟨Z, hZ⟩ : ∃ q : List Pt, q = [(⟨4, 4⟩ : Pt), (⟨0, 4⟩ : Pt), (⟨0, 0⟩ : Pt)] := ⟨_, rfl⟩
  have PZ := hide (points_lit [(4 : Int), 4, 0, 4, 0, 0] 6 3 Z rfl rfl (by decide) hZ.symm _ rfl 3 6)
  have lZ : Z.length ≤ 100000 := by rw [hZ]; decide
  have F0 : twice R = 32 := by rw [hR]; decide +kernel
  have F1 : twice S = 1 := by rw [hS]; decide +kernel
  have F2 : sideR R ⟨4, 2⟩ = 0 := by rw [hR]; decide +kernel
  have F3 : sideR R ⟨1, 1⟩ = 1 := by rw [hR]; decide +kernel
  have F4 : sideR R ⟨5, 5⟩ = -1 := by rw [hR]; decide +kernel
  have F5 : relation S R = 2 := by rw [hR, hS]; decide +kernel
  have F6 : relation R T = 1 := by rw [hR, hT]; decide +kernel
  have F7 : simple V = false := by rw [hV]; decide +kernel
  have F8 : simple U = true := by rw [hU]; decide +kernel
  have F9 : relation U Z = 0 := by rw [hU, hZ]; decide +kernel
  have C0 := hide (fun v W (h : SlP W v R) => twice_any R v W h lR)
  simp only [F0] at C0
  have C1 := hide (fun v W (h : SlP W v S) => twice_any S v W h lS)
  simp only [F1] at C1
  have C2 := hide (fun v W (h : SlP W v R) => side_any R v 4 2 W h lR)
  simp only [F2] at C2
  have C3 := hide (fun v W (h : SlP W v R) => side_any R v 1 1 W h lR)
  simp only [F3] at C3
  have C4 := hide (fun v W (h : SlP W v R) => side_any R v 5 5 W h lR)
  simp only [F4] at C4
  have C5 := hide (fun v u W (h : SlP W v S) (h2 : SlP W u R) => relation_any S R v u W h h2 lS lR)
  simp only [F5] at C5
  have C6 := hide (fun v u W (h : SlP W v R) (h2 : SlP W u T) => relation_any R T v u W h h2 lR lT)
  simp only [F6] at C6
  have C7 := hide (fun v W (h : SlP W v V) => simple_any V v W h lV)
  simp only [F7] at C7
  have C8 := hide (fun v W (h : SlP W v U) => simple_any U v W h lU)
  simp only [F8] at C8
  have C9 := hide (fun v u W (h : SlP W v U) (h2 : SlP W u Z) => relation_any U Z v u W h h2 lU lZ)
  simp only [F9] at C9
  clear hR hS hT hU hV hZ F0 F1 F2 F3 F4 F5 F6 F7 F8 F9 lR lS lT lU lV lZ
  go_enter Try.func11, Try.ntmps11
  go_wp2_with fail
  refine (PR.out _).mono ?_
  rintro _ w0 ⟨vR, rfl, nR, b0⟩
  have B0 := b0
  have sR := nR
  clear nR
  go_wp2_with fail
  refine (PS.out _).mono ?_
  rintro _ w1 ⟨vS, rfl, nS, b1⟩
  have sR := sR.below b1
  have B1 := bto B0 b1
  clear B0 b1
  have sS := nS
  clear nS
  go_wp2_with fail
  refine (PT.out _).mono ?_
  rintro _ w2 ⟨vT, rfl, nT, b2⟩
  have sR := sR.below b2
  have sS := sS.below b2
  have B2 := bto B1 b2
  clear B1 b2
  have sT := nT
  clear nT
  go_wp2_with fail
  refine (PU.out _).mono ?_
  rintro _ w3 ⟨vU, rfl, nU, b3⟩
  have sR := sR.below b3
  have sS := sS.below b3
  have sT := sT.below b3
  have B3 := bto B2 b3
  clear B2 b3
  have sU := nU
  clear nU
  go_wp2_with fail
  refine (C0.out _ _ sR).mono ?_
  rintro _ w4 ⟨rfl, b4⟩
  have sR := sR.below b4
  have sS := sS.below b4
  have sT := sT.below b4
  have sU := sU.below b4
  have B4 := bto B3 b4
  clear B3 b4
  go_wp2_with fail
  refine (C1.out _ _ sS).mono ?_
  rintro _ w5 ⟨rfl, b5⟩
  have sR := sR.below b5
  have sS := sS.below b5
  have sT := sT.below b5
  have sU := sU.below b5
  have B5 := bto B4 b5
  clear B4 b5
  go_wp2_with fail
  refine (C2.out _ _ sR).mono ?_
  rintro _ w6 ⟨rfl, b6⟩
  have sR := sR.below b6
  have sS := sS.below b6
  have sT := sT.below b6
  have sU := sU.below b6
  have B6 := bto B5 b6
  clear B5 b6
  go_wp2_with fail
  refine (C3.out _ _ sR).mono ?_
  rintro _ w7 ⟨rfl, b7⟩
  have sR := sR.below b7
  have sS := sS.below b7
  have sT := sT.below b7
  have sU := sU.below b7
  have B7 := bto B6 b7
  clear B6 b7
  go_wp2_with fail
  refine (C4.out _ _ sR).mono ?_
  rintro _ w8 ⟨rfl, b8⟩
  have sR := sR.below b8
  have sS := sS.below b8
  have sT := sT.below b8
  have sU := sU.below b8
  have B8 := bto B7 b8
  clear B7 b8
  go_wp2_with fail
  refine (C5.out _ _ _ sS sR).mono ?_
  rintro _ w9 ⟨rfl, b9⟩
  have sR := sR.below b9
  have sS := sS.below b9
  have sT := sT.below b9
  have sU := sU.below b9
  have B9 := bto B8 b9
  clear B8 b9
  go_wp2_with fail
  refine (C6.out _ _ _ sR sT).mono ?_
  rintro _ w10 ⟨rfl, b10⟩
  have sR := sR.below b10
  have sS := sS.below b10
  have sT := sT.below b10
  have sU := sU.below b10
  have B10 := bto B9 b10
  clear B9 b10
  go_wp2_with fail
  refine (PV.out _).mono ?_
  rintro _ w11 ⟨vV, rfl, nV, b11⟩
  have sR := sR.below b11
  have sS := sS.below b11
  have sT := sT.below b11
  have sU := sU.below b11
  have B11 := bto B10 b11
  clear B10 b11
  have sV := nV
  clear nV
  go_wp2_with fail
  refine (C7.out _ _ sV).mono ?_
  rintro _ w12 ⟨rfl, b12⟩
  have sR := sR.below b12
  have sS := sS.below b12
  have sT := sT.below b12
  have sU := sU.below b12
  have sV := sV.below b12
  have B12 := bto B11 b12
  clear B11 b12
  go_wp2_with fail
  refine (C8.out _ _ sU).mono ?_
  rintro _ w13 ⟨rfl, b13⟩
  have sR := sR.below b13
  have sS := sS.below b13
  have sT := sT.below b13
  have sU := sU.below b13
  have sV := sV.below b13
  have B13 := bto B12 b13
  clear B12 b13
  go_wp2_with fail
  refine (PZ.out _).mono ?_
  rintro _ w14 ⟨vZ, rfl, nZ, b14⟩
  have sR := sR.below b14
  have sS := sS.below b14
  have sT := sT.below b14
  have sU := sU.below b14
  have sV := sV.below b14
  have B14 := bto B13 b14
  clear B13 b14
  have sZ := nZ
  clear nZ
  go_wp2_with fail
  refine (C9.out _ _ _ sU sZ).mono ?_
  rintro _ w15 ⟨rfl, b15⟩
  have sR := sR.below b15
  have sS := sS.below b15
  have sT := sT.below b15
  have sU := sU.below b15
  have sV := sV.below b15
  have sZ := sZ.below b15
  have B15 := bto B14 b15
  clear B14 b15
  go_wp2_with fail
  go_ret
  exact ⟨rfl, B15⟩
end Go.Proofs.Ytmklnioedeailaa
