/-
  The laws' fixed examples, walked: 'head' returns true.
-/
import Derived.Test.YtepfhifogkopcaaGeoH
namespace Go.Proofs.Ytepfhifogkopcaa
open Go.RowKit Go.Proofs.PlGeom

theorem near_h1 (w : World) : Calls Try.prog 21 #[.agg #[.int .i64 0, .int .i64 0, .int .i64 2, .int .i64 1], .agg #[.int .i64 0, .int .i64 1]] w fun e w' => e = .returned (.int .i64 0) ∧ Below w.heap.size w w' :=
  near_of 0 0 2 1 0 1 w (fun _ _ _ => ⟨0, 4, 0, by decide, by decide, by decide, mul2, fun w => (div5 w).mono fun _ _ h => ⟨⟨4, h.1⟩, h.2⟩⟩)
theorem near_h2 (w : World) : Calls Try.prog 21 #[.agg #[.int .i64 0, .int .i64 0, .int .i64 10, .int .i64 0], .agg #[.int .i64 5, .int .i64 3]] w fun e w' => e = .returned (.int .i64 9) ∧ Below w.heap.size w w' :=
  near_of 0 0 10 0 5 3 w (fun _ _ _ => ⟨0, 900, 9, by decide, by decide, by decide, mul30, fun w => (div100 w).mono fun _ _ h => ⟨⟨0, h.1⟩, h.2⟩⟩)
theorem root_24 (w : World) : Calls Try.prog 23 #[.int .i64 24] w fun e w' => e = .returned (.int .i64 4) ∧ w = w' := by
  have := root_any 24 (by decide) w
  rwa [isq_unique 24 4 (by decide) (by decide) (by decide)] at this
theorem root_25 (w : World) : Calls Try.prog 23 #[.int .i64 25] w fun e w' => e = .returned (.int .i64 5) ∧ w = w' := by
  have := root_any 25 (by decide) w
  rwa [isq_unique 25 5 (by decide) (by decide) (by decide)] at this

set_option maxRecDepth 100000 in
set_option maxHeartbeats 4000000 in
theorem head_any (w : World) : Calls Try.prog 10 #[] w fun e w' => e = .returned (.bool true) ∧ Below w.heap.size w w' := by
  have C0 := hide (fun w => orient_any 0 0 2 0 1 1 w)
  rw [show orient ⟨0, 0⟩ ⟨2, 0⟩ ⟨1, 1⟩ = 1 from by decide] at C0
  have C3 := hide (fun w => meets_any 0 0 2 2 0 2 2 0 w)
  rw [show meets ⟨⟨0, 0⟩, ⟨2, 2⟩⟩ ⟨⟨0, 2⟩, ⟨2, 0⟩⟩ = 3 from by decide] at C3
  have C6 := hide (fun w => meets_any 0 0 4 0 2 0 2 3 w)
  rw [show meets ⟨⟨0, 0⟩, ⟨4, 0⟩⟩ ⟨⟨2, 0⟩, ⟨2, 3⟩⟩ = 2 from by decide] at C6
  have C9 := hide (fun w => meets_any 0 0 4 0 2 0 6 0 w)
  rw [show meets ⟨⟨0, 0⟩, ⟨4, 0⟩⟩ ⟨⟨2, 0⟩, ⟨6, 0⟩⟩ = 5 from by decide] at C9
  have C12 := hide (fun w => meets_any 0 0 4 0 4 0 4 1 w)
  rw [show meets ⟨⟨0, 0⟩, ⟨4, 0⟩⟩ ⟨⟨4, 0⟩, ⟨4, 1⟩⟩ = 1 from by decide] at C12
  have C15 := hide (fun w => meets_any 0 0 4 0 4 0 0 0 w)
  rw [show meets ⟨⟨0, 0⟩, ⟨4, 0⟩⟩ ⟨⟨4, 0⟩, ⟨0, 0⟩⟩ = 4 from by decide] at C15
  have C18 := hide (fun w => meets_any 0 0 4 0 5 0 6 0 w)
  rw [show meets ⟨⟨0, 0⟩, ⟨4, 0⟩⟩ ⟨⟨5, 0⟩, ⟨6, 0⟩⟩ = 0 from by decide] at C18
  have C27 := hide (fun w => on_any 0 0 4 2 2 1 w)
  rw [show onS ⟨⟨0, 0⟩, ⟨4, 2⟩⟩ ⟨2, 1⟩ = true from by decide] at C27
  have C29 := hide (fun w => on_any 0 0 4 2 6 3 w)
  rw [show onS ⟨⟨0, 0⟩, ⟨4, 2⟩⟩ ⟨6, 3⟩ = false from by decide] at C29
  have C30 := hide (fun w => compare_any 1 0 1 2 w)
  rw [show cmpP ⟨1, 0⟩ ⟨1, 2⟩ = -1 from by decide] at C30
  go_enter Try.func10, Try.ntmps10
  go_wp2_with fail
  refine (C0.out _).mono ?_
  rintro _ w0 ⟨rfl, b0⟩
  have B0 := b0
  go_wp2_with fail
  refine (seg_any 0 0 2 2 _).mono ?_
  rintro _ w1 ⟨rfl, b1⟩
  have B1 := bto B0 b1
  clear B0 b1
  go_wp2_with fail
  refine (seg_any 0 2 2 0 _).mono ?_
  rintro _ w2 ⟨rfl, b2⟩
  have B2 := bto B1 b2
  clear B1 b2
  go_wp2_with fail
  refine (C3.out _).mono ?_
  rintro _ w3 ⟨rfl, b3⟩
  have B3 := bto B2 b3
  clear B2 b3
  go_wp2_with fail
  refine (seg_any 0 0 4 0 _).mono ?_
  rintro _ w4 ⟨rfl, b4⟩
  have B4 := bto B3 b4
  clear B3 b4
  go_wp2_with fail
  refine (seg_any 2 0 2 3 _).mono ?_
  rintro _ w5 ⟨rfl, b5⟩
  have B5 := bto B4 b5
  clear B4 b5
  go_wp2_with fail
  refine (C6.out _).mono ?_
  rintro _ w6 ⟨rfl, b6⟩
  have B6 := bto B5 b6
  clear B5 b6
  go_wp2_with fail
  refine (seg_any 0 0 4 0 _).mono ?_
  rintro _ w7 ⟨rfl, b7⟩
  have B7 := bto B6 b7
  clear B6 b7
  go_wp2_with fail
  refine (seg_any 2 0 6 0 _).mono ?_
  rintro _ w8 ⟨rfl, b8⟩
  have B8 := bto B7 b8
  clear B7 b8
  go_wp2_with fail
  refine (C9.out _).mono ?_
  rintro _ w9 ⟨rfl, b9⟩
  have B9 := bto B8 b9
  clear B8 b9
  go_wp2_with fail
  refine (seg_any 0 0 4 0 _).mono ?_
  rintro _ w10 ⟨rfl, b10⟩
  have B10 := bto B9 b10
  clear B9 b10
  go_wp2_with fail
  refine (seg_any 4 0 4 1 _).mono ?_
  rintro _ w11 ⟨rfl, b11⟩
  have B11 := bto B10 b11
  clear B10 b11
  go_wp2_with fail
  refine (C12.out _).mono ?_
  rintro _ w12 ⟨rfl, b12⟩
  have B12 := bto B11 b12
  clear B11 b12
  go_wp2_with fail
  refine (seg_any 0 0 4 0 _).mono ?_
  rintro _ w13 ⟨rfl, b13⟩
  have B13 := bto B12 b13
  clear B12 b13
  go_wp2_with fail
  refine (seg_any 4 0 0 0 _).mono ?_
  rintro _ w14 ⟨rfl, b14⟩
  have B14 := bto B13 b14
  clear B13 b14
  go_wp2_with fail
  refine (C15.out _).mono ?_
  rintro _ w15 ⟨rfl, b15⟩
  have B15 := bto B14 b15
  clear B14 b15
  go_wp2_with fail
  refine (seg_any 0 0 4 0 _).mono ?_
  rintro _ w16 ⟨rfl, b16⟩
  have B16 := bto B15 b16
  clear B15 b16
  go_wp2_with fail
  refine (seg_any 5 0 6 0 _).mono ?_
  rintro _ w17 ⟨rfl, b17⟩
  have B17 := bto B16 b17
  clear B16 b17
  go_wp2_with fail
  refine (C18.out _).mono ?_
  rintro _ w18 ⟨rfl, b18⟩
  have B18 := bto B17 b18
  clear B17 b18
  go_wp2_with fail
  refine (seg_any 0 0 2 1 _).mono ?_
  rintro _ w19 ⟨rfl, b19⟩
  have B19 := bto B18 b19
  clear B18 b19
  go_wp2_with fail
  refine (near_h1 _).mono ?_
  rintro _ w20 ⟨rfl, b20⟩
  have B20 := bto B19 b20
  clear B19 b20
  go_wp2_with fail
  refine (seg_any 0 0 10 0 _).mono ?_
  rintro _ w21 ⟨rfl, b21⟩
  have B21 := bto B20 b21
  clear B20 b21
  go_wp2_with fail
  refine (near_h2 _).mono ?_
  rintro _ w22 ⟨rfl, b22⟩
  have B22 := bto B21 b22
  clear B21 b22
  go_wp2_with fail
  refine (root_24 _).mono ?_
  rintro _ _ ⟨rfl, rfl⟩
  go_wp2_with fail
  refine (root_25 _).mono ?_
  rintro _ _ ⟨rfl, rfl⟩
  go_wp2_with fail
  refine (root_neg (-1) (by decide) _).mono ?_
  rintro _ _ ⟨rfl, rfl⟩
  go_wp2_with fail
  refine (seg_any 0 0 4 2 _).mono ?_
  rintro _ w26 ⟨rfl, b26⟩
  have B26 := bto B22 b26
  clear B22 b26
  go_wp2_with fail
  refine (C27.out _).mono ?_
  rintro _ w27 ⟨rfl, b27⟩
  have B27 := bto B26 b27
  clear B26 b27
  go_wp2_with fail
  refine (seg_any 0 0 4 2 _).mono ?_
  rintro _ w28 ⟨rfl, b28⟩
  have B28 := bto B27 b28
  clear B27 b28
  go_wp2_with fail
  refine (C29.out _).mono ?_
  rintro _ w29 ⟨rfl, b29⟩
  have B29 := bto B28 b29
  clear B28 b29
  go_wp2_with fail
  refine (C30.out _).mono ?_
  rintro _ w30 ⟨rfl, b30⟩
  have B30 := bto B29 b30
  clear B29 b30
  go_wp2_with fail
  go_ret
  exact ⟨rfl, B30⟩
