/-
  The law's example, walked.
-/
import Derived.Test.YtpiocaomlifljaaNetX
import Derived.Test.YtpiocaomlifljaaPlainN
namespace Go.Proofs.Ytpiocaomlifljaa
open Go.RowKit Go.Proofs.PlLex Go.Proofs.PlNet

set_option maxRecDepth 100000 in
theorem node_any (id : BA) (x y : Int) (w : World) :
    Calls Try.prog 52 #[.string id, .int .i64 x, .int .i64 y] w fun e w' => e = .returned (.agg #[.string id, .int .i64 1, .int .i64 x, .int .i64 y, .slice none 0 0, .slice none 0 0]) ∧ Below w.heap.size w w' := by
  go_enter Try.func52, Try.ntmps52
  go_wp2_with fail
  exact bodyPost_ret (v := .agg #[.string id, .int .i64 1, .int .i64 x, .int .i64 y, .slice none 0 0, .slice none 0 0]) (by simp [results, Try.results52, go_sem]) rfl ⟨rfl, (Below.refl _ _).alloc (Nat.le_refl _) _⟩
set_option maxRecDepth 100000 in
theorem object_any (k : Int) (id : BA) (A : Option Addr) (n c : Nat) (w : World) :
    Calls Try.prog 53 #[.int .i64 k, .string id, .slice A n c] w fun e w' => e = .returned (.agg #[.string id, .int .i64 k, .int .i64 0, .int .i64 0, .slice A n c, .slice none 0 0]) ∧ Below w.heap.size w w' := by
  go_enter Try.func53, Try.ntmps53
  go_wp2_with fail
  exact bodyPost_ret (v := .agg #[.string id, .int .i64 k, .int .i64 0, .int .i64 0, .slice A n c, .slice none 0 0]) (by simp [results, Try.results53, go_sem]) rfl ⟨rfl, (Below.refl _ _).alloc (Nat.le_refl _) _⟩
def strsV (L : List ByteArray) : List Value := L.map Value.string
theorem st_new (w : World) (L : List ByteArray) (t : TypeId) : StS (w.alloc (.cells (strsV L).toArray t)) (.slice (some ⟨w.heap.size, 0, none⟩) L.length L.length) L := by
  refine ⟨_, _, rfl, Nat.le_refl _, ?_⟩
  by_cases h : L = []
  · exact .inl h
  · refine .inr ⟨w.heap.size, 0, rfl, by simp, fun i s hi => ?_⟩
    rw [Nat.zero_add, World.cell?, heap_alloc_new]
    have : ((strsV L).toArray : Array Value)[i]? = some (.string s) := by simp [strsV, hi]
    simp [this]
theorem StS.set {W : World} {g n c : Nat} {a : Addr} {v : Value} {l : List ByteArray} (h : StS W (.slice (some ⟨g, 0, none⟩) n c) l) (hne : g ≠ a.block) : StS (W.setCell a v) (.slice (some ⟨g, 0, none⟩) n c) l := by
  obtain ⟨A, c', he, hc, h⟩ := h
  cases he
  refine ⟨_, _, rfl, hc, ?_⟩
  rcases h with h | ⟨g', o, e, hg, hp⟩
  · exact .inl h
  · cases e
    refine .inr ⟨g, 0, rfl, by simpa using hg, fun i s hi => ?_⟩
    rw [World.cell?_of_block (Below.heap_setCell W a v g hne)]
    exact hp i s hi

set_option maxRecDepth 100000 in
set_option maxHeartbeats 8000000 in
theorem example_any (w : World) : Calls Try.prog 30 #[] w fun e w' => ∃ v, e = .returned (.agg #[v]) ∧ MapI w' v exL ∧ Below w.heap.size w w' := by
  go_enter Try.func30, Try.ntmps30
  go_wp2_with fail
  obtain ⟨w0, hw0⟩ : ∃ w0, w.alloc (.cells #[.slice none 0 0] 24) = w0 := ⟨_, rfl⟩
  have hk0 : w0.heap[w.heap.size]? = some (.cells #[.slice none 0 0] 24 (0, 0)) := by rw [← hw0]; exact heap_alloc_new _ _
  have hb0 : Below w.heap.size w w0 := by rw [← hw0]; exact (Below.refl _ _).alloc (Nat.le_refl _) _
  rw [hw0]
  clear hw0
  refine (node_any ⟨#[97]⟩ 0 0 w0).mono ?_
  rintro _ w1 ⟨rfl, b1⟩
  have hb1 := bto hb0 b1
  have hk1 := blkB b1 hk0
  clear hb0 hk0 b1
  go_wp2_with fail
  refine (node_any ⟨#[98]⟩ 3 4 w1).mono ?_
  rintro _ w2 ⟨rfl, b2⟩
  have hb2 := bto hb1 b2
  have hk2 := blkB b2 hk1
  clear hb1 hk1 b2
  go_wp2_with fail
  refine (node_any ⟨#[99]⟩ 9 9 w2).mono ?_
  rintro _ w3 ⟨rfl, b3⟩
  have hb3 := bto hb2 b3
  have hk3 := blkB b3 hk2
  clear hb2 hk2 b3
  go_wp2_with fail
  refine (node_any ⟨#[100]⟩ 0 9 w3).mono ?_
  rintro _ w4 ⟨rfl, b4⟩
  have hb4 := bto hb3 b4
  have hk4 := blkB b4 hk3
  clear hb3 hk3 b4
  go_wp2_with fail
  obtain ⟨u0, hu0⟩ : ∃ u, w4.alloc (.cells #[.string ⟨#[118]⟩, .string ⟨#[119]⟩, .string ⟨#[120]⟩] 9) = u := ⟨_, rfl⟩
  have s0 : StS u0 (.slice (some ⟨w4.heap.size, 0, none⟩) 3 3) [⟨#[118]⟩, ⟨#[119]⟩, ⟨#[120]⟩] := by rw [← hu0]; exact st_new w4 [⟨#[118]⟩, ⟨#[119]⟩, ⟨#[120]⟩] 9
  have c0 : Below w4.heap.size w4 u0 := by rw [← hu0]; exact (Below.refl _ _).alloc (Nat.le_refl _) _
  have g0 : w.heap.size < w4.heap.size := lt_of_block hk4
  rw [hu0]
  obtain ⟨q0, hq0⟩ : ∃ q, w4.heap.size = q := ⟨_, rfl⟩
  rw [hq0] at s0 g0 ⊢
  clear hu0 hq0
  refine (object_any 4 ⟨#[114, 49]⟩ (some ⟨q0, 0, none⟩) 3 3 u0).mono ?_
  rintro _ w5 ⟨rfl, b5⟩
  have hb5 := bto (bto hb4 c0) b5
  have hk5 := blkB b5 (blkB c0 hk4)
  have s0 := s0.below b5
  clear hb4 hk4 b5 c0
  go_wp2_with fail
  obtain ⟨u1, hu1⟩ : ∃ u, w5.alloc (.cells #[.string ⟨#[118]⟩, .string ⟨#[120]⟩] 9) = u := ⟨_, rfl⟩
  have s1 : StS u1 (.slice (some ⟨w5.heap.size, 0, none⟩) 2 2) [⟨#[118]⟩, ⟨#[120]⟩] := by rw [← hu1]; exact st_new w5 [⟨#[118]⟩, ⟨#[120]⟩] 9
  have c1 : Below w5.heap.size w5 u1 := by rw [← hu1]; exact (Below.refl _ _).alloc (Nat.le_refl _) _
  have g1 : w.heap.size < w5.heap.size := lt_of_block hk5
  rw [hu1]
  obtain ⟨q1, hq1⟩ : ∃ q, w5.heap.size = q := ⟨_, rfl⟩
  rw [hq1] at s1 g1 ⊢
  clear hu1 hq1
  refine (object_any 4 ⟨#[114, 50]⟩ (some ⟨q1, 0, none⟩) 2 2 u1).mono ?_
  rintro _ w6 ⟨rfl, b6⟩
  have hb6 := bto (bto hb5 c1) b6
  have hk6 := blkB b6 (blkB c1 hk5)
  have s0 := (s0.below c1).below b6
  have s1 := s1.below b6
  clear hb5 hk5 b6 c1
  go_wp2_with fail
  obtain ⟨u2, hu2⟩ : ∃ u, w6.alloc (.cells #[.string ⟨#[118]⟩, .string ⟨#[98]⟩, .string ⟨#[119]⟩] 9) = u := ⟨_, rfl⟩
  have s2 : StS u2 (.slice (some ⟨w6.heap.size, 0, none⟩) 3 3) [⟨#[118]⟩, ⟨#[98]⟩, ⟨#[119]⟩] := by rw [← hu2]; exact st_new w6 [⟨#[118]⟩, ⟨#[98]⟩, ⟨#[119]⟩] 9
  have c2 : Below w6.heap.size w6 u2 := by rw [← hu2]; exact (Below.refl _ _).alloc (Nat.le_refl _) _
  have g2 : w.heap.size < w6.heap.size := lt_of_block hk6
  rw [hu2]
  obtain ⟨q2, hq2⟩ : ∃ q, w6.heap.size = q := ⟨_, rfl⟩
  rw [hq2] at s2 g2 ⊢
  clear hu2 hq2
  refine (object_any 5 ⟨#[116, 49]⟩ (some ⟨q2, 0, none⟩) 3 3 u2).mono ?_
  rintro _ w7 ⟨rfl, b7⟩
  have hb7 := bto (bto hb6 c2) b7
  have hk7 := blkB b7 (blkB c2 hk6)
  have s0 := (s0.below c2).below b7
  have s1 := (s1.below c2).below b7
  have s2 := s2.below b7
  clear hb6 hk6 b7 c2
  go_wp2_with fail
  obtain ⟨u3, hu3⟩ : ∃ u, w7.alloc (.cells #[.string ⟨#[118]⟩, .string ⟨#[97]⟩, .string ⟨#[119]⟩] 9) = u := ⟨_, rfl⟩
  have s3 : StS u3 (.slice (some ⟨w7.heap.size, 0, none⟩) 3 3) [⟨#[118]⟩, ⟨#[97]⟩, ⟨#[119]⟩] := by rw [← hu3]; exact st_new w7 [⟨#[118]⟩, ⟨#[97]⟩, ⟨#[119]⟩] 9
  have c3 : Below w7.heap.size w7 u3 := by rw [← hu3]; exact (Below.refl _ _).alloc (Nat.le_refl _) _
  have g3 : w.heap.size < w7.heap.size := lt_of_block hk7
  rw [hu3]
  obtain ⟨q3, hq3⟩ : ∃ q, w7.heap.size = q := ⟨_, rfl⟩
  rw [hq3] at s3 g3 ⊢
  clear hu3 hq3
  refine (object_any 5 ⟨#[116, 50]⟩ (some ⟨q3, 0, none⟩) 3 3 u3).mono ?_
  rintro _ w8 ⟨rfl, b8⟩
  have hb8 := bto (bto hb7 c3) b8
  have hk8 := blkB b8 (blkB c3 hk7)
  have s0 := (s0.below c3).below b8
  have s1 := (s1.below c3).below b8
  have s2 := (s2.below c3).below b8
  have s3 := s3.below b8
  clear hb7 hk7 b8 c3
  go_wp2_with fail
  obtain ⟨u4, hu4⟩ : ∃ u, w8.alloc (.cells #[.string ⟨#[97]⟩, .string ⟨#[98]⟩] 9) = u := ⟨_, rfl⟩
  have s4 : StS u4 (.slice (some ⟨w8.heap.size, 0, none⟩) 2 2) [⟨#[97]⟩, ⟨#[98]⟩] := by rw [← hu4]; exact st_new w8 [⟨#[97]⟩, ⟨#[98]⟩] 9
  have c4 : Below w8.heap.size w8 u4 := by rw [← hu4]; exact (Below.refl _ _).alloc (Nat.le_refl _) _
  have g4 : w.heap.size < w8.heap.size := lt_of_block hk8
  rw [hu4]
  obtain ⟨q4, hq4⟩ : ∃ q, w8.heap.size = q := ⟨_, rfl⟩
  rw [hq4] at s4 g4 ⊢
  clear hu4 hq4
  refine (object_any 2 ⟨#[118]⟩ (some ⟨q4, 0, none⟩) 2 2 u4).mono ?_
  rintro _ w9 ⟨rfl, b9⟩
  have hb9 := bto (bto hb8 c4) b9
  have hk9 := blkB b9 (blkB c4 hk8)
  have s0 := (s0.below c4).below b9
  have s1 := (s1.below c4).below b9
  have s2 := (s2.below c4).below b9
  have s3 := (s3.below c4).below b9
  have s4 := s4.below b9
  clear hb8 hk8 b9 c4
  go_wp2_with fail
  obtain ⟨u5, hu5⟩ : ∃ u, w9.alloc (.cells #[.string ⟨#[99]⟩, .string ⟨#[98]⟩] 9) = u := ⟨_, rfl⟩
  have s5 : StS u5 (.slice (some ⟨w9.heap.size, 0, none⟩) 2 2) [⟨#[99]⟩, ⟨#[98]⟩] := by rw [← hu5]; exact st_new w9 [⟨#[99]⟩, ⟨#[98]⟩] 9
  have c5 : Below w9.heap.size w9 u5 := by rw [← hu5]; exact (Below.refl _ _).alloc (Nat.le_refl _) _
  have g5 : w.heap.size < w9.heap.size := lt_of_block hk9
  rw [hu5]
  obtain ⟨q5, hq5⟩ : ∃ q, w9.heap.size = q := ⟨_, rfl⟩
  rw [hq5] at s5 g5 ⊢
  clear hu5 hq5
  refine (object_any 2 ⟨#[119]⟩ (some ⟨q5, 0, none⟩) 2 2 u5).mono ?_
  rintro _ w10 ⟨rfl, b10⟩
  have hb10 := bto (bto hb9 c5) b10
  have hk10 := blkB b10 (blkB c5 hk9)
  have s0 := (s0.below c5).below b10
  have s1 := (s1.below c5).below b10
  have s2 := (s2.below c5).below b10
  have s3 := (s3.below c5).below b10
  have s4 := (s4.below c5).below b10
  have s5 := s5.below b10
  clear hb9 hk9 b10 c5
  go_wp2_with fail
  obtain ⟨u6, hu6⟩ : ∃ u, w10.alloc (.cells #[.string ⟨#[99]⟩, .string ⟨#[100]⟩] 9) = u := ⟨_, rfl⟩
  have s6 : StS u6 (.slice (some ⟨w10.heap.size, 0, none⟩) 2 2) [⟨#[99]⟩, ⟨#[100]⟩] := by rw [← hu6]; exact st_new w10 [⟨#[99]⟩, ⟨#[100]⟩] 9
  have c6 : Below w10.heap.size w10 u6 := by rw [← hu6]; exact (Below.refl _ _).alloc (Nat.le_refl _) _
  have g6 : w.heap.size < w10.heap.size := lt_of_block hk10
  rw [hu6]
  obtain ⟨q6, hq6⟩ : ∃ q, w10.heap.size = q := ⟨_, rfl⟩
  rw [hq6] at s6 g6 ⊢
  clear hu6 hq6
  refine (object_any 2 ⟨#[120]⟩ (some ⟨q6, 0, none⟩) 2 2 u6).mono ?_
  rintro _ w11 ⟨rfl, b11⟩
  have hb11 := bto (bto hb10 c6) b11
  have hk11 := blkB b11 (blkB c6 hk10)
  have s0 := (s0.below c6).below b11
  have s1 := (s1.below c6).below b11
  have s2 := (s2.below c6).below b11
  have s3 := (s3.below c6).below b11
  have s4 := (s4.below c6).below b11
  have s5 := (s5.below c6).below b11
  have s6 := s6.below b11
  clear hb10 hk10 b11 c6
  obtain ⟨wz, hwz⟩ : ∃ wz, w11.alloc (.cells #[.string ⟨#[97]⟩, .int .i64 1, .int .i64 0, .int .i64 0, .slice none 0 0, .slice none 0 0, .string ⟨#[98]⟩, .int .i64 1, .int .i64 3, .int .i64 4, .slice none 0 0, .slice none 0 0, .string ⟨#[99]⟩, .int .i64 1, .int .i64 9, .int .i64 9, .slice none 0 0, .slice none 0 0, .string ⟨#[100]⟩, .int .i64 1, .int .i64 0, .int .i64 9, .slice none 0 0, .slice none 0 0, .string ⟨#[114, 49]⟩, .int .i64 4, .int .i64 0, .int .i64 0, .slice (some ⟨q0, 0, none⟩) 3 3, .slice none 0 0, .string ⟨#[114, 50]⟩, .int .i64 4, .int .i64 0, .int .i64 0, .slice (some ⟨q1, 0, none⟩) 2 2, .slice none 0 0, .string ⟨#[116, 49]⟩, .int .i64 5, .int .i64 0, .int .i64 0, .slice (some ⟨q2, 0, none⟩) 3 3, .slice none 0 0, .string ⟨#[116, 50]⟩, .int .i64 5, .int .i64 0, .int .i64 0, .slice (some ⟨q3, 0, none⟩) 3 3, .slice none 0 0, .string ⟨#[118]⟩, .int .i64 2, .int .i64 0, .int .i64 0, .slice (some ⟨q4, 0, none⟩) 2 2, .slice none 0 0, .string ⟨#[119]⟩, .int .i64 2, .int .i64 0, .int .i64 0, .slice (some ⟨q5, 0, none⟩) 2 2, .slice none 0 0, .string ⟨#[120]⟩, .int .i64 2, .int .i64 0, .int .i64 0, .slice (some ⟨q6, 0, none⟩) 2 2, .slice none 0 0] 42) = wz := ⟨_, rfl⟩
  have hz0 : wz.heap[w11.heap.size]? = some (.cells #[.string ⟨#[97]⟩, .int .i64 1, .int .i64 0, .int .i64 0, .slice none 0 0, .slice none 0 0, .string ⟨#[98]⟩, .int .i64 1, .int .i64 3, .int .i64 4, .slice none 0 0, .slice none 0 0, .string ⟨#[99]⟩, .int .i64 1, .int .i64 9, .int .i64 9, .slice none 0 0, .slice none 0 0, .string ⟨#[100]⟩, .int .i64 1, .int .i64 0, .int .i64 9, .slice none 0 0, .slice none 0 0, .string ⟨#[114, 49]⟩, .int .i64 4, .int .i64 0, .int .i64 0, .slice (some ⟨q0, 0, none⟩) 3 3, .slice none 0 0, .string ⟨#[114, 50]⟩, .int .i64 4, .int .i64 0, .int .i64 0, .slice (some ⟨q1, 0, none⟩) 2 2, .slice none 0 0, .string ⟨#[116, 49]⟩, .int .i64 5, .int .i64 0, .int .i64 0, .slice (some ⟨q2, 0, none⟩) 3 3, .slice none 0 0, .string ⟨#[116, 50]⟩, .int .i64 5, .int .i64 0, .int .i64 0, .slice (some ⟨q3, 0, none⟩) 3 3, .slice none 0 0, .string ⟨#[118]⟩, .int .i64 2, .int .i64 0, .int .i64 0, .slice (some ⟨q4, 0, none⟩) 2 2, .slice none 0 0, .string ⟨#[119]⟩, .int .i64 2, .int .i64 0, .int .i64 0, .slice (some ⟨q5, 0, none⟩) 2 2, .slice none 0 0, .string ⟨#[120]⟩, .int .i64 2, .int .i64 0, .int .i64 0, .slice (some ⟨q6, 0, none⟩) 2 2, .slice none 0 0] 42 (0, 0)) := by rw [← hwz]; exact heap_alloc_new _ _
  have cz : Below w11.heap.size w11 wz := by rw [← hwz]; exact (Below.refl _ _).alloc (Nat.le_refl _) _
  have gz : w.heap.size < w11.heap.size := lt_of_block hk11
  have hbz := bto hb11 cz
  have hkz := blkB cz hk11
  have s0 := s0.below cz
  have s1 := s1.below cz
  have s2 := s2.below cz
  have s3 := s3.below cz
  have s4 := s4.below cz
  have s5 := s5.below cz
  have s6 := s6.below cz
  clear cz hb11 hk11
  have n0 := (blk1 hkz).1
  have n1 := (blk1 hkz).2
  have gy : ¬ w.heap.size = w11.heap.size := by omega
  clear hkz
  go_wp2_with fail
  obtain ⟨qz, hqz⟩ : ∃ q, w11.heap.size = q := ⟨_, rfl⟩
  rw [hqz] at hz0 gz ⊢
  have hb : Below w.heap.size w (wz.setCell ⟨w.heap.size, 0, none⟩ (.slice (some ⟨qz, 0, none⟩) 11 11)) := hbz.setCell (Nat.le_refl _) _
  refine bodyPost_ret (v := .agg #[.slice (some ⟨qz, 0, none⟩) 11 11]) ?_ ?_ ?_
  · simp [results, Try.results30, go_sem, n0]
  · rfl
  refine ⟨_, rfl, ⟨⟨_, _, rfl, Nat.le_refl _, .inr ⟨qz, 0, rfl, ?_, fun i ob hi => ?_⟩⟩, by decide, exL_ok⟩, hb⟩
  · simpa using lt_of_block hz0
  · have hz := (Below.heap_setCell wz ⟨w.heap.size, 0, none⟩ (.slice (some ⟨qz, 0, none⟩) 11 11) qz (by show qz ≠ w.heap.size; omega)).trans hz0
    have s0 := s0.set (a := ⟨w.heap.size, 0, none⟩) (v := .slice (some ⟨qz, 0, none⟩) 11 11) (by show q0 ≠ w.heap.size; omega)
    have s1 := s1.set (a := ⟨w.heap.size, 0, none⟩) (v := .slice (some ⟨qz, 0, none⟩) 11 11) (by show q1 ≠ w.heap.size; omega)
    have s2 := s2.set (a := ⟨w.heap.size, 0, none⟩) (v := .slice (some ⟨qz, 0, none⟩) 11 11) (by show q2 ≠ w.heap.size; omega)
    have s3 := s3.set (a := ⟨w.heap.size, 0, none⟩) (v := .slice (some ⟨qz, 0, none⟩) 11 11) (by show q3 ≠ w.heap.size; omega)
    have s4 := s4.set (a := ⟨w.heap.size, 0, none⟩) (v := .slice (some ⟨qz, 0, none⟩) 11 11) (by show q4 ≠ w.heap.size; omega)
    have s5 := s5.set (a := ⟨w.heap.size, 0, none⟩) (v := .slice (some ⟨qz, 0, none⟩) 11 11) (by show q5 ≠ w.heap.size; omega)
    have s6 := s6.set (a := ⟨w.heap.size, 0, none⟩) (v := .slice (some ⟨qz, 0, none⟩) 11 11) (by show q6 ≠ w.heap.size; omega)
    match i, hi with
    | 0, hi => cases hi; exact ⟨.slice none 0 0, .slice none 0 0, ⟨cell_of_row _ _ 0 _ _ _ hz, cell_of_row _ _ 1 _ _ _ hz, cell_of_row _ _ 2 _ _ _ hz, cell_of_row _ _ 3 _ _ _ hz, cell_of_row _ _ 4 _ _ _ hz, cell_of_row _ _ 5 _ _ _ hz, ⟨none, 0, rfl, Nat.le_refl _, .inl rfl⟩, ⟨none, 0, rfl, .inl rfl⟩⟩⟩
    | 1, hi => cases hi; exact ⟨.slice none 0 0, .slice none 0 0, ⟨cell_of_row _ _ 6 _ _ _ hz, cell_of_row _ _ 7 _ _ _ hz, cell_of_row _ _ 8 _ _ _ hz, cell_of_row _ _ 9 _ _ _ hz, cell_of_row _ _ 10 _ _ _ hz, cell_of_row _ _ 11 _ _ _ hz, ⟨none, 0, rfl, Nat.le_refl _, .inl rfl⟩, ⟨none, 0, rfl, .inl rfl⟩⟩⟩
    | 2, hi => cases hi; exact ⟨.slice none 0 0, .slice none 0 0, ⟨cell_of_row _ _ 12 _ _ _ hz, cell_of_row _ _ 13 _ _ _ hz, cell_of_row _ _ 14 _ _ _ hz, cell_of_row _ _ 15 _ _ _ hz, cell_of_row _ _ 16 _ _ _ hz, cell_of_row _ _ 17 _ _ _ hz, ⟨none, 0, rfl, Nat.le_refl _, .inl rfl⟩, ⟨none, 0, rfl, .inl rfl⟩⟩⟩
    | 3, hi => cases hi; exact ⟨.slice none 0 0, .slice none 0 0, ⟨cell_of_row _ _ 18 _ _ _ hz, cell_of_row _ _ 19 _ _ _ hz, cell_of_row _ _ 20 _ _ _ hz, cell_of_row _ _ 21 _ _ _ hz, cell_of_row _ _ 22 _ _ _ hz, cell_of_row _ _ 23 _ _ _ hz, ⟨none, 0, rfl, Nat.le_refl _, .inl rfl⟩, ⟨none, 0, rfl, .inl rfl⟩⟩⟩
    | 4, hi => cases hi; exact ⟨.slice (some ⟨q0, 0, none⟩) 3 3, .slice none 0 0, ⟨cell_of_row _ _ 24 _ _ _ hz, cell_of_row _ _ 25 _ _ _ hz, cell_of_row _ _ 26 _ _ _ hz, cell_of_row _ _ 27 _ _ _ hz, cell_of_row _ _ 28 _ _ _ hz, cell_of_row _ _ 29 _ _ _ hz, s0, ⟨none, 0, rfl, .inl rfl⟩⟩⟩
    | 5, hi => cases hi; exact ⟨.slice (some ⟨q1, 0, none⟩) 2 2, .slice none 0 0, ⟨cell_of_row _ _ 30 _ _ _ hz, cell_of_row _ _ 31 _ _ _ hz, cell_of_row _ _ 32 _ _ _ hz, cell_of_row _ _ 33 _ _ _ hz, cell_of_row _ _ 34 _ _ _ hz, cell_of_row _ _ 35 _ _ _ hz, s1, ⟨none, 0, rfl, .inl rfl⟩⟩⟩
    | 6, hi => cases hi; exact ⟨.slice (some ⟨q2, 0, none⟩) 3 3, .slice none 0 0, ⟨cell_of_row _ _ 36 _ _ _ hz, cell_of_row _ _ 37 _ _ _ hz, cell_of_row _ _ 38 _ _ _ hz, cell_of_row _ _ 39 _ _ _ hz, cell_of_row _ _ 40 _ _ _ hz, cell_of_row _ _ 41 _ _ _ hz, s2, ⟨none, 0, rfl, .inl rfl⟩⟩⟩
    | 7, hi => cases hi; exact ⟨.slice (some ⟨q3, 0, none⟩) 3 3, .slice none 0 0, ⟨cell_of_row _ _ 42 _ _ _ hz, cell_of_row _ _ 43 _ _ _ hz, cell_of_row _ _ 44 _ _ _ hz, cell_of_row _ _ 45 _ _ _ hz, cell_of_row _ _ 46 _ _ _ hz, cell_of_row _ _ 47 _ _ _ hz, s3, ⟨none, 0, rfl, .inl rfl⟩⟩⟩
    | 8, hi => cases hi; exact ⟨.slice (some ⟨q4, 0, none⟩) 2 2, .slice none 0 0, ⟨cell_of_row _ _ 48 _ _ _ hz, cell_of_row _ _ 49 _ _ _ hz, cell_of_row _ _ 50 _ _ _ hz, cell_of_row _ _ 51 _ _ _ hz, cell_of_row _ _ 52 _ _ _ hz, cell_of_row _ _ 53 _ _ _ hz, s4, ⟨none, 0, rfl, .inl rfl⟩⟩⟩
    | 9, hi => cases hi; exact ⟨.slice (some ⟨q5, 0, none⟩) 2 2, .slice none 0 0, ⟨cell_of_row _ _ 54 _ _ _ hz, cell_of_row _ _ 55 _ _ _ hz, cell_of_row _ _ 56 _ _ _ hz, cell_of_row _ _ 57 _ _ _ hz, cell_of_row _ _ 58 _ _ _ hz, cell_of_row _ _ 59 _ _ _ hz, s5, ⟨none, 0, rfl, .inl rfl⟩⟩⟩
    | 10, hi => cases hi; exact ⟨.slice (some ⟨q6, 0, none⟩) 2 2, .slice none 0 0, ⟨cell_of_row _ _ 60 _ _ _ hz, cell_of_row _ _ 61 _ _ _ hz, cell_of_row _ _ 62 _ _ _ hz, cell_of_row _ _ 63 _ _ _ hz, cell_of_row _ _ 64 _ _ _ hz, cell_of_row _ _ 65 _ _ _ hz, s6, ⟨none, 0, rfl, .inl rfl⟩⟩⟩
    | (i + 11), hi => simp [exL] at hi
end Go.Proofs.Ytpiocaomlifljaa
