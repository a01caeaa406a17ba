/-
  The laws' own small functions and their fixed examples, walked.
-/
import Derived.Test.YtepfhifogkopcaaGeoG
import Derived.Test.YtepfhifogkopcaaGeoN
import Derived.Test.YtepfhifogkopcaaGeoR
import Derived.Deep.QuietTactic
import Derived.BigQuiet
namespace Go.Proofs.Ytepfhifogkopcaa
open Go.RowKit Go.Proofs.PlGeom

set_option maxHeartbeats 1000000 in
theorem mul2 (w : World) : Calls Try.prog 42 #[.int .u64 2, .int .u64 2] w fun e w' => e = .returned (.tuple #[.int .u64 0, .int .u64 4]) ∧ w = w' := by
  have b2 : bits .and .u64 2 4294967295 = 2 := by decide
  have b4 : bits .and .u64 0 4294967295 = 0 := by decide
  go_enter Try.func42, Try.ntmps42
  go_wp2
  go_ret2
  exact ⟨rfl, rfl⟩
set_option maxHeartbeats 1000000 in
theorem mul30 (w : World) : Calls Try.prog 42 #[.int .u64 30, .int .u64 30] w fun e w' => e = .returned (.tuple #[.int .u64 0, .int .u64 900]) ∧ w = w' := by
  have b2 : bits .and .u64 30 4294967295 = 30 := by decide
  have b4 : bits .and .u64 0 4294967295 = 0 := by decide
  go_enter Try.func42, Try.ntmps42
  go_wp2
  go_ret2
  exact ⟨rfl, rfl⟩
theorem below_drewN {B : Nat} {a w : World} (h : Below B a w) (n : Nat) : Below B a (w.drewN n) := ⟨h.os, h.tape, h.output, h.size, h.block⟩
set_option maxRecDepth 100000 in
set_option maxHeartbeats 1000000 in
theorem div5 (w : World) : Calls Try.prog 43 #[.int .u64 0, .int .u64 4, .int .u64 5] w fun e w' => e = .returned (.tuple #[.int .u64 0, .int .u64 4]) ∧ Below w.heap.size w w' := by
  go_enter Try.func43, Try.ntmps43
  go_wp2
  go_quiet (fail)
  go_wp2
  go_ret2
  exact ⟨rfl, below_drewN (Below.refl _ _) _⟩
set_option maxRecDepth 100000 in
set_option maxHeartbeats 1000000 in
theorem div100 (w : World) : Calls Try.prog 43 #[.int .u64 0, .int .u64 900, .int .u64 100] w fun e w' => e = .returned (.tuple #[.int .u64 9, .int .u64 0]) ∧ Below w.heap.size w w' := by
  go_enter Try.func43, Try.ntmps43
  go_wp2
  go_quiet (fail)
  go_wp2
  go_ret2
  exact ⟨rfl, below_drewN (Below.refl _ _) _⟩

set_option maxHeartbeats 400000 in
theorem is_any (px py : Int) (w : World) : Calls Try.prog 33 #[.agg #[.int .i64 px, .int .i64 py]] w fun e w' => e = .returned (.bool (nearB ⟨px, py⟩)) ∧ Below w.heap.size w w' := by
  obtain ⟨R, hR⟩ : ∃ R, R = nearB ⟨px, py⟩ := ⟨_, rfl⟩
  rw [← hR]
  have HR := hide hR
  clear hR
  go_enter Try.func33, Try.ntmps33
  go_wp2
  all_goals
    go_ret
    exact ⟨ret_bool (by rw [HR.out]; unfold nearB; first | exact (decide_eq_false (by simp only; omega)).symm | (rw [Bool.eq_iff_iff]; simp only [decide_eq_true_eq]; omega)), (Below.refl _ _).alloc (Nat.le_refl _) _⟩

set_option maxHeartbeats 400000 in
theorem seg_any (a b c d : Int) (w : World) : Calls Try.prog 28 #[.int .i64 a, .int .i64 b, .int .i64 c, .int .i64 d] w fun e w' => e = .returned (.agg #[.int .i64 a, .int .i64 b, .int .i64 c, .int .i64 d]) ∧ Below w.heap.size w w' := by
  go_enter Try.func28, Try.ntmps28
  go_wp2
  exact bodyPost_ret (v := .agg #[.int .i64 a, .int .i64 b, .int .i64 c, .int .i64 d]) (by simp [results, Try.results28, go_sem]) rfl ⟨rfl, (Below.refl _ _).alloc (Nat.le_refl _) _⟩

set_option maxHeartbeats 1000000 in
theorem lnear_any (g c : Nat) (ps : List Pt) (w : World) (hn : ps.length ≤ 1000) (hg : g < w.heap.size) (h : PtsAt w g ps) :
    Calls Try.prog 25 #[.slice (some ⟨g, 0, none⟩) ps.length c] w fun e w' => e = .returned (.bool (nearL ps)) ∧ Below w.heap.size w w' := by
  obtain ⟨R, hR⟩ : ∃ R, R = nearL ps := ⟨_, rfl⟩
  rw [← hR]
  have HR := hide hR
  have H1 := hide h
  clear h hR
  obtain ⟨n, hnn⟩ : ∃ n, n = ps.length := ⟨_, rfl⟩
  rw [← hnn]
  have hn1 : n ≤ ps.length := by omega
  have hn2 : ps.length ≤ n := by omega
  clear hnn
  go_enter Try.func25, Try.ntmps25
  go_wp2_with fail
  go_loopw [3] (fun i wr => ∃ k : Nat, k ≤ n ∧ i = .int .i64 k ∧ Below w.heap.size w wr ∧ Hid (nearL (ps.drop k) = R)) (fun i _ => n - (intOf i).toNat)
  case atStart => exact ⟨0, Nat.zero_le _, rfl, Below.refl _ _, HR.out.symm⟩
  case round =>
    obtain ⟨k, hk, rfl, hb, hrel⟩ := hrel
    by_cases hlt : k < n
    · have hka : k < ps.length := by omega
      have HA := hide (drop_pt ps k hka)
      obtain ⟨k1, k2⟩ := (H1.out.below hg hb) k ps[k] (List.getElem?_eq_getElem hka)
      generalize ps[k] = p at *
      have HS : Hid ((nearB p && nearL (ps.drop (k + 1))) = R) := by
        have := hrel.out
        rw [HA.out] at this
        exact this
      clear hka HA hrel
      obtain ⟨px, py⟩ := p
      simp only at k1 k2
      have b1 : (0 : Int) ≤ k := by omega
      have b2 : (k : Int) < n := by omega
      have HI := hide (is_any px py)
      cases hp : nearB ⟨px, py⟩ with
      | true =>
        rw [hp] at HS HI
        clear hp
        go_wp2_with fail
        refine (HI.out _).mono ?_
        rintro _ w2 ⟨rfl, b3⟩
        go_wp2_with fail
        refine ⟨⟨k + 1, by omega, by go_num, bto hb b3, HS.out⟩, ?_⟩
        simp [intOf]; omega
      | false =>
        rw [hp] at HS HI
        clear hp
        go_wp2_with fail
        refine (HI.out _).mono ?_
        rintro _ w2 ⟨rfl, b3⟩
        go_wp2_with fail
        go_ret
        exact ⟨ret_bool HS.out, bto hb b3⟩
    · have hr : R = true := by rw [← hrel.out, List.drop_eq_nil_of_le (by omega)]; rfl
      have HR2 := hide hr
      clear hr hrel
      go_wp2_with fail
      go_ret
      exact ⟨ret_bool HR2.out.symm, hb⟩
