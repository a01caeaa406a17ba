/-
  The index's small functions, walked: meet, around, valid.
-/
import Derived.Test.YtfkgjbdeicggaaaGreatTopA
import Derived.Test.YtfkgjbdeicggaaaGreatPlainAll
import Derived.BigRegion
namespace Go.Proofs.YtfkgjbdeicggaaaGreat
open Go.RowKit Go.Proofs.PlGeom Go.Proofs.PlTop
attribute [local go_sem] Oper.semAt_some

/-- The cells of a box. -/
def bxC (b : Bx) : Array Value := #[.int .i64 b.x0, .int .i64 b.y0, .int .i64 b.x1, .int .i64 b.y1]
set_option maxRecDepth 100000 in
set_option maxHeartbeats 4000000 in
theorem meet_any (a b : Bx) (w : World) : Calls Tryz.prog 71 #[.agg (bxC a), .agg (bxC b)] w fun e w' => e = .returned (.bool (meetX a b)) ∧ Grows w w' := by
  have HG : Hid (Grows w ((w.alloc (.cells (bxC a) 65)).alloc (.cells (bxC b) 65))) := hide (((Grows.refl _).alloc _).alloc _)
  unfold meetX
  unfold bxC at HG ⊢
  obtain ⟨x0, y0, x1, y1⟩ := a
  obtain ⟨u0, v0, u1, v1⟩ := b
  simp only at HG ⊢
  by_cases h1 : x0 ≤ u1
  · by_cases h2 : u0 ≤ x1
    · by_cases h3 : y0 ≤ v1
      · by_cases h4 : v0 ≤ y1
        · have e : (decide (x0 ≤ u1) && (decide (u0 ≤ x1) && (decide (y0 ≤ v1) && decide (v0 ≤ y1)))) = true := by simp [h1, h2, h3, h4]
          rw [e]
          clear e
          go_enter Tryz.func71, Tryz.ntmps71
          go_wp2_with fail
          go_ret
          exact ⟨rfl, HG.out⟩
        · have e : (decide (x0 ≤ u1) && (decide (u0 ≤ x1) && (decide (y0 ≤ v1) && decide (v0 ≤ y1)))) = false := by simp [h4]
          rw [e]
          clear e
          go_enter Tryz.func71, Tryz.ntmps71
          go_wp2_with fail
          go_ret
          exact ⟨rfl, HG.out⟩
      · have e : (decide (x0 ≤ u1) && (decide (u0 ≤ x1) && (decide (y0 ≤ v1) && decide (v0 ≤ y1)))) = false := by simp [h3]
        rw [e]
        clear e
        go_enter Tryz.func71, Tryz.ntmps71
        go_wp2_with fail
        go_ret
        exact ⟨rfl, HG.out⟩
    · have e : (decide (x0 ≤ u1) && (decide (u0 ≤ x1) && (decide (y0 ≤ v1) && decide (v0 ≤ y1)))) = false := by simp [h2]
      rw [e]
      clear e
      go_enter Tryz.func71, Tryz.ntmps71
      go_wp2_with fail
      go_ret
      exact ⟨rfl, HG.out⟩
  · have e : (decide (x0 ≤ u1) && (decide (u0 ≤ x1) && (decide (y0 ≤ v1) && decide (v0 ≤ y1)))) = false := by simp [h1]
    rw [e]
    clear e
    go_enter Tryz.func71, Tryz.ntmps71
    go_wp2_with fail
    go_ret
    exact ⟨rfl, HG.out⟩
set_option maxRecDepth 100000 in
set_option maxHeartbeats 4000000 in
theorem around_any (a b : Bx) (w : World) : Calls Tryz.prog 179 #[.agg (bxC a), .agg (bxC b)] w fun e w' => e = .returned (.agg (bxC (aroundX a b))) ∧ Below w.heap.size w w' := by
  obtain ⟨x0, y0, x1, y1⟩ := a
  obtain ⟨u0, v0, u1, v1⟩ := b
  obtain ⟨r0, h0⟩ : ∃ r, (if u0 < x0 then u0 else x0) = r := ⟨_, rfl⟩
  obtain ⟨r1, h1⟩ : ∃ r, (if v0 < y0 then v0 else y0) = r := ⟨_, rfl⟩
  obtain ⟨r2, h2⟩ : ∃ r, (if x1 < u1 then u1 else x1) = r := ⟨_, rfl⟩
  obtain ⟨r3, h3⟩ : ∃ r, (if y1 < v1 then v1 else y1) = r := ⟨_, rfl⟩
  have e : bxC (aroundX ⟨x0, y0, x1, y1⟩ ⟨u0, v0, u1, v1⟩) = #[.int .i64 r0, .int .i64 r1, .int .i64 r2, .int .i64 r3] := by
    unfold aroundX bxC
    simp only
    have e0 : min x0 u0 = r0 := by rw [← h0]; split <;> omega
    have e1 : min y0 v0 = r1 := by rw [← h1]; split <;> omega
    have e2 : max x1 u1 = r2 := by rw [← h2]; split <;> omega
    have e3 : max y1 v1 = r3 := by rw [← h3]; split <;> omega
    rw [e0, e1, e2, e3]
  rw [e]
  clear e
  unfold bxC
  simp only
  have H0 := hide h0
  have H1 := hide h1
  have H2 := hide h2
  have H3 := hide h3
  clear h0 h1 h2 h3
  go_enter Tryz.func179, Tryz.ntmps179
  go_upto_region 1 with (fail)
  go_region
  rw [H0.out, H1.out]
  go_upto_region 2 with (fail)
  go_region
  rw [H2.out, H3.out]
  clear H0 H1 H2 H3
  go_wp2_with fail
  exact bodyPost_ret (v := .agg #[.int .i64 r0, .int .i64 r1, .int .i64 r2, .int .i64 r3]) (by simp [results, Tryz.results179, go_sem]) rfl ⟨rfl, (((((Below.refl _ _).alloc (Nat.le_refl _) _).alloc (by simp) _).alloc (by simp; omega) _).drew).drew⟩
theorem valid_one (n : Int) (h0 : -2097152 ≤ n) (h1 : n ≤ 2097152) (w : World) : Calls Tryz.prog 122 #[.int .i64 n] w fun e w' => e = .returned (.bool false) ∧ w = w' := by
  have h2 : ¬ n < -2097152 := by omega
  have h3 : ¬ 2097152 < n := by omega
  go_enter Tryz.func122, Tryz.ntmps122
  go_wp2_with fail
  go_ret
  exact ⟨rfl, rfl⟩
set_option maxRecDepth 100000 in
set_option maxHeartbeats 4000000 in
theorem index_valid (g c : Nat) (L : List Int) (hL : ∀ n ∈ L, -2097152 ≤ n ∧ n ≤ 2097152) (hl : L.length ≤ 1000) (w : World) (hc : ∀ (i : Nat) n, L[i]? = some n → w.cell? ⟨g, i, none⟩ = some (.int .i64 n)) :
    Calls Tryz.prog 173 #[.slice (some ⟨g, 0, none⟩) L.length c, .func (Fn.func 122) #[] #[]] w fun e w' => e = .returned (.int .i64 (-1)) ∧ w = w' := by
  have HC := hide hc
  have HL := hide hL
  clear hc hL
  go_enter Tryz.func173, Tryz.ntmps173
  go_wp2_with fail
  go_loopw [8] (fun i wr => ∃ (k : Nat), k ≤ L.length ∧ i = .int .i64 k ∧ wr = w) (fun i _ => L.length - (intOf i).toNat)
  case atStart => exact ⟨0, Nat.zero_le _, rfl, rfl⟩
  case round =>
    obtain ⟨k, hk, rfl, rfl⟩ := hrel
    by_cases hlt : k < L.length
    · have k0 : (0 : Int) ≤ (k : Nat) := by omega
      have k1 : ((k : Nat) : Int) < (L.length : Nat) := by omega
      have c0 := HC.out k _ (List.getElem?_eq_getElem hlt)
      obtain ⟨b0, b1⟩ := HL.out _ (List.getElem_mem hlt)
      generalize L[k] = n at *
      have HV := hide (valid_one n b0 b1)
      have HS := hide hlt
      have HMS := hide (show L.length - (k + 1) < L.length - k from by omega)
      clear hk hlt b0 b1
      go_wp2_with (go_at_call 122; refine (HV.out _).mono ?_; rintro _ _ ⟨rfl, rfl⟩)
      refine ⟨⟨k + 1, HS.out, by go_num, trivial⟩, ?_⟩
      have := HMS.out
      simp [intOf]; omega
    · obtain rfl : k = L.length := by omega
      have k1 : ¬ ((L.length : Nat) : Int) < (L.length : Nat) := by omega
      go_wp2_with fail
      go_ret
      exact ⟨rfl, rfl⟩
set_option maxRecDepth 100000 in
set_option maxHeartbeats 4000000 in
theorem valid_any (g c : Nat) (L : List Int) (hL : ∀ n ∈ L, -2097152 ≤ n ∧ n ≤ 2097152) (hl : L.length ≤ 1000) (w : World) (hc : ∀ (i : Nat) n, L[i]? = some n → w.cell? ⟨g, i, none⟩ = some (.int .i64 n)) :
    Calls Tryz.prog 69 #[.slice (some ⟨g, 0, none⟩) L.length c] w fun e w' => e = .returned (.bool true) ∧ w = w' := by
  have HI := hide (index_valid g c L hL hl w hc)
  have HC : Hid (Calls Tryz.prog 121 #[.slice (some ⟨g, 0, none⟩) L.length c, .func (Fn.func 122) #[] #[]] w fun e w' => e = .returned (.bool false) ∧ w = w') := by
    refine hide ?_
    go_enter Tryz.func121, Tryz.ntmps121
    go_wp2_with fail
    refine HI.out.mono ?_
    rintro _ _ ⟨rfl, rfl⟩
    go_wp2_with fail
    go_ret
    exact ⟨rfl, rfl⟩
  clear HI hc hL
  go_enter Tryz.func69, Tryz.ntmps69
  go_wp2_with fail
  refine HC.out.mono ?_
  rintro _ _ ⟨rfl, rfl⟩
  go_wp2_with fail
  go_ret
  exact ⟨rfl, rfl⟩
end Go.Proofs.YtfkgjbdeicggaaaGreat
