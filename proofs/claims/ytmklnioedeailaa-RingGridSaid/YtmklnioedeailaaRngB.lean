/-
  The ring's small functions, walked: which rings are regular.
-/
import Derived.Test.YtmklnioedeailaaRngA
import Derived.Test.YtmklnioedeailaaRPlain2
import Derived.Test.YtmklnioedeailaaGeoH
namespace Go.Proofs.Ytmklnioedeailaa
open Go.RowKit Go.Proofs.PlGeom Go.Proofs.PlRing

set_option maxHeartbeats 1000000 in
theorem rnear_any (px py : Int) (w : World) : Calls Try.prog 31 #[.agg #[.int .i64 px, .int .i64 py]] w fun e w' => e = .returned (.bool (nearB ⟨px, py⟩)) ∧ Below w.heap.size w w' := by
  obtain ⟨R, hR⟩ : ∃ R, R = nearB ⟨px, py⟩ := ⟨_, rfl⟩
  rw [← hR]
  have HR := hide hR
  clear hR
  go_enter Try.func31, Try.ntmps31
  go_wp2
  all_goals
    go_ret
    exact ⟨ret_bool (by rw [HR.out]; unfold nearB; first | exact (decide_eq_false (by simp only; omega)).symm | (rw [Bool.eq_iff_iff]; simp only [decide_eq_true_eq]; omega)), (Below.refl _ _).alloc (Nat.le_refl _) _⟩

set_option maxHeartbeats 1000000 in
theorem far_any (px py : Int) (w : World) : Calls Try.prog 44 #[.agg #[.int .i64 px, .int .i64 py]] w fun e w' => e = .returned (.bool (!nearB ⟨px, py⟩)) ∧ Below w.heap.size w w' := by
  have HN := hide (rnear_any px py)
  generalize nearB ⟨px, py⟩ = b at *
  go_enter Try.func44, Try.ntmps44
  go_wp2_with fail
  refine (HN.out _).mono ?_
  rintro _ w1 ⟨rfl, b1⟩
  go_wp2_with fail
  go_ret
  exact ⟨rfl, bto ((Below.refl _ _).alloc (Nat.le_refl _) _) b1⟩

/-- A slice value that reads as a list of points. -/
def SlP (W : World) (v : Value) (r : List Pt) : Prop := ∃ A c, v = .slice A r.length c ∧ (r = [] ∨ ∃ g o, A = some ⟨g, o, none⟩ ∧ g < W.heap.size ∧ PtsO W g o r)
theorem SlP.below {W W' : World} {v : Value} {r : List Pt} (h : SlP W v r) (hb : Below W.heap.size W W') : SlP W' v r := by
  obtain ⟨A, c, hv, h⟩ := h
  refine ⟨A, c, hv, ?_⟩
  rcases h with h | ⟨g, o, hA, hg, hp⟩
  · exact .inl h
  · exact .inr ⟨g, o, hA, Nat.lt_of_lt_of_le hg hb.size, hp.below hg hb⟩
theorem dropP (ts : List Pt) (k : Nat) (h : k < ts.length) : ts.drop k = at0 ts k :: ts.drop (k + 1) := by
  rw [List.drop_eq_getElem_cons h]
  congr 1
  have := at0_some ts k h
  rw [List.getElem?_eq_getElem h, Option.some.injEq] at this
  exact this

/-- What IndexFunc says of the first far point. -/
def FarAt (b : Bool) (w : World) (e : Ending) (w' : World) : Prop := ∃ z : Int, e = .returned (.int .i64 z) ∧ decide (0 ≤ z) = b ∧ Below w.heap.size w w'

set_option maxHeartbeats 2000000 in
theorem index_any (r : List Pt) (v : Value) (w : World) (hv : SlP w v r) (hr : r.length ≤ 2000) :
    Calls Try.prog 60 #[v, .func (.func 44) #[] #[]] w (FarAt (!nearL r) w) := by
  obtain ⟨A, c, rfl, hA⟩ := hv
  obtain ⟨R, hR⟩ : ∃ R, R = nearL r := ⟨_, rfl⟩
  rw [← hR]
  have HR := hide hR
  have HA := hide hA
  clear hR hA
  go_enter Try.func60, Try.ntmps60
  go_wp2_with fail
  go_loopw [8] (fun i wr => ∃ k : Nat, k ≤ r.length ∧ i = .int .i64 k ∧ Below w.heap.size w wr ∧ Hid (nearL (r.drop k) = R)) (fun i _ => r.length - (intOf i).toNat)
  case atStart => exact ⟨0, Nat.zero_le _, rfl, Below.refl _ _, HR.out.symm⟩
  case round =>
    obtain ⟨k, hk, rfl, hb, hrel⟩ := hrel
    by_cases hlt : k < r.length
    · obtain ⟨g, o, rfl, hg, hp⟩ := HA.out.resolve_left (by rintro rfl; simp at hlt)
      obtain ⟨c1, c2⟩ := (hp.below hg hb) k _ (at0_some r k hlt)
      have hd := hrel.out
      rw [dropP r k hlt, nearL] at hd
      have HF := hide (far_any (at0 r k).x (at0 r k).y)
      have hnp : nearB ⟨(at0 r k).x, (at0 r k).y⟩ = nearB (at0 r k) := rfl
      rw [hnp] at HF
      generalize nearB (at0 r k) = b at *
      generalize at0 r k = p at *
      obtain ⟨px, py⟩ := p
      simp only at c1 c2 HF
      have b1 : (0 : Int) ≤ k := by omega
      have b2 : (k : Int) < r.length := by omega
      have HD := hide hd
      clear hd hp hnp hrel
      cases b with
      | true =>
        go_wp2_with fail
        refine (HF.out _).mono ?_
        rintro _ w2 ⟨rfl, b3⟩
        go_wp2_with fail
        refine ⟨⟨k + 1, by omega, by go_num, bto hb b3, HD.out⟩, ?_⟩
        simp [intOf]; omega
      | false =>
        go_wp2_with fail
        refine (HF.out _).mono ?_
        rintro _ w2 ⟨rfl, b3⟩
        go_wp2_with fail
        go_ret
        exact ⟨k, rfl, by rw [← HD.out]; simp, bto hb b3⟩
    · have hr : R = true := by rw [← hrel.out, List.drop_eq_nil_of_le (by omega)]; rfl
      have HR2 := hide hr
      clear hr hrel
      go_wp2_with fail
      go_ret
      exact ⟨-1, rfl, by rw [HR2.out]; rfl, hb⟩

set_option maxHeartbeats 1000000 in
theorem contains_any (r : List Pt) (v : Value) (w : World) (hv : SlP w v r) (hr : r.length ≤ 2000) :
    Calls Try.prog 43 #[v, .func (.func 44) #[] #[]] w fun e w' => e = .returned (.bool (!nearL r)) ∧ Below w.heap.size w w' := by
  have HX := hide (index_any r v w hv hr)
  obtain ⟨A, c, rfl, _⟩ := hv
  go_enter Try.func43, Try.ntmps43
  go_wp2_with fail
  refine HX.out.mono ?_
  rintro _ w1 ⟨z, rfl, hz, hb⟩
  have HZ := hide hz
  clear hz
  go_wp2_with fail
  all_goals
    go_ret
    exact ⟨ret_bool (by rw [← HZ.out]), hb⟩

set_option maxHeartbeats 1000000 in
theorem regular_any (r : List Pt) (v : Value) (w : World) (hv : SlP w v r) (hl : r.length ≤ 100000) :
    Calls Try.prog 26 #[v] w fun e w' => e = .returned (.bool (regB r)) ∧ Below w.heap.size w w' := by
  obtain ⟨R, hR⟩ : ∃ R, R = regB r := ⟨_, rfl⟩
  rw [← hR]
  unfold regB at hR
  have HX := fun h => hide (contains_any r v w hv h)
  obtain ⟨A, c, rfl, _⟩ := hv
  by_cases h3 : 3 ≤ r.length
  · by_cases h4 : r.length ≤ 2000
    · have HX := HX h4
      rw [decide_eq_true h3, decide_eq_true h4, Bool.true_and, Bool.true_and] at hR
      rw [← hR] at HX
      have h3' : (3 : Int) ≤ r.length := by omega
      have h4' : (r.length : Int) ≤ 2000 := by omega
      clear hR
      go_enter Try.func26, Try.ntmps26
      go_wp2_with fail
      refine HX.out.mono ?_
      rintro _ w1 ⟨rfl, hb⟩
      go_wp2_with fail
      go_ret
      exact ⟨ret_bool (by simp), hb⟩
    · have hr : R = false := by rw [hR, decide_eq_false h4]; simp
      have HR := hide hr
      have h3' : (3 : Int) ≤ r.length := by omega
      have h4' : ¬ ((r.length : Int) ≤ 2000) := by omega
      clear hR hr HX
      go_enter Try.func26, Try.ntmps26
      go_wp2_with fail
      go_ret
      exact ⟨ret_bool HR.out.symm, Below.refl _ _⟩
  · have hr : R = false := by rw [hR, decide_eq_false h3]; simp
    have HR := hide hr
    have h3' : ¬ ((3 : Int) ≤ r.length) := by omega
    clear hR hr HX
    go_enter Try.func26, Try.ntmps26
    go_wp2_with fail
    go_ret
    exact ⟨ret_bool HR.out.symm, Below.refl _ _⟩

set_option maxHeartbeats 400000 in
theorem sides_any (v : Value) (A : Option Addr) (n c : Nat) (hv : v = .slice A n c) (w : World) : Calls Try.prog 27 #[v] w fun e w' => e = .returned (.func (.func 45) #[] #[.pointer (some ⟨w.heap.size, 0, none⟩)]) ∧ w' = w.alloc (.cells #[.slice A n c] 22) := by
  subst hv
  go_enter Try.func27, Try.ntmps27
  go_wp2
  go_ret
  exact ⟨rfl, rfl⟩
end Go.Proofs.Ytmklnioedeailaa
