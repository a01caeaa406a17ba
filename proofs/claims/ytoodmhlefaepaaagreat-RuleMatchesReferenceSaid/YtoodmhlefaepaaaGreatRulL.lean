/-
  Text, walked.
-/
import Derived.Test.YtoodmhlefaepaaaGreatRulK
namespace Go.Proofs.YtoodmhlefaepaaaGreat
open Go.RowKit Go.Proofs.PlLex Go.Proofs.PlRule

theorem writeR_len {x : Rl} (h : VdR x) : (writeR x).length ≤ 30000 := by
  have h1 := wrMust_len x
  have h2 := wrIn_len h
  have h3 := kindT_len x.kind
  have h4 := wrIf_len h
  have h5 : (wrOp x).length ≤ 25000 := by
    have hk := h.key
    have e : (tx x.key).length = x.key.size := rfl
    unfold wrOp
    split
    · simp only [wNeeds, List.length_append, List.length_cons, List.length_nil]; omega
    · split
      · simp only [wNo, List.length_append, List.length_cons, List.length_nil]; omega
      · have h6 := joinC_len (x.vals.map (fun s => quote (tx s))) 402 (fun y hy => by
          obtain ⟨s, hs, rfl⟩ := List.mem_map.1 hy
          have h2 := quote_le (tx s)
          have h3 := h.vals s hs
          have h4 : (tx s).length = s.size := rfl
          omega)
        rw [List.length_map] at h6
        have h7 := h.many
        simp only [wHas, wOf, List.length_append, List.length_cons, List.length_nil]
        omega
  unfold writeR
  simp only [List.length_append, List.length_cons, List.length_nil]
  omega
theorem writeL_len (l : List Rl) (h : ∀ x ∈ l, VdR x) : (writeL l).length ≤ l.length * 30000 := by
  induction l with
  | nil => simp [writeL]
  | cons x l ih =>
    have h1 := writeR_len (h x (List.mem_cons_self ..))
    have h2 := ih (fun y hy => h y (List.mem_cons_of_mem _ hy))
    unfold writeL at h2 ⊢
    rw [List.flatMap_cons, List.length_append, List.length_cons]
    omega
theorem writeL_snoc {l : List Rl} {k : Nat} {x : Rl} (h : l[k]? = some x) : writeL (l.take (k + 1)) = writeL (l.take k) ++ writeR x := by
  unfold writeL
  rw [tk_snoc h, List.flatMap_append]
  simp
theorem ret_text {a b : ByteArray} {c d : Int} (h : a = b) (k : c = d) : Ending.returned (.tuple #[.string a, .int .i64 c]) = .returned (.tuple #[.string b, .int .i64 d]) := by rw [h, k]
set_option maxRecDepth 100000 in
set_option maxHeartbeats 16000000 in
theorem text_any (l : List Rl) (v : Value) (w : World) (hv : RlS w v l) (hl : l.length ≤ 1000000) (hs : ∀ s ∈ l, RlZ s) :
    Calls Tryz.prog 6 #[v] w fun e w' => e = .returned (.tuple #[.string (textL l).1, .int .i64 (textL l).2]) ∧ Below w.heap.size w w' := by
  obtain ⟨T, hT⟩ : ∃ T, textL l = T := ⟨_, rfl⟩
  rw [hT]
  have HT := hide hT
  have HC := hide (pvalid_any l v w hv hl hs)
  obtain ⟨A, c, rfl, _, hA⟩ := id hv
  have HA := hide hA
  clear hA hv hs hT
  cases hval : validL l with
  | false =>
    have HTT : Hid (T = (ba [], 1)) := by rw [← HT.out]; unfold textL; rw [hval]; exact hide rfl
    rw [hval] at HC
    clear hval
    go_enter Tryz.func6, Tryz.ntmps6
    go_wp2_with fail
    refine HC.out.mono ?_
    rintro _ w1 ⟨rfl, b1⟩
    have HB1 := hide b1
    clear b1
    go_wp2_with fail
    go_ret2
    exact ⟨ret_text (by rw [HTT.out]; rfl) (by rw [HTT.out]), HB1.out⟩
  | true =>
    have hv2 := hval
    unfold validL at hv2
    rw [Bool.and_eq_true, decide_eq_true_eq] at hv2
    have hl2 := hv2.1
    have HVD := hide (fun x (hx : x ∈ l) => List.all_eq_true.1 hv2.2 x hx)
    have HTT : Hid (T = if 20000 < (writeL l).length then (ba [], 2) else (ba (writeL l), 0)) := by rw [← HT.out]; unfold textL; rw [hval]; exact hide rfl
    rw [hval] at HC
    clear hval hv2
    go_enter Tryz.func6, Tryz.ntmps6
    go_wp2_with fail
    refine HC.out.mono ?_
    rintro _ w1 ⟨rfl, b1⟩
    have HB1 := hide b1
    obtain ⟨B, hB⟩ : ∃ B, w1.heap.size = B := ⟨_, rfl⟩
    have hst := Bld.start w1
    have hb0 : Below w1.heap.size w1 (w1.alloc (.cells #[.pointer none, .slice none 0 0] 56)) := (Below.refl _ _).alloc (Nat.le_refl _) _
    rw [hB] at hst hb0
    have HST := hide hst
    have HB0 := hide hb0
    have HBE := hide hB
    clear hst hb0 hB b1
    go_wp2_with fail
    rw [HBE.out]
    generalize w1.alloc (.cells #[.pointer none, .slice none 0 0] 56) = w2 at *
    go_loopw [12] (fun i wr => ∃ k : Nat, k ≤ l.length ∧ i = .int .i64 k ∧ Hid (Bld B (writeL (l.take k)) wr) ∧ Hid (Below B w1 wr)) (fun i _ => l.length - (intOf i).toNat)
    case atStart => exact ⟨0, Nat.zero_le _, rfl, HST, HB0⟩
    case round =>
      clear HST HB0
      obtain ⟨k, hk, rfl, hbl, hbw⟩ := hrel
      have HBL := hide hbl.out
      have HBW := hide hbw.out
      clear hbl hbw
      by_cases hlt : k < l.length
      · obtain ⟨g, o, rfl, hg, hp⟩ := HA.out.resolve_left (by rintro e; rw [e] at hlt; simp at hlt)
        have hkx := List.getElem?_eq_getElem hlt
        have hvx := HVD.out _ (List.getElem_mem hlt)
        generalize l[k] = x at *
        obtain ⟨v1, hat⟩ := hp k x hkx
        obtain ⟨A1, c1, rfl, _, _⟩ := id hat.vals
        have hbb : Below w.heap.size w wr := HB1.out.trans (HBW.out.mono (by rw [← HBE.out]; exact HB1.out.size))
        obtain ⟨d0, d1, d2, d3, d4, d5, d6, d7, _⟩ := hat.below hg hbb
        have hvs := hat.vals.below HB1.out
        have hwl : (writeL (l.take k)).length ≤ 6500000 := by
          have h1 := writeL_len (l.take k) (fun x hx => vdR (HVD.out x (List.mem_of_mem_take hx)))
          rw [List.length_take] at h1
          have : min k l.length ≤ 200 := by omega
          omega
        obtain ⟨wb, hwb⟩ : ∃ wb, wr.alloc (.cells #[.bool x.strict, .string x.area, .int .i64 x.kind, .string x.ik, .string x.iv, .int .i64 x.op, .string x.key, .slice A1 x.vals.length c1] 37) = wb := ⟨_, rfl⟩
        have hb1 : Below wr.heap.size wr wb := by rw [← hwb]; exact (Below.refl _ _).alloc (Nat.le_refl _) _
        have hr1 : RlB x (.slice A1 x.vals.length c1) wr.heap.size wb := ⟨by rw [← hwb]; exact heap_alloc_new _ _⟩
        have HWT := hide (write_any B (writeL (l.take k)) x (.slice A1 x.vals.length c1) w1 wb (bld_lift HBL.out hb1) HBE.out (HBW.out.trans (hb1.mono (Nat.le_of_lt (bld_lt HBL.out)))) hvs hvx hwl)
        unfold vRl at HWT
        have HSN := hide (writeL_snoc hkx)
        have HBB := hide (HBW.out.trans (hb1.mono (Nat.le_of_lt (bld_lt HBL.out))))
        have k0 : (0 : Int) ≤ k := by omega
        have k1 : (k : Int) < l.length := by omega
        have HKL := hide hlt
        have HMS := hide (show l.length - (k + 1) < l.length - k from by omega)
        obtain ⟨e0, e1, e2, e3, e4, e5, e6, e7⟩ := hr1.c
        clear hlt hkx hp hat hbb hvs hvx hwl hb1 hr1
        go_wp2_with fail
        refine HWT.out.mono ?_
        rintro _ w5 ⟨rfl, h1, h2⟩
        rw [← HSN.out] at h1
        have HBL5 := hide h1
        have HBW5 := hide (HBB.out.trans h2)
        clear h1 h2 hwb
        go_wp2_with fail
        refine ⟨⟨k + 1, HKL.out, by go_num, HBL5, HBW5⟩, ?_⟩
        have := HMS.out
        simp [intOf]; omega
      · obtain rfl : k = l.length := by omega
        have hbl := HBL.out
        rw [List.take_length] at hbl
        have HBF := hide hbl
        have k1 : ¬ (l.length : Int) < l.length := by omega
        clear hbl hlt HBL
        have HLN := hide (Tryz.Builder_Len B B (Lib.byteCells (writeL l)) wr HBF.out)
        have HWS := hide (wstr B (writeL l) wr HBF.out (Nat.le_of_lt (bld_lt HBF.out)))
        rw [byteCells_len] at HLN
        have HBG := hide (HB1.out.trans (HBW.out.mono (by rw [← HBE.out]; exact HB1.out.size)))
        have HBB := hide (show w.heap.size ≤ B from by rw [← HBE.out]; exact HB1.out.size)
        clear HC HVD HA
        go_wp2_with fail
        refine HLN.out.mono ?_
        rintro _ w5 ⟨rfl, rfl⟩
        by_cases h20 : 20000 < (writeL l).length
        · have h21 : (20000 : Int) < ((writeL l).length : Int) := by omega
          rw [if_pos h20] at HTT
          clear h20
          go_wp2_with fail
          go_ret2
          exact ⟨ret_text (by rw [HTT.out]; rfl) (by rw [HTT.out]), HBG.out⟩
        · have h21 : ¬ (20000 : Int) < ((writeL l).length : Int) := by omega
          rw [if_neg h20] at HTT
          clear h20
          go_wp2_with fail
          refine HWS.out.mono ?_
          rintro _ w6 ⟨rfl, b6⟩
          have HB6 := hide (HBG.out.trans (b6.mono HBB.out))
          clear b6
          go_wp2_with fail
          go_ret2
          exact ⟨ret_text (by rw [HTT.out]; rfl) (by rw [HTT.out]), HB6.out⟩
end Go.Proofs.YtoodmhlefaepaaaGreat
