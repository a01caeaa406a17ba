/-
  The law of folded names, walked.
-/
import Derived.Test.YtjniicmhndflpaaNamN
namespace Go.Proofs.Ytjniicmhndflpaa
open Go.RowKit Go.Proofs.PlLex Go.Proofs.PlName

theorem byte_cases (c : UInt8) (h : okB c = true) : ¬ (65 ≤ (c.toNat : Int) ∧ (c.toNat : Int) ≤ 90) ∧ (c.toNat : Int) ≠ 9 ∧ (c.toNat : Int) ≠ 10 := by
  have := PlName.all_bytes (fun c => !okB c || (!(decide (65 ≤ c.toNat) && decide (c.toNat ≤ 90)) && !decide (c.toNat = 9) && !decide (c.toNat = 10))) (by decide +kernel) c
  simp only [h, Bool.not_true, Bool.false_or, Bool.and_eq_true, Bool.not_eq_true', Bool.and_eq_false_iff, decide_eq_false_iff_not] at this
  omega
theorem foldS_get (s : ByteArray) (i : Nat) (h : i < (foldS s).size) : (foldL s.data.toList : List UInt8)[i]? = some (foldS s)[i] := by
  have e : (foldS s).data.toList = foldL s.data.toList := rfl
  rw [← e, List.getElem?_eq_getElem (by simpa using h)]
  rfl
theorem nat32 (c : UInt8) : (c.toNat : Int) = 32 ↔ c = 32 := by
  constructor
  · intro e; apply UInt8.toNat_inj.1; have : (32 : UInt8).toNat = 32 := rfl; omega
  · intro e; rw [e]; rfl
theorem foldS_facts (s : ByteArray) (i : Nat) (h : i < (foldS s).size) : (¬ (65 ≤ ((foldS s)[i].toNat : Int) ∧ ((foldS s)[i].toNat : Int) ≤ 90) ∧ ((foldS s)[i].toNat : Int) ≠ 9 ∧ ((foldS s)[i].toNat : Int) ≠ 10) ∧
    (((foldS s)[i].toNat : Int) = 32 → i ≠ 0 ∧ i + 1 < (foldS s).size ∧ ∀ hj : i - 1 < (foldS s).size, ((foldS s)[i - 1].toNat : Int) ≠ 32) := by
  have hg := foldS_get s i h
  obtain ⟨b0, b1⟩ := foldL_blank s.data.toList
  refine ⟨byte_cases _ (foldL_chars _ i _ hg), fun hz => ?_⟩
  rw [(nat32 _).1 hz] at hg
  have h0 : i ≠ 0 := by
    rintro rfl
    exact b0 hg
  obtain ⟨d, hd, _⟩ := b1 i hg
  refine ⟨h0, ?_, fun hj hz2 => ?_⟩
  · have := (List.getElem?_eq_some_iff.1 hd).1
    have e : (foldS s).size = (foldL s.data.toList).length := rfl
    rw [e]; exact this
  · have hg2 := foldS_get s (i - 1) hj
    rw [(nat32 _).1 hz2] at hg2
    obtain ⟨d2, hd2, hne⟩ := b1 (i - 1) hg2
    have e : i - 1 + 1 = i := by omega
    rw [e, hg] at hd2
    cases hd2
    exact hne rfl

set_option maxRecDepth 100000 in
set_option maxHeartbeats 8000000 in
theorem folds_law (s : ByteArray) (_ : s.size ≤ maxLen) (w : World) : Calls Try.prog 3 #[.string s] w fun e w' => e = .returned (.bool true) ∧ Below w.heap.size w w' := by
  have HH := hide (head_any w)
  by_cases hsz : s.size ≤ 1000
  · have hsz1 : ¬ (1000 : Int) < s.size := by omega
    obtain ⟨f, hf⟩ : ∃ f, foldS s = f := ⟨_, rfl⟩
    have HFC := hide (foldS_facts s)
    have HF := hide (fun w => fold_any s w (by omega))
    have HFE : (⟨(foldL s.data.toList).toArray⟩ : ByteArray) = f := hf
    rw [HFE] at HF
    have hfl : f.size ≤ s.size := by rw [← hf]; exact foldL_len s.data.toList
    have hfd : f.data.toList = foldL s.data.toList := by rw [← hf]; rfl
    have HF2 := hide (fun w => fold_any f w (by omega))
    have hff : (⟨(foldL f.data.toList).toArray⟩ : ByteArray) = f := by rw [hfd, foldL_idem]; exact hf
    rw [hff] at HF2
    have hrl := raised_len s.data.toList
    have hsl : s.data.toList.length = s.size := rfl
    have HR := hide (fun w => raised_any s w (by omega))
    have HF3 := hide (fun w => fold_any ⟨(raisedL s.data.toList).toArray⟩ w (by show (raisedL s.data.toList).length ≤ 100000; omega))
    have hfr : (⟨(foldL (⟨(raisedL s.data.toList).toArray⟩ : ByteArray).data.toList).toArray⟩ : ByteArray) = f := by
      show (⟨(foldL (raisedL s.data.toList)).toArray⟩ : ByteArray) = f
      rw [foldL_raised]; exact hf
    rw [hfr] at HF3
    rw [hf] at HFC
    obtain ⟨rs, hrs⟩ : ∃ rs : ByteArray, ⟨(raisedL s.data.toList).toArray⟩ = rs := ⟨_, rfl⟩
    rw [hrs] at HR HF3
    have hfl1 : (f.size : Int) ≤ s.size := by omega
    clear hf HFE hfd hff hrl hsl hfr hrs
    go_enter Try.func3, Try.ntmps3
    go_wp2_with fail
    refine (HH.out).mono ?_
    rintro _ w1 ⟨rfl, b1⟩
    clear HH
    go_wp2_with fail
    refine (HF.out _).mono ?_
    rintro _ w2 ⟨rfl, b2⟩
    have HB2 := hide (bto b1 b2)
    clear HF b1 b2
    go_wp2_with fail
    go_loop [5] (fun i => ∃ k : Nat, k ≤ f.size ∧ i = .int .i64 k) (fun i => f.size - (intOf i).toNat)
    case atStart => exact ⟨0, Nat.zero_le _, rfl⟩
    case round =>
      obtain ⟨k, hk, rfl⟩ := hrel
      by_cases hlt : k < f.size
      · obtain ⟨⟨f1, f2, f3⟩, f4⟩ := HFC.out k hlt
        obtain ⟨z, hz⟩ : ∃ z : Int, (f[k].toNat : Int) = z := ⟨_, rfl⟩
        rw [hz] at f1 f2 f3 f4
        have k0 : (0 : Int) ≤ k := by omega
        have k1 : (k : Int) < f.size := by omega
        by_cases h32 : z = 32
        · obtain ⟨g1, g2, g3⟩ := f4 h32
          have g4 := g3 (by omega)
          have HL := hide hlt
          have HM := hide (show f.size - (k + 1) < f.size - k from by omega)
          have m1 : ¬ (k : Int) = 0 := by omega
          have m2 : ¬ (k : Int) = f.size - 1 := by omega
          have m3 : (0 : Int) ≤ (k : Int) - 1 := by omega
          have m4 : (k : Int) - 1 < f.size := by omega
          clear f4
          have hk1 : k - 1 < f.size := by omega
          have g5 : (f[k - 1].toNat : Int) ≠ 32 := g4
          have n1 : ((k : Int) == 0) = false := beq_eq_false_iff_ne.2 m1
          have n2 : ((k : Int) == f.size - 1) = false := beq_eq_false_iff_ne.2 m2
          have n3 : ((f[k - 1].toNat : Int) == 32) = false := beq_eq_false_iff_ne.2 g5
          clear g1 g3 g4
          go_wp2_with fail
          refine ⟨⟨k + 1, HL.out, by go_num⟩, ?_⟩
          have := HM.out
          simp [intOf]; omega
        · have HL := hide hlt
          have HM := hide (show f.size - (k + 1) < f.size - k from by omega)
          clear f4
          have n1 : (z == 32) = false := beq_eq_false_iff_ne.2 h32
          have n2 : (z == 9) = false := beq_eq_false_iff_ne.2 f2
          have n3 : (z == 10) = false := beq_eq_false_iff_ne.2 f3
          by_cases u1 : 65 ≤ z
          · have u2 : ¬ z ≤ 90 := fun g => f1 ⟨u1, g⟩
            clear f1
            go_wp2_with fail
            refine ⟨⟨k + 1, HL.out, by go_num⟩, ?_⟩
            have := HM.out
            simp [intOf]; omega
          · clear f1
            go_wp2_with fail
            refine ⟨⟨k + 1, HL.out, by go_num⟩, ?_⟩
            have := HM.out
            simp [intOf]; omega
      · go_wp2_with fail
        refine (HF2.out _).mono ?_
        rintro _ w3 ⟨rfl, b3⟩
        go_wp2_with fail
        refine (HR.out _).mono ?_
        rintro _ w4 ⟨rfl, b4⟩
        go_wp2_with fail
        refine (HF3.out _).mono ?_
        rintro _ w5 ⟨rfl, b5⟩
        have HB5 := hide (bto (bto (bto HB2.out b3) b4) b5)
        go_wp2_with fail
        go_ret
        exact ⟨rfl, HB5.out⟩
  · have hsz1 : (1000 : Int) < s.size := by omega
    go_enter Try.func3, Try.ntmps3
    go_wp2_with fail
    refine (HH.out).mono ?_
    rintro _ w1 ⟨rfl, b1⟩
    go_wp2_with fail
    go_ret
    exact ⟨rfl, b1⟩
end Go.Proofs.Ytjniicmhndflpaa
