/-
  The law that compares Allowed with the reference, walked.
-/
import Derived.Test.YtpiocaomlifljaaNetMe
namespace Go.Proofs.Ytpiocaomlifljaa
open Go.RowKit Go.Proofs.PlLex Go.Proofs.PlNet Go.Proofs.PlMap

set_option maxRecDepth 100000 in
set_option maxHeartbeats 16000000 in
theorem allowedlaw_any (l : List Ob) (v : Value) (f n t : BA) (w : World) (hv : MapW w v l) (hf : f.size ≤ maxLen) (hn : n.size ≤ maxLen) (ht : t.size ≤ maxLen) :
    Calls Try.prog 4 #[.agg #[v], .string f, .string n, .string t] w fun e w' => e = .returned (.bool true) ∧ Below w.heap.size w w' := by
  have hlen := hv.len
  obtain ⟨A, c, rfl, _, hA⟩ := id hv.obs
  obtain ⟨wa, hwa⟩ : ∃ wa, w.alloc (.cells #[.slice A l.length c] 24) = wa := ⟨_, rfl⟩
  have ha : Below w.heap.size w wa := by rw [← hwa]; exact (Below.refl _ _).alloc (Nat.le_refl _) _
  have hm : wa.heap[w.heap.size]? = some (.cells #[.slice A l.length c] 24 (0, 0)) := by rw [← hwa]; exact heap_alloc_new w _
  have HV := hide (hv.below ha)
  have HH := hide (head_any wa)
  have HF0 := hide hf
  have HT0 := hide ht
  clear hv hA hf hn ht
  go_enter Try.func4, Try.ntmps4
  go_wp2_with fail
  refine HH.out.mono ?_
  rintro _ w1 ⟨rfl, b1⟩
  have hm1 := blkB b1 hm
  have hb1 := bto ha b1
  have HV1 := hide (HV.out.below b1)
  have dm := (blk1 hm1).1
  have HF := hide (fewlaw_any l _ w1 HV1.out)
  clear hwa ha hm HV HH b1
  cases hfew : fewM 24 l with
  | false =>
    rw [hfew] at HF
    clear hfew
    go_wp2_with fail
    refine HF.out.mono ?_
    rintro _ w2 ⟨rfl, b2⟩
    have HB := hide (bto hb1 b2)
    clear dm hm1 b2 hb1
    go_wp2_with fail
    go_ret
    exact ⟨rfl, HB.out⟩
  | true =>
    rw [hfew] at HF
    have HMI := hide (mapI_few HV1.out hfew)
    clear hfew
    go_wp2_with fail
    refine HF.out.mono ?_
    rintro _ w2 ⟨rfl, b2⟩
    have HB := hide (bto hb1 b2)
    have HM2 := hide (blkB b2 hm1)
    have HI2 := hide (HMI.out.below b2)
    have hbd := below_drew w2
    have E0 : ∀ u : Gls w2, u.w.cell? ⟨w.heap.size, 0, none⟩ = some (.slice A l.length c) := fun u => (blk1 (blkB u.2 HM2.out)).1
    have HA1 := hide (fun u : Gls w2 => allowed_all l _ f n t u.w (HI2.out.below u.2) HF0.out HT0.out)
    have HA2 := hide (fun u : Gls w2 => allowed16_any l _ f n t u.w (HI2.out.below u.2))
    generalize (mapB l && allowedB l f n t) = Q at *
    have YN : Nonempty (Gls w2) := ⟨⟨_, Below.refl _ _⟩⟩
    clear HF dm hm1 b2 hb1
    go_wp2_with fail
    · go_ret
      exact ⟨rfl, HB.out⟩
    · cases Q with
      | true =>
        refine wp_region_quietW (J := Gls w2) Gls.w ⟨_, hbd⟩ rfl (by kernel_rfl) (by kernel_rfl) ?_
        repeat (go_big_quiet_step (first | ((with_reducible refine (HA1.out _).mono ?_); rintro _ w8 ⟨rfl, b8⟩; exact ⟨rfl, Gls.go _ b8⟩) | ((with_reducible refine (HA2.out _).mono ?_); rintro _ w8 ⟨rfl, b8⟩; exact ⟨rfl, Gls.go _ b8⟩)))
        refine wpQuiet_nil ?_
        rintro w9 ⟨u, rfl⟩
        have HB9 := hide (bto HB.out u.2)
        go_wp2_with fail
        go_ret
        exact ⟨rfl, HB9.out⟩
      | false =>
        refine wp_region_quietW (J := Gls w2) Gls.w ⟨_, hbd⟩ rfl (by kernel_rfl) (by kernel_rfl) ?_
        repeat (go_big_quiet_step (first | ((with_reducible refine (HA1.out _).mono ?_); rintro _ w8 ⟨rfl, b8⟩; exact ⟨rfl, Gls.go _ b8⟩) | ((with_reducible refine (HA2.out _).mono ?_); rintro _ w8 ⟨rfl, b8⟩; exact ⟨rfl, Gls.go _ b8⟩)))
        refine wpQuiet_nil ?_
        rintro w9 ⟨u, rfl⟩
        have HB9 := hide (bto HB.out u.2)
        go_wp2_with fail
        go_ret
        exact ⟨rfl, HB9.out⟩
end Go.Proofs.Ytpiocaomlifljaa
