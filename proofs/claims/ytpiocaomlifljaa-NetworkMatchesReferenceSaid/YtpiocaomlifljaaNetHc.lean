/-
  ref12.Find, walked.
-/
import Derived.Test.YtpiocaomlifljaaNetHb
import Derived.Test.YtpiocaomlifljaaPlainN
namespace Go.Proofs.Ytpiocaomlifljaa
open Go.RowKit Go.Proofs.PlLex Go.Proofs.PlNet

set_option maxRecDepth 100000 in
set_option maxHeartbeats 8000000 in
theorem find_any (l : List Ob) (s : BA) (v : Value) (w : World) (hv : MapW w v l) :
    Calls Try.prog 27 #[.agg #[v], .string s] w fun e w' => e = .returned (.int .i64 (findI l s)) ∧ Below w.heap.size w w' := by
  obtain ⟨R, hR⟩ : ∃ R, findI l s = R := ⟨_, rfl⟩
  rw [hR]
  have hlen := hv.len
  obtain ⟨A, c, rfl, _, hA⟩ := hv.obs
  have HA := hide hA
  obtain ⟨wa, hwa⟩ : ∃ wa, w.alloc (.cells #[.slice A l.length c] 24) = wa := ⟨_, rfl⟩
  have ha : Below w.heap.size w wa := by rw [← hwa]; exact (Below.refl _ _).alloc (Nat.le_refl _) _
  have dm : wa.cell? ⟨w.heap.size, 0, none⟩ = some (.slice A l.length c) := by rw [← hwa]; exact (blk1 (heap_alloc_new w _)).1
  have HWA := hide ha
  have HR := hide hR
  unfold maxLen at hlen
  clear hA hv ha hR
  go_enter Try.func27, Try.ntmps27
  go_wp2_with fail
  clear hwa
  go_loop [5] (fun i => ∃ k : Nat, k ≤ l.length ∧ i = .int .i64 k ∧ Hid (∀ (i : Nat) o, i < k → l[i]? = some o → o.id ≠ s)) (fun i => l.length - (intOf i).toNat)
  case atStart => exact ⟨0, Nat.zero_le _, rfl, fun i o hi => by omega⟩
  case round =>
    obtain ⟨k, hk, rfl, hn⟩ := hrel
    by_cases hlt : k < l.length
    · obtain ⟨g, o, rfl, hg, hp⟩ := HA.out.resolve_left (by rintro rfl; simp at hlt)
      obtain ⟨rv, tv, hoa⟩ := hp k _ (List.getElem?_eq_getElem hlt)
      have c0 := (hoa.below hg HWA.out).c0
      have hkt := List.getElem?_eq_getElem hlt
      have hdr := drop_ob l k hlt
      generalize l[k] = t at *
      have k0 : (0 : Int) ≤ k := by omega
      have k1 : (k : Int) < l.length := by omega
      have HL := hide hlt
      have HM := hide (show l.length - (k + 1) < l.length - k from by omega)
      have HKT := hide hkt
      by_cases e : t.id = s
      · have HZ := hide (show (k : Int) = R from by
          rw [← HR.out, findI, findN_rest s l k hk hn.out, hdr, findN, if_pos e]
          simp)
        have e1 : t.id.toList = s.toList := by rw [e]
        have e2 : (t.id.toList == s.toList) = true := by simpa using e1
        clear hp hoa hn hkt hdr hlt
        go_wp2_with fail
        go_ret
        exact ⟨by rw [HZ.out]; rfl, HWA.out⟩
      · have e1 : ¬ t.id.toList = s.toList := fun h => e (toList_inj.1 h)
        have e2 : (t.id.toList == s.toList) = false := by simpa using e1
        have HN := hide (show ∀ (i : Nat) o, i < k + 1 → l[i]? = some o → o.id ≠ s from fun i o hi ho => by
          by_cases h : i = k
          · subst h; rw [HKT.out] at ho; cases ho; exact e
          · exact hn.out i o (by omega) ho)
        clear hp hoa hn hkt hdr hlt e
        go_wp2_with fail
        refine ⟨⟨k + 1, HL.out, by go_num, HN⟩, ?_⟩
        have := HM.out
        simp [intOf]; omega
    · have HZ := hide (show (-1 : Int) = R from by
        rw [← HR.out, findI, findN_rest s l k hk hn.out, List.drop_eq_nil_of_le (by omega)]; rfl)
      clear hn
      go_wp2_with fail
      go_ret
      exact ⟨by rw [HZ.out]; rfl, HWA.out⟩
end Go.Proofs.Ytpiocaomlifljaa
