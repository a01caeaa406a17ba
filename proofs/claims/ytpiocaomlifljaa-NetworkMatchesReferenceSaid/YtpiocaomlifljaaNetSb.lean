/-
  The reference's Find (by halves), kind and Sound, walked.
-/
import Derived.Test.YtpiocaomlifljaaNetHc
import Derived.Test.YtpiocaomlifljaaPlainS
namespace Go.Proofs.Ytpiocaomlifljaa
open Go.RowKit Go.Proofs.PlLex Go.Proofs.PlNet

theorem eqS {a b : ByteArray} (h : a = b) : (a.toList == b.toList) = true ∧ a.toList = b.toList := by subst h; exact ⟨by simp, rfl⟩
theorem neS {a b : ByteArray} (h : a ≠ b) : (a.toList == b.toList) = false ∧ ¬ a.toList = b.toList := ⟨by simpa using fun e => h (toList_inj.1 e), fun e => h (toList_inj.1 e)⟩
set_option maxRecDepth 100000 in
set_option maxHeartbeats 8000000 in
theorem find13_any (l : List Ob) (s : BA) (v : Value) (w : World) (hv : MapI w v l) (hm : mapB l = true) :
    Calls Try.prog 50 #[.agg #[v], .string s] w fun e w' => e = .returned (.int .i64 (findI l s)) ∧ Below w.heap.size w w' := by
  obtain ⟨R, hR⟩ : ∃ R, findI l s = R := ⟨_, rfl⟩
  have hlen := hv.len
  have HE := hide (fun k hk h1 h2 => half_end hm (s := s) (k := k) hk h1 h2)
  rw [hR] at HE
  rw [hR]
  have HM := hide hm
  obtain ⟨A, c, rfl, _, hA⟩ := hv.obs
  have HA := hide hA
  obtain ⟨wa, hwa⟩ : ∃ wa, w.alloc (.cells #[.slice A l.length c] 24) = wa := ⟨_, rfl⟩
  have ha : Below w.heap.size w wa := by rw [← hwa]; exact (Below.refl _ _).alloc (Nat.le_refl _) _
  have dm : wa.cell? ⟨w.heap.size, 0, none⟩ = some (.slice A l.length c) := by rw [← hwa]; exact (blk1 (heap_alloc_new w _)).1
  have HWA := hide ha
  clear hA hv ha hR hm
  go_enter Try.func50, Try.ntmps50
  go_wp2_with fail
  clear hwa
  go_loop [5, 6] (fun i j => ∃ a b : Nat, a ≤ b ∧ b ≤ l.length ∧ i = .int .i64 a ∧ j = .int .i64 b ∧ Hid (∀ (i : Nat) o, i < a → l[i]? = some o → ltB o.id s = true) ∧ Hid (∀ (i : Nat) o, b ≤ i → l[i]? = some o → ltB o.id s = false)) (fun i j => (intOf j).toNat - (intOf i).toNat)
  case atStart => exact ⟨0, l.length, Nat.zero_le _, Nat.le_refl _, rfl, rfl, fun i o hi => by omega, fun i o hi ho => by have := (List.getElem?_eq_some_iff.1 ho).1; omega⟩
  case round =>
    obtain ⟨a, b, hab, hb, rfl, rfl, hl, hr⟩ := hrel
    by_cases hlt : a < b
    · obtain ⟨m, hm⟩ : ∃ m, (a + b) / 2 = m := ⟨_, rfl⟩
      have hm1 : a ≤ m := by omega
      have hm2 : m < b := by omega
      have hmn : m < l.length := by omega
      obtain ⟨g, o, rfl, hg, hp⟩ := HA.out.resolve_left (by rintro rfl; simp at hmn)
      obtain ⟨rv, tv, hoa⟩ := hp m _ (List.getElem?_eq_getElem hmn)
      have c0 := (hoa.below hg HWA.out).c0
      have hkt := List.getElem?_eq_getElem hmn
      generalize l[m] = t at *
      have a0 : (a : Int) < b := by omega
      have m0 : (0 : Int) ≤ m := by omega
      have m1 : (m : Int) < l.length := by omega
      have hq : ((a : Int) + b) / 2 = (m : Nat) := by omega
      have HQ := hide hq
      have HMA := hide hm1
      have HMB := hide hm2
      have HBL := hide hb
      cases hx : ltB t.id s with
      | true =>
        have hx2 : Go.Op.bytesLess t.id.toList s.toList = true := hx
        have HL := hide (half_left HM.out hkt hx)
        clear hx hkt hp hoa hl hq
        go_wp2_with fail
        refine ⟨⟨m + 1, b, HMB.out, HBL.out, by rw [HQ.out]; rfl, rfl, HL, hr⟩, ?_⟩
        rw [HQ.out]
        have := HMA.out
        have := HMB.out
        simp [intOf]; omega
      | false =>
        have hx2 : Go.Op.bytesLess t.id.toList s.toList = false := hx
        have HR := hide (half_right HM.out hkt hx)
        clear hx hkt hp hoa hr hq
        go_wp2_with fail
        refine ⟨⟨a, m, HMA.out, by have := HMB.out; omega, rfl, by rw [HQ.out], hl, HR⟩, ?_⟩
        rw [HQ.out]
        have := HMA.out
        have := HMB.out
        simp [intOf]; omega
    · obtain rfl : a = b := by omega
      obtain ⟨e1, e2⟩ := HE.out a hb hl.out hr.out
      clear hl hr hlt hab HE HM
      by_cases hal : a < l.length
      · obtain ⟨g, o, rfl, hg, hp⟩ := HA.out.resolve_left (by rintro rfl; simp at hal)
        obtain ⟨rv, tv, hoa⟩ := hp a _ (List.getElem?_eq_getElem hal)
        have c0 := (hoa.below hg HWA.out).c0
        have hkt := List.getElem?_eq_getElem hal
        generalize l[a] = t at *
        have m0 : (0 : Int) ≤ a := by omega
        have m1 : (a : Int) < l.length := by omega
        by_cases e : t.id = s
        · have HZ := hide (e1 t hkt e)
          obtain ⟨f1, f2⟩ := eqS e
          clear e1 e2 hp hoa hkt e hal hb
          go_wp2_with fail
          go_ret
          exact ⟨by rw [HZ.out]; rfl, HWA.out⟩
        · have HZ := hide (e2 (fun o ho => by rw [hkt] at ho; cases ho; exact e))
          obtain ⟨f1, f2⟩ := neS e
          clear e1 e2 hp hoa hkt e hal hb
          go_wp2_with fail
          go_ret
          exact ⟨by rw [HZ.out]; rfl, HWA.out⟩
      · have HZ := hide (e2 (fun o ho => by have := (List.getElem?_eq_some_iff.1 ho).1; omega))
        have n1 : ¬ (a : Int) < l.length := by omega
        clear e1 e2 hal hb
        go_wp2_with fail
        go_ret
        exact ⟨by rw [HZ.out]; rfl, HWA.out⟩
end Go.Proofs.Ytpiocaomlifljaa
