/-
  The law's raised, walked: a string in upper case and with more blanks.
-/
import Derived.Test.YtjniicmhndflpaaNamA
namespace Go.Proofs.Ytjniicmhndflpaa
open Go.RowKit Go.Proofs.PlLex Go.Proofs.PlName

/-- A list of bytes of the call's own. -/
structure BN (w : World) (q : L) (A : Option Addr) (c : Nat) (W : World) : Prop where
  own : W.ownsRow w.heap.size 5 1 (.slice A q.length c) q.length (Go.Lib.byteCells q)
  below : Below w.heap.size w W
theorem BN.alloc {w W : World} {q : L} {A : Option Addr} {c : Nat} (h : BN w q A c W) (o : Obj) : BN w q A c (W.alloc o) := ⟨h.own.alloc o, h.below.alloc h.below.size o⟩
theorem newB_cells (w : World) (v : Value) (T : TypeId) : ∀ j u, [v][j]? = some u → (w.alloc (.cells #[v] T)).cell? ((⟨w.heap.size, 0, none⟩ : Addr).add j) = some u := by
  intro j u hj
  match j, hj with
  | 0, hj => simp at hj; subst hj; simp [Addr.add]
  | (j + 1), hj => simp at hj
theorem own_slice {w : World} {B e size n : Nat} {v : Value} {xs : List Value} (h : w.ownsRow B e size v n xs) : ∃ A c, v = .slice A n c := by
  rcases h.2 with ⟨hv, hn⟩ | ⟨g, cap, cur, hv, _⟩
  · exact ⟨none, 0, by rw [hv, hn]⟩
  · exact ⟨some ⟨g, 0, none⟩, cap, hv⟩
theorem BN.grow {w W W9 : World} {q : L} {A : Option Addr} {c : Nat} (h : BN w q A c W) {v' : Value} {b : UInt8} (ho : W9.ownsRow w.heap.size 5 1 v' (q.length + 1) (Go.Lib.byteCells q ++ [.int .u8 (b.toNat : Int)])) (hg : W.grownBy W9 (Value.slice A q.length c).ownBlock) :
    ∃ A' c', v' = .slice A' (q ++ [b]).length c' ∧ BN w (q ++ [b]) A' c' W9 := by
  obtain ⟨A', c', rfl⟩ := own_slice ho
  refine ⟨A', c', by simp, ?_, h.below.grown hg h.below.size (fun k hk => (h.own.lt k hk).1)⟩
  have e : Go.Lib.byteCells (q ++ [b]) = Go.Lib.byteCells q ++ [.int .u8 (b.toNat : Int)] := by simp [Go.Lib.byteCells]
  rw [e, List.length_append]
  exact ho
theorem upper_lo (c : UInt8) (h1 : 97 ≤ (c.toNat : Int)) (h2 : (c.toNat : Int) ≤ 122) : ((upperB c).toNat : Int) = (c.toNat : Int) - 32 ∧ (upperB c == 32) = false := by
  have := PlName.all_bytes (fun c => !(decide (97 ≤ c.toNat) && decide (c.toNat ≤ 122)) || (decide ((upperB c).toNat + 32 = c.toNat) && !(upperB c == 32))) (by decide +kernel) c
  simp only [Bool.or_eq_true, Bool.not_eq_true', Bool.and_eq_false_iff, decide_eq_false_iff_not, Bool.and_eq_true, decide_eq_true_eq] at this
  rcases this with g | ⟨g1, g2⟩
  · omega
  · exact ⟨by omega, g2⟩
theorem upper_no (c : UInt8) (h : ¬ (97 ≤ (c.toNat : Int) ∧ (c.toNat : Int) ≤ 122)) : upperB c = c := by
  have := PlName.all_bytes (fun c => (decide (97 ≤ c.toNat) && decide (c.toNat ≤ 122)) || (upperB c == c)) (by decide +kernel) c
  simp only [Bool.or_eq_true, Bool.and_eq_true, decide_eq_true_eq, beq_iff_eq] at this
  rcases this with g | g
  · omega
  · exact g
theorem flat_snoc (l : L) (k : Nat) (h : k < l.length) : (l.take (k + 1)).flatMap raiseB = (l.take k).flatMap raiseB ++ raiseB l[k] := by
  rw [List.take_succ_eq_append_getElem h, List.flatMap_append]
  simp
theorem one_u8 (z : Int) : ∀ u ∈ [Value.int .u8 z], u.oneCell' = true := by intro u hu; simp at hu; subst hu; rfl
theorem len_max {n : Nat} (h : n ≤ 300001) : n + 1 ≤ maxLen := by unfold maxLen; omega
theorem len_byt {n : Nat} (h : n ≤ 300001) : (n + 1) * 1 ≤ 140737488355328 := by omega
theorem byte_of (c : UInt8) (v : Int) (h : v = (c.toNat : Int)) : Value.int .u8 v = .int .u8 (c.toNat : Int) := by rw [h]

set_option maxRecDepth 100000 in
set_option maxHeartbeats 8000000 in
theorem raised_any (s : ByteArray) (w : World) (hs : s.size ≤ 100000) :
    Calls Try.prog 8 #[.string s] w fun e w' => e = .returned (.string ⟨(raisedL s.data.toList).toArray⟩) ∧ Below w.heap.size w w' := by
  obtain ⟨i0, hi, hz0, hz1, hz2⟩ := info_parts info_byte
  have HI := hide hi
  have HZ0 := hide hz0
  have HZ1 := hide hz1
  have HZ2 := hide hz2
  obtain ⟨l, hl⟩ : ∃ l, s.data.toList = l := ⟨_, rfl⟩
  have hls : l.length = s.size := by rw [← hl]; rfl
  rw [hl]
  have hflen : ∀ k, ((l.take k).flatMap raiseB).length ≤ 2 * k := by
    have : ∀ m : L, (m.flatMap raiseB).length ≤ 2 * m.length := by
      intro m
      induction m with
      | nil => simp
      | cons c m ih =>
        have : (raiseB c).length ≤ 2 := by unfold raiseB; split <;> simp
        simp only [List.flatMap_cons, List.length_append, List.length_cons]
        omega
    intro k
    have h2 := this (l.take k)
    rw [List.length_take] at h2
    omega
  obtain ⟨R, hR⟩ : ∃ R, raisedL l = R := ⟨_, rfl⟩
  rw [hR]
  have HR := hide hR
  clear hR
  have HFL := hide hflen
  have HL0 := hide hl
  have HLS := hide hls
  clear hflen hi hz0 hz1 hz2 hl hls
  go_enter Try.func8, Try.ntmps8
  go_wp2_with fail
  go_loopw [3, 4] (fun u i wr => ∃ (k : Nat) (A : Option Addr) (c : Nat) (q : L), k ≤ s.size ∧ i = .int .i64 k ∧ u = .slice A q.length c ∧ Hid (q = 32 :: (l.take k).flatMap raiseB) ∧ Hid (BN w q A c wr)) (fun _ i _ => s.size - (intOf i).toNat)
  case atStart =>
    refine ⟨0, _, 1, [32], Nat.zero_le _, rfl, rfl, hide (by simp), ⟨?_, (Below.refl _ _).alloc (Nat.le_refl _) _⟩⟩
    exact World.ownsRow_lit w #[.int .u8 32] 1 (Nat.le_refl _) (by unfold maxLen; omega) rfl
  case round =>
    obtain ⟨k, A, c, q, hk, rfl, rfl, hq, hm⟩ := hrel
    by_cases hlt : k < s.size
    · have hkl : k < l.length := by rw [HLS.out]; exact hlt
      have hsn := flat_snoc l k hkl
      have hbl : s[k] = l[k] := by
        have := HL0.out
        subst this
        rfl
      have hql : q.length ≤ 300001 := by rw [hq.out]; have := HFL.out k; simp only [List.length_cons]; omega
      obtain ⟨b, hb⟩ : ∃ b, l[k] = b := ⟨_, rfl⟩
      rw [hb] at hsn hbl
      have HQL := hide (show q.length ≤ 300000 from by rw [hq.out]; have := HFL.out k; simp only [List.length_cons]; omega)
      have hcz : ∃ z : Int, (s[k].toNat : Int) = z ∧ (b.toNat : Int) = z := ⟨(b.toNat : Int), by rw [hbl], rfl⟩
      obtain ⟨z, hz1, hz2⟩ := hcz
      have HSN := hide (show q ++ raiseB b = 32 :: (l.take (k + 1)).flatMap raiseB from by rw [hq.out, hsn]; rfl)
      have HL := hide hlt
      have HMS := hide (show s.size - (k + 1) < s.size - k from by omega)
      have HB := hide hz2
      have HM := hide hm.out
      have hzb : 0 ≤ z ∧ z < 256 := by have := b.toNat_lt; omega
      obtain ⟨z0, z9⟩ := hzb
      have hlo := upper_lo b
      have hno := upper_no b
      have h32 : z = 32 ↔ b = 32 := by
        rw [← hz2]
        constructor
        · intro e; apply UInt8.toNat_inj.1; have : (32 : UInt8).toNat = 32 := rfl; omega
        · intro e; rw [e]; rfl
      rw [hz2] at hlo hno
      have HLO := hide hlo
      have HNO := hide hno
      have H32 := hide h32
      clear hlo hno h32 hz2 hm hq hsn hbl
      by_cases u1 : 97 ≤ z
      · by_cases u2 : z ≤ 122
        · obtain ⟨e1, e2⟩ := HLO.out u1 u2
          have hr : raiseB b = [upperB b] := by unfold raiseB; rw [e2]; rfl
          rw [hr] at HSN
          have HE1 := hide e1
          clear hr e1 e2
          go_wp2_with (at_builtin; go_must (refine wpList_append_own _ rfl (.tmp 24) (.tmp 26) 52 rfl w.heap.size 5 i0 (.int .u8 0) 1 1 Try.underlying52 HI.out HZ0.out HZ1.out HZ2.out rfl (by decide) (.slice A q.length c) q.length (Go.Lib.byteCells q) rfl (HM.out.own.alloc _) ⟨wr.heap.size, 0, none⟩ 1 1 [.int .u8 (z - 32)] rfl rfl (newB_cells wr _ _) (one_u8 _) (len_max hql) (len_byt hql) (HM.out.alloc _).below.size ?_))
          intro v' w9 hown' hgrow _
          have hm9 := (HM.out.alloc (.cells #[.int .u8 (z - 32)] 5)).grow (b := upperB b) (by rw [HE1.out]; exact hown') hgrow
          obtain ⟨A', c', rfl, hm9⟩ := hm9
          have HM9 := hide hm9
          clear hm9 hown' hgrow
          go_wp2_with fail
          refine ⟨⟨k + 1, A', c', q ++ [upperB b], HL.out, by go_num, rfl, HSN, HM9⟩, ?_⟩
          have := HMS.out
          simp [intOf]; omega
        · have e1 := HNO.out (fun g => u2 g.2)
          have e2 : ¬ z = 32 := by omega
          have hr : raiseB b = [b] := by
            unfold raiseB; rw [e1, if_neg]
            intro g
            exact e2 (H32.out.2 (by simpa using g))
          rw [hr] at HSN
          clear hr e1
          have k2 : (z == 32) = false := beq_eq_false_iff_ne.2 e2
          go_wp2_with (at_builtin; go_must (refine wpList_append_own _ rfl (.tmp 24) (.tmp 26) 52 rfl w.heap.size 5 i0 (.int .u8 0) 1 1 Try.underlying52 HI.out HZ0.out HZ1.out HZ2.out rfl (by decide) (.slice A q.length c) q.length (Go.Lib.byteCells q) rfl (HM.out.own.alloc _) ⟨wr.heap.size, 0, none⟩ 1 1 [.int .u8 z] rfl rfl (newB_cells wr _ _) (one_u8 _) (len_max hql) (len_byt hql) (HM.out.alloc _).below.size ?_))
          intro v' w9 hown' hgrow _
          have hm9 := (HM.out.alloc (.cells #[.int .u8 z] 5)).grow (b := b) (by rw [HB.out]; exact hown') hgrow
          obtain ⟨A', c', rfl, hm9⟩ := hm9
          have HM9 := hide hm9
          clear hm9 hown' hgrow
          go_wp2_with fail
          refine ⟨⟨k + 1, A', c', q ++ [b], HL.out, by go_num, rfl, HSN, HM9⟩, ?_⟩
          have := HMS.out
          simp [intOf]; omega
      · have e1 := HNO.out (fun g => u1 g.1)
        by_cases e2 : z = 32
        · have hb32 := H32.out.1 e2
          have hr : raiseB b = [b, 32] := by
            unfold raiseB; rw [e1, if_pos]
            rw [hb32]; rfl
          rw [hr] at HSN
          clear hr e1 u1
          subst e2
          go_wp2_with (at_builtin; go_must (refine wpList_append_own _ rfl (.tmp 24) (.tmp 26) 52 rfl w.heap.size 5 i0 (.int .u8 0) 1 1 Try.underlying52 HI.out HZ0.out HZ1.out HZ2.out rfl (by decide) (.slice A q.length c) q.length (Go.Lib.byteCells q) rfl (HM.out.own.alloc _) ⟨wr.heap.size, 0, none⟩ 1 1 [.int .u8 32] rfl rfl (newB_cells wr _ _) (one_u8 _) (len_max hql) (len_byt hql) (HM.out.alloc _).below.size ?_))
          intro v' w9 hown' hgrow _
          have hm9 := (HM.out.alloc (.cells #[.int .u8 32] 5)).grow (b := b) (by rw [HB.out]; exact hown') hgrow
          obtain ⟨A', c', rfl, hm9⟩ := hm9
          have HM9 := hide hm9
          have hql2 : (q ++ [b]).length ≤ 300001 := by rw [List.length_append]; have := HQL.out; simp only [List.length_cons, List.length_nil]; omega
          clear hm9 hown' hgrow
          have HSN2 := hide (show (q ++ [b]) ++ [32] = 32 :: (l.take (k + 1)).flatMap raiseB from by rw [← HSN.out]; simp)
          generalize q ++ [b] = q2 at *
          go_wp2_with (at_builtin; go_must (refine wpList_append_own _ rfl (.tmp 30) (.tmp 31) 52 rfl w.heap.size 5 i0 (.int .u8 0) 1 1 Try.underlying52 HI.out HZ0.out HZ1.out HZ2.out rfl (by decide) (.slice A' q2.length c') q2.length (Go.Lib.byteCells q2) rfl (HM9.out.own.alloc _) ⟨w9.heap.size, 0, none⟩ 1 1 [.int .u8 32] rfl rfl (newB_cells w9 _ _) (one_u8 _) (len_max hql2) (len_byt hql2) (HM9.out.alloc _).below.size ?_))
          intro v2 w8 hown2 hgrow2 _
          have hm8 := (HM9.out.alloc (.cells #[.int .u8 32] 5)).grow (b := 32) hown2 hgrow2
          obtain ⟨A2, c2, rfl, hm8⟩ := hm8
          have HM8 := hide hm8
          clear hm8 hown2 hgrow2
          go_wp2_with fail
          refine ⟨⟨k + 1, A2, c2, q2 ++ [32], HL.out, by go_num, rfl, HSN2, HM8⟩, ?_⟩
          have := HMS.out
          simp [intOf]; omega
        · have hr : raiseB b = [b] := by
            unfold raiseB; rw [e1, if_neg]
            intro g
            exact e2 (H32.out.2 (by simpa using g))
          rw [hr] at HSN
          clear hr e1
          have k2 : (z == 32) = false := beq_eq_false_iff_ne.2 e2
          go_wp2_with (at_builtin; go_must (refine wpList_append_own _ rfl (.tmp 24) (.tmp 26) 52 rfl w.heap.size 5 i0 (.int .u8 0) 1 1 Try.underlying52 HI.out HZ0.out HZ1.out HZ2.out rfl (by decide) (.slice A q.length c) q.length (Go.Lib.byteCells q) rfl (HM.out.own.alloc _) ⟨wr.heap.size, 0, none⟩ 1 1 [.int .u8 z] rfl rfl (newB_cells wr _ _) (one_u8 _) (len_max hql) (len_byt hql) (HM.out.alloc _).below.size ?_))
          intro v' w9 hown' hgrow _
          have hm9 := (HM.out.alloc (.cells #[.int .u8 z] 5)).grow (b := b) (by rw [HB.out]; exact hown') hgrow
          obtain ⟨A', c', rfl, hm9⟩ := hm9
          have HM9 := hide hm9
          clear hm9 hown' hgrow
          go_wp2_with fail
          refine ⟨⟨k + 1, A', c', q ++ [b], HL.out, by go_num, rfl, HSN, HM9⟩, ?_⟩
          have := HMS.out
          simp [intOf]; omega
    · obtain rfl : k = s.size := by omega
      have hqf : raisedL l = q ++ [10] := by
        rw [hq.out, List.take_of_length_le (by rw [HLS.out]; exact Nat.le_refl _)]
        rfl
      have hql : q.length ≤ 300001 := by rw [hq.out]; have := HFL.out s.size; simp only [List.length_cons]; omega
      rw [HR.out] at hqf
      have HQF := hide hqf
      have HM := hide hm.out
      clear hqf hq hm
      go_wp2_with (at_builtin; go_must (refine wpList_append_own _ rfl (.tmp 33) (.tmp 34) 52 rfl w.heap.size 5 i0 (.int .u8 0) 1 1 Try.underlying52 HI.out HZ0.out HZ1.out HZ2.out rfl (by decide) (.slice A q.length c) q.length (Go.Lib.byteCells q) rfl (HM.out.own.alloc _) ⟨wr.heap.size, 0, none⟩ 1 1 [.int .u8 10] rfl rfl (newB_cells wr _ _) (one_u8 _) (len_max hql) (len_byt hql) (HM.out.alloc _).below.size ?_))
      intro v' w9 hown' hgrow _
      have hm9 := (HM.out.alloc (.cells #[.int .u8 10] 5)).grow (b := 10) hown' hgrow
      obtain ⟨A', c', rfl, hm9⟩ := hm9
      have hne : ∃ g, A' = some ⟨g, 0, none⟩ := by
        rcases hm9.own.2 with ⟨_, h0⟩ | ⟨g, cap, cur, hv, _⟩
        · simp at h0
        · simp only [Value.slice.injEq] at hv
          exact ⟨g, hv.1⟩
      obtain ⟨g, rfl⟩ := hne
      rw [← HQF.out] at hm9 ⊢
      have hbk := run_convert_bytes_back (P := Try.prog) w9 52 9 5 ⟨g, 0, none⟩ c' R Try.underlying52 Try.underlying5 Try.underlying9 (fun j hj => by
        rw [addr_add, hm9.own.cellAt j (by omega)]
        unfold Go.Lib.byteCells
        rw [List.getElem?_map, List.getElem?_eq_getElem hj]
        rfl)
      have HB9 := hide hm9.below
      clear hm9 hown' hgrow
      go_wp2_with fail
      go_ret
      exact ⟨rfl, HB9.out⟩
end Go.Proofs.Ytjniicmhndflpaa
