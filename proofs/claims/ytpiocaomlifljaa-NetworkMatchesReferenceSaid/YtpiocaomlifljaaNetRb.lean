/-
  ref12.In, and the law's named and passes, walked.
-/
import Derived.Test.YtpiocaomlifljaaNetRa
namespace Go.Proofs.Ytpiocaomlifljaa
open Go.RowKit Go.Proofs.PlLex Go.Proofs.PlNet

set_option maxRecDepth 100000 in
set_option maxHeartbeats 8000000 in
theorem in_any (l : List BA) (s : BA) (v : Value) (w : World) (hv : StS w v l) (hl : l.length ≤ 100000) :
    Calls Try.prog 28 #[v, .string s] w fun e w' => e = .returned (.bool (hasS s l)) ∧ w = w' := by
  obtain ⟨R, hR⟩ : ∃ R, hasS s l = R := ⟨_, rfl⟩
  rw [hR]
  have HR := hide hR
  obtain ⟨A, c, rfl, _, hA⟩ := hv
  have HA := hide hA
  clear hA hR
  go_enter Try.func28, Try.ntmps28
  go_wp2_with fail
  go_loop [5] (fun i => ∃ k : Nat, k ≤ l.length ∧ i = .int .i64 k ∧ Hid (hasS s (l.drop k) = R)) (fun i => l.length - (intOf i).toNat)
  case atStart => exact ⟨0, Nat.zero_le _, rfl, HR⟩
  case round =>
    obtain ⟨k, hk, rfl, hn⟩ := hrel
    by_cases hlt : k < l.length
    · obtain ⟨g, o, rfl, hg, hp⟩ := HA.out.resolve_left (by rintro rfl; simp at hlt)
      have c0 := hp k _ (List.getElem?_eq_getElem hlt)
      have hn2 := hn.out
      rw [List.drop_eq_getElem_cons hlt, hasS_cons] at hn2
      generalize l[k] = t at *
      have k0 : (0 : Int) ≤ k := by omega
      have k1 : (k : Int) < l.length := by omega
      have HL := hide hlt
      have HM := hide (show l.length - (k + 1) < l.length - k from by omega)
      by_cases e : t = s
      · obtain ⟨e2, e1⟩ := eqS e
        rw [e2] at hn2
        have HZ := hide hn2
        clear hp hn hn2 hlt e
        go_wp2_with fail
        go_ret
        exact ⟨ret_bool HZ.out, rfl⟩
      · obtain ⟨e2, e1⟩ := neS e
        rw [e2, Bool.false_or] at hn2
        have HZ := hide hn2
        clear hp hn hn2 hlt e
        go_wp2_with fail
        refine ⟨⟨k + 1, HL.out, by go_num, HZ⟩, ?_⟩
        have := HM.out
        simp [intOf]; omega
    · have hz : R = false := by rw [← hn.out, List.drop_eq_nil_of_le (by omega)]; rfl
      have HZ := hide hz
      clear hn hz
      go_wp2_with fail
      go_ret
      exact ⟨ret_bool HZ.out.symm, rfl⟩
set_option maxRecDepth 100000 in
set_option maxHeartbeats 8000000 in
theorem named_any (L : List (Int × BA)) (k : Int) (s : BA) (v : Value) (w : World) (hv : ViS w v L) (hl : L.length ≤ 100000) :
    Calls Try.prog 26 #[v, .int .i64 k, .string s] w fun e w' => e = .returned (.bool (L.any (fun x => decide (x.1 = k) && decide (x.2 = s)))) ∧ w = w' := by
  obtain ⟨R, hR⟩ : ∃ R, L.any (fun x => decide (x.1 = k) && decide (x.2 = s)) = R := ⟨_, rfl⟩
  rw [hR]
  have HR := hide hR
  obtain ⟨A, c, rfl, hA⟩ := hv
  have HA := hide hA
  clear hA hR
  go_enter Try.func26, Try.ntmps26
  go_wp2_with fail
  go_loop [7] (fun i => ∃ m : Nat, m ≤ L.length ∧ i = .int .i64 m ∧ Hid ((L.drop m).any (fun x => decide (x.1 = k) && decide (x.2 = s)) = R)) (fun i => L.length - (intOf i).toNat)
  case atStart => exact ⟨0, Nat.zero_le _, rfl, HR⟩
  case round =>
    obtain ⟨m, hm, rfl, hn⟩ := hrel
    by_cases hlt : m < L.length
    · obtain ⟨g, o, rfl, hg, hp⟩ := HA.out.resolve_left (by rintro rfl; simp at hlt)
      obtain ⟨b, c0, c1, c2, hbl, c3⟩ := hp m _ (List.getElem?_eq_getElem hlt)
      have hn2 := hn.out
      rw [List.drop_eq_getElem_cons hlt, List.any_cons] at hn2
      generalize L[m] = t at *
      obtain ⟨t1, t2⟩ := t
      simp only at c1 c3 hn2
      have k0 : (0 : Int) ≤ m := by omega
      have k1 : (m : Int) < L.length := by omega
      have HL := hide hlt
      have HM := hide (show L.length - (m + 1) < L.length - m from by omega)
      by_cases e : t1 = k
      · subst e
        rw [decide_eq_true rfl, Bool.true_and] at hn2
        by_cases e : t2 = s
        · rw [decide_eq_true e] at hn2
          obtain ⟨e2, e1⟩ := eqS e
          have HZ := hide hn2
          clear hp hn hn2 hlt e hbl
          go_wp2_with fail
          go_ret
          exact ⟨ret_bool HZ.out, rfl⟩
        · rw [decide_eq_false e, Bool.false_or] at hn2
          obtain ⟨e2, e1⟩ := neS e
          have HZ := hide hn2
          clear hp hn hn2 hlt e hbl
          go_wp2_with fail
          refine ⟨⟨m + 1, HL.out, by go_num, HZ⟩, ?_⟩
          have := HM.out
          simp [intOf]; omega
      · rw [decide_eq_false e, Bool.false_and, Bool.false_or] at hn2
        have HZ := hide hn2
        have e2 : (t1 == k) = false := beq_eq_false_iff_ne.2 e
        clear hp hn hn2 hlt hbl
        go_wp2_with fail
        refine ⟨⟨m + 1, HL.out, by go_num, HZ⟩, ?_⟩
        have := HM.out
        simp [intOf]; omega
    · have hz : R = false := by rw [← hn.out, List.drop_eq_nil_of_le (by omega)]; rfl
      have HZ := hide hz
      clear hn hz
      go_wp2_with fail
      go_ret
      exact ⟨ret_bool HZ.out.symm, rfl⟩

theorem i64_and1 (n : Int) : Go.bits .and .i64 n 1 = n % 2 := by
  have h1 : (BitVec.ofInt 64 1).toNat = 2 ^ 1 - 1 := by decide
  have key : (BitVec.ofInt 64 n &&& BitVec.ofInt 64 1).toNat = (n % ((2 ^ 64 : Nat) : Int)).toNat % 2 ^ 1 := by
    rw [BitVec.toNat_and, BitVec.toNat_ofInt, h1, Nat.and_two_pow_sub_one_eq_mod]
  show IntKind.i64.wrap ((BitVec.ofInt 64 n &&& BitVec.ofInt 64 1).toNat : Nat) = n % 2
  rw [key, IntKind.wrap_i64]
  omega
theorem bit_int (b k : Nat) : (Go.bits .and .i64 ((b : Int) / 2 ^ k) 1 == 1) = decide (b / 2 ^ k % 2 = 1) := by
  rw [i64_and1, show ((b : Int) / 2 ^ k) = ((b / 2 ^ k : Nat) : Int) by push_cast; rfl, Bool.eq_iff_iff, beq_iff_eq, decide_eq_true_eq]
  omega
theorem findO_of_neg {l : List Ob} {s : BA} (h : findI l s = -1) : findO l s = none := by
  unfold findI at h
  cases e : findO l s with
  | none => rfl
  | some p =>
    obtain ⟨h1, h2⟩ := findO_some e
    cases e2 : findN s l with
    | none => exact (findN_none s l e2 p h1 h2).elim
    | some j => rw [e2] at h; simp at h
theorem passP_none {l : List Ob} {b : Nat} {fl : Bool} {a s : BA} {r : List BA} (h : findO l s = none) : passP l b fl a (s :: r) = false := by rw [passP, h]
theorem passP_empty {l : List Ob} {b : Nat} {fl : Bool} {a s : BA} {r : List BA} {p : Ob} (h : findO l s = some p) (h2 : p.refs = []) : passP l b fl a (s :: r) = false := by rw [passP, h]; simp [h2]
theorem passP_one {l : List Ob} {b : Nat} {fl : Bool} {a s : BA} {r : List BA} {p : Ob} (h : findO l s = some p) (h2 : p.refs ≠ []) (hb : b % 2 = 1) : passP l b fl a (s :: r) = ((fl || decide (p.refs.getLastD ⟨#[]⟩ = a)) && passP l (b / 2) false (p.refs.headD ⟨#[]⟩) r) := by rw [passP, h]; simp only [if_neg h2, if_pos hb]
theorem passP_zero {l : List Ob} {b : Nat} {fl : Bool} {a s : BA} {r : List BA} {p : Ob} (h : findO l s = some p) (h2 : p.refs ≠ []) (hb : ¬ b % 2 = 1) : passP l b fl a (s :: r) = ((fl || decide (p.refs.headD ⟨#[]⟩ = a)) && passP l (b / 2) false (p.refs.getLastD ⟨#[]⟩) r) := by rw [passP, h]; simp only [if_neg h2, if_neg hb]
theorem ends_at {r : List BA} (h : r ≠ []) : r[0]? = some (r.headD ⟨#[]⟩) ∧ r[r.length - 1]? = some (r.getLastD ⟨#[]⟩) := by
  cases r with
  | nil => exact (h rfl).elim
  | cons x r => exact ⟨rfl, by rw [← List.getLast?_eq_getElem?, List.getLast?_eq_some_getLast (by simp)]; simp [List.getLastD]⟩
set_option maxRecDepth 100000 in
set_option maxHeartbeats 16000000 in
theorem passes_any (l : List Ob) (v : Value) (ways : List BA) (wv : Value) (b : Nat) (w : World) (hv : MapW w v l) (hok : ∀ o ∈ l, o.refs.length ≤ 100000) (hw : StS w wv ways) (hl : ways.length ≤ 60) :
    Calls Try.prog 25 #[.agg #[v], wv, .int .i64 b] w fun e w' => e = .returned (.bool (passP l b true ⟨#[]⟩ ways)) ∧ Below w.heap.size w w' := by
  obtain ⟨R, hR⟩ : ∃ R, passP l b true ⟨#[]⟩ ways = R := ⟨_, rfl⟩
  rw [hR]
  have HR : Hid (passP l (b / 2 ^ 0) (decide (0 = 0)) ⟨#[]⟩ (ways.drop 0) = R) := by
    rw [← hR, Nat.pow_zero, Nat.div_one]; rfl
  have HV := hide hv
  have HOK := hide hok
  have HLN := hide hv.len
  obtain ⟨A, c, rfl, _, hA⟩ := id hv.obs
  have HA := hide hA
  obtain ⟨Aw, cw, rfl, _, hW⟩ := hw
  have HW := hide hW
  obtain ⟨wo, hwo⟩ : ∃ wo, w.alloc (.cells #[.slice A l.length c] 24) = wo := ⟨_, rfl⟩
  have HBO : Hid (Below w.heap.size w wo) := by rw [← hwo]; exact (Below.refl _ _).alloc (Nat.le_refl _) _
  have HMB : Hid (wo.heap[w.heap.size]? = some (.cells #[.slice A l.length c] 24 (0, 0))) := by rw [← hwo]; exact heap_alloc_new w _
  clear hA hv hR hW hok
  go_enter Try.func25, Try.ntmps25
  go_wp2_with fail
  clear hwo
  go_loopw [7, 8] (fun at' i wr => ∃ (k : Nat) (a : BA), k ≤ ways.length ∧ at' = .string a ∧ i = .int .i64 k ∧ Hid (passP l (b / 2 ^ k) (decide (k = 0)) a (ways.drop k) = R) ∧ Hid (Below wo.heap.size wo wr)) (fun _ i _ => ways.length - (intOf i).toNat)
  case atStart => exact ⟨0, _, Nat.zero_le _, rfl, rfl, HR, Below.refl _ _⟩
  case round =>
    obtain ⟨k, a, hk, rfl, rfl, hn, hbw⟩ := hrel
    by_cases hlt : k < ways.length
    · obtain ⟨g, off, rfl, hg, hp⟩ := HW.out.resolve_left (by intro e; rw [e] at hlt; simp at hlt)
      have hx := List.getElem?_eq_getElem hlt
      have hn2 := hn.out
      rw [List.drop_eq_getElem_cons hlt] at hn2
      generalize ways[k] = s at *
      have C0 : ∀ u : Gls wo, u.w.cell? ⟨g, off + k, none⟩ = some (.string s) := fun u => ((bto HBO.out u.2).cell (p := ⟨g, _, none⟩) hg).trans (hp k s hx)
      have E0 : ∀ u : Gls wo, u.w.cell? ⟨w.heap.size, 0, none⟩ = some (.slice A l.length c) := fun u => (blk1 (blkB u.2 HMB.out)).1
      have FF := hide (fun u : Gls wo => find_any l s _ u.w (HV.out.below (bto HBO.out u.2)))
      have YN : Nonempty (Gls wo) := ⟨⟨_, hbw.out⟩⟩
      have k0 : (0 : Int) ≤ k := by omega
      have k1 : (k : Int) < ways.length := by omega
      have hbd := bto hbw.out (below_drew wr)
      have HL := hide hlt
      have HMS := hide (show ways.length - (k + 1) < ways.length - k from by omega)
      clear hlt hx hp hn hbw
      rcases findI_cases l s with hf | ⟨j, hf1, hf, hjl⟩
      · rw [passP_none (findO_of_neg hf)] at hn2
        have HZ := hide hn2
        rw [hf] at FF
        clear hf hn2
        go_wp2_with fail
        refine wp_region_quietW (J := Gls wo) Gls.w ⟨_, hbd⟩ rfl (by kernel_rfl) (by kernel_rfl) ?_
        repeat (go_big_quiet_step (((with_reducible refine (FF.out _).mono ?_); rintro _ w8 ⟨rfl, b8⟩; exact ⟨rfl, Gls.go _ b8⟩)))
        refine wpQuiet_nil ?_
        rintro w9 ⟨u, rfl⟩
        have HB := hide (bto HBO.out u.2)
        clear FF
        go_wp2_with fail
        go_ret
        exact ⟨ret_bool HZ.out, HB.out⟩
      · obtain ⟨p, hpj, _, _, hfo⟩ := findN_some s l j hf1
        obtain ⟨g2, o2, rfl, hg2, hp2⟩ := HA.out.resolve_left (by intro e; rw [e] at hjl; simp at hjl)
        obtain ⟨rvp, tvp, hoa⟩ := hp2 j p hpj
        obtain ⟨Ar, cr, hrv, _, hAr⟩ := id hoa.refs
        subst hrv
        have hrl := HOK.out p (List.mem_of_getElem? hpj)
        have X4 : ∀ u : Gls wo, u.w.cell? ⟨g2, o2 + j * 6 + 4, none⟩ = some (.slice Ar p.refs.length cr) := fun u => (hoa.below hg2 (bto HBO.out u.2)).c4
        have j0 : (0 : Int) ≤ j := by omega
        have j1 : (j : Int) < l.length := by omega
        have j2 : ¬ (j : Int) < 0 := by omega
        rw [hf] at FF
        by_cases he : p.refs = []
        · rw [passP_empty hfo he] at hn2
          have HZ := hide hn2
          have hl0 : p.refs.length = 0 := by rw [he]; rfl
          rw [hl0] at X4
          clear hf hf1 hfo hjl hpj hp2 hoa hAr hrl hl0 he hn2
          go_wp2_with fail
          refine wp_region_quietW (J := Gls wo) Gls.w ⟨_, hbd⟩ rfl (by kernel_rfl) (by kernel_rfl) ?_
          repeat (go_big_quiet_step (((with_reducible refine (FF.out _).mono ?_); rintro _ w8 ⟨rfl, b8⟩; exact ⟨rfl, Gls.go _ b8⟩)))
          refine wpQuiet_nil ?_
          rintro w9 ⟨u, rfl⟩
          have HB := hide (bto HBO.out u.2)
          clear FF
          go_wp2_with fail
          go_ret
          exact ⟨ret_bool HZ.out, HB.out⟩
        · obtain ⟨g3, o3, rfl, hg3, hp3⟩ := hAr.resolve_left he
          obtain ⟨q1, q2⟩ := ends_at he
          have hpos : 0 < p.refs.length := List.length_pos_iff.2 he
          have HP1 := hide (fun hb => passP_one (b := b / 2 ^ k) (fl := decide (k = 0)) (a := a) (r := ways.drop (k + 1)) hfo he hb)
          have HP0 := hide (fun hb => passP_zero (b := b / 2 ^ k) (fl := decide (k = 0)) (a := a) (r := ways.drop (k + 1)) hfo he hb)
          generalize p.refs.headD ⟨#[]⟩ = F at *
          generalize p.refs.getLastD ⟨#[]⟩ = Z at *
          have Y0 : ∀ u : Gls wo, u.w.cell? ⟨g3, o3, none⟩ = some (.string F) := fun u => ((bto HBO.out u.2).cell (p := ⟨g3, _, none⟩) hg3).trans (by have := hp3 0 _ q1; rw [Nat.add_zero] at this; exact this)
          have Y1 : ∀ u : Gls wo, u.w.cell? ⟨g3, o3 + (p.refs.length - 1), none⟩ = some (.string Z) := fun u => ((bto HBO.out u.2).cell (p := ⟨g3, _, none⟩) hg3).trans (hp3 _ _ q2)
          clear hf hf1 hfo hjl hpj hp2 hoa hAr he q1 q2 hp3
          generalize p.refs.length = m at *
          have m0 : (0 : Int) < m := by omega
          have m1 : ¬ m = 0 := by omega
          have m2 : ((m : Int) == 0) = false := beq_eq_false_iff_ne.2 (by omega)
          have s0 : IntKind.i64.wrap ((m : Int) - 1) = (m : Int) - 1 := IntWalk.i64_in _ (by omega)
          have s1 : ((m : Int) - 1).toNat = m - 1 := by omega
          have HN := hide hn2
          have hkw : k ≤ 60 := by omega
          have hmin : min k 64 = k := by omega
          clear hn2
          go_wp2_with fail
          refine wp_region_quietW (J := Gls wo) Gls.w ⟨_, hbd⟩ rfl (by kernel_rfl) (by kernel_rfl) ?_
          repeat (go_big_quiet_step (((with_reducible refine (FF.out _).mono ?_); rintro _ w8 ⟨rfl, b8⟩; exact ⟨rfl, Gls.go _ b8⟩)))
          refine wpQuiet_nil ?_
          rintro w9 ⟨u, rfl⟩
          have hbd := bto u.2 (below_drew u.w)
          clear FF
          go_wp2_with fail
          refine wp_region_quietW (J := Gls wo) Gls.w ⟨_, hbd⟩ rfl (by kernel_rfl) (by kernel_rfl) ?_
          repeat (go_big_quiet_step (fail))
          refine wpQuiet_nil ?_
          rintro w9 ⟨u2, rfl⟩
          have HB2 := hide (show Below wo.heap.size wo u2.w from u2.2)
          cases hbt : (Go.bits .and .i64 ((b : Int) / 2 ^ k) 1 == 1) with
          | true =>
            have hbd2 : b / 2 ^ k % 2 = 1 := by
              rw [bit_int] at hbt
              simpa using hbt
            have hn3 := HN.out
            rw [HP1.out hbd2, Nat.div_div_eq_div_mul, ← Nat.pow_succ] at hn3
            clear hbd2 HP1 HP0
            by_cases hk0 : k = 0
            · have HZ : Hid (passP l (b / 2 ^ (k + 1)) (decide (k + 1 = 0)) F (ways.drop (k + 1)) = R) := by
                rw [decide_eq_true hk0, Bool.true_or, Bool.true_and] at hn3
                rw [decide_eq_false (by omega)]
                exact hn3
              have z1 : ¬ (0 : Int) < k := by omega
              clear hn3 hk0
              go_wp2_with fail
              refine ⟨⟨k + 1, F, HL.out, rfl, by go_num, HZ, HB2⟩, ?_⟩
              have := HMS.out
              simp [intOf]; omega
            · have z1 : (0 : Int) < k := by omega
              rw [decide_eq_false hk0, Bool.false_or] at hn3
              by_cases he : Z = a
              · have HZ : Hid (passP l (b / 2 ^ (k + 1)) (decide (k + 1 = 0)) F (ways.drop (k + 1)) = R) := by
                  rw [decide_eq_true he, Bool.true_and] at hn3
                  rw [decide_eq_false (by omega)]
                  exact hn3
                obtain ⟨t1, t2⟩ := eqS he
                clear hn3 hk0 he
                go_wp2_with fail
                refine ⟨⟨k + 1, F, HL.out, rfl, by go_num, HZ, HB2⟩, ?_⟩
                have := HMS.out
                simp [intOf]; omega
              · rw [decide_eq_false he, Bool.false_and] at hn3
                have HZ := hide hn3
                have HB := hide (bto HBO.out HB2.out)
                obtain ⟨t1, t2⟩ := neS he
                clear hn3 hk0 he
                go_wp2_with fail
                go_ret
                exact ⟨ret_bool HZ.out, HB.out⟩
          | false =>
            have hbd2 : ¬ b / 2 ^ k % 2 = 1 := by
              rw [bit_int] at hbt
              simpa using hbt
            have hn3 := HN.out
            rw [HP0.out hbd2, Nat.div_div_eq_div_mul, ← Nat.pow_succ] at hn3
            clear hbd2 HP1 HP0
            by_cases hk0 : k = 0
            · have HZ : Hid (passP l (b / 2 ^ (k + 1)) (decide (k + 1 = 0)) Z (ways.drop (k + 1)) = R) := by
                rw [decide_eq_true hk0, Bool.true_or, Bool.true_and] at hn3
                rw [decide_eq_false (by omega)]
                exact hn3
              have z1 : ¬ (0 : Int) < k := by omega
              clear hn3 hk0
              go_wp2_with fail
              refine ⟨⟨k + 1, Z, HL.out, rfl, by go_num, HZ, HB2⟩, ?_⟩
              have := HMS.out
              simp [intOf]; omega
            · have z1 : (0 : Int) < k := by omega
              rw [decide_eq_false hk0, Bool.false_or] at hn3
              by_cases he : F = a
              · have HZ : Hid (passP l (b / 2 ^ (k + 1)) (decide (k + 1 = 0)) Z (ways.drop (k + 1)) = R) := by
                  rw [decide_eq_true he, Bool.true_and] at hn3
                  rw [decide_eq_false (by omega)]
                  exact hn3
                obtain ⟨t1, t2⟩ := eqS he
                clear hn3 hk0 he
                go_wp2_with fail
                refine ⟨⟨k + 1, Z, HL.out, rfl, by go_num, HZ, HB2⟩, ?_⟩
                have := HMS.out
                simp [intOf]; omega
              · rw [decide_eq_false he, Bool.false_and] at hn3
                have HZ := hide hn3
                have HB := hide (bto HBO.out HB2.out)
                obtain ⟨t1, t2⟩ := neS he
                clear hn3 hk0 he
                go_wp2_with fail
                go_ret
                exact ⟨ret_bool HZ.out, HB.out⟩
    · have hz : R = true := by rw [← hn.out, List.drop_eq_nil_of_le (by omega)]; rfl
      have HZ := hide hz
      have HB := hide (bto HBO.out hbw.out)
      clear hn hz hbw
      go_wp2_with fail
      go_ret
      exact ⟨ret_bool HZ.out.symm, HB.out⟩
end Go.Proofs.Ytpiocaomlifljaa
