/-
  ref11.Valid and ref13.Valid, walked (from wip/net, pruned).
-/
import Derived.Test.YtfkgjbdeicggaaaGreatTopN
import Derived.Test.YtfkgjbdeicggaaaGreatGeoC
import Derived.Test.YtfkgjbdeicggaaaGreatLexG
import Derived.Test.YtfkgjbdeicggaaaGreatLexI
namespace Go.Proofs.YtfkgjbdeicggaaaGreat
open Go.RowKit Go.Proofs.PlLex Go.Proofs.PlNet Go.Proofs.PlMap

/-- The cells of an object's box. -/
theorem box6 {W : World} {b : Nat} {a0 a1 a2 a3 a4 a5 : Value} {t : TypeId} (h : W.heap[b]? = some (.cells #[a0, a1, a2, a3, a4, a5] t (0, 0))) : W.cell? ⟨b, 0, none⟩ = some a0 ∧ W.cell? ⟨b, 1, none⟩ = some a1 ∧ W.cell? ⟨b, 2, none⟩ = some a2 ∧ W.cell? ⟨b, 3, none⟩ = some a3 ∧ W.cell? ⟨b, 4, none⟩ = some a4 ∧ W.cell? ⟨b, 5, none⟩ = some a5 :=
  ⟨cell_of_row W _ 0 _ _ _ h, cell_of_row W _ 1 _ _ _ h, cell_of_row W _ 2 _ _ _ h, cell_of_row W _ 3 _ _ _ h, cell_of_row W _ 4 _ _ _ h, cell_of_row W _ 5 _ _ _ h⟩
end Go.Proofs.YtfkgjbdeicggaaaGreat

namespace Go.Proofs.YtfkgjbdeicggaaaGreat
open Go.RowKit Go.Proofs.PlLex Go.Proofs.PlNet Go.Proofs.PlMap
attribute [local go_sem] Oper.semAt_some run_makeMap

/-- The map of what is referred to, so far. -/
structure UsI (w3 : World) (bm : Nat) (S : List BA) (W : World) : Prop where
  ml : ∃ M, MapS W bm M ∧ (∀ x, getL M x = if hasS x S then some (.bool true) else none) ∧ M.length ≤ S.length
  ge : w3.heap.size ≤ bm
  below : Below w3.heap.size w3 W
theorem UsI.lift {w3 : World} {bm : Nat} {S : List BA} {W W' : World} (h : UsI w3 bm S W) (hb : Below W.heap.size W W') : UsI w3 bm S W' := by
  obtain ⟨⟨M, h4, h5⟩, h6, h7⟩ := h
  exact ⟨⟨M, h4.kept (row := none) ⟨hb.os, hb.tape, hb.output, hb.size, fun i hi _ => hb.block i hi⟩ (by simp), h5⟩, h6, bto h7 hb⟩
theorem UsI.made (w3 : World) : UsI w3 w3.heap.size [] (w3.alloc (.map #[] 0)) :=
  ⟨⟨[], mapL_made _ w3, fun _ => rfl, Nat.le_refl _⟩, Nat.le_refl _, (Below.refl _ _).alloc (Nat.le_refl _) _⟩
theorem UsI.put {w3 : World} {bm : Nat} {S : List BA} {W : World} (h : UsI w3 bm S W) (s : BA) (hs : s.size ≤ 100000) (hl : S.length ≤ 1000000000) :
    ∃ W1, (Instr.mapUpdate 166 (.map (some bm)) (.string s) (.bool true)).run Tryz.prog W = .ok () W1 ∧ UsI w3 bm (s :: S) W1 := by
  obtain ⟨⟨M, h4, h5, h6⟩, h7, h8⟩ := h
  have hok : s.size ≤ maxLen := Nat.le_trans hs (by unfold maxLen; omega)
  obtain ⟨W1, hst, hml, htu⟩ := h4.store Tryz.underlying166 (by unfold maxLen; omega) (x := s) hok (.bool true)
  refine ⟨W1, hst, ⟨_, hml, seen_put h5 s, by rw [putL_len]; simp only [List.length_cons]; split <;> omega⟩, h7, belowK_map h8 h7 htu⟩
theorem UsI.look {w3 : World} {bm : Nat} {S : List BA} {W : World} (h : UsI w3 bm S W) (s : BA) (hs : s.size ≤ 100000) :
    (Instr.lookup 166 (.map (some bm)) (.string s) false).run Tryz.prog W = .ok (.bool (hasS s S)) W := by
  obtain ⟨⟨M, h4, h5, h6⟩, h7, h8⟩ := h
  have hok : s.size ≤ maxLen := Nat.le_trans hs (by unfold maxLen; omega)
  have hlook := h4.look Tryz.underlying166 zero_bool (x := s) hok
  have e1 : (getL M s).getD (.bool false) = .bool (hasS s S) := by rw [h5]; cases hasS s S <;> rfl
  rw [e1] at hlook
  exact hlook
end Go.Proofs.YtfkgjbdeicggaaaGreat

namespace Go.Proofs.YtfkgjbdeicggaaaGreat
open Go.RowKit Go.Proofs.PlLex Go.Proofs.PlNet Go.Proofs.PlMap

set_option maxRecDepth 100000 in
set_option maxHeartbeats 4000000 in
theorem rgrid_any (x y : Int) (w : World) : Calls Tryz.prog 149 #[.agg #[.int .i64 x, .int .i64 y]] w fun e w' => e = .returned (.bool (gridB x y)) ∧ Below w.heap.size w w' := by
  go_enter Tryz.func149, Tryz.ntmps149
  go_wp2_with fail
  all_goals go_ret
  all_goals refine ⟨ret_bool ?_, (Below.refl _ _).alloc (Nat.le_refl _) _⟩
  all_goals (unfold gridB; rw [Bool.eq_iff_iff]; simp; omega)
set_option maxRecDepth 100000 in
set_option maxHeartbeats 4000000 in
theorem rword_any (k : Int) (w : World) : Calls Tryz.prog 151 #[.int .i64 k] w fun e w' => e = .returned (.string (wordS k)) ∧ Below w.heap.size w w' := by
  have HB : ∀ o : Obj, Below w.heap.size w (w.alloc o) := fun o => (Below.refl _ _).alloc (Nat.le_refl _) o
  rcases kinds k with h | rfl | rfl | rfl | rfl | rfl | rfl | h
  case inl =>
    have HW := hide (wordS_out k (.inl (by omega)))
    have h0 : k < 1 := by omega
    go_enter Tryz.func151, Tryz.ntmps151
    go_wp2_with fail
    go_ret
    exact ⟨ret_str HW.out.symm, HB _⟩
  case inr.inr.inr.inr.inr.inr.inr =>
    have HW := hide (wordS_out k (.inr (by omega)))
    have h0 : ¬ k < 1 := by omega
    have h5 : 5 < k := by omega
    go_enter Tryz.func151, Tryz.ntmps151
    go_wp2_with fail
    go_ret
    exact ⟨ret_str HW.out.symm, HB _⟩
  all_goals
    go_enter Tryz.func151, Tryz.ntmps151
    go_wp2_with fail
    refine bodyPost_ret (v := .string (wordS _)) (by simp [results, Tryz.f151, go_sem]; decide) rfl ⟨rfl, HB _⟩
theorem less_nil (a : List UInt8) : Go.Op.bytesLess a [] = false := by cases a <;> rfl
theorem name_first {s : ByteArray} (h : name s.data.toList = true) : Go.Op.bytesLess s.toList (⟨#[]⟩ : ByteArray).toList = false ∧ (s.toList == (⟨#[]⟩ : ByteArray).toList) = false := by
  have e : (⟨#[]⟩ : ByteArray).toList = [] := by rw [ByteArray.toList_eq]
  rw [e]
  refine ⟨less_nil _, ?_⟩
  rw [beq_eq_false_iff_ne, ByteArray.toList_eq]
  intro e2
  rw [e2] at h
  cases h
theorem less_or (a b : List UInt8) : (!Go.Op.bytesLess b a && !(b == a)) = Go.Op.bytesLess a b := by
  cases h : Go.Op.bytesLess a b with
  | true =>
    obtain ⟨h1, h2⟩ := less_asymm h
    rw [h1, beq_eq_false_iff_ne.2 (fun e => h2 e.symm)]
    rfl
  | false =>
    by_cases e : b = a
    · subst e; simp
    · rw [less_tri h (fun e2 => e e2.symm)]
      rfl
/-- The key before, if there is one. -/
def lastK (l : List Tg) (k : Nat) : ByteArray := if k = 0 then ⟨#[]⟩ else (l.getD (k - 1) ⟨⟨#[]⟩, ⟨#[]⟩⟩).k
theorem lastK_next {l : List Tg} {k : Nat} {t : Tg} (h : l[k]? = some t) : lastK l (k + 1) = t.k := by
  unfold lastK
  rw [if_neg (by omega), show k + 1 - 1 = k by omega, List.getD_eq_getElem?_getD, h]
  rfl
set_option maxRecDepth 100000 in
set_option maxHeartbeats 8000000 in
theorem rtags_any (l : List Tg) (v : Value) (w : World) (hv : TgS w v l) (hs : ∀ t ∈ l, t.k.size ≤ maxLen ∧ t.v.size ≤ maxLen) :
    Calls Tryz.prog 152 #[v] w fun e w' => e = .returned (.bool (tagsB l)) ∧ Below w.heap.size w w' := by
  obtain ⟨R, hR⟩ : ∃ R, tagsB l = R := ⟨_, rfl⟩
  rw [hR]
  obtain ⟨A, c, rfl, hA⟩ := hv
  have HA := hide hA
  have HS := hide hs
  clear hA hs
  by_cases h60 : l.length ≤ 60
  · have HR : Hid (tagL (lastK l 0) (l.drop 0) = R) := by
      unfold tagsB at hR
      rw [decide_eq_true h60, Bool.and_true] at hR
      exact hide hR
    clear hR
    go_enter Tryz.func152, Tryz.ntmps152
    go_wp2_with fail
    go_loopw [3] (fun i wr => ∃ (k : Nat), k ≤ l.length ∧ i = .int .i64 k ∧ Hid (Below w.heap.size w wr) ∧ Hid (tagL (lastK l k) (l.drop k) = R)) (fun i _ => l.length - (intOf i).toNat)
    case atStart => exact ⟨0, Nat.zero_le _, rfl, Below.refl _ _, HR⟩
    case round =>
      obtain ⟨k, hk, rfl, hb, hr⟩ := hrel
      by_cases hlt : k < l.length
      · obtain ⟨g, o, rfl, hg, hp⟩ := HA.out.resolve_left (by rintro rfl; simp at hlt)
        have hkt := List.getElem?_eq_getElem hlt
        have hr2 := hr.out
        rw [drop_tg l k hlt, tagL] at hr2
        obtain ⟨hs1, hs2⟩ := HS.out _ (List.getElem_mem hlt)
        generalize l[k] = t at *
        have C0 : ∀ u : Gls w, u.w.cell? ⟨g, o + k * 2, none⟩ = some (.string t.k) := fun u => (u.2.cell (p := ⟨g, _, none⟩) hg).trans (hp k t hkt).1
        have C1 : ∀ u : Gls w, u.w.cell? ⟨g, o + k * 2 + 1, none⟩ = some (.string t.v) := fun u => (u.2.cell (p := ⟨g, _, none⟩) hg).trans (hp k t hkt).2
        have HN := hide (fun u : Gls w => rname_any t.k u.w hs1)
        have YN : Nonempty (Gls w) := ⟨⟨_, hb.out⟩⟩
        have hbd := bto hb.out (below_drew wr)
        have k0 : (0 : Int) ≤ k := by omega
        have k1 : (k : Int) < l.length := by omega
        have HL := hide hlt
        have HM := hide (show l.length - (k + 1) < l.length - k from by omega)
        have HR2 := hide hr2
        have HP := hide hp
        have HLK := hide (lastK_next hkt)
        clear hr hr2 hp hlt hkt hb
        cases hn : name t.k.data.toList with
        | false =>
          have HZ := hide (show R = false from by rw [← HR2.out, hn]; simp)
          rw [hn] at HN
          clear hn
          go_wp2_with fail
          refine wp_region_quietW (J := Gls w) Gls.w ⟨_, hbd⟩ rfl (by kernel_rfl) (by kernel_rfl) ?_
          repeat (go_big_quiet_step (((with_reducible refine (HN.out _).mono ?_); rintro _ w8 ⟨rfl, rfl⟩; exact ⟨rfl, Gls.go _ (Below.refl _ _)⟩)))
          refine wpQuiet_nil ?_
          rintro w9 ⟨u, rfl⟩
          have HB2 := hide (show Below w.heap.size w u.w from u.2)
          go_wp2_with fail
          go_ret
          exact ⟨ret_bool HZ.out.symm, HB2.out⟩
        | true =>
          obtain ⟨nf1, nf2⟩ := name_first hn
          have HR3 := HR2.out
          rw [hn, Bool.true_and] at HR3
          rw [hn] at HN
          clear hn
          by_cases hv0 : t.v.size < 1
          · have HZ := hide (show R = false from by
              have e : t.v.toList.isEmpty = true := by
                rw [ByteArray.toList_eq, List.isEmpty_iff, ← List.length_eq_zero_iff]
                have : t.v.data.toList.length = t.v.size := rfl
                omega
              rw [← HR3, e]; simp)
            have d0 : decide ((t.v.size : Int) < 1) = true := decide_eq_true (by omega)
            have d1 : decide (t.v.size < 1) = true := decide_eq_true hv0
            have d2 : t.v.size = 0 := by omega
            clear HR3
            go_wp2_with fail
            refine wp_region_quietW (J := Gls w) Gls.w ⟨_, hbd⟩ rfl (by kernel_rfl) (by kernel_rfl) ?_
            repeat (go_big_quiet_step (((with_reducible refine (HN.out _).mono ?_); rintro _ w8 ⟨rfl, rfl⟩; exact ⟨rfl, Gls.go _ (Below.refl _ _)⟩)))
            refine wpQuiet_nil ?_
            rintro w9 ⟨u, rfl⟩
            have HB2 := hide (show Below w.heap.size w u.w from u.2)
            go_wp2_with fail
            go_ret
            exact ⟨ret_bool HZ.out.symm, HB2.out⟩
          · have d0 : decide ((t.v.size : Int) < 1) = false := decide_eq_false (by omega)
            have d2 : ¬ t.v.size = 0 := by omega
            have e : t.v.toList.isEmpty = false := by
              cases e : t.v.toList.isEmpty with
              | false => rfl
              | true =>
                exfalso
                rw [ByteArray.toList_eq, List.isEmpty_iff, ← List.length_eq_zero_iff] at e
                have : t.v.data.toList.length = t.v.size := rfl
                omega
            rw [e] at HR3
            clear e
            by_cases hv2 : 200 < t.v.size
            · have HZ := hide (show R = false from by rw [← HR3, decide_eq_false (by omega)]; simp)
              have d3 : decide ((200 : Int) < t.v.size) = true := decide_eq_true (by omega)
              clear HR3
              go_wp2_with fail
              refine wp_region_quietW (J := Gls w) Gls.w ⟨_, hbd⟩ rfl (by kernel_rfl) (by kernel_rfl) ?_
              repeat (go_big_quiet_step (((with_reducible refine (HN.out _).mono ?_); rintro _ w8 ⟨rfl, rfl⟩; exact ⟨rfl, Gls.go _ (Below.refl _ _)⟩)))
              refine wpQuiet_nil ?_
              rintro w9 ⟨u, rfl⟩
              have HB2 := hide (show Below w.heap.size w u.w from u.2)
              go_wp2_with fail
              go_ret
              exact ⟨ret_bool HZ.out.symm, HB2.out⟩
            · have d3 : decide ((200 : Int) < t.v.size) = false := decide_eq_false (by omega)
              rw [decide_eq_true (show t.v.size ≤ 200 by omega)] at HR3
              by_cases hk0 : k = 0
              · have z0 : decide (0 < k) = false := decide_eq_false (by omega)
                have HZ : Hid (tagL (lastK l (k + 1)) (l.drop (k + 1)) = R) := by
                  rw [HLK.out, ← HR3]
                  unfold lastK
                  rw [if_pos hk0, nf1, nf2]
                  exact hide rfl
                clear HR3 hk0
                go_wp2_with fail
                refine wp_region_quietW (J := Gls w) Gls.w ⟨_, hbd⟩ rfl (by kernel_rfl) (by kernel_rfl) ?_
                repeat (go_big_quiet_step (((with_reducible refine (HN.out _).mono ?_); rintro _ w8 ⟨rfl, rfl⟩; exact ⟨rfl, Gls.go _ (Below.refl _ _)⟩)))
                refine wpQuiet_nil ?_
                rintro w9 ⟨u, rfl⟩
                have HB2 := hide (show Below w.heap.size w u.w from u.2)
                go_wp2_with fail
                refine ⟨⟨k + 1, HL.out, by go_num, HB2, HZ⟩, ?_⟩
                have := HM.out
                simp [intOf]; omega
              · have z0 : decide (0 < k) = true := decide_eq_true (by omega)
                have hlj : k - 1 < l.length := by have := HL.out; omega
                have hkj := List.getElem?_eq_getElem hlj
                have hlk : lastK l k = (l[k - 1]).k := by
                  unfold lastK
                  rw [if_neg hk0, List.getD_eq_getElem?_getD, hkj]
                  rfl
                rw [hlk] at HR3
                generalize l[k - 1] = s at *
                have D0 : ∀ u : Gls w, u.w.cell? ⟨g, o + (k - 1) * 2, none⟩ = some (.string s.k) := fun u => (u.2.cell (p := ⟨g, _, none⟩) hg).trans (HP.out (k - 1) s hkj).1
                have s0 : IntKind.i64.wrap ((k : Int) - 1) = (k : Int) - 1 := IntWalk.i64_in _ (by omega)
                have s1 : ((k : Int) - 1).toNat = k - 1 := by omega
                have s2 : (0 : Int) ≤ (k : Int) - 1 := by omega
                have s3 : (k : Int) - 1 < l.length := by omega
                have hor := less_or s.k.toList t.k.toList
                cases hls : Go.Op.bytesLess s.k.toList t.k.toList with
                | true =>
                  rw [hls] at hor
                  have HZ : Hid (tagL (lastK l (k + 1)) (l.drop (k + 1)) = R) := by
                    rw [HLK.out, ← HR3, hor]
                    exact hide rfl
                  clear HR3 hk0 hkj hlj hlk hor
                  go_wp2_with fail
                  refine wp_region_quietW (J := Gls w) Gls.w ⟨_, hbd⟩ rfl (by kernel_rfl) (by kernel_rfl) ?_
                  repeat (go_big_quiet_step (((with_reducible refine (HN.out _).mono ?_); rintro _ w8 ⟨rfl, rfl⟩; exact ⟨rfl, Gls.go _ (Below.refl _ _)⟩)))
                  refine wpQuiet_nil ?_
                  rintro w9 ⟨u, rfl⟩
                  have HB2 := hide (show Below w.heap.size w u.w from u.2)
                  go_wp2_with fail
                  refine ⟨⟨k + 1, HL.out, by go_num, HB2, HZ⟩, ?_⟩
                  have := HM.out
                  simp [intOf]; omega
                | false =>
                  rw [hls] at hor
                  have HZ := hide (show R = false from by rw [← HR3, hor]; rfl)
                  clear HR3 hk0 hkj hlj hlk hor
                  go_wp2_with fail
                  refine wp_region_quietW (J := Gls w) Gls.w ⟨_, hbd⟩ rfl (by kernel_rfl) (by kernel_rfl) ?_
                  repeat (go_big_quiet_step (((with_reducible refine (HN.out _).mono ?_); rintro _ w8 ⟨rfl, rfl⟩; exact ⟨rfl, Gls.go _ (Below.refl _ _)⟩)))
                  refine wpQuiet_nil ?_
                  rintro w9 ⟨u, rfl⟩
                  have HB2 := hide (show Below w.heap.size w u.w from u.2)
                  go_wp2_with fail
                  go_ret
                  exact ⟨ret_bool HZ.out.symm, HB2.out⟩
      · have hz : R = true := by rw [← hr.out, List.drop_eq_nil_of_le (by omega)]; rfl
        have HZ := hide hz
        have HB := hide hb.out
        clear hz hr hb
        go_wp2_with fail
        go_ret
        exact ⟨ret_bool HZ.out.symm, HB.out⟩
  · have HZ := hide (show R = false from by rw [← hR]; unfold tagsB; rw [decide_eq_false h60, Bool.and_false])
    have h61 : (60 : Int) < l.length := by omega
    clear hR
    go_enter Tryz.func152, Tryz.ntmps152
    go_wp2_with fail
    go_ret
    exact ⟨ret_bool HZ.out.symm, Below.refl _ _⟩
end Go.Proofs.YtfkgjbdeicggaaaGreat

namespace Go.Proofs.YtfkgjbdeicggaaaGreat
open Go.RowKit Go.Proofs.PlLex Go.Proofs.PlNet Go.Proofs.PlMap
attribute [local go_sem] Oper.semAt_some run_makeMap

/-- How many references the reference wants of a kind. -/
def lenB (k : Int) (n : Nat) : Bool := if k = 1 then decide (n = 0) else if k = 2 then decide (2 ≤ n) else if k = 3 then decide (3 ≤ n) else if k = 4 then decide (1 ≤ n) else decide (n = 3)
def rrefsB (o : Ob) : Bool := decide (o.refs.length ≤ 2000) && (refsB o.kind [] ⟨#[]⟩ o.refs && lenB o.kind o.refs.length)
def lastR (l : List BA) (k : Nat) : BA := if k = 0 then ⟨#[]⟩ else l.getD (k - 1) ⟨#[]⟩
theorem lastR_next {l : List BA} {k : Nat} {s : BA} (h : l[k]? = some s) : lastR l (k + 1) = s := by
  unfold lastR
  rw [if_neg (by omega), show k + 1 - 1 = k by omega, List.getD_eq_getElem?_getD, h]
  rfl
theorem lastR_at {l : List BA} {k : Nat} (h0 : ¬ k = 0) (h : k ≤ l.length) : l[k - 1]? = some (lastR l k) := by
  have hlt : k - 1 < l.length := by omega
  unfold lastR
  rw [if_neg h0, List.getD_eq_getElem?_getD, List.getElem?_eq_getElem hlt]
  rfl
theorem beq_flip (a b : List UInt8) : (a == b) = (b == a) := by
  rw [Bool.eq_iff_iff, beq_iff_eq, beq_iff_eq]; exact eq_comm
theorem wrong_eq (K : Int) (S : List BA) (refs : List BA) (k : Nat) (s : BA) : wrongB K S (lastR refs k) s = (!name s.data.toList || ((K == 2) && (decide (0 < k) && ((lastR refs k).toList == s.toList)) || (K == 3) && hasS s S)) := by
  unfold wrongB
  rw [beq_flip s.toList]
  cases hn : name s.data.toList with
  | false => simp
  | true =>
    by_cases hk : k = 0
    · subst hk
      obtain ⟨_, h2⟩ := name_first hn
      have : ((lastR refs 0).toList == s.toList) = false := by rw [beq_flip]; exact h2
      rw [this]
      simp
    · rw [decide_eq_true (show 0 < k by omega)]
      simp
def Uss (w3 : World) (bm : Nat) (S : List BA) : Type := {W : World // UsI w3 bm S W}
def Uss.w {w3 : World} {bm : Nat} {S : List BA} (u : Uss w3 bm S) : World := u.1
theorem Uss.go {w3 : World} {bm : Nat} {S : List BA} (u : Uss w3 bm S) {w8 : World} (hb : Below u.w.heap.size u.w w8) : ∃ u' : Uss w3 bm S, w8 = u'.w := ⟨⟨w8, u.2.lift hb⟩, rfl⟩
theorem bool_of {b : Bool} : ∃ c : Bool, b = c := ⟨_, rfl⟩
set_option maxRecDepth 100000 in
set_option maxHeartbeats 16000000 in
theorem rrefs_any (o : Ob) (rv tv : Value) (w : World) (hr : StS w rv o.refs) (ht : TgS w tv o.tags) (hs : ∀ s ∈ o.refs, s.size ≤ 100000) :
    Calls Tryz.prog 153 #[.agg (obV o rv tv)] w fun e w' => e = .returned (.bool (rrefsB o)) ∧ Below w.heap.size w w' := by
  obtain ⟨R, hR⟩ : ∃ R, rrefsB o = R := ⟨_, rfl⟩
  rw [hR]
  obtain ⟨A, c, rfl, _, hA⟩ := hr
  obtain ⟨At, ct, rfl, _⟩ := ht
  have HA := hide hA
  have HS := hide hs
  clear hA hs
  unfold obV
  by_cases h2k : 2000 < o.refs.length
  · have HZ := hide (show R = false from by rw [← hR]; unfold rrefsB; rw [decide_eq_false (by omega)]; rfl)
    have h61 : (2000 : Int) < o.refs.length := by omega
    clear hR
    go_enter Tryz.func153, Tryz.ntmps153
    go_wp2_with fail
    go_ret
    exact ⟨ret_bool HZ.out.symm, (Below.refl _ _).alloc (Nat.le_refl _) _⟩
  · have HR : Hid ((refsB o.kind [] (lastR o.refs 0) (o.refs.drop 0) && lenB o.kind o.refs.length) = R) := by
      unfold rrefsB at hR
      rw [decide_eq_true (show o.refs.length ≤ 2000 by omega), Bool.true_and] at hR
      exact hide hR
    have h61 : ¬ (2000 : Int) < o.refs.length := by omega
    obtain ⟨wo, hwo⟩ : ∃ wo, w.alloc (.cells #[.string o.id, .int .i64 o.kind, .int .i64 o.x, .int .i64 o.y, .slice A o.refs.length c, .slice At o.tags.length ct] 47) = wo := ⟨_, rfl⟩
    have HBO : Hid (Below w.heap.size w wo) := by rw [← hwo]; exact (Below.refl _ _).alloc (Nat.le_refl _) _
    have hbl : wo.heap[w.heap.size]? = some (.cells #[.string o.id, .int .i64 o.kind, .int .i64 o.x, .int .i64 o.y, .slice A o.refs.length c, .slice At o.tags.length ct] 47 (0, 0)) := by rw [← hwo]; exact heap_alloc_new _ _
    have HBL := hide hbl
    obtain ⟨d0, d1, d2, d3, d4, d5⟩ := box6 hbl
    obtain ⟨wm, hwm⟩ : ∃ wm, wo.alloc (.map #[] 0) = wm := ⟨_, rfl⟩
    have hus := UsI.made wo
    rw [hwm] at hus
    have HUS := hide hus
    have HSZ : Hid (wo.heap.size = w.heap.size + 1) := by rw [← hwo]; exact hide (by simp)
    clear hR hus hbl
    go_enter Tryz.func153, Tryz.ntmps153
    go_wp2_with fail
    clear hwo hwm d0 d1 d2 d3 d4 d5
    generalize wo.heap.size = bm at *
    go_loopw [5] (fun i wr => ∃ (k : Nat) (S : List BA), k ≤ o.refs.length ∧ i = .int .i64 k ∧ Hid (S.length = k) ∧ Hid (UsI wo bm S wr) ∧ Hid ((refsB o.kind S (lastR o.refs k) (o.refs.drop k) && lenB o.kind o.refs.length) = R)) (fun i _ => o.refs.length - (intOf i).toNat)
    case atStart => exact ⟨0, [], Nat.zero_le _, rfl, rfl, HUS, HR⟩
    case round =>
      obtain ⟨k, S, hk, rfl, hsl, hus, hr⟩ := hrel
      by_cases hlt : k < o.refs.length
      · obtain ⟨g, off, rfl, hg, hp⟩ := HA.out.resolve_left (by intro e; rw [e] at hlt; simp at hlt)
        have hx := List.getElem?_eq_getElem hlt
        have hsz := HS.out _ (List.getElem_mem hlt)
        have hr2 := hr.out
        rw [List.drop_eq_getElem_cons hlt, refsB, wrong_eq] at hr2
        generalize o.refs[k] = s at *
        have C0 : ∀ u : Uss wo bm S, u.w.cell? ⟨g, off + k, none⟩ = some (.string s) := fun u => ((bto HBO.out u.2.below).cell (p := ⟨g, _, none⟩) hg).trans (hp k s hx)
        have D1 : ∀ u : Uss wo bm S, u.w.cell? ⟨w.heap.size, 1, none⟩ = some (.int .i64 o.kind) := fun u => (box6 (blkB u.2.below HBL.out)).2.1
        have D4 : ∀ u : Uss wo bm S, u.w.cell? ⟨w.heap.size, 4, none⟩ = some (.slice (some ⟨g, off, none⟩) o.refs.length c) := fun u => (box6 (blkB u.2.below HBL.out)).2.2.2.2.1
        have P0 : 0 < k → ∀ u : Uss wo bm S, u.w.cell? ⟨g, off + (k - 1), none⟩ = some (.string (lastR o.refs k)) := fun h u => ((bto HBO.out u.2.below).cell (p := ⟨g, _, none⟩) hg).trans (hp (k - 1) _ (lastR_at (by omega) hk))
        have HN := hide (fun u : Uss wo bm S => rname_any s u.w (Nat.le_trans hsz (by unfold maxLen; omega)))
        have LK : ∀ u : Uss wo bm S, (Instr.lookup 166 (.map (some bm)) (.string s) false).run Tryz.prog u.w = .ok (.bool (hasS s S)) u.w := fun u => UsI.look u.2 s hsz
        have YN : Nonempty (Uss wo bm S) := ⟨⟨_, hus.out⟩⟩
        have hbd := hus.out.lift (below_drew wr)
        have k0 : (0 : Int) ≤ k := by omega
        have k1 : (k : Int) < o.refs.length := by omega
        have HL := hide hlt
        have HM := hide (show o.refs.length - (k + 1) < o.refs.length - k from by omega)
        have s0 : IntKind.i64.wrap ((k : Int) - 1) = (k : Int) - 1 := IntWalk.i64_in _ (by omega)
        have s1 : ((k : Int) - 1).toNat = k - 1 := by omega
        have s3 : (k : Int) - 1 < o.refs.length := by omega
        have HNX := hide (lastR_next hx)
        obtain ⟨nb, hnb⟩ := bool_of (b := name s.data.toList)
        obtain ⟨k2, hk2⟩ := bool_of (b := (o.kind == 2))
        obtain ⟨k3, hk3⟩ := bool_of (b := (o.kind == 3))
        obtain ⟨kp, hkp⟩ := bool_of (b := decide (0 < k))
        obtain ⟨pe, hpe⟩ := bool_of (b := ((lastR o.refs k).toList == s.toList))
        obtain ⟨sn, hsn⟩ := bool_of (b := hasS s S)
        rw [hnb, hk2, hk3, hkp, hpe, hsn] at hr2
        rw [hnb] at HN
        rw [hsn] at LK
        have HR2 := hide hr2
        have HSL := hide hsl.out
        have HSZ2 := hide hsz
        have hcs : (nb = false ∨ (nb = true ∧ k2 = true ∧ kp = true ∧ pe = true) ∨ (nb = true ∧ k2 = false ∧ k3 = true ∧ sn = true)) ∨ ((nb = true ∧ k2 = true ∧ kp = false ∧ k3 = false) ∨ (nb = true ∧ k2 = true ∧ kp = true ∧ pe = false ∧ k3 = false) ∨ (nb = true ∧ k2 = false ∧ k3 = true ∧ sn = false) ∨ (nb = true ∧ k2 = false ∧ k3 = false)) := by
          have hx23 : k2 = true → k3 = false := by
            intro h
            rw [← hk3]
            rw [h, beq_iff_eq] at hk2
            rw [hk2]; rfl
          cases nb <;> cases k2 <;> cases k3 <;> cases kp <;> cases pe <;> cases sn <;> simp_all
        have s2 : kp = true → (0 : Int) ≤ (k : Int) - 1 := by
          intro h; rw [h, decide_eq_true_eq] at hkp; omega
        have P1 : kp = true → ∀ u : Uss wo bm S, u.w.cell? ⟨g, off + (k - 1), none⟩ = some (.string (lastR o.refs k)) := fun h => by
          rw [h, decide_eq_true_eq] at hkp; exact P0 hkp
        generalize lastR o.refs k = pr at *
        have pe2 : pe = false → ¬ pr.toList = s.toList := fun h => by rw [h] at hpe; exact fun e => by rw [e] at hpe; simp at hpe
        have pe3 : pe = true → pr.toList = s.toList := fun h => by rw [h] at hpe; simpa using hpe
        clear P0 hr hr2 hsl hus hp hlt hx hsz hnb hsn
        rcases hcs with hcs | hcs
        · have HZ : Hid (R = false) := by
            rw [← HR2.out]
            rcases hcs with rfl | ⟨rfl, rfl, rfl, rfl⟩ | ⟨rfl, rfl, rfl, rfl⟩ <;> exact hide (by simp)
          rcases hcs with rfl | ⟨rfl, rfl, rfl, rfl⟩ | ⟨rfl, rfl, rfl, rfl⟩
          all_goals as_aux_lemma =>
            try replace s2 := s2 rfl
            try replace P1 := P1 rfl
            try replace pe3 := pe3 rfl
            go_wp2_with fail
            refine wp_region_quietW (J := Uss wo bm S) Uss.w ⟨_, hbd⟩ rfl (by kernel_rfl) (by kernel_rfl) ?_
            repeat (go_big_quiet_step (((with_reducible refine (HN.out _).mono ?_); rintro _ w8 ⟨rfl, rfl⟩; exact ⟨rfl, Uss.go _ (Below.refl _ _)⟩)))
            refine wpQuiet_nil ?_
            rintro w9 ⟨u, rfl⟩
            have HB2 := hide (bto HBO.out u.2.below)
            go_wp2_with fail
            go_ret
            exact ⟨ret_bool HZ.out.symm, HB2.out⟩
        · have HZ : Hid ((refsB o.kind (s :: S) (lastR o.refs (k + 1)) (o.refs.drop (k + 1)) && lenB o.kind o.refs.length) = R) := by
            rw [HNX.out, ← HR2.out]
            rcases hcs with ⟨rfl, rfl, rfl, rfl⟩ | ⟨rfl, rfl, rfl, rfl, rfl⟩ | ⟨rfl, rfl, rfl, rfl⟩ | ⟨rfl, rfl, rfl⟩ <;> exact hide (by simp)
          rcases hcs with ⟨rfl, rfl, rfl, rfl⟩ | ⟨rfl, rfl, rfl, rfl, rfl⟩ | ⟨rfl, rfl, rfl, rfl⟩ | ⟨rfl, rfl, rfl⟩
          all_goals as_aux_lemma =>
            try replace s2 := s2 rfl
            try replace P1 := P1 rfl
            try replace pe2 := pe2 rfl
            go_wp2_with fail
            refine wp_region_quietW (J := Uss wo bm S) Uss.w ⟨_, hbd⟩ rfl (by kernel_rfl) (by kernel_rfl) ?_
            repeat (go_big_quiet_step (((with_reducible refine (HN.out _).mono ?_); rintro _ w8 ⟨rfl, rfl⟩; exact ⟨rfl, Uss.go _ (Below.refl _ _)⟩)))
            refine wpQuiet_nil ?_
            rintro w9 ⟨u, rfl⟩
            obtain ⟨W1, hst, hus1⟩ := UsI.put u.2 s HSZ2.out (by have := HSL.out; omega)
            have hst' : (Instr.mapUpdate 166 (.map (some bm)) (.string s) (.bool true)).run Tryz.prog u.w = .ok () W1 := hst
            have HU1 := hide hus1
            clear hst hus1
            go_wp2_with fail
            refine ⟨⟨k + 1, s :: S, HL.out, by go_num, hide (by have := HSL.out; simp [this]), HU1, HZ⟩, ?_⟩
            have := HM.out
            simp [intOf]; omega
      · obtain rfl : k = o.refs.length := by omega
        have hz := hr.out
        rw [List.drop_length, refsB, Bool.true_and] at hz
        have HB2 := hide (bto HBO.out hus.out.below)
        have d1 := (box6 (blkB hus.out.below HBL.out)).2.1
        have HZ := hide hz
        clear hz hr hus hlt hsl
        generalize o.refs.length = n at *
        have hks : o.kind = 1 ∨ o.kind = 2 ∨ o.kind = 3 ∨ o.kind = 4 ∨ (o.kind ≠ 1 ∧ o.kind ≠ 2 ∧ o.kind ≠ 3 ∧ o.kind ≠ 4) := by omega
        rcases hks with h | h | h | h | ⟨h1, h2, h3, h4⟩
        · have HY : Hid (decide (n = 0) = R) := by have := HZ.out; rw [h] at this; exact hide this
          rw [h] at d1
          go_wp2_with fail
          go_ret
          exact ⟨ret_bool (by rw [← HY.out, Bool.eq_iff_iff]; simp), HB2.out⟩
        · have HY : Hid (decide (2 ≤ n) = R) := by have := HZ.out; rw [h] at this; exact hide this
          rw [h] at d1
          go_wp2_with fail
          go_ret
          exact ⟨ret_bool (by rw [← HY.out, Bool.eq_iff_iff]; simp; try omega), HB2.out⟩
        · have HY : Hid (decide (3 ≤ n) = R) := by have := HZ.out; rw [h] at this; exact hide this
          rw [h] at d1
          go_wp2_with fail
          go_ret
          exact ⟨ret_bool (by rw [← HY.out, Bool.eq_iff_iff]; simp; try omega), HB2.out⟩
        · have HY : Hid (decide (1 ≤ n) = R) := by have := HZ.out; rw [h] at this; exact hide this
          rw [h] at d1
          go_wp2_with fail
          go_ret
          exact ⟨ret_bool (by rw [← HY.out, Bool.eq_iff_iff]; simp; try omega), HB2.out⟩
        · have HY : Hid (decide (n = 3) = R) := by
            have := HZ.out
            unfold lenB at this
            rw [if_neg h1, if_neg h2, if_neg h3, if_neg h4] at this
            exact hide this
          have q1 : (o.kind == 1) = false := beq_eq_false_iff_ne.2 h1
          have q2 : (o.kind == 2) = false := beq_eq_false_iff_ne.2 h2
          have q3 : (o.kind == 3) = false := beq_eq_false_iff_ne.2 h3
          have q4 : (o.kind == 4) = false := beq_eq_false_iff_ne.2 h4
          go_wp2_with fail
          go_ret
          exact ⟨ret_bool (by rw [← HY.out, Bool.eq_iff_iff]; simp; try omega), HB2.out⟩
end Go.Proofs.YtfkgjbdeicggaaaGreat

namespace Go.Proofs.YtfkgjbdeicggaaaGreat
open Go.RowKit Go.Proofs.PlLex Go.Proofs.PlNet Go.Proofs.PlMap

def atB (o : Ob) : Bool := if o.kind = 1 then gridB o.x o.y else decide (o.x = 0 ∧ o.y = 0)
def kindB (k : Int) : Bool := decide (1 ≤ k ∧ k ≤ 5)
theorem obB_ref (o : Ob) : obB o = (name o.id.data.toList && (kindB o.kind && (atB o && (tagsB o.tags && rrefsB o)))) := by
  unfold obB headB tailB rrefsB atB kindB lenB
  by_cases hk : 1 ≤ o.kind ∧ o.kind ≤ 5
  · rw [decide_eq_true hk]
    have h : o.kind = 1 ∨ o.kind = 2 ∨ o.kind = 3 ∨ o.kind = 4 ∨ o.kind = 5 := by omega
    rcases h with h | h | h | h | h
    · simp only [h, leastK]
      simp
      cases name o.id.data.toList <;> cases tagsB o.tags <;> cases refsB 1 [] ⟨#[]⟩ o.refs <;> cases gridB o.x o.y <;> simp
    · simp only [h, leastK]
      simp
      cases name o.id.data.toList <;> cases tagsB o.tags <;> cases refsB 2 [] ⟨#[]⟩ o.refs <;> cases decide (2 ≤ o.refs.length) <;> cases decide (o.refs.length ≤ 2000) <;> cases decide (o.x = 0) <;> simp
    · simp only [h, leastK]
      simp
      cases name o.id.data.toList <;> cases tagsB o.tags <;> cases refsB 3 [] ⟨#[]⟩ o.refs <;> cases decide (3 ≤ o.refs.length) <;> cases decide (o.refs.length ≤ 2000) <;> cases decide (o.x = 0) <;> simp
    · simp only [h, leastK]
      simp
      cases name o.id.data.toList <;> cases tagsB o.tags <;> cases refsB 4 [] ⟨#[]⟩ o.refs <;> cases decide (1 ≤ o.refs.length) <;> cases decide (o.refs.length ≤ 2000) <;> cases decide (o.x = 0) <;> simp
    · simp only [h, leastK]
      simp
      by_cases h3 : o.refs.length = 3
      · simp [h3]
        cases name o.id.data.toList <;> cases tagsB o.tags <;> cases refsB 5 [] ⟨#[]⟩ o.refs <;> cases decide (o.x = 0) <;> simp
      · simp [h3]
  · rw [decide_eq_false hk]
    simp
set_option maxRecDepth 100000 in
set_option maxHeartbeats 16000000 in
theorem rvalid11_any (o : Ob) (rv tv : Value) (w : World) (hr : StS w rv o.refs) (ht : TgS w tv o.tags) (ho : okO o) :
    Calls Tryz.prog 105 #[.agg (obV o rv tv)] w fun e w' => e = .returned (.bool (obB o)) ∧ Below w.heap.size w w' := by
  rw [obB_ref]
  have HRF := hide (fun W (h : Below w.heap.size w W) => rrefs_any o rv tv W (hr.below h) (ht.below h) ho.2.2.1)
  have HTG := hide (fun W (h : Below w.heap.size w W) => rtags_any o.tags tv W (ht.below h) ho.2.2.2.2)
  have HNA := hide (fun W => rname_any o.id W (Nat.le_trans ho.1 (by unfold maxLen; omega)))
  obtain ⟨A, c, rfl, _⟩ := hr
  obtain ⟨At, ct, rfl, _⟩ := ht
  unfold obV at *
  obtain ⟨nb, hnb⟩ := bool_of (b := name o.id.data.toList)
  obtain ⟨kb, hkb⟩ := bool_of (b := kindB o.kind)
  obtain ⟨ab, hab⟩ := bool_of (b := atB o)
  obtain ⟨tb, htb⟩ := bool_of (b := tagsB o.tags)
  obtain ⟨rb, hrb⟩ := bool_of (b := rrefsB o)
  rw [hnb] at HNA
  rw [htb] at HTG
  rw [hrb] at HRF
  rw [hnb, hkb, hab, htb, hrb]
  have HWD : Hid (∀ W, Calls Tryz.prog 151 #[.int .i64 o.kind] W fun e w' => e = .returned (.string (wordS o.kind)) ∧ Below W.heap.size W w') := hide (fun W => rword_any o.kind W)
  have hwe : (wordS o.kind).toList.isEmpty = !kb := by
    rw [← hkb]
    unfold kindB
    by_cases hk : 1 ≤ o.kind ∧ o.kind ≤ 5
    · rw [decide_eq_true hk, wordS_in _ hk.1 hk.2]; rfl
    · rw [decide_eq_false hk, wordS_out _ (by omega)]
      rw [ByteArray.toList_eq]; rfl
  have hwp : kb = true → ¬ (wordS o.kind).toList = [] := fun h e => by rw [e, h] at hwe; cases hwe
  have hwq : kb = false → (wordS o.kind).toList = [] := fun h => by rw [h] at hwe; simpa using hwe
  generalize wordS o.kind = wd at *
  obtain ⟨wo, hwo⟩ : ∃ wo, w.alloc (.cells #[.string o.id, .int .i64 o.kind, .int .i64 o.x, .int .i64 o.y, .slice A o.refs.length c, .slice At o.tags.length ct] 47) = wo := ⟨_, rfl⟩
  have hbo : Below w.heap.size w wo := by rw [← hwo]; exact (Below.refl _ _).alloc (Nat.le_refl _) _
  have hbl : wo.heap[w.heap.size]? = some (.cells #[.string o.id, .int .i64 o.kind, .int .i64 o.x, .int .i64 o.y, .slice A o.refs.length c, .slice At o.tags.length ct] 47 (0, 0)) := by rw [← hwo]; exact heap_alloc_new _ _
  obtain ⟨d0, d1, d2, d3, d4, d5⟩ := box6 hbl
  have d3' : wo.cell? ⟨w.heap.size, 2 + 1, none⟩ = some (.int .i64 o.y) := d3
  have HON := hide (rgrid_any o.x o.y wo)
  have HBO := hide hbo
  have HBL := hide hbl
  clear hnb hkb htb hrb hbo hbl
  have fin : ∀ (W : World), Below wo.heap.size wo W → W.cell? ⟨w.heap.size, 0, none⟩ = some (.string o.id) ∧ W.cell? ⟨w.heap.size, 1, none⟩ = some (.int .i64 o.kind) ∧ W.cell? ⟨w.heap.size, 2, none⟩ = some (.int .i64 o.x) ∧ W.cell? ⟨w.heap.size, 3, none⟩ = some (.int .i64 o.y) ∧ W.cell? ⟨w.heap.size, 4, none⟩ = some (.slice A o.refs.length c) ∧ W.cell? ⟨w.heap.size, 5, none⟩ = some (.slice At o.tags.length ct) := fun W h => box6 (blkB h HBL.out)
  have FIN := hide fin
  clear fin
  go_enter Tryz.func105, Tryz.ntmps105
  by_cases h1 : o.kind = 1
  · have hon : gridB o.x o.y = ab := by rw [← hab]; unfold atB; rw [if_pos h1]
    rw [hon] at HON
    have q1 : (o.kind != 1) = false := by simp [h1]
    clear hab hon h1
    go_wp2_with fail
    refine HON.out.mono ?_
    rintro _ w2 ⟨rfl, b2⟩
    have HB2 := hide b2
    obtain ⟨e0, e1, e2, e3, e4, e5⟩ := FIN.out w2 b2
    clear hwo d0 d1 d2 d3 d4 d5 d3' b2
    go_wp2_with fail
    refine (HNA.out _).mono ?_
    rintro _ w3 ⟨rfl, rfl⟩
    cases nb with
    | false =>
      go_wp2_with fail
      go_ret
      exact ⟨ret_bool (by simp), bto HBO.out HB2.out⟩
    | true =>
      go_wp2_with fail
      refine (HWD.out _).mono ?_
      rintro _ w4 ⟨rfl, b4⟩
      have HB4 := hide (bto HB2.out b4)
      clear e0 e1 e2 e3 e4 e5 b4
      obtain ⟨e0, e1, e2, e3, e4, e5⟩ := FIN.out w4 HB4.out
      cases kb with
      | false =>
        replace hwq := hwq rfl
        go_wp2_with fail
        go_ret
        exact ⟨ret_bool (by simp), bto HBO.out HB4.out⟩
      | true =>
        replace hwp := hwp rfl
        cases ab with
        | false =>
          go_wp2_with fail
          go_ret
          exact ⟨ret_bool (by simp), bto HBO.out HB4.out⟩
        | true =>
          have HX := hide (HTG.out w4 (bto HBO.out HB4.out))
          go_wp2_with fail
          refine HX.out.mono ?_
          rintro _ w5 ⟨rfl, b5⟩
          have HB5 := hide (bto HB4.out b5)
          clear e0 e1 e2 e3 e4 e5 b5
          obtain ⟨e0, e1, e2, e3, e4, e5⟩ := FIN.out w5 HB5.out
          cases tb with
          | false =>
            go_wp2_with fail
            go_ret
            exact ⟨ret_bool (by simp), bto HBO.out HB5.out⟩
          | true =>
            have HY := hide (HRF.out w5 (bto HBO.out HB5.out))
            go_wp2_with fail
            refine HY.out.mono ?_
            rintro _ w6 ⟨rfl, b6⟩
            have HB6 := hide (bto HB5.out b6)
            clear e0 e1 e2 e3 e4 e5 b6
            go_wp2_with fail
            go_ret
            exact ⟨ret_bool (by simp), bto HBO.out HB6.out⟩
  · have hon : ptEq o.x o.y 0 0 = ab := by
      rw [← hab]
      unfold atB ptEq
      rw [if_neg h1, Bool.eq_iff_iff]
      simp
    have q1 : (o.kind != 1) = true := by simp [h1]
    clear hab h1
    go_wp2_with fail
    refine HON.out.mono ?_
    rintro _ w2 ⟨rfl, b2⟩
    have HB2 := hide b2
    obtain ⟨e0, e1, e2, e3, e4, e5⟩ := FIN.out w2 b2
    have e3' : w2.cell? ⟨w.heap.size, 2 + 1, none⟩ = some (.int .i64 o.y) := e3
    clear hwo d0 d1 d2 d3 d4 d5 d3' b2
    go_wp2_with fail
    clear e3'
    refine (HNA.out _).mono ?_
    rintro _ w3 ⟨rfl, rfl⟩
    cases nb with
    | false =>
      go_wp2_with fail
      go_ret
      exact ⟨ret_bool (by simp), bto HBO.out HB2.out⟩
    | true =>
      go_wp2_with fail
      refine (HWD.out _).mono ?_
      rintro _ w4 ⟨rfl, b4⟩
      have HB4 := hide (bto HB2.out b4)
      clear e0 e1 e2 e3 e4 e5 b4
      obtain ⟨e0, e1, e2, e3, e4, e5⟩ := FIN.out w4 HB4.out
      cases kb with
      | false =>
        replace hwq := hwq rfl
        go_wp2_with fail
        go_ret
        exact ⟨ret_bool (by simp), bto HBO.out HB4.out⟩
      | true =>
        replace hwp := hwp rfl
        cases ab with
        | false =>
          go_wp2_with fail
          go_ret
          exact ⟨ret_bool (by simp), bto HBO.out HB4.out⟩
        | true =>
          have HX := hide (HTG.out w4 (bto HBO.out HB4.out))
          go_wp2_with fail
          refine HX.out.mono ?_
          rintro _ w5 ⟨rfl, b5⟩
          have HB5 := hide (bto HB4.out b5)
          clear e0 e1 e2 e3 e4 e5 b5
          obtain ⟨e0, e1, e2, e3, e4, e5⟩ := FIN.out w5 HB5.out
          cases tb with
          | false =>
            go_wp2_with fail
            go_ret
            exact ⟨ret_bool (by simp), bto HBO.out HB5.out⟩
          | true =>
            have HY := hide (HRF.out w5 (bto HBO.out HB5.out))
            go_wp2_with fail
            refine HY.out.mono ?_
            rintro _ w6 ⟨rfl, b6⟩
            have HB6 := hide (bto HB5.out b6)
            clear e0 e1 e2 e3 e4 e5 b6
            go_wp2_with fail
            go_ret
            exact ⟨ret_bool (by simp), bto HBO.out HB6.out⟩
def lastI (l : List Ob) (k : Nat) : BA := lastR (l.map Ob.id) k
theorem lastI_next {l : List Ob} {k : Nat} {t : Ob} (h : l[k]? = some t) : lastI l (k + 1) = t.id := lastR_next (by rw [List.getElem?_map, h]; rfl)
theorem obB_name {o : Ob} (h : obB o = true) : name o.id.data.toList = true := by
  rw [obB_ref] at h
  simp only [Bool.and_eq_true] at h
  exact h.1
theorem mapL_next (l : List Ob) (k : Nat) (t : Ob) (r : List Ob) : mapL (lastI l k) (t :: r) = (obB t && ((decide (k = 0) || Go.Op.bytesLess (lastI l k).toList t.id.toList) && mapL t.id r)) := by
  rw [mapL]
  cases ho : obB t with
  | false => rfl
  | true =>
    obtain ⟨n1, n2⟩ := name_first (obB_name ho)
    by_cases hk : k = 0
    · subst hk
      have e : lastI l 0 = ⟨#[]⟩ := rfl
      rw [e, n1, n2]
      simp
    · rw [decide_eq_false hk, Bool.false_or, Bool.true_and, Bool.true_and, less_or]
set_option maxRecDepth 100000 in
set_option maxHeartbeats 16000000 in
theorem rvalid12_any (l : List Ob) (v : Value) (w : World) (hv : MapI w v l) :
    Calls Tryz.prog 46 #[.agg #[v]] w fun e w' => e = .returned (.bool (mapB l)) ∧ Below w.heap.size w w' := by
  obtain ⟨R, hR⟩ : ∃ R, mapB l = R := ⟨_, rfl⟩
  rw [hR]
  have hlen := hv.len
  have HR : Hid (mapL (lastI l 0) (l.drop 0) = R) := by
    unfold mapB at hR
    rw [decide_eq_true (show l.length ≤ 1000000 by omega), Bool.and_true] at hR
    exact hide hR
  have HOK := hide hv.ok
  obtain ⟨A, c, rfl, _, hA⟩ := id hv.obs
  have HA := hide hA
  obtain ⟨wo, hwo⟩ : ∃ wo, w.alloc (.cells #[.slice A l.length c] 24) = wo := ⟨_, rfl⟩
  have HBO : Hid (Below w.heap.size w wo) := by rw [← hwo]; exact (Below.refl _ _).alloc (Nat.le_refl _) _
  have hbl : wo.heap[w.heap.size]? = some (.cells #[.slice A l.length c] 24 (0, 0)) := by rw [← hwo]; exact heap_alloc_new _ _
  have HBL := hide hbl
  have dm := (blk1 hbl).1
  clear hA hv hR hbl
  go_enter Tryz.func46, Tryz.ntmps46
  go_wp2_with fail
  clear hwo dm
  go_loopw [3] (fun i wr => ∃ (k : Nat), k ≤ l.length ∧ i = .int .i64 k ∧ Hid (Below wo.heap.size wo wr) ∧ Hid (mapL (lastI l k) (l.drop k) = R)) (fun i _ => l.length - (intOf i).toNat)
  case atStart => exact ⟨0, Nat.zero_le _, rfl, Below.refl _ _, HR⟩
  case round =>
    obtain ⟨k, hk, rfl, hb, hr⟩ := hrel
    have e0 := (blk1 (blkB hb.out HBL.out)).1
    by_cases hlt : k < l.length
    · obtain ⟨g, o, rfl, hg, hp⟩ := HA.out.resolve_left (by intro e; rw [e] at hlt; simp at hlt)
      have hkt := List.getElem?_eq_getElem hlt
      obtain ⟨rv, tv, hoa⟩ := hp k _ hkt
      have hok := HOK.out _ (List.getElem_mem hlt)
      have hr2 := hr.out
      rw [drop_ob l k hlt, mapL_next] at hr2
      generalize l[k] = t at *
      have HV := hide (fun u : Gls wo => rvalid11_any t rv tv u.w (hoa.refs.below (bto HBO.out u.2)) (hoa.tags.below (bto HBO.out u.2)) hok)
      obtain ⟨Ar, cr, hrv, _⟩ := id hoa.refs
      obtain ⟨At, ct, htv, _⟩ := id hoa.tags
      subst hrv
      subst htv
      have HOA := hide hoa
      have bq : ∀ u : Gls wo, ObAt u.w g (o + k * 6) t (.slice Ar t.refs.length cr) (.slice At t.tags.length ct) := fun u => HOA.out.below hg (bto HBO.out u.2)
      have X0 := fun u : Gls wo => (bq u).c0
      have X1 := fun u : Gls wo => (bq u).c1
      have X2 := fun u : Gls wo => (bq u).c2
      have X3 := fun u : Gls wo => (bq u).c3
      have X4 := fun u : Gls wo => (bq u).c4
      have X5 := fun u : Gls wo => (bq u).c5
      have E0 : ∀ u : Gls wo, u.w.cell? ⟨w.heap.size, 0, none⟩ = some (.slice (some ⟨g, o, none⟩) l.length c) := fun u => (blk1 (blkB u.2 HBL.out)).1
      have P0 : ¬ k = 0 → ∀ u : Gls wo, u.w.cell? ⟨g, o + (k - 1) * 6, none⟩ = some (.string (lastI l k)) := fun h u => by
        have h2 := lastR_at (l := l.map Ob.id) h (by rw [List.length_map]; exact hk)
        rw [List.getElem?_map, Option.map_eq_some_iff] at h2
        obtain ⟨p, hp1, hp2⟩ := h2
        obtain ⟨_, _, ha⟩ := hp (k - 1) p hp1
        unfold lastI
        rw [← hp2]
        exact (ha.below hg (bto HBO.out u.2)).c0
      unfold obV at HV
      have YN : Nonempty (Gls wo) := ⟨⟨_, hb.out⟩⟩
      have hbd := bto hb.out (below_drew wr)
      have k0 : (0 : Int) ≤ k := by omega
      have k1 : (k : Int) < l.length := by omega
      have HL := hide hlt
      have HM := hide (show l.length - (k + 1) < l.length - k from by omega)
      have s0 : IntKind.i64.wrap ((k : Int) - 1) = (k : Int) - 1 := IntWalk.i64_in _ (by omega)
      have s1 : ((k : Int) - 1).toNat = k - 1 := by omega
      have s3 : (k : Int) - 1 < l.length := by omega
      have HNX := hide (lastI_next hkt)
      obtain ⟨ob, hob⟩ := bool_of (b := obB t)
      obtain ⟨ls, hls⟩ := bool_of (b := Go.Op.bytesLess (lastI l k).toList t.id.toList)
      rw [hob, hls] at hr2
      rw [hob] at HV
      have HR2 := hide hr2
      clear hr hr2 hp hlt hkt hoa hok bq hob
      cases ob with
      | false =>
        have HZ := hide (show R = false from by rw [← HR2.out]; rfl)
        clear hls P0
        go_wp2_with fail
        refine wp_region_quietW (J := Gls wo) Gls.w ⟨_, hbd⟩ rfl (by kernel_rfl) (by kernel_rfl) ?_
        repeat (go_big_quiet_step (((with_reducible refine (HV.out _).mono ?_); rintro _ w8 ⟨rfl, b8⟩; exact ⟨rfl, Gls.go _ b8⟩)))
        refine wpQuiet_nil ?_
        rintro w9 ⟨u, rfl⟩
        have HB2 := hide (bto HBO.out u.2)
        go_wp2_with fail
        go_ret
        exact ⟨ret_bool HZ.out.symm, HB2.out⟩
      | true =>
        by_cases hk0 : k = 0
        · have z0 : decide (0 < k) = false := decide_eq_false (by omega)
          have HZ : Hid (mapL (lastI l (k + 1)) (l.drop (k + 1)) = R) := by
            rw [HNX.out, ← HR2.out, decide_eq_true hk0]
            exact hide (by simp)
          clear P0 hls hk0
          go_wp2_with fail
          refine wp_region_quietW (J := Gls wo) Gls.w ⟨_, hbd⟩ rfl (by kernel_rfl) (by kernel_rfl) ?_
          repeat (go_big_quiet_step (((with_reducible refine (HV.out _).mono ?_); rintro _ w8 ⟨rfl, b8⟩; exact ⟨rfl, Gls.go _ b8⟩)))
          refine wpQuiet_nil ?_
          rintro w9 ⟨u, rfl⟩
          have HB2 := hide (show Below wo.heap.size wo u.w from u.2)
          go_wp2_with fail
          refine ⟨⟨k + 1, HL.out, by go_num, HB2, HZ⟩, ?_⟩
          have := HM.out
          simp [intOf]; omega
        · have z0 : decide (0 < k) = true := decide_eq_true (by omega)
          have s2 : (0 : Int) ≤ (k : Int) - 1 := by omega
          have P1 := P0 hk0
          have HZ0 : Hid ((ls && mapL (lastI l (k + 1)) (l.drop (k + 1))) = R) := by
            rw [HNX.out, ← HR2.out, decide_eq_false hk0]
            exact hide (by simp)
          generalize lastI l k = pr at *
          clear P0 hk0
          cases ls with
          | true =>
            have HZ : Hid (mapL (lastI l (k + 1)) (l.drop (k + 1)) = R) := hide (by have := HZ0.out; simpa using this)
            go_wp2_with fail
            refine wp_region_quietW (J := Gls wo) Gls.w ⟨_, hbd⟩ rfl (by kernel_rfl) (by kernel_rfl) ?_
            repeat (go_big_quiet_step (((with_reducible refine (HV.out _).mono ?_); rintro _ w8 ⟨rfl, b8⟩; exact ⟨rfl, Gls.go _ b8⟩)))
            refine wpQuiet_nil ?_
            rintro w9 ⟨u, rfl⟩
            have HB2 := hide (show Below wo.heap.size wo u.w from u.2)
            go_wp2_with fail
            refine ⟨⟨k + 1, HL.out, by go_num, HB2, HZ⟩, ?_⟩
            have := HM.out
            simp [intOf]; omega
          | false =>
            have HZ := hide (show R = false from by rw [← HZ0.out]; rfl)
            go_wp2_with fail
            refine wp_region_quietW (J := Gls wo) Gls.w ⟨_, hbd⟩ rfl (by kernel_rfl) (by kernel_rfl) ?_
            repeat (go_big_quiet_step (((with_reducible refine (HV.out _).mono ?_); rintro _ w8 ⟨rfl, b8⟩; exact ⟨rfl, Gls.go _ b8⟩)))
            refine wpQuiet_nil ?_
            rintro w9 ⟨u, rfl⟩
            have HB2 := hide (bto HBO.out u.2)
            go_wp2_with fail
            go_ret
            exact ⟨ret_bool HZ.out.symm, HB2.out⟩
    · have hz : R = true := by rw [← hr.out, List.drop_eq_nil_of_le (by omega)]; rfl
      have HZ := hide hz
      have HB := hide (bto HBO.out hb.out)
      clear hz hr hb
      go_wp2_with fail
      go_ret
      exact ⟨ret_bool HZ.out.symm, HB.out⟩
end Go.Proofs.YtfkgjbdeicggaaaGreat
